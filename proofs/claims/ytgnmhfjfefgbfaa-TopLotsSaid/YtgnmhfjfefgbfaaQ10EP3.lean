/- Functions' values and contracts, as the print wrote them. -/
import Derived.Test.YtgnmhfjfefgbfaaQ10EP0
import Derived.Test.YtgnmhfjfefgbfaaQ10EP2
namespace Go.Proofs.Ytgnmhfjfefgbfaa.Pr
open Bool renaming true → T
open Bool renaming false → E
open Go.RowKit Go.Proofs.YtgnmhfjfefgbfaaW.PrintWords Go.Proofs.YtgnmhfjfefgbfaaW.PrintLast Go.Proofs.YtgnmhfjfefgbfaaW.PrintMore
attribute [local go_sem] QaO QaQ QaU QaV QaK QaL QaP QaR   -- for this text's walks alone
set_option linter.unusedVariables false
set_option linter.unusedSimpArgs false
set_option maxRecDepth 100000
def encS (s : S69) : Value := .agg #[.string s.f0, .int .i64 s.f1, .int .i64 s.f2, .int .i64 s.f3]
def encP (p : S71) : Value := .agg #[.string p.f0.f0, .int .i64 p.f0.f1, .int .i64 p.f0.f2, .int .i64 p.f0.f3, .int .i64 p.f1, .int .i64 p.f2]
def inI (x : Int) : Prop := -9223372036854775808 ≤ x ∧ x ≤ 9223372036854775807
instance (x : Int) : Decidable (inI x) := inferInstanceAs (Decidable (_ ∧ _))
theorem inI.wf {x : Int} (h : inI x) : (Lit.int .i64 x).wf = T := WalkArith.wf_i64 ⟨h.1, h.2⟩
def okS (s : S69) : Prop := s.f0.size ≤ maxLen ∧ inI s.f1 ∧ inI s.f2 ∧ inI s.f3
instance (s : S69) : Decidable (okS s) := inferInstanceAs (Decidable (_ ∧ _))
def klS (s : S69) : Lit := .string (keyBytes [.string s.f0.data.toList, .int .i64 s.f1, .int .i64 s.f2, .int .i64 s.f3])
theorem keyedS : Maps.Keyed Try.prog 69 := Maps.Keyed.of_law (Go.deep_law (m := 2) (by omega) (by kernel_rfl) (by kernel_rfl) (by kernel_rfl))
theorem Qef {P : Program} {k ts ti : TypeId} {fs : Array Field} (hu : P.underlying k = some (.struct fs)) (kt : P.keyType k = T) (c1 : P.cellsOf k = 4) (c2 : P.cellsOf ts = 1) (c3 : P.cellsOf ti = 1) (us : P.underlying ts = some .string) (ui : P.underlying ti = some (.int .i64))
  (hf : fs.toList.map (fun f => (f.type, f.offset)) = [(ts, 0), (ti, 1), (ti, 2), (ti, 3)]) (hn : fs.all (·.name != "_") = T) (hp : 0 < P.types.size) (s : ByteArray) (a b c : Int) (h0 : s.size ≤ maxLen) (h1 : (Lit.int .i64 a).wf = T) (h2 : (Lit.int .i64 b).wf = T) (h3 : (Lit.int .i64 c).wf = T) :
  keyOf P k (.agg #[.string s, .int .i64 a, .int .i64 b, .int .i64 c]) = some (.string (keyBytes [.string s.data.toList, .int .i64 a, .int .i64 b, .int .i64 c])) := by
 obtain ⟨d, hd⟩ : ∃ d, P.types.size = d + 1 := ⟨P.types.size - 1, by omega⟩
 obtain ⟨l⟩ := fs
 have hl : ∃ f0 f1 f2 f3, l = [f0, f1, f2, f3] := by
  have : l.length = 4 := by have := congrArg List.length hf; simpa using this
  match l, this with
  | [f0, f1, f2, f3], _ => exact ⟨f0, f1, f2, f3, rfl⟩
 obtain ⟨f0, f1, f2, f3, rfl⟩ := hl
 simp only [List.map_cons, List.map_nil, List.cons.injEq, Prod.mk.injEq, and_true] at hf
 obtain ⟨⟨e0, o0⟩, ⟨e1, o1⟩, ⟨e2, o2⟩, e3, o3⟩ := hf
 have kl1 : P.keyLits (d + 1) ts [.string s] = some [.string s.data.toList] := by simp [Program.keyLits, us, h0]
 have kl2 : ∀ x : Int, (Lit.int .i64 x).wf = T → P.keyLits (d + 1) ti [.int .i64 x] = some [.int .i64 x] := by intro x hx; simp [Program.keyLits, ui, hx]
 have key : P.keyLits (d + 1 + 1) k [.string s, .int .i64 a, .int .i64 b, .int .i64 c] = some [.string s.data.toList, .int .i64 a, .int .i64 b, .int .i64 c] := by
  unfold Program.keyLits
  simp only [hu]
  rw [if_pos ⟨by rw [c1]; rfl, hn⟩]
  simp [List.mapM_cons, e0, o0, e1, o1, e2, o2, e3, o3, c2, c3, kl1, kl2 a h1, kl2 b h2, kl2 c h3]
 unfold keyOf
 simp only [hu]
 rw [if_pos (by simp [kt, Value.formed, hu, c1]), hd]
 simp only [Value.cells]
 rw [key]
 rfl
theorem keyOfS (s : S69) (h : okS s) : keyOf Try.prog 69 (encS s) = some (klS s) :=
 Qef Try.underlying69 (by kernel_rfl) (by kernel_rfl) (by kernel_rfl) (by kernel_rfl) Try.underlying9 Try.underlying3 rfl (by kernel_rfl) (of_decide_eq_true (by kernel_rfl)) s.f0 s.f1 s.f2 s.f3 h.1 h.2.1.wf h.2.2.1.wf h.2.2.2.wf
theorem QcP {P : Program} {k ts ti : TypeId} {fs : Array Field} (hu : P.underlying k = some (.struct fs)) (c1 : P.cellsOf k = 4) (c2 : P.cellsOf ts = 1) (c3 : P.cellsOf ti = 1) (us : P.underlying ts = some .string) (ui : P.underlying ti = some (.int .i64))
  (hf : fs.toList.map (fun f => (f.type, f.offset)) = [(ts, 0), (ti, 1), (ti, 2), (ti, 3)]) {v : Value} {kl : Lit} (h : keyOf P k v = some kl) :
  ∃ (s : ByteArray) (a b c : Int), v = .agg #[.string s, .int .i64 a, .int .i64 b, .int .i64 c] ∧ s.size ≤ maxLen ∧ (Lit.int .i64 a).wf = T ∧ (Lit.int .i64 b).wf = T ∧ (Lit.int .i64 c).wf = T := by
 obtain ⟨l⟩ := fs
 have hl : ∃ f0 f1 f2 f3, l = [f0, f1, f2, f3] := by
  have : l.length = 4 := by have := congrArg List.length hf; simpa using this
  match l, this with
  | [f0, f1, f2, f3], _ => exact ⟨f0, f1, f2, f3, rfl⟩
 obtain ⟨f0, f1, f2, f3, rfl⟩ := hl
 simp only [List.map_cons, List.map_nil, List.cons.injEq, Prod.mk.injEq, and_true] at hf
 obtain ⟨⟨e0, o0⟩, ⟨e1, o1⟩, ⟨e2, o2⟩, e3, o3⟩ := hf
 unfold keyOf at h
 simp only [hu] at h
 split at h
 ·rename_i hc
  rw [Bool.and_eq_true] at hc
  have hfm := hc.2
  obtain ⟨ls, hk, _⟩ := Option.map_eq_some_iff.1 h
  unfold Program.keyLits at hk
  simp only [hu] at hk
  split at hk
  ·rename_i hlen
   obtain ⟨ls2, hk, _⟩ := Option.map_eq_some_iff.1 hk
   have hv : ∃ cs : Array Value, v = .agg cs := by
    cases v <;> first | exact ⟨_, rfl⟩ | (simp [Value.formed, hu] at hfm)
   obtain ⟨⟨cs⟩, rfl⟩ := hv
   have h4 : cs.length = 4 := by have := hlen.1; rw [c1] at this; simpa [Value.cells] using this
   match cs, h4 with
   | [x0, x1, x2, x3], _ =>
    simp [Value.cells, List.mapM_cons, e0, o0, e1, o1, e2, o2, e3, o3, c2, c3, Option.bind_eq_some_iff] at hk
    obtain ⟨l0, k0, l1, ⟨m1, k1, l2, ⟨m2, k2, l3, ⟨m3, k3, _⟩, _⟩, _⟩, _⟩ := hk
    have i0 : ∃ s : ByteArray, x0 = .string s ∧ s.size ≤ maxLen := by
     revert k0
     cases hd : P.types.size with
     | zero => simp [Program.keyLits]
     | succ d =>
      intro k0
      unfold Program.keyLits at k0
      simp only [us] at k0
      cases x0 <;> simp at k0
      exact ⟨_, rfl, k0.1⟩
    have ii : ∀ (x : Value) (l : List Lit), P.keyLits P.types.size ti [x] = some l → ∃ a : Int, x = .int .i64 a ∧ (Lit.int .i64 a).wf = T := by
     intro x l
     cases hd : P.types.size with
     | zero => simp [Program.keyLits]
     | succ d =>
      intro k0
      unfold Program.keyLits at k0
      simp only [ui] at k0
      cases x <;> simp at k0
      obtain ⟨⟨rfl, hw⟩, _⟩ := k0
      exact ⟨_, rfl, hw⟩
    obtain ⟨s, rfl, hs⟩ := i0
    obtain ⟨a, rfl, ha⟩ := ii _ _ k1
    obtain ⟨b, rfl, hb⟩ := ii _ _ k2
    obtain ⟨c, rfl, hc'⟩ := ii _ _ k3
    exact ⟨s, a, b, c, rfl, hs, ha, hb, hc'⟩
  cases hk
 cases h
theorem inI.of_wf {x : Int} (h : (Lit.int .i64 x).wf = T) : inI x := by
 simp [Lit.wf, IntKind.min, IntKind.max, IntKind.signed, IntKind.bits] at h
 unfold inI
 omega
theorem QbE {v : Value} {kl : Lit} (h : keyOf Try.prog 69 v = some kl) : ∃ s : S69, okS s ∧ v = encS s ∧ kl = klS s := by
 obtain ⟨s, a, b, c, hv, h0, h1, h2, h3⟩ := QcP Try.underlying69 (by kernel_rfl) (by kernel_rfl) (by kernel_rfl) Try.underlying9 Try.underlying3 rfl h
 have ok : okS ⟨s, a, b, c⟩ := ⟨h0, inI.of_wf h1, inI.of_wf h2, inI.of_wf h3⟩
 have hv' : v = encS ⟨s, a, b, c⟩ := hv
 rw [hv', keyOfS _ ok] at h
 exact ⟨_, ok, hv', (Option.some.inj h).symm⟩
theorem Qcv {a b : S69} (h : encS a = encS b) : a = b := by
 obtain ⟨a0, a1, a2, a3⟩ := a
 obtain ⟨b0, b1, b2, b3⟩ := b
 simp [encS] at h
 obtain ⟨rfl, rfl, rfl, rfl⟩ := h
 rfl
theorem QbW {a b : S69} (ha : okS a) (hb : okS b) (h : klS a = klS b) : a = b :=
 Qcv (keyedS.inj (keyOfS a ha) (h ▸ keyOfS b hb))
theorem Qdk {a b : S71} (h : encP a = encP b) : a = b := by
 obtain ⟨⟨a0, a1, a2, a3⟩, a4, a5⟩ := a
 obtain ⟨⟨b0, b1, b2, b3⟩, b4, b5⟩ := b
 simp [encP] at h
 obtain ⟨rfl, rfl, rfl, rfl, rfl, rfl⟩ := h
 rfl
def valP : Value → Option (DataW S71 × List MemPlace)
 | .agg ⟨[.string s, .int .i64 a, .int .i64 b, .int .i64 c, .int .i64 d, .int .i64 e]⟩ => some (.held ⟨⟨s, a, b, c⟩, d, e⟩, [])
 | _ => none
theorem QdD (p : S71) : valP (encP p) = some (.held p, []) := rfl
theorem QbJ {v : Value} {y : DataW S71 × List MemPlace} (h : valP v = some y) : ∃ p, v = encP p ∧ y = (.held p, []) := by
 unfold valP at h
 split at h
 ·exact ⟨_, rfl, (Option.some.inj h).symm⟩
 cases h
def MD (D : DataW S71) (m : List (S69 × S71)) : Prop :=
 (m.map (·.1)).Nodup ∧ (∀ x ∈ m, okS x.1) ∧ (∀ s, okS s → (Maps.has D (klS s) = T ↔ s ∈ m.map (·.1))) ∧ (∀ x ∈ m, ∀ zd, D.atKey (klS x.1) zd = .held x.2) ∧ Maps.size D = m.length
def MapP (w : World) (B n : Nat) (m : List (S69 × S71)) : Prop := ∃ D : DataW S71, w.ownsMap Try.prog 69 valP B n D ∧ MD D m
instance : DecidableEq S69 := fun a b => decidable_of_iff (a.f0.data = b.f0.data ∧ a.f1 = b.f1 ∧ a.f2 = b.f2 ∧ a.f3 = b.f3) ⟨fun ⟨h0, h1, h2, h3⟩ => by
 obtain ⟨a0, a1, a2, a3⟩ := a
 obtain ⟨b0, b1, b2, b3⟩ := b
 dsimp only at h0 h1 h2 h3
 rw [ByteArray.ext h0, h1, h2, h3], fun h => by subst h; exact ⟨rfl, rfl, rfl, rfl⟩⟩
def getP (m : List (S69 × S71)) (s : S69) : S71 := match m.find? (fun x => decide (x.1 = s)) with | some x => x.2 | none => ⟨⟨⟨#[]⟩, 0, 0, 0⟩, 0, 0⟩
def putP (m : List (S69 × S71)) (s : S69) (p : S71) : List (S69 × S71) := if s ∈ m.map (·.1) then m.map (fun x => if x.1 = s then (s, p) else x) else m ++ [(s, p)]
theorem MD.nil : MD (.map []) [] := ⟨List.nodup_nil, by simp, fun s _ => by simp [Maps.has], by simp, rfl⟩
theorem MapP.made (w : World) : MapP (w.alloc (.map #[] 0)) w.heap.size 0 [] := ⟨.map [], World.ownsMap_made _ _ _ _, MD.nil⟩
theorem MapP.blk {w : World} {B n : Nat} {m : List (S69 × S71)} (h : MapP w B n m) : ∃ es c, w.heap[B]? = some (.map es c) := by
 obtain ⟨D, ⟨es, c, hb, _⟩, _⟩ := h
 exact ⟨es, c, hb⟩
theorem MapP.lt {w : World} {B n : Nat} {m : List (S69 × S71)} (h : MapP w B n m) : B < w.heap.size := by
 obtain ⟨es, c, hb⟩ := h.blk
 exact blk_lt hb
theorem MapP.move {w w' : World} {B n : Nat} {m : List (S69 × S71)} (h : MapP w B n m) (hm : B < w.heap.size → w'.heap[B]? = w.heap[B]?) : MapP w' B n m := by
 obtain ⟨D, ⟨es, c, hb, r⟩, hf⟩ := h
 exact ⟨D, ⟨es, c, (hm (blk_lt hb)).trans hb, r⟩, hf⟩
theorem MapP.below {w w' : World} {B n : Nat} {m : List (S69 × S71)} (h : MapP w B n m) (hb : Below w.heap.size w w') : MapP w' B n m := h.move (fun hl => hb.block B hl)
theorem MapP.grown {w w' : World} {B n : Nat} {m : List (S69 × S71)} (h : MapP w B n m) {row : Option Nat} (hg : w.grownBy w' row) (hne : some B ≠ row) : MapP w' B n m := h.move (fun hl => hg.block B hl hne)
theorem MapP.set {w : World} {B n : Nat} {m : List (S69 × S71)} (h : MapP w B n m) {p : Addr} (hp : B ≠ p.block) (u : Value) : MapP (w.setCell p u) B n m := h.move (fun _ => Below.heap_setCell w p u B hp)
theorem MapP.drewN {w : World} {B n : Nat} {m : List (S69 × S71)} (h : MapP w B n m) (k : Nat) : MapP (w.drewN k) B n m := h.move (fun _ => rfl)
theorem MapP.drew {w : World} {B n : Nat} {m : List (S69 × S71)} (h : MapP w B n m) : MapP w.drew B n m := h.move (fun _ => rfl)
theorem MapP.alloc {w : World} {B n : Nat} {m : List (S69 × S71)} (h : MapP w B n m) (o : Obj) : MapP (w.alloc o) B n m := h.below (Qac (Below.refl _ _) o)
theorem QbX (s : S69) : WideAt.IsKeyLit (klS s) := trivial
theorem MD.get {D : DataW S71} {m : List (S69 × S71)} (h : MD D m) (s : S69) (hs : okS s) : D.atKey (klS s) (.held ⟨⟨⟨#[]⟩, 0, 0, 0⟩, 0, 0⟩) = .held (getP m s) := by
 obtain ⟨h1, h2, h3, h4, h5⟩ := h
 unfold getP
 cases hf : m.find? (fun x => decide (x.1 = s)) with
 | some x =>
  have hx := List.mem_of_find?_eq_some hf
  have he := List.find?_some hf
  simp at he
  rw [← he]
  exact h4 x hx _
 | none =>
  rw [List.find?_eq_none] at hf
  refine Maps.atKey_of_not_has ?_ _
  rw [← Bool.not_eq_true, h3 s hs]
  intro hm
  obtain ⟨x, hx, e⟩ := List.mem_map.1 hm
  exact hf x hx (by simp [e])
theorem MD.put {D : DataW S71} {m : List (S69 × S71)} (h : MD D m) (hT : Maps.Tidy D) (s : S69) (hs : okS s) (p : S71) : MD (D.put (klS s) (.held p)) (putP m s p) := by
 have hI := hT.isMap
 obtain ⟨h1, h2, h3, h4, h5⟩ := h
 have hz : Maps.size (D.put (klS s) (.held p)) = if Maps.has D (klS s) then Maps.size D else Maps.size D + 1 := Maps.size_put hT _
 unfold putP
 by_cases c : s ∈ m.map (·.1)
 ·rw [if_pos c]
  have hk : (m.map (fun x => if x.1 = s then (s, p) else x)).map (·.1) = m.map (·.1) := by
   rw [List.map_map]
   apply List.map_congr_left
   intro x _
   simp only [Function.comp]
   split
   ·rename_i e; exact e.symm
   rfl
  refine ⟨by rw [hk]; exact h1, ?_, ?_, ?_, ?_⟩
  ·intro x hx
   obtain ⟨y, hy, rfl⟩ := List.mem_map.1 hx
   split
   ·exact hs
   exact h2 y hy
  ·intro t ht
   rw [hk]
   by_cases e : t = s
   ·subst e; exact ⟨fun _ => c, fun _ => Maps.has_put_same hI (QbX _) _⟩
   rw [Maps.has_put_other (fun q => e (QbW ht hs q))]; exact h3 t ht
  ·intro x hx zd
   obtain ⟨y, hy, rfl⟩ := List.mem_map.1 hx
   split
   ·exact Maps.atKey_put_same hI (QbX _) _ _
   rename_i e
   rw [Maps.atKey_put_other (fun q => e (QbW (h2 y hy) hs q))]
   exact h4 y hy zd
  rw [hz, if_pos ((h3 s hs).2 c), List.length_map, h5]
 rw [if_neg c]
 refine ⟨?_, ?_, ?_, ?_, ?_⟩
 ·rw [List.map_append, List.nodup_append]
  exact ⟨h1, by simp, fun a ha b hb => by simp at hb; subst hb; exact fun e => c (e ▸ ha)⟩
 ·intro x hx
  rcases List.mem_append.1 hx with hx | hx
  ·exact h2 x hx
  simp at hx; subst hx; exact hs
 ·intro t ht
  by_cases e : t = s
  ·subst e; exact ⟨fun _ => by simp, fun _ => Maps.has_put_same hI (QbX _) _⟩
  rw [Maps.has_put_other (fun q => e (QbW ht hs q)), h3 t ht]; simp [e]
 ·intro x hx zd
  rcases List.mem_append.1 hx with hx | hx
  ·have e : x.1 ≠ s := fun q => c (q ▸ List.mem_map_of_mem hx)
   rw [Maps.atKey_put_other (fun q => e (QbW (h2 x hx) hs q))]
   exact h4 x hx zd
  simp at hx; subst hx; exact Maps.atKey_put_same hI (QbX _) _ _
 rw [hz, if_neg (fun q => c ((h3 s hs).1 q)), List.length_append, h5]; rfl
section
variable {ops : Array Oper} {rest : List Oper} {o : Oper} {a : Act} {Q : Exit → Act → World → Prop} {W : World}
theorem QdH (hgd : o.guard = none) (t : TypeId) {N : Tmp} (_hd : o.dst = some N) (hop : o.op = .makeMap t none)
  (h : ∀ B, B = W.heap.size → ∀ w1, MapP w1 B 0 [] → Below W.heap.size W w1 → wpList Try.prog ops Q rest (a.put o.dst (.map (some B))) w1) : wpList Try.prog ops Q (o :: rest) a W :=
 Kd.event_run hgd (by unfold execOp; simp only [hop, Sem.run_bind, run_makeMap, Result.andThen_ok]; rfl) (h _ rfl _ (MapP.made W) (Qac (Below.refl _ _) _))
theorem QdN {B n : Nat} {m : List (S69 × S71)} (h : MapP W B n m) (hgd : o.guard = none) (mo x : Operand) (t : TypeId) (hop : o.op = .lookup t mo x E) (ht : Try.prog.underlying t = some (.map 69 71))
  (hm : a.eval mo = .map (some B)) (s : S69) (hs : okS s) (hx : a.eval x = encS s)
  (hK : wpList Try.prog ops Q rest (a.put o.dst (encP (getP m s))) W) : wpList Try.prog ops Q (o :: rest) a W := by
 obtain ⟨D, ho, hf⟩ := h
 refine wpList_plain hgd fun K hK' => ?_
 obtain ⟨v, ps, hrun, hv⟩ := ho.lookup keyedS ht (Try.zeroValue71 W) (QdD ⟨⟨⟨#[]⟩, 0, 0, 0⟩, 0, 0⟩) (keyOfS s hs)
 rw [hf.get s hs] at hv
 obtain ⟨p, rfl, e⟩ := QbJ hv
 have e' : getP m s = p := by injection e with e _; injection e
 unfold Oper.wp execOp
 simp only [hop, hm, hx, Sem.run_bind, hrun, Result.andThen_ok]
 rw [e'] at hK
 exact hK' _ _ hK
theorem QdO {B n : Nat} {m : List (S69 × S71)} (h : MapP W B n m) (hgd : o.guard = none) (mo x y : Operand) (t : TypeId) (hop : o.op = .mapUpdate t mo x y) (ht : Try.prog.underlying t = some (.map 69 71))
  (hm : a.eval mo = .map (some B)) (hn : n < maxLen) (s : S69) (p : S71) (hs : okS s) (hx : a.eval x = encS s) (hv : a.eval y = encP p)
  (hK : ∀ w', MapP w' B (n + 1) (putP m s p) → W.grownBy w' (some B) → wpList Try.prog ops Q rest (a.put o.dst undef) w') : wpList Try.prog ops Q (o :: rest) a W := by
 obtain ⟨D, ho, hf⟩ := h
 exact wpList_mapUpdate_own _ hgd mo x y t hop 69 71 keyedS ht valP B n D hm ho hn _ _ _ hx hv (keyOfS s hs) _ [] (QdD p) (fun w' h1 hg => hK w' ⟨_, h1, hf.put (ho.tidy keyedS) s hs p⟩ hg)
theorem Qcp {B n : Nat} {m : List (S69 × S71)} (h : MapP W B n m) (hgd : o.guard = none) (mo : Operand) (t : TypeId) (hop : o.op = Op.call { callee := Callee.builtin Builtin.len, args := #[mo], argTypes := #[t] }) (ht : Try.prog.underlying t = some (.map 69 71))
  (hm : a.eval mo = .map (some B)) (hK : wpList Try.prog ops Q rest (a.put o.dst (.int .i64 (m.length : Int))) W) : wpList Try.prog ops Q (o :: rest) a W := by
 obtain ⟨D, ho, hf⟩ := h
 refine wpList_len_own W hgd mo t hop 69 71 ht valP B n D hm ho ?_
 rw [hf.2.2.2.2]
 exact hK
end
def CollP (D : DataW S71) (left : Lit → Bool) (ps : List (S69 × S71)) : Prop :=
 (ps.map (·.1)).Nodup ∧ (∀ x ∈ ps, okS x.1 ∧ ∀ zd, D.atKey (klS x.1) zd = .held x.2) ∧ ∀ s, okS s → (s ∈ ps.map (·.1) ↔ Maps.has D (klS s) = T ∧ left (klS s) = E)
theorem CollP.start (D : DataW S71) : CollP D (Maps.has D) [] := ⟨List.nodup_nil, by simp, fun s _ => by cases Maps.has D (klS s) <;> simp⟩
theorem CollP.step {D : DataW S71} {left : Lit → Bool} {ps : List (S69 × S71)} (h : CollP D left ps) {s : S69} (hs : okS s) {p : S71} (hlk : left (klS s) = T) (hat : ∀ zd, D.atKey (klS s) zd = .held p) :
  CollP D (fun z => left z && !z.sameKey (klS s)) (ps ++ [(s, p)]) := by
 obtain ⟨h1, h2, h3⟩ := h
 have hhas : Maps.has D (klS s) = T := Maps.has_true_of_atKey hat
 have hnew : s ∉ ps.map (·.1) := fun hx => by have := ((h3 s hs).1 hx).2; rw [hlk] at this; cases this
 refine ⟨?_, ?_, ?_⟩
 ·rw [List.map_append, List.nodup_append]
  exact ⟨h1, by simp, fun a ha b hb => by simp at hb; subst hb; exact fun e => hnew (e ▸ ha)⟩
 ·intro x hx
  rcases List.mem_append.1 hx with hx | hx
  ·exact h2 x hx
  simp at hx; subst hx; exact ⟨hs, hat⟩
 intro t ht
 rw [List.map_append, List.mem_append]
 by_cases e : t = s
 ·subst e
  simp [hhas, WideAt.sameKey_self (QbX t)]
 have hk : klS t ≠ klS s := fun q => e (QbW ht hs q)
 rw [h3 t ht]
 simp [Maps.sameKey_ne hk, e]
theorem CollP.perm {D : DataW S71} {left : Lit → Bool} {ps m : List (S69 × S71)} (h : CollP D left ps) (hm : MD D m) (hl : ∀ kl, left kl = E) : ps.Perm m := by
 obtain ⟨h1, h2, h3⟩ := h
 obtain ⟨m1, m2, m3, m4, _⟩ := hm
 have nd : ∀ l : List (S69 × S71), (l.map (·.1)).Nodup → l.Nodup := fun l hl => by
  rw [List.Nodup, List.pairwise_map] at hl
  exact hl.imp (fun {a b} hab e => hab (by rw [e]))
 rw [List.perm_ext_iff_of_nodup (nd ps h1) (nd m m1)]
 have key : ∀ l1 l2 : List (S69 × S71), (∀ x ∈ l1, okS x.1 ∧ ∀ zd, D.atKey (klS x.1) zd = .held x.2) → (∀ x ∈ l2, ∀ zd, D.atKey (klS x.1) zd = .held x.2) → (∀ s, okS s → s ∈ l1.map (·.1) → s ∈ l2.map (·.1)) → ∀ x ∈ l1, x ∈ l2 := by
  intro l1 l2 a1 a2 hs x hx
  obtain ⟨ox, ax⟩ := a1 x hx
  obtain ⟨y, hy, e⟩ := List.mem_map.1 (hs x.1 ox (List.mem_map_of_mem hx))
  have ay := a2 y hy (.held x.2)
  rw [e, ax] at ay
  injection ay with ay
  have : x = y := Prod.ext e.symm ay
  rw [this]; exact hy
 intro x
 exact ⟨key ps m h2 m4 (fun s os hs => (m3 s os).1 ((h3 s os).1 hs).1) x, key m ps (fun x hx => ⟨m2 x hx, m4 x hx⟩) (fun x hx => (h2 x hx).2) (fun s os hs => (h3 s os).2 ⟨(m3 s os).2 hs, hl _⟩) x⟩
set_option maxHeartbeats 4000000 in
theorem Qem (F : Fence) (n : Nat) (hf : F.fn 206) (hro : F.round = none) (hn : 1 ≤ n) (l Bm b nn : Nat) (D0 : DataW S71) (J Jx : List S71 → World → Prop)
  (hY : ∀ pre x W, J pre W → pre.length < Maps.size D0 → YieldAt F (n - 1) Try.prog l #[encP x] W fun e W' => (e = .returned (.bool T) ∧ J (pre ++ [x]) W' ∧ KeepsWalks W W') ∨ (e = .returned (.bool E) ∧ Jx (pre ++ [x]) W'))
  (W : World) (hJ : AbidesFrom W.heap.size J) (hm : W.cell? ⟨Bm, 0, none⟩ = some (.map (some b))) (hown : W.ownsMap Try.prog 69 valP b nn D0) (m : List (S69 × S71)) (hD : MD D0 m) (h0 : J [] W) :
  CallsIn F n Try.prog 206 #[.func (.yield l) #[] #[], .pointer (some ⟨Bm, 0, none⟩)] W fun e W' => (∃ v, e = .returned v) ∧ ((∃ xs, (∃ ps : List (S69 × S71), ps.Perm m ∧ xs = ps.map (·.2)) ∧ J xs W') ∨ (∃ pre, True ∧ Jx pre W')) := by
 refine callsIn_of_wp Try.func206 rfl hf ?_ hro
 simp only [Try.ntmps206, List.size_toArray, List.length_cons, List.length_nil, Nat.reduceAdd, Nat.reduceSub, Array.replicate_succ, Array.replicate_zero, List.push_toArray, List.append_toArray, List.nil_append, List.cons_append]
 gi_wp2_with (first
  | (gi_at_range; refine wpListIn_range_own _ rfl _ 191 rfl 69 71 keyedS Try.underlying191 _ b nn _ rfl hown ?_; intro w0 hrg0 hg0 hs0)
  | gi_in)
 go_frame
 gi_loopw [4] (fun _ wr => ∃ (left : Lit → Bool) (cnt : Nat) (ps : List (S69 × S71)), wr.ranges Try.prog 69 valP b W.heap.size nn D0 left cnt ∧ ps.length + cnt ≤ Maps.size D0 ∧ CollP D0 left ps ∧ J (ps.map (·.2)) wr)
  (fun _ wr => wr.rangeLeft b W.heap.size)
 case atStart =>
  exact ⟨_, _, [], hrg0, by simp, CollP.start D0, hJ [] W w0 none h0 hg0 (fun r e => by cases e)⟩
 case round =>
  obtain ⟨left, cnt, ps, hrg, hcs, hC, hJs⟩ := hrel
  gi_wp2_with (first
   | (gi_at_next; refine wpListIn_next_ranges _ rfl _ rfl 69 keyedS valP encS encP (fun key kl hk => by obtain ⟨x, _, hx, _⟩ := QbE hk; exact ⟨x, hx⟩) (fun v y hv => by obtain ⟨c, hc, _⟩ := QbJ hv; exact ⟨c, hc⟩) b W.heap.size nn _ _ _ rfl hrg ?_ ?_)
   | gi_in)
  ·intro hc0 hl0
   gi_wp2
   go_end0
   exact ⟨⟨_, rfl⟩, .inl ⟨_, ⟨ps, hC.perm hD hl0, rfl⟩, hJs⟩⟩
  intro x c kl yd yp w2 cnt2 hkey hlk hv hat hrg2 hlt hg2 hs2 hen
  obtain ⟨x', ox, ex, rfl⟩ := QbE hkey
  obtain rfl := Qcv ex
  obtain ⟨c', ec, ez⟩ := QbJ hv
  obtain rfl := Qdk ec
  obtain rfl : yd = .held c := (Prod.mk.inj ez).1
  have hJ2 : J (ps.map (·.2)) w2 := hJ _ wr w2 (some W.heap.size) hJs hg2 (fun r e => by cases e; exact ⟨Nat.le_refl _, hrg.iter_walk⟩)
  clear hs2
  have hC2 : CollP D0 (fun z => left z && !z.sameKey (klS x)) (ps ++ [(x, c)]) := hC.step ox hlk hat
  obtain ⟨⟨c0, c1, c2, c3⟩, c4, c5⟩ := c
  have hJ3 : J (ps.map (·.2)) (w2.alloc (.cells #[.string c0, .int .i64 c1, .int .i64 c2, .int .i64 c3, .int .i64 c4, .int .i64 c5] 71)) := hJ _ w2 _ none hJ2 (World.grownBy_alloc w2 _ none) (fun r e => by cases e)
  have hrg3 := hrg2.alloc (.cells #[.string c0, .int .i64 c1, .int .i64 c2, .int .i64 c3, .int .i64 c4, .int .i64 c5] 71)
  obtain ⟨fn, tmps, assign, body, hy, hR⟩ := hY (ps.map (·.2)) ⟨⟨c0, c1, c2, c3⟩, c4, c5⟩ _ hJ3 (by simp; omega)
  simp only [encP, encS] at hen hy ⊢
  clear hJ2 hJ3 hJs
  gi_wp2
  refine hR.mono ?_
  rintro e W3 (⟨rfl, hJ4, hk3⟩ | ⟨rfl, hJx3⟩)
  ·gi_wp2
   have hrg4 := hrg3.of_walks hk3
   go_roundw
   case rel => exact ⟨_, cnt2, ps ++ [(x, ⟨⟨c0, c1, c2, c3⟩, c4, c5⟩)], hrg4, by simp; omega, hC2, by simpa using hJ4⟩
   case measure => rw [hrg4.left_eq, hrg.left_eq]; exact hlt
  gi_wp2
  refine bodyPost_ret (results_none rfl _ _ _) rfl ?_
  exact ⟨⟨_, rfl⟩, .inr ⟨_, trivial, hJx3⟩⟩
theorem QeI (F : Fence) (n : Nat) (hf : F.fn 155) (hro : F.round = none) (mb : Option Nat) (w : World) :
  CallsIn F n Try.prog 155 #[.map mb] w fun e w' => e = .returned (.func (.func 206) #[] #[.pointer (some ⟨w.heap.size, 0, none⟩)]) ∧ w' = w.alloc (.cells #[.map mb] 191) := by
 refine callsIn_of_wp Try.func155 rfl hf ?_ hro
 simp only [Try.ntmps155, List.size_toArray, List.length_cons, List.length_nil, Nat.reduceAdd, Nat.reduceSub, Array.replicate_succ, Array.replicate_zero, List.push_toArray, List.append_toArray, List.nil_append, List.cons_append]
 gi_wp2
 go_ret
 exact ⟨rfl, rfl⟩
theorem QdE (F : Fence) (n : Nat) (hf : F.fn 206) (hro : F.round = none) (hn : 1 ≤ n) (Bm b nn : Nat) (D0 : DataW S71) (w : World) (hBm : Bm < w.heap.size)
  (hm : w.cell? ⟨Bm, 0, none⟩ = some (.map (some b))) (hown : w.ownsMap Try.prog 69 valP b nn D0) (m : List (S69 × S71)) (hD : MD D0 m) :
  SeqStopsK F n Try.prog 206 #[.pointer (some ⟨Bm, 0, none⟩)] (fun p => #[encP p]) KeepsWalks (fun xs => ∃ ps : List (S69 × S71), ps.Perm m ∧ xs = ps.map (·.2)) (fun _ => True) (Maps.size D0) w := fun l J Jx W hW hJ _ hY h0 => by
 have hown' : W.ownsMap Try.prog 69 valP b nn D0 := by
  have hbl := hown.lt
  obtain ⟨es, clock, hb, Ft, hs, hD⟩ := hown
  exact ⟨es, clock, (hW.block b hbl).trans hb, Ft, hs, hD⟩
 exact Qem F n hf hro hn l Bm b nn D0 J Jx hY W hJ ((hW.cell (p := ⟨Bm, 0, none⟩) hBm).trans hm) hown' m hD h0
attribute [local go_sem] Oper.semAt_some
def cellsP (p : S71) : List Value := [.string p.f0.f0, .int .i64 p.f0.f1, .int .i64 p.f0.f2, .int .i64 p.f0.f3, .int .i64 p.f1, .int .i64 p.f2]
def rowP (l : List S71) : List Value := (l.map cellsP).flatten
theorem QeD (l : List S71) (p : S71) : rowP (l ++ [p]) = rowP l ++ cellsP p := by simp [rowP]
theorem Qdj {W W' : World} {g t : Nat} {cs : Array Value} {row : Option Nat} (h : W.heap[g]? = some (.cells cs t (0, 0))) (hg : W.grownBy W' row) (hr : ∀ r, row = some r → ∃ o : Obj, W.heap[r]? = some o ∧ o.isCells = E) : W'.heap[g]? = some (.cells cs t (0, 0)) := by
 refine (hg.block g (blk_lt h) (fun e => ?_)).trans h
 obtain ⟨o, ho, hc⟩ := hr g e.symm
 rw [h] at ho; cases ho; cases hc
theorem QcZ (w : World) (cs : List Value) (t : TypeId) : ∀ j u, cs[j]? = some u → (w.alloc (.cells cs.toArray t)).cell? ((⟨w.heap.size, 0, none⟩ : Addr).add j) = some u := by
 intro j u hu
 rw [Addr.add_lit, Qae (heap_alloc_new w _)]
 simpa using hu
set_option maxHeartbeats 4000000 in
theorem Qdh (F : Fence) (n : Nat) (hf : F.fn 242) (hro : F.round = none) (hn : 1 ≤ n) (gf : Nat) (lb : Array Value) (hg : F.fn gf) (eg : ∀ args w, (callFunc gf args).run Try.prog w = .ok (.enter gf args) w)
  (S Sp : List S71 → Prop) (N : Nat) (hN : N ≤ 1000000) (w0 w : World) (hb0 : Below w0.heap.size w0 w) (hseq : SeqStopsK F (n - 1) Try.prog gf lb (fun p => #[encP p]) KeepsWalks S Sp N w0) :
  CallsIn F n Try.prog 242 #[.slice none 0 0, .func (.func gf) #[] lb] w fun e W' => ∃ v xs, e = .returned v ∧ S xs ∧ W'.ownsRow w.heap.size 71 6 v xs.length (rowP xs) ∧ Below w.heap.size w W' := by
 obtain ⟨i0, hi, hz0, hz1, hz2⟩ := info_parts info71
 refine callsIn_of_wp_marks Try.func242 rfl hf ?_ hro
 simp only [Try.ntmps242, List.size_toArray, List.length_cons, List.length_nil, Nat.reduceAdd, Nat.reduceSub, Array.replicate_succ, Array.replicate_zero, List.push_toArray, List.append_toArray, List.nil_append, List.cons_append]
 gi_wp2
 have bS := Boxed.new w 22 (.slice none 0 0)
 have hB1 : Below w.heap.size w (w.alloc (.cells #[.slice none 0 0] 22)) := (Below.refl _ w).alloc (Nat.le_refl _) _
 obtain ⟨W0, hW0⟩ : ∃ W0, w.alloc (.cells #[.slice none 0 0] 22) = W0 := ⟨_, rfl⟩
 have hsz : W0.heap.size = w.heap.size + 1 := by rw [← hW0]; simp
 rw [hW0] at bS hB1 ⊢
 refine wpIn_rangeFunc_ownH hro hn (gf := gf) (lb := lb) rfl hg eg hseq walksK_t walksK_b (hb0.trans (by rw [← hW0]; exact ((Below.refl w0.heap.size w).alloc hb0.size _))) (fun _ => rfl)
  (fun pre W => (∃ v, Boxed W w.heap.size 22 v ∧ W.ownsRow w.heap.size 71 6 v pre.length (rowP pre) ∧ True) ∧ Below w.heap.size w W)
  (fun _ _ _ => False)
  (OwnFrom.and (Own.from (holdsRow_own w.heap.size w.heap.size 22 71 6 (fun pre => pre.length) rowP (fun _ _ => True)) _) (ownFrom_below (Nat.le_refl _) (by omega)))
  (fun _ _ _ _ _ hs _ _ => hs)
  ⟨⟨_, bS, World.ownsRow_nil _ _ _ _, trivial⟩, hB1⟩
  (fun x a' W => ∃ Bx, w.heap.size < Bx ∧ W.heap[Bx]? = some (.cells (cellsP x).toArray 71 (0, 0)) ∧ a' = { tmps := #[.slice none 0 0, .func (.func gf) #[] lb, .pointer (some ⟨w.heap.size, 0, none⟩), undef, .slice none 0 0, .pointer (some ⟨Bx, 0, none⟩), .func (.func gf) #[] lb, encP x, undef, undef, undef, undef, undef], defers := [] })
  (fun x a' s A B row hs hgr hr => by
   obtain ⟨Bx, h1, h2, h3⟩ := hs
   exact ⟨Bx, h1, Qdj h2 hgr (fun r e => (hr r e).2), h3⟩) ?assign ?body ?done ?stop
 case assign =>
  rintro l pre ⟨⟨c0, c1, c2, c3⟩, c4, c5⟩ W K ⟨⟨v, hv, hrow, _⟩, hB⟩ hK
  simp only [encP] at hK ⊢
  gi_wp2
  refine hK _ _ ((KeepsOthers.alloc _ _).from _) (KeepsOthers.alloc _ _).walks ⟨⟨v, hv.alloc _, hrow.alloc _, trivial⟩, hB.alloc (by have := hB.size; omega) _⟩ ⟨W.heap.size, hv.lt, heap_alloc_new W _, rfl⟩
 case body =>
  rintro l pre ⟨⟨c0, c1, c2, c3⟩, c4, c5⟩ a' W hl ⟨r, hr⟩ ⟨⟨v, hv, hrow, _⟩, hB⟩ ⟨Bx, hBx, bX, rfl⟩ hlt
  have hc := hv.cell
  have hx0 : W.cell? ⟨Bx, 0, none⟩ = some (.string c0) := (Qae bX 0).trans rfl
  have hx1 : W.cell? ⟨Bx, 1, none⟩ = some (.int .i64 c1) := (Qae bX 1).trans rfl
  have hx2 : W.cell? ⟨Bx, 2, none⟩ = some (.int .i64 c2) := (Qae bX 2).trans rfl
  have hx3 : W.cell? ⟨Bx, 3, none⟩ = some (.int .i64 c3) := (Qae bX 3).trans rfl
  have hx4 : W.cell? ⟨Bx, 4, none⟩ = some (.int .i64 c4) := (Qae bX 4).trans rfl
  have hx5 : W.cell? ⟨Bx, 5, none⟩ = some (.int .i64 c5) := (Qae bX 5).trans rfl
  simp only [encP]
  gi_wp2_with (gi_at_builtin; refine wpListIn_append_own _ rfl _ _ 22 rfl w.heap.size 71 i0 (.agg #[(.string ⟨#[]⟩), (.int .i64 0), (.int .i64 0), (.int .i64 0), (.int .i64 0), (.int .i64 0)]) 6 56 Try.underlying22 hi hz0 hz1 hz2 rfl (by decide) _ _ _ rfl (hrow.alloc _) ⟨W.heap.size, 0, none⟩ 1 1 (cellsP ⟨⟨c0, c1, c2, c3⟩, c4, c5⟩) rfl rfl (QcZ _ _ _) (by intro u hu; simp [cellsP] at hu; rcases hu with rfl | rfl | rfl | rfl | rfl | rfl <;> rfl) (by simp only [maxLen]; omega) (by omega) (by have := hB.size; simp; omega) ?_; intro v' w1 hown' hgrow _; obtain ⟨g', cap', rfl⟩ := ownsRow_succ hown'; obtain ⟨hv1, hv2, hr2, hk2, hb2⟩ := hv.appended (by decide) hrow hB.size (Nat.le_refl _) hown' hgrow; have hc1 := hv1.cell; have hf1 := hv1.frozen)
  exact ⟨hk2.from _, hk2.walks, ⟨_, hv2, by rw [QeD]; simpa using hr2, trivial⟩, hB.trans hb2⟩
 case done =>
  rintro D ys W hD hS ⟨⟨v, hv, hrow, _⟩, hB⟩ hK
  have hc := hv.cell
  gi_wp2
  refine ⟨by simp, .inl ⟨_, _, rfl, run_takeDeferred hK, ?_⟩⟩
  exact ⟨_, results_tmp rfl _ _ _, v, ys, rfl, hS, ownsRow_putObj hrow _ hK rfl, hB.trans (belowK_b (w := w) (Nat.le_refl _) W D _ _ (by omega) hK rfl rfl)⟩
 case stop =>
  rintro D c pre W _ _ h _
  exact h.elim
theorem QdT : ∀ l : List UInt8, Op.bytesLess l l = E
 | [] => rfl
 | a :: t => by simp [Op.bytesLess, QdT t]
theorem Qct : ∀ a b c : List UInt8, Op.bytesLess a b = T → Op.bytesLess b c = T → Op.bytesLess a c = T
 | [], b, c, h1, h2 => by
  cases b with
  | nil => simp [Op.bytesLess] at h1
  | cons x t => cases c with
   | nil => simp [Op.bytesLess] at h2
   | cons y u => rfl
 | a :: s, [], c, h1, h2 => by simp [Op.bytesLess] at h1
 | a :: s, b :: t, [], h1, h2 => by simp [Op.bytesLess] at h2
 | a :: s, b :: t, c :: u, h1, h2 => by
  have ih := Qct s t u
  simp only [Op.bytesLess, Bool.or_eq_true, decide_eq_true_eq, Bool.and_eq_true, beq_iff_eq] at *
  rcases h1 with h1 | ⟨rfl, h1⟩
  ·rcases h2 with h2 | ⟨rfl, h2⟩
   ·exact Or.inl (UInt8.lt_trans h1 h2)
   exact Or.inl h1
  rcases h2 with h2 | ⟨rfl, h2⟩
  ·exact Or.inl h2
  exact Or.inr ⟨rfl, ih h1 h2⟩
theorem bz_tri : ∀ a b : List UInt8, Op.bytesLess a b = E → a ≠ b → Op.bytesLess b a = T
 | [], [], _, n => absurd rfl n
 | [], b :: t, h, _ => by simp [Op.bytesLess] at h
 | a :: s, [], _, _ => rfl
 | a :: s, b :: t, h, n => by
  have ih := bz_tri s t
  simp only [Op.bytesLess, Bool.or_eq_true, decide_eq_true_eq, Bool.and_eq_true, beq_iff_eq, Bool.or_eq_false_iff, decide_eq_false_iff_not, Bool.and_eq_false_iff, beq_eq_false_iff_ne] at *
  by_cases e : a = b
  ·subst e
   refine Or.inr ⟨rfl, ih ?_ (fun q => n (by rw [q]))⟩
   rcases h.2 with h | h
   ·exact absurd rfl h
   exact h
  left
  have h1 := h.1
  rcases Nat.lt_trichotomy a.toNat b.toNat with q | q | q
  ·exact absurd (UInt8.lt_iff_toNat_lt.2 q) h1
  ·exact absurd (UInt8.toNat_inj.1 q) e
  exact UInt8.lt_iff_toNat_lt.2 q
theorem bz_inj {a b : ByteArray} (h : a.toList = b.toList) : a = b := by
 rw [Go.ByteArray.toList_eq, Go.ByteArray.toList_eq] at h
 exact ByteArray.ext (Array.toList_inj.1 h)
def cmpQ (a b : S69) : Int := (QaM.f a.f0 a.f1 a.f2 a.f3 b.f0 b.f1 b.f2 b.f3).getD 0
theorem QdU (a b : S69) : QaM.f a.f0 a.f1 a.f2 a.f3 b.f0 b.f1 b.f2 b.f3 = some (cmpQ a b) := by
 unfold cmpQ QaM.f
 (repeat' split) <;> rfl
theorem Qcd (a b : S69) : cmpQ a b < 0 ↔ (Op.bytesLess a.f0.toList b.f0.toList = T ∧ a.f0.toList ≠ b.f0.toList) ∨ (a.f0.toList = b.f0.toList ∧ (a.f2 < b.f2 ∨ (a.f2 = b.f2 ∧ (a.f1 < b.f1 ∨ (a.f1 = b.f1 ∧ a.f3 < b.f3))))) := by
 unfold cmpQ QaM.f
 by_cases h : a.f0.toList = b.f0.toList
 ·simp only [h, if_true, ne_eq, not_true_eq_false, and_false, false_or, true_and]
  (repeat' split) <;> simp <;> omega
 simp only [h, if_false, ne_eq, not_false_eq_true, and_true, false_and, or_false]
 split <;> simp [*]
theorem Qbt (a b c : S69) (h1 : cmpQ a b < 0) (h2 : cmpQ b c < 0) : cmpQ a c < 0 := by
 rw [Qcd] at *
 rcases h1 with ⟨h1, n1⟩ | ⟨e1, h1⟩
 ·rcases h2 with ⟨h2, n2⟩ | ⟨e2, h2⟩
  ·refine Or.inl ⟨Qct _ _ _ h1 h2, fun e => ?_⟩
   rw [← e] at h2
   have := Qct _ _ _ h1 h2
   rw [QdT] at this
   exact absurd this (by decide)
  rw [e2] at h1 n1
  exact Or.inl ⟨h1, n1⟩
 rcases h2 with ⟨h2, n2⟩ | ⟨e2, h2⟩
 ·rw [← e1] at h2 n2
  exact Or.inl ⟨h2, n2⟩
 refine Or.inr ⟨e1.trans e2, ?_⟩
 omega
theorem Qby (a : S69) : ¬ cmpQ a a < 0 := by
 rw [Qcd]
 simp
theorem Qcu (a b : S69) (h : ¬ cmpQ a b < 0) : cmpQ b a < 0 ∨ a = b := by
 rw [Qcd] at h
 rw [Qcd]
 by_cases e : a.f0.toList = b.f0.toList
 ·by_cases q : a.f2 = b.f2 ∧ a.f1 = b.f1 ∧ a.f3 = b.f3
  ·right
   obtain ⟨a0, a1, a2, a3⟩ := a
   obtain ⟨b0, b1, b2, b3⟩ := b
   obtain ⟨q1, q2, q3⟩ := q
   dsimp only at e q1 q2 q3
   rw [bz_inj e, q1, q2, q3]
  left
  refine Or.inr ⟨e.symm, ?_⟩
  have h2 : ¬ (a.f2 < b.f2 ∨ (a.f2 = b.f2 ∧ (a.f1 < b.f1 ∨ (a.f1 = b.f1 ∧ a.f3 < b.f3)))) := fun hh => h (Or.inr ⟨e, hh⟩)
  omega
 left
 refine Or.inl ⟨bz_tri _ _ ?_ e, fun q => e q.symm⟩
 cases hb : Op.bytesLess a.f0.toList b.f0.toList with
 | false => rfl
 | true => exact absurd (Or.inl ⟨hb, e⟩) h
def cmpR (x y : S71) : Int := cmpQ x.f0 y.f0
theorem QbL (x y : S71) : Go.Proofs.ltOf cmpR x y = decide (cmpQ x.f0 y.f0 < 0) := rfl
instance : Inhabited S71 := ⟨⟨⟨⟨#[]⟩, 0, 0, 0⟩, 0, 0⟩⟩
theorem Qfb : Go.Sort.SWO (Go.Proofs.ltOf cmpR) where
 irrefl x := by rw [QbL]; exact decide_eq_false (Qby _)
 trans x y z h1 h2 := by
  rw [QbL] at *
  exact decide_eq_true (Qbt _ _ _ (of_decide_eq_true h1) (of_decide_eq_true h2))
 ntrans x y z h1 h2 := by
  rw [QbL] at *
  refine decide_eq_false (fun h => ?_)
  have n1 := of_decide_eq_false h1
  have n2 := of_decide_eq_false h2
  rcases Qcu _ _ n1 with q | q
  ·exact n2 (Qbt _ _ _ q h)
  rw [q] at h; exact n2 h
def srtP (l : List S71) : List S71 := l.mergeSort (fun x y => !decide (cmpQ y.f0 x.f0 < 0))
theorem QbP (l : List S71) : (srtP l).Perm l := List.mergeSort_perm _ _
theorem Qco (l : List S71) : (srtP l).Pairwise (fun x y => ¬ cmpQ y.f0 x.f0 < 0) := by
 have := List.pairwise_mergeSort (le := fun x y : S71 => !decide (cmpQ y.f0 x.f0 < 0)) (by
  intro a b c h1 h2
  simp only [Bool.not_eq_true', decide_eq_false_iff_not] at *
  intro h
  rcases Qcu _ _ h1 with q | q
  ·exact h2 (Qbt _ _ _ h q)
  ·rw [← q] at h; exact h2 h) (by
  intro a b
  by_cases h : cmpQ b.f0 a.f0 < 0
  ·have : ¬ cmpQ a.f0 b.f0 < 0 := fun h2 => Qby _ (Qbt _ _ _ h h2)
   simp [this]
  simp [h]) l
 exact this.imp (by intro a b h; simpa using h)
theorem QbT {l l' : List S71} (hn : (l.map (·.f0)).Nodup) (hp : l'.Perm l) (hs : l'.Pairwise (fun x y => ¬ cmpQ y.f0 x.f0 < 0)) : l' = srtP l := by
 refine List.Perm.eq_of_pairwise (le := fun x y => ¬ cmpQ y.f0 x.f0 < 0) ?_ hs (Qco l) (hp.trans (QbP l).symm)
 intro a b ha hb h1 h2
 have e : a.f0 = b.f0 := by
  rcases Qcu _ _ h2 with q | q
  ·exact absurd q h1
  exact q
 have ha' := hp.mem_iff.1 ha
 have hb' := (QbP l).mem_iff.1 hb
 rw [List.Nodup, List.pairwise_map] at hn
 apply Classical.byContradiction
 intro hne
 obtain ⟨i, hi, rfl⟩ := List.mem_iff_getElem.1 ha'
 obtain ⟨j, hj, rfl⟩ := List.mem_iff_getElem.1 hb'
 rw [List.pairwise_iff_getElem] at hn
 rcases Nat.lt_trichotomy i j with q | q | q
 ·exact hn i j hi hj q e
 ·subst q; exact hne rfl
 exact hn j i hj hi q e.symm
def sortP.ren : Go.Shelf.Ren := ⟨fun x => if x = 6 then 205 else if x = 14 then 243 else if x = 15 then 195 else if x = 20 then 254 else if x = 21 then 255 else if x = 22 then 256 else if x = 23 then 257 else if x = 24 then 258 else if x = 25 then 259 else if x = 26 then 260 else if x = 27 then 261 else if x = 28 then 230 else if x = 29 then 231 else if x = 46 then 266 else if x = 47 then 247 else if x = 48 then 248 else if x = 49 then 267 else if x = 50 then 268 else if x = 57 then 271 else x, fun x => if x = 0 then 0 else if x = 3 then 3 else if x = 4 then 4 else if x = 5 then 5 else if x = 9 then 9 else if x = 22 then 22 else if x = 24 then 71 else if x = 25 then 256 else if x = 39 then 63 else if x = 45 then 312 else if x = 46 then 313 else if x = 50 then 130 else if x = 53 then 319 else if x = 55 then 283 else if x = 66 then 331 else if x = 70 then 147 else if x = 76 then 347 else if x = 77 then 171 else x, fun x => x⟩
theorem sortP.lay : SlLaysF0.n6 Try.prog sortP.ren where
 mixed := by kernel_rfl
 f6 := ⟨"slices.SortFunc[[]contango/api.Position,contango/api.Position]", by kernel_rfl, by kernel_rfl⟩
 f14 := ⟨"slices.pdqsortCmpFunc[contango/api.Position]", by kernel_rfl, by kernel_rfl⟩
 f15 := by kernel_rfl
 f20 := ⟨"slices.insertionSortCmpFunc[contango/api.Position]", by kernel_rfl, by kernel_rfl⟩
 f21 := ⟨"slices.heapSortCmpFunc[contango/api.Position]", by kernel_rfl, by kernel_rfl⟩
 f22 := ⟨"slices.breakPatternsCmpFunc[contango/api.Position]", by kernel_rfl, by kernel_rfl⟩
 f23 := ⟨"slices.choosePivotCmpFunc[contango/api.Position]", by kernel_rfl, by kernel_rfl⟩
 f24 := ⟨"slices.reverseRangeCmpFunc[contango/api.Position]", by kernel_rfl, by kernel_rfl⟩
 f25 := ⟨"slices.partialInsertionSortCmpFunc[contango/api.Position]", by kernel_rfl, by kernel_rfl⟩
 f26 := ⟨"slices.partitionEqualCmpFunc[contango/api.Position]", by kernel_rfl, by kernel_rfl⟩
 f27 := ⟨"slices.partitionCmpFunc[contango/api.Position]", by kernel_rfl, by kernel_rfl⟩
 f28 := by kernel_rfl
 f29 := by kernel_rfl
 f46 := ⟨"slices.siftDownCmpFunc[contango/api.Position]", by kernel_rfl, by kernel_rfl⟩
 f47 := by kernel_rfl
 f48 := by kernel_rfl
 f49 := ⟨"slices.medianAdjacentCmpFunc[contango/api.Position]", by kernel_rfl, by kernel_rfl⟩
 f50 := ⟨"slices.medianCmpFunc[contango/api.Position]", by kernel_rfl, by kernel_rfl⟩
 f57 := ⟨"slices.order2CmpFunc[contango/api.Position]", by kernel_rfl, by kernel_rfl⟩
 t0 := Try.underlying0
 a0 := Try.isAgg0
 z0 := Try.sizeOf0
 v0 := Try.zeroValue0
 t3 := Try.underlying3
 a3 := Try.isAgg3
 z3 := Try.sizeOf3
 v3 := Try.zeroValue3
 t4 := Try.underlying4
 a4 := Try.isAgg4
 z4 := Try.sizeOf4
 v4 := Try.zeroValue4
 t5 := Try.underlying5
 a5 := Try.isAgg5
 z5 := Try.sizeOf5
 v5 := Try.zeroValue5
 t9 := Try.underlying9
 a9 := Try.isAgg9
 z9 := Try.sizeOf9
 v9 := Try.zeroValue9
 t22 := Try.underlying22
 a22 := Try.isAgg22
 z22 := Try.sizeOf22
 v22 := Try.zeroValue22
 t25 := Try.underlying256
 a25 := Try.isAgg256
 z25 := Try.sizeOf256
 v25 := Try.zeroValue256
 t39 := Try.underlying63
 a39 := Try.isAgg63
 z39 := Try.sizeOf63
 v39 := Try.zeroValue63
 t45 := Try.underlying312
 a45 := Try.isAgg312
 z45 := Try.sizeOf312
 v45 := Try.zeroValue312
 t46 := Try.underlying313
 a46 := Try.isAgg313
 z46 := Try.sizeOf313
 v46 := Try.zeroValue313
 t50 := Try.underlying130
 a50 := Try.isAgg130
 z50 := Try.sizeOf130
 v50 := Try.zeroValue130
 t53 := Try.underlying319
 a53 := Try.isAgg319
 z53 := Try.sizeOf319
 v53 := Try.zeroValue319
 t55 := Try.underlying283
 a55 := Try.isAgg283
 z55 := Try.sizeOf283
 v55 := Try.zeroValue283
 t66 := Try.underlying331
 a66 := Try.isAgg331
 z66 := Try.sizeOf331
 v66 := Try.zeroValue331
 t70 := Try.underlying147
 a70 := Try.isAgg147
 z70 := Try.sizeOf147
 v70 := Try.zeroValue147
 t76 := Try.underlying347
 a76 := Try.isAgg347
 z76 := Try.sizeOf347
 v76 := Try.zeroValue347
 t77 := Try.underlying171
 a77 := Try.isAgg171
 z77 := Try.sizeOf171
 v77 := Try.zeroValue171
def Gr (w w' : World) : Prop := ∃ q os', w' = Go.Sort.grow (w.drewN q) os'
theorem Gr.refl (w : World) : Gr w w := ⟨0, #[], by simp [Go.Sort.grow, World.drewN]⟩
theorem Gr.alloc {w w' : World} (h : Gr w w') (o : Obj) : Gr w (w'.alloc o) := by
 obtain ⟨q, os, rfl⟩ := h
 refine ⟨q, os ++ #[o], ?_⟩
 show ({ w.drewN q with heap := ((w.drewN q).heap ++ os).push o } : World) = { w.drewN q with heap := (w.drewN q).heap ++ (os ++ #[o]) }
 rw [← Array.append_assoc, Array.append_singleton]
theorem Gr.drewN {w w' : World} (h : Gr w w') (n : Nat) : Gr w (w'.drewN n) := by
 obtain ⟨q, os, rfl⟩ := h
 refine ⟨q + n, os, ?_⟩
 simp [Go.Sort.grow, World.drewN, Nat.add_assoc]
theorem Gr.drew {w w' : World} (h : Gr w w') : Gr w w'.drew := h.drewN 1
theorem Gr.trans {a b c : World} (h : Gr a b) (k : Gr b c) : Gr a c := by
 obtain ⟨q, os, rfl⟩ := h
 obtain ⟨q2, os2, rfl⟩ := k
 refine ⟨q + q2, os ++ os2, ?_⟩
 simp [Go.Sort.grow, World.drewN, Nat.add_assoc, Array.append_assoc]
set_option maxHeartbeats 4000000 in
theorem QaM.gr (a b : S69) (w : World) :
  Calls Try.prog 49 #[.agg #[.string a.f0, .int .i64 a.f1, .int .i64 a.f2, .int .i64 a.f3], .agg #[.string b.f0, .int .i64 b.f1, .int .i64 b.f2, .int .i64 b.f3]] w fun e w' => e = .returned (.int .i64 (cmpQ a b)) ∧ Gr w w' := by
 have hu38 := Try.underlying69
 have HH := Aside0.mk (QdU a b)
 generalize cmpQ a b = r at HH ⊢
 obtain ⟨a0_0, a0_1, a0_2, a0_3⟩ := a
 obtain ⟨a1_0, a1_1, a1_2, a1_3⟩ := b
 dsimp only at HH ⊢
 go_enter Try.func49, Try.ntmps49
 go_wp2
 all_goals go_ret
 all_goals refine ⟨congrArg Ending.returned (congrArg (Value.int IntKind.i64) ?_), by repeat (first | exact Gr.refl _ | apply Gr.alloc | apply Gr.drewN | apply Gr.drew)⟩
 all_goals (go_light; have H := HH.out; clear HH; unfold QaM.f at H)
 all_goals ((repeat' split at H) <;> (first | exact (Option.some.inj H) | (exfalso; omega) | (exfalso; simp_all; done) | (exfalso; simp_all; omega)))
set_option maxHeartbeats 4000000 in
theorem Qeg.gr (a b : S71) (w : World) :
  Calls Try.prog 156 #[.agg (cellsP a).toArray, .agg (cellsP b).toArray] w fun e w' => e = .returned (.int .i64 (cmpR a b)) ∧ Gr w w' := by
 have hu38 := Try.underlying69
 have hu71 := Try.underlying71
 have hc : ∀ W, Calls Try.prog 49 #[.agg #[.string a.f0.f0, .int .i64 a.f0.f1, .int .i64 a.f0.f2, .int .i64 a.f0.f3], .agg #[.string b.f0.f0, .int .i64 b.f0.f1, .int .i64 b.f0.f2, .int .i64 b.f0.f3]] W fun e w' => e = .returned (.int .i64 (cmpR a b)) ∧ Gr W w' := fun W => QaM.gr a.f0 b.f0 W
 generalize cmpR a b = r at hc ⊢
 obtain ⟨⟨a0, a1, a2, a3⟩, a4, a5⟩ := a
 obtain ⟨⟨b0, b1, b2, b3⟩, b4, b5⟩ := b
 simp only [cellsP] at hc ⊢
 go_enter Try.func156, Try.ntmps156
 go_wp2_with (go_at_call 49; refine (hc _).mono ?_; rintro e w' ⟨rfl, hg⟩)
 go_ret
 exact ⟨rfl, (((Gr.refl w).alloc _).alloc _).trans hg⟩
theorem QeH {w : World} {g : Nat} {cur : Array Value} {t : TypeId} (h : w.heap[g]? = some (.cells cur t (0, 0))) (d : Array Value) (m : Nat) (os : Array Obj) :
  (Go.Sort.grow (Go.Sort.putRow id (Go.Sort.ahead w m) g 0 d) os).heap[g]? = some (.cells (Go.Sort.putCells id 0 d cur) t (0, 0)) := by
 have hl := blk_lt h
 show ((w.heap.modify g (Go.Sort.onCells (Go.Sort.putCells id 0 d))) ++ os)[g]? = _
 rw [Array.getElem?_append_left (by simpa using hl), Array.getElem?_modify, if_pos rfl, h]
 rfl
theorem QeG {w : World} {g : Nat} (d : Array Value) (m : Nat) (os : Array Obj) : w.grownBy (Go.Sort.grow (Go.Sort.putRow id (Go.Sort.ahead w m) g 0 d) os) (some g) := by
 refine ⟨rfl, rfl, rfl, ?_, fun k hk hne => ?_⟩
 ·show w.heap.size ≤ ((w.heap.modify g (Go.Sort.onCells (Go.Sort.putCells id 0 d))) ++ os).size
  simp
 show ((w.heap.modify g (Go.Sort.onCells (Go.Sort.putCells id 0 d))) ++ os)[k]? = _
 rw [Array.getElem?_append_left (by simpa using hk), Array.getElem?_modify, if_neg (fun e => hne (by rw [e]))]
theorem Qel (d : Array Value) (cur : Array Value) (h : d.size ≤ cur.size) : (Go.Sort.putCells id 0 d cur).toList.take d.size = d.toList := by
 apply List.ext_getElem
 ·simp [Go.Sort.putCells]; omega
 intro i h1 h2
 have hi : i < d.size := by simp at h1; omega
 simp only [Go.Sort.putCells, List.getElem_take, Array.getElem_toList, Array.getElem_mapIdx, id]
 rw [if_pos ⟨Nat.zero_le _, by omega⟩, Nat.sub_zero, getElem!_pos d i hi]
theorem Qcz (l : List S71) : (rowP l).length = l.length * 6 := by
 induction l with
 | nil => rfl
 | cons p l ih => simp only [rowP, List.map_cons, List.flatten_cons, List.length_append, List.length_cons] at *; rw [ih]; simp [cellsP]; omega
theorem Qdz : ∀ (l : List S71) (t : Nat), t < l.length * 6 → (rowP l)[t]! = (cellsP l[t / 6]!)[t % 6]!
 | [], t, h => by simp at h
 | p :: l, t, h => by
  have e : rowP (p :: l) = cellsP p ++ rowP l := by simp [rowP]
  have hl : (cellsP p).length = 6 := rfl
  rw [e]
  by_cases c : t < 6
  ·rw [show t / 6 = 0 by omega, show t % 6 = t by omega, List.getElem!_eq_getElem?_getD, List.getElem?_append_left (by omega), ← List.getElem!_eq_getElem?_getD]
   rfl
  have ih := Qdz l (t - 6) (by simp at h; omega)
  rw [List.getElem!_eq_getElem?_getD, List.getElem?_append_right (by omega), hl, ← List.getElem!_eq_getElem?_getD, ih, show (t - 6) % 6 = t % 6 by omega]
  obtain ⟨q, hq⟩ : ∃ q, t / 6 = q + 1 := ⟨t / 6 - 1, by omega⟩
  rw [hq, show (t - 6) / 6 = q by omega]
  simp
theorem flatP (d : Array S71) : (Go.Sort.flatK cellsP 6 d).toList = rowP d.toList := by
 apply List.ext_getElem
 ·simp [Qcz]
 intro i h1 h2
 have hi : i < d.size * 6 := by simpa using h1
 have e1 := Go.Sort.get_flatK cellsP 6 d i hi
 rw [getElem!_pos _ i (by simpa using hi)] at e1
 rw [Array.getElem_toList, e1]
 have e2 := Qdz d.toList i (by simpa using hi)
 rw [getElem!_pos _ i h2] at e2
 rw [e2]
 congr 2
 rw [getElem!_pos d (i / 6) (by omega), getElem!_pos d.toList (i / 6) (by simp; omega), Array.getElem_toList]
set_option maxHeartbeats 2000000 in
theorem sortP.own {w : World} {base g cap : Nat} {xs : List S71} (HO : w.ownsRow base 71 6 (.slice (some ⟨g, 0, none⟩) xs.length cap) xs.length (rowP xs)) (hl : xs.length ≤ 1000000) (hn : (xs.map (·.f0)).Nodup) :
  Calls Try.prog 205 #[.slice (some ⟨g, 0, none⟩) xs.length cap, .func (.func 156) #[] #[]] w fun e w' => e = .returned (.tuple #[]) ∧ w'.ownsRow base 71 6 (.slice (some ⟨g, 0, none⟩) xs.length cap) xs.length (rowP (srtP xs)) ∧ w.grownBy w' (some g) := by
 have eg : ∀ args w, (callFunc 156 args).run Try.prog w = .ok (.enter 156 args) w := enters_of Try.func156 (by kernel_rfl) rfl
 have hcmp : Go.Proofs.CmpLays Try.prog 156 #[] cellsP 6 cmpR g 0 xs.toArray.size w := fun _ _ _ _ x y => Qeg.gr x y _
 obtain ⟨hlen, hcase⟩ := HO
 rcases hcase with ⟨e, _⟩ | ⟨g', cap', cur, e, hb, hh, hnc, hcm, hcs, htk⟩
 ·cases e
 injection e with e1 e2 e3
 injection e1 with e1
 injection e1 with e1
 subst e1; subst e3
 have hfs : (Go.Sort.flatK cellsP 6 xs.toArray).toList = rowP xs := flatP xs.toArray
 have hH : Go.Sort.HoldsK cellsP 6 w g 0 xs.toArray := by
  intro j hj
  refine ⟨?_, Qaj hh _⟩
  have hj' : j < xs.length * 6 := by simpa using hj
  have hx : (rowP xs)[j]? = some ((Go.Sort.flatK cellsP 6 xs.toArray)[j]!) := by
   rw [← hfs, Array.getElem?_toList, getElem!_pos _ j hj, Array.getElem?_eq_getElem hj]
  rw [Qae hh, Nat.zero_add, ← Array.getElem?_toList]
  rw [← htk, List.getElem?_take, if_pos hj'] at hx
  exact hx
 have h := Go.Proofs.AnyQ.slices_SortFunc sortP.lay 6 Try.isAgg71 Try.sizeOf71 cellsP (fun _ => rfl) (fun x v hv => by simp [cellsP] at hv; rcases hv with rfl | rfl | rfl | rfl | rfl | rfl <;> rfl) cmpR Qfb 156 #[] g 0 cap xs.toArray w eg hcmp hH (blk_lt hh) (by simp; omega)
 change Calls Try.prog 205 _ _ _ at h
 rw [List.size_toArray] at h
 refine h.mono ?_
 rintro e w' ⟨rfl, d', n, os, hp, hs, rfl⟩
 have hds : d'.size = xs.length := by rw [hp.1]; simp
 have hd : d'.toList = srtP xs := by
  refine QbT hn ?_ ?_
  ·have h3 := hp.2.2
   have e1 : d'.extract 0 xs.length = d' := by rw [← hds]; exact Array.extract_size
   have e2 : xs.toArray.extract 0 xs.length = xs.toArray := by rw [show xs.length = xs.toArray.size by simp]; exact Array.extract_size
   rw [e1, e2] at h3
   exact h3
  rw [List.pairwise_iff_getElem]
  intro i j hi hj hij
  have hi' : i < d'.size := by simpa using hi
  have hj' : j < d'.size := by simpa using hj
  have := hs i j (Nat.zero_le _) hij (by omega)
  rw [QbL, getElem!_pos d' i hi', getElem!_pos d' j hj'] at this
  simpa using this
 have hfl : (Go.Sort.flatK cellsP 6 d').size = xs.length * 6 := by rw [Go.Sort.size_flatK, hds]
 refine ⟨rfl, ⟨by rw [Qcz, ← hd, Array.length_toList, hds], .inr ⟨g, cap, _, rfl, hb, QeH hh (Go.Sort.flatK cellsP 6 d') n os, hnc, hcm, by rw [← hcs]; simp [Go.Sort.putCells], ?_⟩⟩, QeG _ n os⟩
 rw [← hfl, Qel _ _ (by rw [hfl, hcs]; exact Nat.mul_le_mul_right _ hnc), flatP, hd]
theorem Qc8 : ∀ (xs : List S71) (j : Nat) (p : S71), xs[j]? = some p → ((rowP xs).drop (j * 6)).take 6 = cellsP p
 | [], j, p, h => by simp at h
 | x :: xs, 0, p, h => by
  simp at h
  subst h
  have e : rowP (x :: xs) = cellsP x ++ rowP xs := by simp [rowP]
  rw [e, Nat.zero_mul, List.drop_zero]
  exact List.take_left' rfl
 | x :: xs, j + 1, p, h => by
  have ih := Qc8 xs j p (by simpa using h)
  have e : rowP (x :: xs) = cellsP x ++ rowP xs := by simp [rowP]
  have hl : (cellsP x).length = 6 := rfl
  rw [e, show (j + 1) * 6 = (cellsP x).length + j * 6 by rw [hl]; omega, List.drop_append, List.drop_eq_nil_of_le (by omega), List.nil_append, Nat.add_sub_cancel_left]
  exact ih
theorem rowP_R {w : World} {base : Nat} {v : Value} {xs : List S71} (h : w.ownsRow base 71 6 v xs.length (rowP xs)) (ok : Nat → Prop) (hok : ∀ k, v.ownBlock = some k → ok k) : Kd.R k71 71 w base ok v xs :=
 ⟨hok, rowP xs, h, Qcz xs, fun j p hj => by
  show Kd.M _ _ _ _ _ (((rowP xs).drop (j * 6)).take 6)
  rw [Qc8 xs j p hj]
  exact Qbx _ _ _ p⟩
set_option maxHeartbeats 4000000 in
theorem QeO.calls (gf : Nat) (lb : Array Value) (eg : ∀ args w, (callFunc gf args).run Try.prog w = .ok (.enter gf args) w)
  (S Sp : List S71 → Prop) (N : Nat) (hN : N ≤ 1000000) (w0 w : World) (hb0 : Below w0.heap.size w0 w) (hseq : SeqStopsK Fence.wide 4 Try.prog gf lb (fun p => #[encP p]) KeepsWalks S Sp N w0) :
  Calls Try.prog 204 #[.func (.func gf) #[] lb] w fun e W' => ∃ v xs, e = .returned v ∧ S xs ∧ W'.ownsRow w.heap.size 71 6 v xs.length (rowP xs) ∧ Below w.heap.size w W' := by
 have h := callsIn_wide.1 (Qdh Fence.wide 5 trivial rfl (by omega) gf lb trivial eg S Sp N hN w0 w hb0 hseq)
 go_enter Try.func204, Try.ntmps204
 go_wp2_with (go_at_call 242; refine h.mono ?_; rintro e W' ⟨v, xs, rfl, h1, h2, h3⟩)
 go_ret
 exact ⟨v, xs, rfl, h1, h2, h3⟩
set_option maxHeartbeats 4000000 in
theorem QdM.calls (gf : Nat) (lb : Array Value) (eg : ∀ args w, (callFunc gf args).run Try.prog w = .ok (.enter gf args) w)
  (S Sp : List S71 → Prop) (N : Nat) (hN : N ≤ 1000000) (w0 w : World) (hb0 : Below w0.heap.size w0 w) (hseq : SeqStopsK Fence.wide 4 Try.prog gf lb (fun p => #[encP p]) KeepsWalks S Sp N w0) (R : List S71) (hS : ∀ xs, S xs → xs.length ≤ 1000000 ∧ (xs.map (·.f0)).Nodup ∧ srtP xs = R) :
  Calls Try.prog 154 #[.func (.func gf) #[] lb, .func (.func 156) #[] #[]] w fun e W' => ∃ v, e = .returned v ∧ Kd.R k71 71 W' w.heap.size (fun _ => True) v R ∧ Below w.heap.size w W' := by
 have h := QeO.calls gf lb eg S Sp N hN w0 w hb0 hseq
 go_enter Try.func154, Try.ntmps154
 go_upto_region 2 with (first | (go_at_call 204; refine h.mono ?_; rintro e W' ⟨v, xs, rfl, h1, h2, h3⟩; have H1 := Aside0.mk h1; have H2 := Aside0.mk h2; have H3 := Aside0.mk h3; clear h h1 h2 h3))
 obtain ⟨q1, q2, q3⟩ := hS xs H1.out
 have hcase := H2.out.2
 rcases hcase with ⟨rfl, hn0⟩ | ⟨g, cap, cur, rfl, hgb, _⟩
 ·have hx0 : xs = [] := List.eq_nil_of_length_eq_zero hn0
  subst hx0
  have hs0 : ∀ W, Calls Try.prog 205 #[.slice none 0 0, .func (.func 156) #[] #[]] W fun e w' => e = .returned (.tuple #[]) ∧ w' = W := fun W => Go.Proofs.AnyF.slices_SortFunc_none sortP.lay none 0 _ W
  go_wp2_with (go_at_call 205; refine (hs0 _).mono ?_; rintro e W2 ⟨rfl, rfl⟩)
  go_ret
  refine ⟨_, rfl, ?_, H3.out⟩
  have hr : R = [] := by rw [← q3]; simp [srtP]
  rw [hr]
  exact Kd.R_nil _ _ _ _ _
 have hs0 := sortP.own H2.out q1 q2
 have GB := Aside0.mk hgb
 go_wp2_with (go_at_call 205; refine hs0.mono ?_; rintro e W2 ⟨rfl, hr, hg⟩; have HR := Aside0.mk hr; have HB := Aside0.mk (H3.out.grown hg (Qau H3.out) (fun j hj => by cases hj; exact GB.out)); clear hr hg)
 go_ret
 refine ⟨_, rfl, ?_, HB.out⟩
 have hr := HR.out
 rw [q3] at hr
 have hl : xs.length = R.length := by rw [← q3]; exact ((QbP xs).length_eq).symm
 rw [hl] at hr ⊢
 exact rowP_R hr _ (fun _ _ => trivial)
def QaD.t (m : List (S69 × S71)) : List S71 × Int := if m.any (fun x => decide (x.2.f1 > 1048576) || decide (x.2.f2 > 1048576)) = T then ([], 18) else if (m.length : Int) > 128 then ([], 8) else (srtP (m.map (·.2)), 0)
mutual
def QaD.l0 : Nat → List S67 → List (S69 × S71) → Nat → Int → Option (List S71 × Int)
 | 0, _, _, _, _ => none
 | k + 1, l0, m, n, i => if i < (l0.length : Int) then (if 0 ≤ i then ((Qal.f k (rd_T67 l0 i).f1).bind fun e => if e = 0 then QaD.l1 k l0 (rd_T67 l0 i).f1 m n i 0 else some ([], e)) else none) else some (QaD.t m)
def QaD.l1 : Nat → List S67 → List S71 → List (S69 × S71) → Nat → Int → Int → Option (List S71 × Int)
 | 0, _, _, _, _, _, _ => none
 | k + 1, l0, q, m, n, i, j => if j < (q.length : Int) then (if 0 ≤ j then (if okS (rd_T71 q j).f0 ∧ n < 1000000 then QaD.l1 k l0 q (putP m (rd_T71 q j).f0 ⟨(rd_T71 q j).f0, wrap64 ((getP m (rd_T71 q j).f0).f1 + (rd_T71 q j).f1), wrap64 ((getP m (rd_T71 q j).f0).f2 + (rd_T71 q j).f2)⟩) (n + 1) i (wrap64 (j + 1)) else none) else none) else QaD.l0 k l0 m n (wrap64 (i + 1))
end
def QaD.f (k : Nat) (l0 : List S67) : Option (List S71 × Int) := if (l0.length : Int) > 1024 then some ([], 8) else QaD.l0 k l0 [] 0 0
theorem QaD.mono_l : ∀ k, (∀ y0 y1 y2 y3, LeO (QaD.l0 k y0 y1 y2 y3) (QaD.l0 (k + 1) y0 y1 y2 y3)) ∧ (∀ y0 y1 y2 y3 y4 y5, LeO (QaD.l1 k y0 y1 y2 y3 y4 y5) (QaD.l1 (k + 1) y0 y1 y2 y3 y4 y5))
 | 0 => ⟨fun _ _ _ _ r h => by simp [QaD.l0] at h, fun _ _ _ _ _ _ r h => by simp [QaD.l1] at h⟩
 | k + 1 => by
  obtain ⟨ih0, ih1⟩ := QaD.mono_l k
  refine ⟨fun y0 y1 y2 y3 => ?_, fun y0 y1 y2 y3 y4 y5 => ?_⟩
  ·unfold QaD.l0
   refine LeO.ite (LeO.ite (LeO.bind (Qal.mono _ _) (fun _ => LeO.ite (ih1 _ _ _ _ _ _) (LeO.refl _))) (LeO.refl _)) (LeO.refl _)
  unfold QaD.l1
  refine LeO.ite (LeO.ite (LeO.ite (ih1 _ _ _ _ _ _) (LeO.refl _)) (LeO.refl _)) (ih0 _ _ _ _)
theorem QaD.mono : ∀ a0 k, LeO (QaD.f k a0) (QaD.f (k + 1) a0) := by
 intro a0 k
 unfold QaD.f
 exact LeO.ite (LeO.refl _) ((QaD.mono_l k).1 _ _ _ _)
theorem Qe3 {m : List (S69 × S71)} {s : S69} {p : S71} (h : ∀ x ∈ m, x.2.f0 = x.1) (hp : p.f0 = s) : ∀ x ∈ putP m s p, x.2.f0 = x.1 := by
 intro x hx
 unfold putP at hx
 split at hx
 ·obtain ⟨y, hy, rfl⟩ := List.mem_map.1 hx
  split
  ·exact hp
  exact h y hy
 rcases List.mem_append.1 hx with hx | hx
 ·exact h x hx
 simp at hx; subst hx; exact hp
theorem MD.mem {D : DataW S71} {m : List (S69 × S71)} (h : MD D m) {s : S69} (hs : okS s) {p : S71} (hat : ∀ zd, D.atKey (klS s) zd = .held p) : (s, p) ∈ m := by
 obtain ⟨x, hx, e⟩ := List.mem_map.1 ((h.2.2.1 s hs).1 (Maps.has_true_of_atKey hat))
 have ax := h.2.2.2.1 x hx (.held p)
 rw [e, hat] at ax
 injection ax with ax
 have : x = (s, p) := Prod.ext e ax.symm
 rw [← this]; exact hx
set_option maxHeartbeats 8000000 in
theorem QaD.calls (k : Nat) (A0 : Option Addr) (c0 : Nat) (l0 : List S67) (r1 : List S71) (r2 : Int) (w : World) (hr0 : Kd.C k67 w A0 l0.length l0) (hc0 : l0.length ≤ c0) (h : QaD.f k l0 = some (r1, r2)) :
  Calls Try.prog 75 #[.slice A0 l0.length c0] w fun e w' => ∃ v0_ : Value, e = .returned (.tuple #[v0_, .int .i64 r2]) ∧ Kd.R k71 71 w' w.heap.size (fun _ => True) v0_ r1 ∧ Below w.heap.size w w' := by
 have hu71 := Try.underlying71
 have hu69 := Try.underlying69
 have hu67 := Try.underlying67
 have HR0 := Aside0.mk hr0
 have HC0 := Aside0.mk hc0
 clear hr0 hc0
 have HB := Aside0.mk (Below.refl w.heap.size w)
 unfold QaD.f at h
 by_cases c1 : (l0.length : Int) > 1024
 ·rw [if_pos c1] at h
  have c1b : decide ((l0.length : Int) > 1024) = T := decide_eq_true c1
  simp only [Option.some.injEq, Prod.mk.injEq] at h
  obtain ⟨rfl, rfl⟩ := h
  clear c1
  go_enter Try.func75, Try.ntmps75
  go_wp2
  go_ret2
  exact ⟨_, rfl, Kd.R_nil _ _ _ _ _, Below.refl _ _⟩
 rw [if_neg c1] at h
 have c1b : decide ((l0.length : Int) > 1024) = E := decide_eq_false c1
 have H' := Aside0.mk h
 clear c1 h
 go_enter Try.func75, Try.ntmps75
 go_wp2_with (first | ((with_reducible refine QaX (N := 16) rfl ?_); refine QdH rfl 191 (N := 16) rfl rfl ?_; intro mb hg w1 hm hb; have MI := Aside0.mk hm; have n0_ := Aside0.mk (Qav HB.out hb); have GM := Aside0.mk (show w.heap.size ≤ mb by rw [hg]; exact Qau HB.out); clear HB; have HB := n0_; clear n0_ hm hb hg))
 go_loopg [19] k (fun kq v19 w' => ∃ (m : List (S69 × S71)) (n : Nat) (x19 : Int), v19 = .int .i64 x19 ∧ Aside0 (QaD.l0 kq l0 m n x19 = some (r1, r2)) ∧ Aside0 (kq ≤ k) ∧ Aside0 (MapP w' mb n m) ∧ Aside0 (∀ x ∈ m, x.2.f0 = x.1) ∧ Aside0 (Below w.heap.size w w'))
 case atStart => exact ⟨[], 0, 0, rfl, H', ⟨Nat.le_refl _⟩, MI, ⟨by simp⟩, HB⟩
 case round =>
  clear H' MI HB
  obtain ⟨m, n, x19, rfl, HA, HK1, MI, HM, HB⟩ := hrel
  cases gk with
  | zero => exact absurd HA.out (by simp [QaD.l0])
  | succ k1 =>
   have H := HA.out
   clear HA
   simp only [QaD.l0] at H
   by_cases c4 : x19 < (l0.length : Int)
   ·rw [if_pos c4] at H
    have c4b0 : decide (x19 < (l0.length : Int)) = T := decide_eq_true c4
    by_cases c5 : 0 ≤ x19
    ·rw [if_pos c5] at H
     have c5b0 : decide (0 ≤ x19) = T := decide_eq_true c5
     obtain ⟨ad, A1, c1, e1, hx_0, hx_1, hl1, hC1⟩ := at_T67 HR0.out x19 c5 c4
     cases e1
     replace hx_0 := Zx HB.out hx_0
     replace hx_1 := Zx HB.out hx_1
     have p1 := eq_true c5
     have q1 := eq_true c4
     obtain ⟨q, hq⟩ : ∃ z, z = (rd_T67 l0 x19).f1 := ⟨_, rfl⟩
     rw [← hq] at hx_1 hl1 hC1 H
     obtain ⟨e, A9, H⟩ := Option.bind_eq_some_iff.1 H
     clear hq
     have HP := Aside0.mk A9
     have HQ := Aside0.mk hC1
     have HL := Aside0.mk hl1
     have H' := Aside0.mk H
     clear c4 c5 A9 hC1 hl1 H
     generalize (rd_T67 l0 x19).f0 = id0 at hx_0
     go_upto_region 7 with (fail)
     have n0_ := Aside0.mk (MI.out.alloc (.cells #[.int .i64 id0, .slice A1 q.length c1] 67))
     have n1_ := Aside0.mk (Qac HB.out (.cells #[.int .i64 id0, .slice A1 q.length c1] 67))
     have n2_ := Aside0.mk (heap_alloc_new wr (.cells #[.int .i64 id0, .slice A1 q.length c1] 67))
     generalize wr.heap.size = gb at n2_ ⊢
     generalize wr.alloc (.cells #[.int .i64 id0, .slice A1 q.length c1] 67) = w7 at n0_ n1_ n2_ ⊢
     clear MI HB hx_0 hx_1
     have hz1 : w7.cell? ⟨gb, 1, none⟩ = some (.slice A1 q.length c1) := (Qae n2_.out 1).trans rfl
     go_upto_if 27 with (first | (go_at_call 9; refine (Qal.calls k1 A1 c1 q e _ (Kd.C_below HQ.out n1_.out) HL.out HP.out).mono ?_; rintro e w8 ⟨rfl, hb⟩; have MI := Aside0.mk (n0_.out.below hb); have HB := Aside0.mk (Qav n1_.out hb); have hz := Aside0.mk ((hb.cell (World.block_lt_of_cell? _ _ hz1)).trans hz1); clear hz1 n0_ n1_ n2_ hb))
     have H := H'.out
     clear H'
     by_cases c6 : e = 0
     ·rw [if_pos c6] at H
      subst c6
      have H' := Aside0.mk H
      have hz1 := hz.out
      clear H
      go_wp2
      go_loopg [32] k1 (fun kq v32 w' => ∃ (m : List (S69 × S71)) (n : Nat) (x32 : Int), v32 = .int .i64 x32 ∧ Aside0 (QaD.l1 kq l0 q m n x19 x32 = some (r1, r2)) ∧ Aside0 (kq ≤ k1) ∧ Aside0 (MapP w' mb n m) ∧ Aside0 (∀ x ∈ m, x.2.f0 = x.1) ∧ Aside0 (Below w.heap.size w w'))
      case atStart => exact ⟨m, n, 0, rfl, H', ⟨Nat.le_refl _⟩, MI, HM, HB⟩
      case round =>
       clear H' MI HM HB hz1
       obtain ⟨m, n, x32, rfl, HA, HK2, MI, HM, HB⟩ := hrel
       cases gk with
       | zero => exact absurd HA.out (by simp [QaD.l1])
       | succ k2 =>
        have H := HA.out
        clear HA
        simp only [QaD.l1] at H
        by_cases d4 : x32 < (q.length : Int)
        ·rw [if_pos d4] at H
         have d4b0 : decide (x32 < (q.length : Int)) = T := decide_eq_true d4
         by_cases d5 : 0 ≤ x32
         ·rw [if_pos d5] at H
          have d5b0 : decide (0 ≤ x32) = T := decide_eq_true d5
          by_cases d6 : okS (rd_T71 q x32).f0 ∧ n < 1000000
          ·rw [if_pos d6] at H
           obtain ⟨ad2, e2, hy0, hy1, hy2, hy3, hy4, hy5⟩ := at_T71 HQ.out x32 d5 d4
           cases e2
           replace hy0 := Zx HB.out hy0
           replace hy1 := Zx HB.out hy1
           replace hy2 := Zx HB.out hy2
           replace hy3 := Zx HB.out hy3
           replace hy4 := Zx HB.out hy4
           replace hy5 := Zx HB.out hy5
           have p1 := eq_true d5
           have q1 := eq_true d4
           generalize rd_T71 q x32 = p at hy0 hy1 hy2 hy3 hy4 hy5 H d6
           obtain ⟨⟨p0, p1, p2, p3⟩, p4, p5⟩ := p
           dsimp only at hy0 hy1 hy2 hy3 hy4 hy5 H d6
           have G0 := Aside0.mk (rfl : getP m ⟨p0, p1, p2, p3⟩ = getP m ⟨p0, p1, p2, p3⟩)
           obtain ⟨gp, hgp⟩ : ∃ z, z = getP m ⟨p0, p1, p2, p3⟩ := ⟨_, rfl⟩
           rw [← hgp] at H
           obtain ⟨⟨g0, g1, g2, g3⟩, g4, g5⟩ := gp
           have HG := Aside0.mk hgp
           have HS := Aside0.mk d6
           have H' := Aside0.mk H
           clear hgp d4 d5 d6 H G0
           go_upto_region 14 with (first | (at_lookup; refine QdN (MI.out.alloc _) rfl (.tmp 36) (.tmp 38) 191 rfl Try.underlying191 rfl ⟨p0, p1, p2, p3⟩ HS.out.1 rfl ?_; rw [← HG.out]; simp only [encP]))
           go_wp2_with (first | (at_mapUpdate; refine QdO ((MI.out.alloc _).alloc _) rfl (.tmp 40) (.tmp 42) (.tmp 55) 191 rfl Try.underlying191 rfl (by have := HS.out.2; unfold maxLen; omega) ⟨p0, p1, p2, p3⟩ ⟨⟨p0, p1, p2, p3⟩, wrap64 (g4 + p4), wrap64 (g5 + p5)⟩ HS.out.1 rfl rfl ?_; intro w10 hm hg; have n0_ := Aside0.mk hm; have n1_ := Aside0.mk ((Qac (Qac HB.out _) _).grown hg (Qau (Qac (Qac HB.out _) _)) (fun j hj => by cases hj; exact GM.out)); clear MI HB hm hg))
           go_roundg k2
           case measure => have := HK2.out; omega
           case rel => exact ⟨_, _, _, by first | rfl | (simp; done), H', ⟨by have := HK2.out; omega⟩, n0_, ⟨Qe3 HM.out rfl⟩, n1_⟩
          rw [if_neg d6] at H; cases H
         rw [if_neg d5] at H; cases H
        rw [if_neg d4] at H
        have d4b0 : decide (x32 < (q.length : Int)) = E := decide_eq_false d4
        have H' := Aside0.mk H
        clear d4 H
        go_wp2
        have HK3 := Aside0.mk (show k2 < k1 + 1 by have := HK2.out; omega)
        go_roundg k2
        case measure => have := HK1.out; have := HK2.out; omega
        case rel => exact ⟨m, n, _, by first | rfl | (simp; done), H', ⟨by have := HK1.out; have := HK2.out; omega⟩, MI, HM, HB⟩
     rw [if_neg c6] at H
     have c6b : (e != 0) = T := bne_iff_ne.mpr c6
     simp only [Option.some.injEq, Prod.mk.injEq] at H
     obtain ⟨rfl, rfl⟩ := H
     go_wp2
     go_ret2
     exact ⟨_, rfl, Kd.R_nil _ _ _ _ _, HB.out⟩
    rw [if_neg c5] at H; cases H
   rw [if_neg c4] at H
   have c4b0 : decide (x19 < (l0.length : Int)) = E := decide_eq_false c4
   have HT := Aside0.mk (Option.some.inj H)
   clear c4 H
   obtain ⟨D, ho, hD⟩ := MI.out
   have HO := Aside0.mk ho
   have HD := Aside0.mk hD
   clear ho hD MI
   go_wp2_with (first | (at_range; refine wpList_range_own _ rfl (.tmp 58) 191 rfl 69 71 keyedS Try.underlying191 valP mb n D rfl HO.out ?_; intro w9 hrg hg hs; have RG := Aside0.mk hrg; have n1_ := Aside0.mk (HB.out.grown hg (Qau HB.out) (fun j hj => by cases hj)); have GI := Aside0.mk (Qau HB.out); clear HB hrg hg hs; have HB := n1_; clear n1_))
   generalize wr.heap.size = it at RG GI ⊢
   go_frame
   go_loopg [12] (Maps.size D) (fun kq v12 w' => ∃ (left : Lit → Bool) (cnt : Nat) (ps : List (S69 × S71)), Aside0 (w'.ranges Try.prog 69 valP mb it n D left cnt) ∧ Aside0 (cnt ≤ kq) ∧ Aside0 (CollP D left ps) ∧ Aside0 (∀ x ∈ ps, ¬ (x.2.f1 > 1048576) ∧ ¬ (x.2.f2 > 1048576)) ∧ Aside0 (Below w.heap.size w w'))
   case atStart => exact ⟨_, _, [], RG, ⟨Nat.le_refl _⟩, ⟨CollP.start D⟩, ⟨by simp⟩, HB⟩
   case round =>
    clear RG HB
    obtain ⟨left, cnt, ps, RG, HK2, HC, HN, HB⟩ := hrel
    go_wp2_with (first | (at_next; refine wpList_next_ranges _ rfl (.tmp 59) rfl 69 keyedS valP encS encP (fun key kl hk => by obtain ⟨x, _, hx, _⟩ := QbE hk; exact ⟨x, hx⟩) (fun v y hv => by obtain ⟨c, hc, _⟩ := QbJ hv; exact ⟨c, hc⟩) mb it n D left cnt rfl RG.out ?_ ?_))
    ·intro hc0 hl0
     have hperm := Aside0.mk (HC.out.perm HD.out hl0)
     have MI := Aside0.mk (show MapP wr mb n m from ⟨D, RG.out.owns, HD.out⟩)
     have hany : m.any (fun x => decide (x.2.f1 > 1048576) || decide (x.2.f2 > 1048576)) = E := by
      rw [List.any_eq_false]
      intro x hx
      have := HN.out x (hperm.out.mem_iff.2 hx)
      simp [this.1, this.2]
     have HT2 := HT.out
     unfold QaD.t at HT2
     rw [hany, if_neg (by decide)] at HT2
     clear HT hany hc0 hl0
     by_cases c7 : (m.length : Int) > 128
     ·rw [if_pos c7] at HT2
      have c7b : decide ((m.length : Int) > 128) = T := decide_eq_true c7
      simp only [Prod.mk.injEq] at HT2
      obtain ⟨rfl, rfl⟩ := HT2
      clear c7
      go_wp2_with (first | ((with_reducible refine QaX (N := 73) rfl ?_); refine Qcp MI.out rfl (.tmp 72) 191 rfl Try.underlying191 rfl ?_))
      go_ret2
      exact ⟨_, rfl, Kd.R_nil _ _ _ _ _, HB.out⟩
     rw [if_neg c7] at HT2
     have c7b : decide ((m.length : Int) > 128) = E := decide_eq_false c7
     simp only [Prod.mk.injEq] at HT2
     obtain ⟨hr1, rfl⟩ := HT2
     have HR := Aside0.mk hr1
     have HL := Aside0.mk c7
     clear c7 hr1
     have hv := callsIn_wide.1 (QeI Fence.wide 5 trivial rfl (some mb) wr)
     have bm := Aside0.mk (Boxed.new wr 191 (.map (some mb)))
     have ho2 := Aside0.mk (RG.out.owns.alloc (.cells #[.map (some mb)] 191))
     have hb2 := Aside0.mk (Qac HB.out (.cells #[.map (some mb)] 191))
     have hsz : Maps.size D ≤ 1000000 := by rw [HD.out.2.2.2.2]; have := HL.out; omega
     have hseq := QdE Fence.wide 4 trivial rfl (by omega) wr.heap.size mb n D (wr.alloc (.cells #[.map (some mb)] 191)) (by simp) bm.out.cell ho2.out m HD.out
     have hsort := QdM.calls 206 #[.pointer (some ⟨wr.heap.size, 0, none⟩)] (enters_of Try.func206 (by kernel_rfl) rfl) _ _ (Maps.size D) hsz _ _ (Below.refl _ _) hseq r1 (by
      rintro xs ⟨ps, hp, rfl⟩
      have hk : (ps.map (·.2)).map (·.f0) = ps.map (·.1) := by
       rw [List.map_map]
       apply List.map_congr_left
       intro x hx
       exact HM.out x (hp.mem_iff.1 hx)
      have hnd : ((ps.map (·.2)).map (·.f0)).Nodup := by
       rw [hk]
       exact (hp.map (·.1)).nodup_iff.2 HD.out.1
      refine ⟨by rw [List.length_map, hp.length_eq]; have := HL.out; omega, hnd, ?_⟩
      rw [← HR.out]
      have hnd2 : ((m.map (·.2)).map (·.f0)).Nodup := ((hp.map (·.2)).map (·.f0)).nodup_iff.1 hnd
      exact QbT hnd2 ((QbP _).trans (hp.map (·.2))) (Qco _))
     clear hsz hseq
     go_wp2_with (first | ((with_reducible refine QaX (N := 73) rfl ?_); refine Qcp MI.out rfl (.tmp 72) 191 rfl Try.underlying191 rfl ?_) | (go_at_call 155; refine hv.mono ?_; rintro e w12 ⟨rfl, rfl⟩) | (go_at_call 154; refine hsort.mono ?_; rintro e w13 ⟨v, rfl, hr, hb⟩; have HRR := Aside0.mk hr; have HB3 := Aside0.mk (Qav hb2.out hb); clear hr hb))
     go_ret2
     exact ⟨_, rfl, Kd.R_lower HRR.out (Qau hb2.out), HB3.out⟩
    intro x c kl yd yp w2 cnt2 hkey hlk hv hat hrg2 hlt hg2 hs2 hen
    obtain ⟨x', ox, ex, rfl⟩ := QbE hkey
    obtain rfl := Qcv ex
    obtain ⟨c', ec, ez⟩ := QbJ hv
    obtain rfl := Qdk ec
    obtain rfl : yd = .held c := (Prod.mk.inj ez).1
    clear ez
    have hC2 := Aside0.mk (HC.out.step ox hlk hat)
    have hmem := Aside0.mk (HD.out.mem ox hat)
    have HB2 := Aside0.mk (HB.out.grown hg2 (Qau HB.out) (fun j hj => by cases hj; exact GI.out))
    have RG2 := Aside0.mk hrg2
    have HLT := Aside0.mk hlt
    have HK4 := Aside0.mk hkey
    clear hs2 hg2 hrg2 hlt hkey hlk hv hat ex ec HB RG HK4
    obtain ⟨⟨p0, p1, p2, p3⟩, p4, p5⟩ := c
    simp only [encP, encS] at hen ⊢
    obtain ⟨k2, rfl⟩ : ∃ k2, gk = k2 + 1 := ⟨gk - 1, by have := HLT.out; have := HK2.out; omega⟩
    by_cases b1 : p4 > 1048576
    ·have b1b : decide (p4 > 1048576) = T := decide_eq_true b1
     have hany : m.any (fun x => decide (x.2.f1 > 1048576) || decide (x.2.f2 > 1048576)) = T := List.any_eq_true.2 ⟨_, hmem.out, by simp [b1]⟩
     have HT2 := HT.out
     unfold QaD.t at HT2
     rw [hany, if_pos rfl] at HT2
     simp only [Prod.mk.injEq] at HT2
     obtain ⟨rfl, rfl⟩ := HT2
     clear hany
     go_wp2
     go_ret2
     exact ⟨_, rfl, Kd.R_nil _ _ _ _ _, Qac HB2.out _⟩
    have b1b : decide (p4 > 1048576) = E := decide_eq_false b1
    by_cases b2 : p5 > 1048576
    ·have b2b : decide (p5 > 1048576) = T := decide_eq_true b2
     have hany : m.any (fun x => decide (x.2.f1 > 1048576) || decide (x.2.f2 > 1048576)) = T := List.any_eq_true.2 ⟨_, hmem.out, by simp [b2]⟩
     have HT2 := HT.out
     unfold QaD.t at HT2
     rw [hany, if_pos rfl] at HT2
     simp only [Prod.mk.injEq] at HT2
     obtain ⟨rfl, rfl⟩ := HT2
     clear hany
     go_wp2
     go_ret2
     exact ⟨_, rfl, Kd.R_nil _ _ _ _ _, Qac HB2.out _⟩
    have b2b : decide (p5 > 1048576) = E := decide_eq_false b2
    have HNB := Aside0.mk (And.intro b1 b2)
    clear b1 b2
    go_wp2
    go_roundg k2
    case measure => omega
    case rel => exact ⟨_, cnt2, ps ++ [(x, ⟨⟨p0, p1, p2, p3⟩, p4, p5⟩)], ⟨RG2.out.alloc _⟩, ⟨by have := HLT.out; have := HK2.out; omega⟩, hC2, ⟨fun y hy => by
     rcases List.mem_append.1 hy with hy | hy
     ·exact HN.out y hy
     simp at hy; subst hy; exact HNB.out⟩, ⟨Qac HB2.out _⟩⟩
mutual
def Qao.l0 : Nat → List (S128) → Int → Int → Option ((List (S128)))
 | 0, _, _, _ => none
 | k + 1, x3, x11, x12 => if x12 < x11 then ((some (([] : List Int) : List Int)).bind fun y636 => (if 0 ≤ x12 then (if x12 < (x3.length : Int) then (if y636.length + ((Qaa x3 x12).f1).length < 17592186044416 then ((some (y636 ++ ((Qaa x3 x12).f1) : List Int)).bind fun y640 => (Qao.l1 k x3 x12 y640 x11 x12 (y640.length : Int) 0)) else (none)) else (none)) else (none))) else (some x3)
def Qao.l1 : Nat → List (S128) → Int → List Int → Int → Int → Int → Int → Option ((List (S128)))
 | 0, _, _, _, _, _, _, _ => none
 | k + 1, x3, x4, x5, x11, x12, x23, x24 => if x24 < x23 then (if 0 ≤ x24 then (if x24 < (x5.length : Int) then (Qao.l1 k x3 x4 (x5.set (x24 : Int).toNat (Int.tmod (rd x5 x24) 100000)) x11 x12 x23 (wrap64 (x24 + 1))) else (none)) else (none)) else (if 0 ≤ x4 then (if x4 < (x3.length : Int) then (Qao.l0 k (x3.set (x4 : Int).toNat (⟨(⟨(Qaa x3 x4).f0.f0, (Qaa x3 x4).f0.f1, (Qaa x3 x4).f0.f2, (Qaa x3 x4).f0.f3⟩ : S69), x5, (Qaa x3 x4).f2⟩ : S128)) x11 (wrap64 (x12 + 1))) else (none)) else (none))
end
def Qao.f (k : Nat) (l0 : List (S128)) : Option ((List (S128))) := (some (([] : List (S128)) : List (S128))).bind fun y630 => (if y630.length + l0.length < 1954687338268 then ((some (y630 ++ l0 : List (S128))).bind fun y633 => (Qao.l0 k y633 (y633.length : Int) 0)) else (none))
theorem Qao.mono_l : ∀ k, (∀ y0 y1 y2, LeO (Qao.l0 k y0 y1 y2) (Qao.l0 (k + 1) y0 y1 y2)) ∧ (∀ y0 y1 y2 y3 y4 y5 y6, LeO (Qao.l1 k y0 y1 y2 y3 y4 y5 y6) (Qao.l1 (k + 1) y0 y1 y2 y3 y4 y5 y6))
 | 0 => ⟨fun _ _ _ r h => by simp [Qao.l0] at h, fun _ _ _ _ _ _ _ r h => by simp [Qao.l1] at h⟩
 | k + 1 => by
  obtain ⟨ih0, ih1⟩ := Qao.mono_l k
  refine ⟨?_, ?_⟩
  ·intro y0 y1 y2
   unfold Qao.l0
   exact ZM2 ih0 ih1
  intro y0 y1 y2 y3 y4 y5 y6
  unfold Qao.l1
  exact ZM2 ih0 ih1
theorem Qao.mono : ∀ a0 k, LeO (Qao.f k a0) (Qao.f (k + 1) a0) := by
 intro a0 k
 obtain ⟨ih0, ih1⟩ := Qao.mono_l k
 unfold Qao.f
 exact ZM2 ih0 ih1
set_option maxHeartbeats 8000000 in
theorem Qao.calls (k : Nat) (P0_ : Nat → Prop) (A0 : Option Addr) (c0 : Nat) (l0 : List (S128)) (r : List (S128)) (w : World) (hs0 : Kd.V k128 128 w w.heap.size (fun k_ => P0_ k_) (.slice A0 l0.length c0) l0) (h : Qao.f k l0 = some r) :
  Calls Try.prog 23 #[.slice A0 l0.length c0] w fun e w' => ∃ v0_ : Value, e = .returned (v0_) ∧ Kd.N k128 128 w' w.heap.size (fun k_ => (P0_ k_ ∨ w.heap.size ≤ k_)) v0_ r ∧ Below w.heap.size w w' := by
 have HO0 := Aside0.mk (show Kd.V k128 128 w w.heap.size (fun k_ => (P0_ k_ ∨ w.heap.size ≤ k_)) (.slice A0 l0.length c0) l0 from Kd.V_mono hs0 (fun k_ hk => .inl hk))
 have HB := Aside0.mk (Below.refl w.heap.size w)
 have H : ((some (([] : List (S128)) : List (S128))).bind fun y630 => (if y630.length + l0.length < 1954687338268 then ((some (y630 ++ l0 : List (S128))).bind fun y633 => (Qao.l0 k y633 (y633.length : Int) 0)) else (none))) = some r := h
 clear h
 obtain ⟨y630, hy630⟩ : ∃ y_ : List (S128), y_ = (([] : List (S128))) := ⟨_, rfl⟩
 replace H : (if y630.length + l0.length < 1954687338268 then ((some (y630 ++ l0 : List (S128))).bind fun y633 => (Qao.l0 k y633 (y633.length : Int) 0)) else (none)) = some r := by first | (rw [hy630]; with_reducible exact H) | (have H2_ := (Option.bind_some _ _).symm.trans H; rw [hy630]; with_reducible exact H2_) | (have H2_ := (Option.bind_some _ _).symm.trans H; with_reducible exact H2_) | with_reducible exact H | (rw [hy630]; exact H) | exact H
 have Ny630 := Aside0.mk hy630
 clear hy630
 by_cases c2 : y630.length + l0.length < 1954687338268
 ·rw [if_pos c2] at H
  have LMc2 := Aside0.mk c2
  clear c2
  obtain ⟨y633, hy633⟩ : ∃ y_ : List (S128), y_ = (y630 ++ l0) := ⟨_, rfl⟩
  replace H : (Qao.l0 k y633 (y633.length : Int) 0) = some r := by first | (rw [hy633]; with_reducible exact H) | (have H2_ := (Option.bind_some _ _).symm.trans H; rw [hy633]; with_reducible exact H2_) | (have H2_ := (Option.bind_some _ _).symm.trans H; with_reducible exact H2_) | with_reducible exact H | (rw [hy633]; exact H) | exact H
  have Ny633 := Aside0.mk hy633
  clear hy633
  have H' := Aside0.mk H
  clear H
  go_enter Try.func23, Try.ntmps23
  go_wp2_with (first | ((with_reducible refine QaX (N := 7) rfl ?_); refine Kd.N_lit k128 _ 128 ?hg (N' := 7) ?hd (xs := ([] : List (S128))) (inner := []) (ok := (fun k_ => (P0_ k_ ∨ w.heap.size ≤ k_))) (okp := (fun k_ => (P0_ k_ ∨ w.heap.size ≤ k_))) ?hr ?hp (fun _ hk => hk) ((show ∀ k_, w.heap.size ≤ k_ → (fun k_ => (P0_ k_ ∨ w.heap.size ≤ k_)) k_ from fun k_ hk => (.inr (Nat.le_trans (Qau (Zb)) hk))) _ (Nat.le_refl _)) (Below.refl _ _) (Nat.le_refl _) (by simp) ?_; (case hd => rfl); (case hg => rfl); (case hr => first | (go_simp; done) | (go_simp; rfl)); (case hp => exact (Reps.none _ _)); intro v631 w3 ho4 hb hg_ hnew_; clear hg_ hnew_; (first | rw [← Ny630.out] at ho4 | (simp only [Int.reduceToNat] at ho4; rw [← Ny630.out] at ho4)); have HO632 := Aside0.mk (Kd.N_lower ho4 (Qau (Zb))); replace HO0 := Aside0.mk (Kd.V_elder' (by (with_reducible repeat (first | apply Kd.V_alloc | apply Kd.V_drewN | apply Kd.V_drew)); exact HO0.out) (Kd.N_base ho4) hb); replace HB := Aside0.mk (Qav (Zb) hb); clear hb ho4) | ((with_reducible refine Qa9 (b := .append) (xs := #[.tmp 7, .tmp 8]) rfl ?_); at_builtin; refine Kd.N_append_rows k128 (w0 := w) w.heap.size rfl (.tmp 7) (.tmp 8) 38 128 (.agg #[(.string ⟨#[]⟩), (.int .i64 0), (.int .i64 0), (.int .i64 0), (.slice none 0 0), (.int .i64 0)]) 72 rfl Try.underlying38 Qd0 rfl (by decide) (by omega) v631 y630 l0 _ _ _ (fun k_ => (P0_ k_ ∨ w.heap.size ≤ k_)) (fun k_ => ((fun k_ => (P0_ k_ ∨ w.heap.size ≤ k_))) k_ ∧ some k_ ≠ (v631 : Value).ownBlock) rfl rfl ?aO ?aR (fun _ hk => hk) ?aF ?aB ?aS ?aL ?_; (case aR => exact (by skip; exact Kd.V_F (Kd.V_mono (ok' := (fun k_ => ((fun k_ => (P0_ k_ ∨ w.heap.size ≤ k_))) k_ ∧ some k_ ≠ (v631 : Value).ownBlock)) (HO0.out) (fun k_ hk => ⟨hk.1, hk.2⟩)))); (case aB => exact (Zb)); (case aF => exact (fun k_ hk => (.inr (Nat.le_trans (Qau (Zb)) hk)))); (case aO => exact (by (with_reducible repeat (first | apply Kd.N_alloc | apply Kd.N_drewN | apply Kd.N_drew)); exact HO632.out)); (case aS => exact (Qau (Zb))); (case aL => have := LMc2.out; omega); intro v634 w5 ho hb hg hat; rw [← Ny633.out] at ho; have HO635 := Aside0.mk (ho); replace HO0 := Aside0.mk (Kd.V_afterv (ok := (fun k_ => (P0_ k_ ∨ w.heap.size ≤ k_))) (by (with_reducible repeat (first | apply Kd.V_alloc | apply Kd.V_drewN | apply Kd.V_drew)); exact HO0.out) hg hat); replace HB := Aside0.mk (hb); clear HO632; clear ho hb hg hat; obtain ⟨Ao6, co6, eo6⟩ := Kd.N_slice HO635.out; subst eo6))
  go_loopg [12] k (fun kq v12 w' => ∃ (x3_1 : List (S128)) (x12_1 : Int), v12 = .int .i64 x12_1 ∧ Aside0 (Qao.l0 kq x3_1 (y633.length : Int) x12_1 = some r) ∧ Aside0 (kq ≤ k) ∧ Aside0 (Kd.N k128 128 w' w.heap.size (fun k_ => (P0_ k_ ∨ w.heap.size ≤ k_)) (.slice Ao6 y633.length co6) x3_1) ∧ Aside0 (Below w.heap.size w w'))
  case atStart => exact ⟨(y633), (0), (Zs), H', ⟨Nat.le_refl _⟩, ⟨by (with_reducible repeat (first | apply Kd.N_alloc | apply Kd.N_drewN | apply Kd.N_drew)); exact HO635.out⟩, ⟨Zb⟩⟩
  case round =>
   clear H'
   try clear c2
   try clear p2
   obtain ⟨x3_1, x12_1, rfl, HA, HK1, HO_3, HB⟩ := hrel
   have hl3_1 := (Kd.N_reads' HO_3.out).1
   rw [hl3_1] at HO_3
   (try simp only [hl3_1])
   cases gk with
   | zero => exact absurd HA.out (by simp [Qao.l0])
   | succ k1 =>
    have H := HA.out
    clear HA
    simp only [Qao.l0] at H
    by_cases c7 : x12_1 < (y633.length : Int)
    ·rw [if_pos c7] at H
     have c7b0 : decide (x12_1 < (y633.length : Int)) = T := decide_eq_true c7
     clear c7
     (try simp only [c7b0])
     obtain ⟨y636, hy636⟩ : ∃ y_ : List Int, y_ = (([] : List Int)) := ⟨_, rfl⟩
     replace H : (if 0 ≤ x12_1 then (if x12_1 < (x3_1.length : Int) then (if y636.length + ((Qaa x3_1 x12_1).f1).length < 17592186044416 then ((some (y636 ++ ((Qaa x3_1 x12_1).f1) : List Int)).bind fun y640 => (Qao.l1 k1 x3_1 x12_1 y640 (y633.length : Int) x12_1 (y640.length : Int) 0)) else (none)) else (none)) else (none)) = some r := by first | (rw [hy636]; with_reducible exact H) | (have H2_ := (Option.bind_some _ _).symm.trans H; rw [hy636]; with_reducible exact H2_) | (have H2_ := (Option.bind_some _ _).symm.trans H; with_reducible exact H2_) | with_reducible exact H | (rw [hy636]; exact H) | exact H
     have Ny636 := Aside0.mk hy636
     clear hy636
     by_cases c8 : 0 ≤ x12_1
     ·rw [if_pos c8] at H
      have c8b0 : decide (0 ≤ x12_1) = T := decide_eq_true c8
      clear c8
      by_cases c9 : x12_1 < (x3_1.length : Int)
      ·rw [if_pos c9] at H
       have c9b0 : decide (x12_1 < (x3_1.length : Int)) = T := decide_eq_true c9
       clear c9
       by_cases c10 : y636.length + ((Qaa x3_1 x12_1).f1).length < 17592186044416
       ·rw [if_pos c10] at H
        have LMc10 := Aside0.mk c10
        clear c10
        obtain ⟨y640, hy640⟩ : ∃ y_ : List Int, y_ = (y636 ++ ((Qaa x3_1 x12_1).f1)) := ⟨_, rfl⟩
        replace H : (Qao.l1 k1 x3_1 x12_1 y640 (y633.length : Int) x12_1 (y640.length : Int) 0) = some r := by first | (rw [hy640]; with_reducible exact H) | (have H2_ := (Option.bind_some _ _).symm.trans H; rw [hy640]; with_reducible exact H2_) | (have H2_ := (Option.bind_some _ _).symm.trans H; with_reducible exact H2_) | with_reducible exact H | (rw [hy640]; exact H) | exact H
        have Ny640 := Aside0.mk hy640
        clear hy640
        have H' := Aside0.mk H
        clear H
        go_wp2_with (first | ((with_reducible refine QaX (N := 15) rfl ?_); refine Kd.R_lit (Kd.int .i64) _ 3 ?hg (N := 15) ?hd (xs := ([] : List Int)) (inner := []) (ok := fun _ => True) (okp := fun _ => True) ?hr ?hp (fun _ hk => hk) trivial (Below.refl _ _) (Nat.le_refl _) (by simp) ?_; (case hd => rfl); (case hg => rfl); (case hr => first | (go_simp; done) | (go_simp; rfl)); (case hp => exact (Reps.none _ _)); intro v637 w11 ho12 hb hg_ hnew_; clear hg_ hnew_; (first | rw [← Ny636.out] at ho12 | (simp only [Int.reduceToNat] at ho12; rw [← Ny636.out] at ho12)); have HO638 := Aside0.mk (Kd.R_lower (Kd.R_newM (M := fun k_ => (w.heap.size ≤ k_)) ho12 (Qau (Zb)) (fun k_ h_ => h_)) (Qau (Zb))); replace HO_3 := Aside0.mk (Kd.N_elder' (by (with_reducible repeat (first | apply Kd.N_alloc | apply Kd.N_drewN | apply Kd.N_drew)); exact HO_3.out) (Kd.R_base ho12) hb); replace HB := Aside0.mk (Qav (Zb) hb); clear hb ho12; have p639 : 0 ≤ (x12_1 : Int) := Ze; have q639 : x12_1 < (x3_1.length : Int) := Ze; obtain ⟨ad639, A639_4, c639_4, e639, hx639_0, hx639_1, hx639_2, hx639_3, hx639_4, hx639_5, hl639_4, hi639_4⟩ := Qbm (Kd.N_reads' HO_3.out).2.2 x12_1 p639 q639; cases e639; obtain ⟨ce639, hce639, hMe639, hcc639⟩ := Kd.N_get HO_3.out z128 x12_1 p639 (by first | exact q639 | exact Ze | (have e_ := (Kd.N_reads' HO_3.out).1; omega)); obtain ⟨ua639_4, uc639_4, rfl, ul639_4, ge639_4⟩ := Qbo hMe639; have hv639_4 := hcc639 4 _ rfl; rw [QaZ _ _ 4 (by omega)] at hv639_4; replace hv639_4 := Option.some.inj (hv639_4.symm.trans hx639_4); injection hv639_4 with hva_ hvn_ hvc_; rw [hva_] at ge639_4; rw [hvc_] at ul639_4; have HL639_4 := Aside0.mk (show Kd.V (Kd.int .i64) 3 _ w.heap.size _ _ ((Qaa x3_1 x12_1).f1) from Kd.V_mk ul639_4 ge639_4); clear hva_ hvn_ hvc_ ge639_4 ul639_4; clear hcc639 hce639; have HR639_4 := Aside0.mk hi639_4; have HC639_4 := Aside0.mk hl639_4; clear hi639_4 hl639_4; replace p639 := eq_true p639; replace q639 := eq_true q639) | ((with_reducible refine Qa9 (b := .append) (xs := #[.tmp 15, .tmp 20]) rfl ?_); at_builtin; refine Kd.R_append_rows (Kd.int .i64) (w0 := w) w.heap.size rfl (.tmp 15) (.tmp 20) 32 3 (.int .i64 0) 8 rfl Try.underlying32 info3 rfl (by decide) (by omega) v637 y636 ((Qaa x3_1 x12_1).f1) _ _ _ (fun k_ => (w.heap.size ≤ k_)) (fun _ => False) rfl rfl ?aO ?aR (fun _ _ h => h) (fun _ h => h.elim) ?aF ?aB ?aS ?aL ?_; (case aR => repeat (first | exact (by repeat (first | (with_reducible exact HR639_4.out) | (with_reducible refine Kd.C_alloc ?_ _) | (with_reducible refine Kd.C_drewN ?_ _) | (with_reducible refine Kd.C_drew ?_) | exact HR639_4.out)) | (with_reducible refine Kd.C_alloc ?_ _) | (with_reducible refine Kd.C_drewN ?_ _) | (with_reducible refine Kd.C_drew ?_))); (case aB => exact (Zb)); (case aF => exact (fun k_ hk => (Nat.le_trans (Qau (Zb)) hk))); (case aO => exact (by (with_reducible repeat (first | apply Kd.R_alloc | apply Kd.R_drewN | apply Kd.R_drew)); exact Kd.R_mono HO638.out (fun _ hk => hk.1))); (case aS => exact (Qau (Zb))); (case aL => have := LMc10.out; omega); intro v641 w13 ho hb hg hat; rw [← Ny640.out] at ho; have HO642 := Aside0.mk (ho); replace HO_3 := Aside0.mk (Kd.N_afterv (ok := (fun k_ => (P0_ k_ ∨ w.heap.size ≤ k_))) (by (with_reducible repeat (first | apply Kd.N_alloc | apply Kd.N_drewN | apply Kd.N_drew)); exact HO_3.out) hg hat); replace HL639_4 := Aside0.mk (Kd.V_afterv (ok := (fun k_ => (P0_ k_ ∨ w.heap.size ≤ k_) ∧ some k_ ≠ (.slice (some ad639) x3_1.length co6 : Value).ownBlock)) (by (with_reducible repeat (first | apply Kd.V_alloc | apply Kd.V_drewN | apply Kd.V_drew)); exact Kd.V_mono HL639_4.out (fun _ hk => ⟨⟨hk.1.1, hk.2⟩, hk.1.2⟩)) hg hat); replace HB := Aside0.mk (hb); clear HO638; clear ho hb hg hat; obtain ⟨Ao14, co14, eo14⟩ := Kd.R_slice HO642.out; subst eo14))
        go_loopg [24] k1 (fun kq v24 w' => ∃ (x5_2 : List Int) (x24_2 : Int), v24 = .int .i64 x24_2 ∧ Aside0 (Qao.l1 kq x3_1 x12_1 x5_2 (y633.length : Int) x12_1 (y640.length : Int) x24_2 = some r) ∧ Aside0 (kq ≤ k1) ∧ Aside0 (Kd.N k128 128 w' w.heap.size (fun k_ => (P0_ k_ ∨ w.heap.size ≤ k_) ∧ some k_ ≠ ((.slice Ao14 y640.length co14) : Value).ownBlock) (.slice (some ad639) x3_1.length co6) x3_1) ∧ Aside0 (Kd.R (Kd.int .i64) 3 w' w.heap.size (fun k_ => (w.heap.size ≤ k_)) (.slice Ao14 y640.length co14) x5_2) ∧ Aside0 (Below w.heap.size w w'))
        case atStart => exact ⟨(y640), (0), (Zs), H', ⟨Nat.le_refl _⟩, ⟨by (try simp only [hl3_1]); (with_reducible repeat (first | apply Kd.N_alloc | apply Kd.N_drewN | apply Kd.N_drew)); exact HO_3.out⟩, ⟨by (try simp only [hl3_1]); (with_reducible repeat (first | apply Kd.R_alloc | apply Kd.R_drewN | apply Kd.R_drew)); exact HO642.out⟩, ⟨Zb⟩⟩
        case round =>
         clear H'
         try clear c1
         try clear c2
         try clear p2
         try clear c6
         try clear p6
         try clear q6
         try clear hx6
         try clear c7
         try clear c7b0
         try clear c8
         try clear c8b0
         try clear c9
         try clear c9b0
         try clear c10
         try clear hx639_0
         try clear hx639_1
         try clear hx639_2
         try clear hx639_3
         try clear hx639_4
         try clear hx639_5
         try clear p2
         try clear p639
         try clear q639
         obtain ⟨x5_2, x24_2, rfl, HA, HK2, HO_3, HO_5, HB⟩ := hrel
         have hl5_2 := (Kd.R_reads' HO_5.out).1
         rw [hl5_2] at HO_5
         (try simp only [hl5_2])
         (try simp only [hl5_2] at HO_3)
         cases gk with
         | zero => exact absurd HA.out (by simp [Qao.l1])
         | succ k2 =>
          have H := HA.out
          clear HA
          simp only [Qao.l1] at H
          by_cases c15 : x24_2 < (y640.length : Int)
          ·rw [if_pos c15] at H
           have c15b0 : decide (x24_2 < (y640.length : Int)) = T := decide_eq_true c15
           clear c15
           (try simp only [c15b0])
           by_cases c16 : 0 ≤ x24_2
           ·rw [if_pos c16] at H
            have c16b0 : decide (0 ≤ x24_2) = T := decide_eq_true c16
            clear c16
            by_cases c17 : x24_2 < (x5_2.length : Int)
            ·rw [if_pos c17] at H
             have c17b0 : decide (x24_2 < (x5_2.length : Int)) = T := decide_eq_true c17
             clear c17
             obtain ⟨y644, hy644⟩ : ∃ y_ : List Int, y_ = (x5_2.set (x24_2 : Int).toNat (Int.tmod (rd x5_2 x24_2) 100000)) := ⟨_, rfl⟩
             replace H : (Qao.l1 k2 x3_1 x12_1 y644 (y633.length : Int) x12_1 (y640.length : Int) (wrap64 (x24_2 + 1))) = some r := by first | (rw [hy644]; with_reducible exact H) | (have H2_ := (Option.bind_some _ _).symm.trans H; rw [hy644]; with_reducible exact H2_) | (have H2_ := (Option.bind_some _ _).symm.trans H; with_reducible exact H2_) | with_reducible exact H | (rw [hy644]; exact H) | exact H
             have Ny644 := Aside0.mk hy644
             clear hy644
             have H' := Aside0.mk H
             clear H
             have p643 : 0 ≤ (x24_2 : Int) := Ze
             have q643 : x24_2 < (x5_2.length : Int) := Ze
             obtain ⟨ad643, e643, hx643_0⟩ := Kd.at_int (Kd.R_reads' HO_5.out).2.2 x24_2 p643 q643
             cases e643
             replace p643 := eq_true p643
             replace q643 := eq_true q643
             have p18 : 0 ≤ (x24_2 : Int) := Ze
             have q18 : (x24_2 : Int) < ((x5_2.length : Int) : Int) := Ze
             obtain ⟨go18, co18, eo18, gb18, gl18, cl18, HG18⟩ := Kd.R_form HO_5.out (by omega)
             (first | cases eo18 | (injection eo18 with ea_ en_ ec_; (first | subst ea_ | (injection ea_ with ea_; subst ea_)); subst ec_; clear en_))
             have GB18 := Aside0.mk gb18
             have GG18 := Aside0.mk HG18
             clear gb18 gl18 HG18
             (first | simp only [QaT] at hx643_0 | skip)
             obtain ⟨hx18_0, hf18_0⟩ := Kd.R_celln 0 HO_5.out (x24_2 : Int) p18 q18
             replace p18 := eq_true p18
             replace q18 := eq_true q18
             have HP19 := Kd.R_putg HO_5.out (x24_2 : Int) (Int.tmod (rd x5_2 x24_2) 100000)
             go_wp2_with (first | ((with_reducible refine Qba (t := 3) (p := 34) rfl ?_); refine Qa6 (t := 3) (p := 34) (v := ?vo_w20) (w1 := (wr.setCell ⟨go18, (x24_2 : Int).toNat, none⟩ (.int .i64 (Int.tmod (rd x5_2 x24_2) 100000)))) ?hg ?ho ?hn ?hr ?_; (case ho => rfl); (case hg => rfl); (case hn => rfl); (case hr => first | (go_simp; done) | (go_simp; rfl)); intro w20 hw; have hg : wr.grownBy w20 (some go18) := (by rw [hw]; exact HP19.2); have hp_ : Kd.R (Kd.int .i64) 3 w20 w.heap.size (fun k_ => (w.heap.size ≤ k_)) (.slice (some ⟨go18, 0, none⟩) x5_2.length co14) y644 := (by rw [hw, Ny644.out]; exact HP19.1); clear HP19; replace HO_3 := Aside0.mk (Kd.N_afterv (v := (.slice (some ⟨go18, 0, none⟩) x5_2.length co14)) (v1 := (.slice (some ⟨go18, 0, none⟩) x5_2.length co14)) (ok := (fun k_ => (P0_ k_ ∨ w.heap.size ≤ k_))) (by (with_reducible repeat (first | apply Kd.N_alloc | apply Kd.N_drewN | apply Kd.N_drew)); exact HO_3.out) hg (.inl rfl)); replace HO_5 := Aside0.mk (hp_); replace HB := Aside0.mk ((by rw [hw]; exact Qam (HB.out) GB18.out : Below w.heap.size w w20)); clear hg hw hp_))
             (try simp only [← hl5_2])
             go_roundg k2
             case measure => have := HK1.out; have := HK2.out; omega
             case rel => exact ⟨(y644), (wrap64 (x24_2 + 1)), (Zs), H', ⟨by have := HK1.out; have := HK2.out; omega⟩, ⟨by (try simp only [hl3_1]); (try simp only [hl5_2]); (with_reducible repeat (first | apply Kd.N_alloc | apply Kd.N_drewN | apply Kd.N_drew)); exact HO_3.out⟩, ⟨by (try simp only [hl3_1]); (try simp only [hl5_2]); (with_reducible repeat (first | apply Kd.R_alloc | apply Kd.R_drewN | apply Kd.R_drew)); exact HO_5.out⟩, ⟨Zb⟩⟩
            rw [if_neg c17] at H
            exact absurd H (by simp)
           rw [if_neg c16] at H
           exact absurd H (by simp)
          rw [if_neg c15] at H
          have c15b0 : decide (x24_2 < (y640.length : Int)) = E := decide_eq_false c15
          (try simp only [hl5_2] at c15b0)
          clear c15
          (try simp only [c15b0])
          by_cases c21 : 0 ≤ x12_1
          ·rw [if_pos c21] at H
           have c21b0 : decide (0 ≤ x12_1) = T := decide_eq_true c21
           clear c21
           by_cases c22 : x12_1 < (x3_1.length : Int)
           ·rw [if_pos c22] at H
            have c22b0 : decide (x12_1 < (x3_1.length : Int)) = T := decide_eq_true c22
            clear c22
            obtain ⟨y645, hy645⟩ : ∃ y_ : List (S128), y_ = (x3_1.set (x12_1 : Int).toNat (⟨(⟨(Qaa x3_1 x12_1).f0.f0, (Qaa x3_1 x12_1).f0.f1, (Qaa x3_1 x12_1).f0.f2, (Qaa x3_1 x12_1).f0.f3⟩ : S69), x5_2, (Qaa x3_1 x12_1).f2⟩ : S128)) := ⟨_, rfl⟩
            replace H : (Qao.l0 k2 y645 (y633.length : Int) (wrap64 (x12_1 + 1))) = some r := by first | (rw [hy645]; with_reducible exact H) | (have H2_ := (Option.bind_some _ _).symm.trans H; rw [hy645]; with_reducible exact H2_) | (have H2_ := (Option.bind_some _ _).symm.trans H; with_reducible exact H2_) | with_reducible exact H | (rw [hy645]; exact H) | exact H
            have Ny645 := Aside0.mk hy645
            clear hy645
            have H' := Aside0.mk H
            clear H
            have p23 : 0 ≤ (x12_1 : Int) := Ze
            have q23 : (x12_1 : Int) < ((x3_1.length : Int) : Int) := Ze
            obtain ⟨go23, co23, eo23, gb23, gl23, cl23, HG23⟩ := Kd.N_form HO_3.out (by omega)
            (first | cases eo23 | (injection eo23 with ea_ en_ ec_; (first | subst ea_ | (injection ea_ with ea_; subst ea_)); subst ec_; clear en_))
            have GB23 := Aside0.mk gb23
            have GG23 := Aside0.mk HG23
            clear gb23 gl23 HG23
            (first | simp only [QaT] at hx639_0 | skip)
            (first | simp only [QaT] at hx639_1 | skip)
            (first | simp only [QaT] at hx639_2 | skip)
            (first | simp only [QaT] at hx639_3 | skip)
            (first | simp only [QaT] at hx639_4 | skip)
            (first | simp only [QaT] at hx639_5 | skip)
            obtain ⟨ce23, hcl23, hM23, hcc23, hfr23⟩ := Kd.N_elem HO_3.out z128 (x12_1 : Int) p23 q23
            obtain ⟨ua23_4, uc23_4, rfl, ul23_4, ge23_4⟩ := Qbo hM23
            have hx23_0 : wr.cell? ⟨go23, (x12_1 : Int).toNat * 6, none⟩ = some (.string ((Qaa x3_1 x12_1).f0.f0)) := hcc23 0 _ rfl
            have hx23_1 : wr.cell? ⟨go23, (x12_1 : Int).toNat * 6 + 1, none⟩ = some (.int .i64 ((Qaa x3_1 x12_1).f0.f1)) := hcc23 1 _ rfl
            have hx23_2 : wr.cell? ⟨go23, (x12_1 : Int).toNat * 6 + 2, none⟩ = some (.int .i64 ((Qaa x3_1 x12_1).f0.f2)) := hcc23 2 _ rfl
            have hx23_3 : wr.cell? ⟨go23, (x12_1 : Int).toNat * 6 + 3, none⟩ = some (.int .i64 ((Qaa x3_1 x12_1).f0.f3)) := hcc23 3 _ rfl
            have hx23_4 : wr.cell? ⟨go23, (x12_1 : Int).toNat * 6 + 4, none⟩ = some (.slice ua23_4 ((Qaa x3_1 x12_1).f1).length uc23_4) := hcc23 4 _ rfl
            have hx23_5 : wr.cell? ⟨go23, (x12_1 : Int).toNat * 6 + 5, none⟩ = some (.int .i64 ((Qaa x3_1 x12_1).f2)) := hcc23 5 _ rfl
            have hf23_0 : wr.frozen? ⟨go23, (x12_1 : Int).toNat * 6, none⟩ = E := hfr23 0
            have hf23_1 : wr.frozen? ⟨go23, (x12_1 : Int).toNat * 6 + 1, none⟩ = E := hfr23 1
            have hf23_2 : wr.frozen? ⟨go23, (x12_1 : Int).toNat * 6 + 2, none⟩ = E := hfr23 2
            have hf23_3 : wr.frozen? ⟨go23, (x12_1 : Int).toNat * 6 + 3, none⟩ = E := hfr23 3
            have hf23_4 : wr.frozen? ⟨go23, (x12_1 : Int).toNat * 6 + 4, none⟩ = E := hfr23 4
            have hf23_5 : wr.frozen? ⟨go23, (x12_1 : Int).toNat * 6 + 5, none⟩ = E := hfr23 5
            clear hcl23 hcc23 hfr23 hM23
            replace p23 := eq_true p23
            replace q23 := eq_true q23
            have HX24 := Aside0.mk (show Kd.N k128 128 wr w.heap.size (fun k_ => (P0_ k_ ∨ w.heap.size ≤ k_)) (.slice (some ⟨go23, 0, none⟩) x3_1.length co6) x3_1 from (by (with_reducible repeat (first | apply Kd.N_alloc | apply Kd.N_drewN | apply Kd.N_drew)); exact Kd.N_mono HO_3.out (fun _ hk => hk.1)))
            obtain ⟨ce24, hcl24, hM24, hcc24, hfr24⟩ := Kd.N_elem HX24.out z128 (x12_1 : Int) (Ze) (by have h_ : (x12_1 : Int) < ((x3_1.length : Int) : Int) := Ze; first | exact h_ | (have e_ := (Kd.N_reads' HO_3.out).1; omega) | simpa using h_)
            obtain ⟨ua24_4, uc24_4, rfl, ul24_4, ge24_4⟩ := Qbo hM24
            have HP24 := Kd.N_seg HX24.out (x12_1 : Int) (Ze) (by have h_ : (x12_1 : Int) < ((x3_1.length : Int) : Int) := Ze; first | exact h_ | (have e_ := (Kd.N_reads' HO_3.out).1; omega) | simpa using h_) (seg := [.slice Ao14 x5_2.length co14]) (j := 4) hcl24 hcc24 (show 5 ≤ 6 from by decide) (x' := (⟨(⟨(Qaa x3_1 x12_1).f0.f0, (Qaa x3_1 x12_1).f0.f1, (Qaa x3_1 x12_1).f0.f2, (Qaa x3_1 x12_1).f0.f3⟩ : S69), x5_2, (Qaa x3_1 x12_1).f2⟩ : S128)) (Qdq _ _ (⟨(⟨(Qaa x3_1 x12_1).f0.f0, (Qaa x3_1 x12_1).f0.f1, (Qaa x3_1 x12_1).f0.f2, (Qaa x3_1 x12_1).f0.f3⟩ : S69), x5_2, (Qaa x3_1 x12_1).f2⟩ : S128) (Kd.R_reads' (Kd.R_mono (ok' := (fun k_ => ((fun k_ => (P0_ k_ ∨ w.heap.size ≤ k_))) k_ ∧ k_ ≠ go23)) (Kd.R_apart' (HO_5.out) (Kd.N_typed HO_3.out) (by decide)) (fun k_ hk => ⟨(.inr (hk.1)), fun e_ => (hk.2) (by rw [e_]; rfl)⟩))).2.1 (Kd.R_F (Kd.R_mono (ok' := (fun k_ => ((fun k_ => (P0_ k_ ∨ w.heap.size ≤ k_))) k_ ∧ k_ ≠ go23)) (Kd.R_apart' (HO_5.out) (Kd.N_typed HO_3.out) (by decide)) (fun k_ hk => ⟨(.inr (hk.1)), fun e_ => (hk.2) (by rw [e_]; rfl)⟩)))) (fun _ hk => hk)
            have hx24_4 := hcc24 4 _ rfl
            (try simp only [show (k128).sz = 6 from rfl, Nat.mul_one, Nat.add_zero] at hx24_4)
            have hf24_4 := hfr24 4
            (try simp only [show (k128).sz = 6 from rfl, Nat.mul_one, Nat.add_zero] at hf24_4)
            clear hcl24 hcc24 hfr24 hM24
            go_wp2_with (first | ((with_reducible refine Qba (t := 32) (p := 40) rfl ?_); refine Qa6 (t := 32) (p := 40) (v := ?vo_w25) (w1 := (wr.setCell ⟨go23, (x12_1 : Int).toNat * 6 + 4, none⟩ (.slice Ao14 x5_2.length co14))) ?hg ?ho ?hn ?hr ?_; (case ho => rfl); (case hg => rfl); (case hn => rfl); (case hr => first | (go_simp; done) | (go_simp; rfl)); intro w25 hw; have hg : wr.grownBy w25 (some go23) := (by rw [hw]; exact HP24.2); have hp_ : Kd.N k128 128 w25 w.heap.size (fun k_ => (P0_ k_ ∨ w.heap.size ≤ k_)) (.slice (some ⟨go23, 0, none⟩) x3_1.length co6) y645 := (by rw [hw, Ny645.out]; exact HP24.1); clear HP24; replace HO_3 := Aside0.mk (hp_); replace HB := Aside0.mk ((by rw [hw]; exact Qam (HB.out) GB23.out : Below w.heap.size w w25)); clear HO_5; clear hg hw hp_))
            (try simp only [← hl3_1, ← hl5_2])
            go_roundg k2
            case measure => have := HK1.out; have := HK2.out; omega
            case rel => exact ⟨(y645), (wrap64 (x12_1 + 1)), (Zs), H', ⟨by have := HK1.out; have := HK2.out; omega⟩, ⟨by (try simp only [hl3_1]); (try simp only [hl5_2]); (with_reducible repeat (first | apply Kd.N_alloc | apply Kd.N_drewN | apply Kd.N_drew)); exact HO_3.out⟩, ⟨Zb⟩⟩
           rw [if_neg c22] at H
           exact absurd H (by simp)
          rw [if_neg c21] at H
          exact absurd H (by simp)
       rw [if_neg c10] at H
       exact absurd H (by simp)
      rw [if_neg c9] at H
      exact absurd H (by simp)
     rw [if_neg c8] at H
     exact absurd H (by simp)
    rw [if_neg c7] at H
    have c7b0 : decide (x12_1 < (y633.length : Int)) = E := decide_eq_false c7
    (try simp only [hl3_1] at c7b0)
    clear c7
    (try simp only [c7b0])
    obtain rfl := Option.some.inj H
    go_wp2
    go_ret
    exact ⟨_, Zq, by (with_reducible repeat (first | apply Kd.N_alloc | apply Kd.N_drewN | apply Kd.N_drew)); exact HO_3.out, Zb⟩
 rw [if_neg c2] at H
 exact absurd H (by simp)
def QaC.l0 : Nat → List (S128) → List ByteArray → List Int → List (List (S71)) → Int → Int → Option (List ByteArray × List Int × Int)
 | 0, _, _, _, _, _, _ => none
 | k + 1, x1, x4, x5, x27, x28, x29 => if x29 < x28 then (if 0 ≤ x29 then (if x29 < (x27.length : Int) then ((Qaw.f k (rd_L7 x27 x29) x1).bind fun bt655 => (if bt655.2 = 0 then (if x5.length < 17592186044416 then (QaC.l0 k x1 x4 (x5 ++ [bt655.1]) x27 x28 (wrap64 (x29 + 1))) else (none)) else (some (([] : List ByteArray), ([] : List Int), bt655.2)))) else (none)) else (none)) else (some (x4, x5, 0))
def QaC.f (k : Nat) (l0 : List (S71)) (l1 : List (S128)) : Option (List ByteArray × List Int × Int) := (Qan.f k l1).bind fun t646 => (if t646 = 0 then ((Qal.f k l0).bind fun t647 => (if t647 = 0 then ((Qap.f k l0).bind fun bt648 => (QaC.l0 k l1 bt648.1 ([] : List Int) bt648.2 (bt648.2.length : Int) 0)) else (some (([] : List ByteArray), ([] : List Int), t647)))) else (some (([] : List ByteArray), ([] : List Int), t646)))
theorem QaC.mono_l : ∀ k, (∀ y0 y1 y2 y3 y4 y5, LeO (QaC.l0 k y0 y1 y2 y3 y4 y5) (QaC.l0 (k + 1) y0 y1 y2 y3 y4 y5))
 | 0 => fun _ _ _ _ _ _ r h => by simp [QaC.l0] at h
 | k + 1 => by
  have ih0 := QaC.mono_l k
  intro y0 y1 y2 y3 y4 y5
  unfold QaC.l0
  exact ZM5 ih0 Qal.mono Qan.mono Qaw.mono Qap.mono
theorem QaC.mono : ∀ a0 a1 k, LeO (QaC.f k a0 a1) (QaC.f (k + 1) a0 a1) := by
 intro a0 a1 k
 have ih0 := QaC.mono_l k
 unfold QaC.f
 exact ZM5 ih0 Qal.mono Qan.mono Qaw.mono Qap.mono
set_option maxHeartbeats 8000000 in
theorem QaC.calls (k : Nat) (A0 : Option Addr) (c0 : Nat) (l0 : List (S71)) (A1 : Option Addr) (c1 : Nat) (l1 : List (S128)) (r1 : List ByteArray) (r2 : List Int) (r3 : Int) (w : World) (hr0 : Kd.C k71 w A0 l0.length l0) (hc0 : l0.length ≤ c0) (hr1 : Kd.C k128 w A1 l1.length l1) (hc1 : l1.length ≤ c1) (h : QaC.f k l0 l1 = some (r1, r2, r3)) :
  Calls Try.prog 27 #[.slice A0 l0.length c0, .slice A1 l1.length c1] w fun e w' => ∃ v0_ v1_ : Value, e = .returned (.tuple #[v0_, v1_, .int .i64 r3]) ∧ Kd.R Kd.string 9 w' w.heap.size (fun _ => True) v0_ r1 ∧ Kd.R (Kd.int .i64) 3 w' w.heap.size (fun _ => True) v1_ r2 ∧ Below w.heap.size w w' := by
 have HR0 := Aside0.mk hr0
 have HC0 := Aside0.mk hc0
 clear hr0 hc0
 have HR1 := Aside0.mk hr1
 have HC1 := Aside0.mk hc1
 clear hr1 hc1
 have HB := Aside0.mk (Below.refl w.heap.size w)
 have H : ((Qan.f k l1).bind fun t646 => (if t646 = 0 then ((Qal.f k l0).bind fun t647 => (if t647 = 0 then ((Qap.f k l0).bind fun bt648 => (QaC.l0 k l1 bt648.1 ([] : List Int) bt648.2 (bt648.2.length : Int) 0)) else (some (([] : List ByteArray), ([] : List Int), t647)))) else (some (([] : List ByteArray), ([] : List Int), t646)))) = some (r1, r2, r3) := h
 clear h
 replace H := Option.bind_eq_some_iff.mp H
 obtain ⟨t646, A30, H⟩ := H
 replace H : (if t646 = 0 then ((Qal.f k l0).bind fun t647 => (if t647 = 0 then ((Qap.f k l0).bind fun bt648 => (QaC.l0 k l1 bt648.1 ([] : List Int) bt648.2 (bt648.2.length : Int) 0)) else (some (([] : List ByteArray), ([] : List Int), t647)))) else (some (([] : List ByteArray), ([] : List Int), t646))) = some (r1, r2, r3) := H
 have A3 := Aside0.mk A30
 clear A30
 go_enter Try.func27, Try.ntmps27
 go_upto_if 15 with (first | ((with_reducible refine QaF (f := 74) rfl ?_); refine goesL_ (some 13) rfl rfl Try.func74 (by kernel_rfl) rfl #[.slice A1 l1.length c1] rfl (Zl) ?_; (with_reducible refine (Qan.calls k _ _ l1 t646 _ ?side1 ?side2 A3.out).mono ?_); (case side1 => exact Zv HR1.out); (case side2 => exact HC1.out); rintro e w4 ⟨rfl, hb⟩; refine ⟨_, rfl, ?_⟩; replace HB := Aside0.mk (Qav (Zb) hb); (try clear hb); (try clear hb2); (try clear hk); (try clear hi)))
 (try simp only [Act.put, Zj, Zk, Zm])
 by_cases c5 : t646 = 0
 ·rw [if_pos c5] at H
  have c5b0 : (t646 == 0) = T := beq_iff_eq.mpr c5
  have c5b1 : (t646 != 0) = E := bne_eq_false_iff_eq.mpr c5
  clear c5
  (try simp only [c5b0, c5b1])
  replace H := Option.bind_eq_some_iff.mp H
  obtain ⟨t647, A60, H⟩ := H
  replace H : (if t647 = 0 then ((Qap.f k l0).bind fun bt648 => (QaC.l0 k l1 bt648.1 ([] : List Int) bt648.2 (bt648.2.length : Int) 0)) else (some (([] : List ByteArray), ([] : List Int), t647))) = some (r1, r2, r3) := H
  have A6 := Aside0.mk A60
  clear A60
  go_upto_if 20 with (first | ((with_reducible refine QaF (f := 9) rfl ?_); refine goesL_ (some 18) rfl rfl Try.func9 (by kernel_rfl) rfl #[.slice A0 l0.length c0] rfl (Zl) ?_; (with_reducible refine (Qal.calls k _ _ l0 t647 _ ?side1 ?side2 A6.out).mono ?_); (case side1 => exact Zv (Kd.C_below HR0.out HB.out)); (case side2 => exact HC0.out); rintro e w7 ⟨rfl, hb⟩; refine ⟨_, rfl, ?_⟩; replace HB := Aside0.mk (Qav (Zb) hb); (try clear hb); (try clear hb2); (try clear hk); (try clear hi)))
  (try simp only [Act.put, Zj, Zk, Zm])
  by_cases c8 : t647 = 0
  ·rw [if_pos c8] at H
   have c8b0 : (t647 == 0) = T := beq_iff_eq.mpr c8
   have c8b1 : (t647 != 0) = E := bne_eq_false_iff_eq.mpr c8
   clear c8
   (try simp only [c8b0, c8b1])
   replace H := Option.bind_eq_some_iff.mp H
   obtain ⟨⟨t648, t649⟩, A90, H⟩ := H
   replace H : (QaC.l0 k l1 t648 ([] : List Int) t649 (t649.length : Int) 0) = some (r1, r2, r3) := H
   have A9 := Aside0.mk A90
   clear A90
   have H' := Aside0.mk H
   clear H
   go_wp2_with (first | ((with_reducible refine QaF (f := 14) rfl ?_); refine goesL_ (some 24) rfl rfl Try.func14 (by kernel_rfl) rfl #[.slice A0 l0.length c0] rfl (Zl) ?_; (with_reducible refine (Qap.calls k _ _ l0 t648 t649 _ ?side1 ?side2 A9.out).mono ?_); (case side1 => exact Zv (Kd.C_below HR0.out HB.out)); (case side2 => exact HC0.out); rintro e w10 ⟨v650, v652, rfl, ho0, ho1, hb⟩; refine ⟨_, rfl, ?_⟩; have HO651 := Aside0.mk (Kd.R_lower ho0 (Qau (Zb))); have HO653 := Aside0.mk (Kd.S_lower ho1 (Qau (Zb))); replace HB := Aside0.mk (Qav (Zb) hb); (try clear hb); (try clear hb2); (try clear hk); (try clear hi); (try clear ho0); (try clear ho1); obtain ⟨Ao11, co11, eo11⟩ := Kd.S_slice HO653.out; subst eo11))
   go_loopg [4, 5, 29] k (fun kq v4 v5 v29 w' => ∃ (x4_1 : List ByteArray) (x5_1 : List Int) (x29_1 : Int), v29 = .int .i64 x29_1 ∧ Aside0 (QaC.l0 kq l1 x4_1 x5_1 t649 (t649.length : Int) x29_1 = some (r1, r2, r3)) ∧ Aside0 (kq ≤ k) ∧ Aside0 (Kd.R Kd.string 9 w' w.heap.size (fun _ => True) v4 x4_1) ∧ Aside0 (Kd.R (Kd.int .i64) 3 w' w.heap.size (fun _ => True) v5 x5_1) ∧ Aside0 (Kd.S (Kd.slice 71 k71) 22 w' w.heap.size (fun _ => True) (.slice Ao11 t649.length co11) t649) ∧ Aside0 (Below w.heap.size w w'))
   case atStart => exact ⟨(t648), (([] : List Int)), (0), (Zs), H', ⟨Nat.le_refl _⟩, ⟨Zr HO651.out⟩, ⟨by first | exact Kd.R_nil _ _ _ _ _ | exact Kd.N_nil _ _ _ _ _ | exact Kd.V_nil _ _ _ _ _ | exact Kd.Q_nil _ _ _ _ _ | exact Kd.S_nil _ _ _ _ _⟩, ⟨by (with_reducible repeat (first | apply Kd.S_alloc | apply Kd.S_drewN | apply Kd.S_drew)); exact HO653.out⟩, ⟨Zb⟩⟩
   case round =>
    clear H'
    try clear c1
    try clear c2
    try clear p2
    try clear c5
    try clear c5b0
    try clear c5b1
    try clear c7
    try clear c8
    try clear c8b0
    try clear c8b1
    try clear c9
    obtain ⟨x4_1, x5_1, x29_1, rfl, HA, HK1, HO_4, HO_5, HO_27, HB⟩ := hrel
    cases gk with
    | zero => exact absurd HA.out (by simp [QaC.l0])
    | succ k1 =>
     have H := HA.out
     clear HA
     simp only [QaC.l0] at H
     by_cases c12 : x29_1 < (t649.length : Int)
     ·rw [if_pos c12] at H
      have c12b0 : decide (x29_1 < (t649.length : Int)) = T := decide_eq_true c12
      clear c12
      (try simp only [c12b0])
      by_cases c13 : 0 ≤ x29_1
      ·rw [if_pos c13] at H
       have c13b0 : decide (0 ≤ x29_1) = T := decide_eq_true c13
       clear c13
       by_cases c14 : x29_1 < (t649.length : Int)
       ·rw [if_pos c14] at H
        have c14b0 : decide (x29_1 < (t649.length : Int)) = T := decide_eq_true c14
        clear c14
        replace H := Option.bind_eq_some_iff.mp H
        obtain ⟨⟨t655, t656⟩, A150, H⟩ := H
        replace H : (if t656 = 0 then (if x5_1.length < 17592186044416 then (QaC.l0 k1 l1 x4_1 (x5_1 ++ [t655]) t649 (t649.length : Int) (wrap64 (x29_1 + 1))) else (none)) else (some (([] : List ByteArray), ([] : List Int), t656))) = some (r1, r2, r3) := H
        have A15 := Aside0.mk A150
        clear A150
        have p654 : 0 ≤ (x29_1 : Int) := Ze
        have q654 : x29_1 < (t649.length : Int) := Ze
        obtain ⟨ad654, A654_0, c654_0, e654, hx654_0, hl654_0, hi654_0⟩ := at_L7 (Kd.S_reads' HO_27.out).2.2 x29_1 p654 q654
        cases e654
        obtain ⟨ce654, hce654, hMe654, hcc654⟩ := Kd.S_get HO_27.out [] x29_1 p654 (by first | exact q654 | exact Ze | (have e_ := (Kd.S_reads' HO_27.out).1; omega))
        obtain ⟨ve654_0, rfl, ge654_0⟩ := hMe654
        have hv654_0 := hcc654 0 _ rfl
        rw [Nat.add_zero, show ((Kd.slice 71 k71)).sz = 1 from rfl, Nat.mul_one] at hv654_0
        replace hv654_0 := Option.some.inj (hv654_0.symm.trans hx654_0)
        rw [hv654_0] at ge654_0
        have HL654_0 := Aside0.mk (show Kd.R k71 71 _ _ _ _ (rd_L7 t649 x29_1) from ge654_0)
        clear hv654_0 ge654_0
        clear hcc654 hce654
        have HR654_0 := Aside0.mk hi654_0
        have HC654_0 := Aside0.mk hl654_0
        clear hi654_0 hl654_0
        replace p654 := eq_true p654
        replace q654 := eq_true q654
        go_upto_if 40 with (first | ((with_reducible refine QaF (f := 16) rfl ?_); refine goesL_ (some 36) rfl rfl Try.func16 (by kernel_rfl) rfl #[.slice A654_0 (rd_L7 t649 x29_1).length c654_0, .slice A1 l1.length c1] rfl (Zl) ?_; (with_reducible refine (Qaw.calls k1 _ _ (rd_L7 t649 x29_1) _ _ l1 t655 t656 _ ?side1 ?side2 ?side3 ?side4 A15.out).mono ?_); (case side1 => repeat (first | exact (by repeat (first | (with_reducible exact HR654_0.out) | (with_reducible refine Kd.C_alloc ?_ _) | (with_reducible refine Kd.C_drewN ?_ _) | (with_reducible refine Kd.C_drew ?_) | exact HR654_0.out)) | (with_reducible refine Kd.C_alloc ?_ _) | (with_reducible refine Kd.C_drewN ?_ _) | (with_reducible refine Kd.C_drew ?_))); (case side2 => exact HC654_0.out); (case side3 => exact Zv (Kd.C_below HR1.out HB.out)); (case side4 => exact HC1.out); rintro e w16 ⟨rfl, hb⟩; refine ⟨_, rfl, ?_⟩; replace HO_4 := Aside0.mk (Kd.R_below (Zr HO_4.out) hb); replace HO_5 := Aside0.mk (Kd.R_below (Zr HO_5.out) hb); replace HO_27 := Aside0.mk (Kd.S_below (by (with_reducible repeat (first | apply Kd.S_alloc | apply Kd.S_drewN | apply Kd.S_drew)); exact HO_27.out) hb); replace HL654_0 := Aside0.mk (Kd.R_below (by (with_reducible repeat (first | apply Kd.R_alloc | apply Kd.R_drewN | apply Kd.R_drew)); exact HL654_0.out) hb); replace HR654_0 := Aside0.mk (Kd.C_below (by repeat (first | (with_reducible exact HR654_0.out) | (with_reducible refine Kd.C_alloc ?_ _) | (with_reducible refine Kd.C_drewN ?_ _) | (with_reducible refine Kd.C_drew ?_) | exact HR654_0.out)) hb); replace HB := Aside0.mk (Qav (Zb) hb); (try clear hb); (try clear hb2); (try clear hk); (try clear hi)))
        (try simp only [Act.put, Zj, Zk, Zm])
        by_cases c17 : t656 = 0
        ·rw [if_pos c17] at H
         have c17b0 : (t656 == 0) = T := beq_iff_eq.mpr c17
         have c17b1 : (t656 != 0) = E := bne_eq_false_iff_eq.mpr c17
         clear c17
         (try simp only [c17b0, c17b1])
         by_cases c18 : x5_1.length < 17592186044416
         ·rw [if_pos c18] at H
          have LMc18 := Aside0.mk c18
          clear c18
          obtain ⟨y657, hy657⟩ : ∃ y_ : List Int, y_ = (x5_1 ++ [t655]) := ⟨_, rfl⟩
          replace H : (QaC.l0 k1 l1 x4_1 y657 t649 (t649.length : Int) (wrap64 (x29_1 + 1))) = some (r1, r2, r3) := by first | (rw [hy657]; with_reducible exact H) | (have H2_ := (Option.bind_some _ _).symm.trans H; rw [hy657]; with_reducible exact H2_) | (have H2_ := (Option.bind_some _ _).symm.trans H; with_reducible exact H2_) | with_reducible exact H | (rw [hy657]; exact H) | exact H
          have Ny657 := Aside0.mk hy657
          clear hy657
          have H' := Aside0.mk H
          clear H
          go_wp2_with (first | ((with_reducible refine Qa9 (b := .append) (xs := #[.tmp 42, .tmp 44]) rfl ?_); at_builtin; refine Kd.R_append (Kd.int .i64) (w0 := w) w.heap.size rfl (.tmp 42) (.tmp 44) 32 3 (.int .i64 0) 8 rfl Try.underlying32 info3 rfl (by decide) (by omega) u5 x5_1 t655 [.int .i64 t655] (fun _ => True) (fun _ => False) rfl rfl ?aP (fun _ hk => hk.elim) ?aF ?aO ?aB ?aS ?aL ?_; (case aP => exact rfl); (case aB => exact (Zb)); (case aF => exact (fun _ _ => trivial)); (case aO => exact (Zr HO_5.out)); (case aS => exact (Qau (Zb))); (case aL => have := LMc18.out; omega); intro v658 w19 ho hb hg hat; rw [← Ny657.out] at ho; have HO659 := Aside0.mk (ho); replace HO_4 := Aside0.mk (Kd.R_over' (Zr HO_4.out) (Kd.R_typed (Zr HO_5.out)) (by decide) hg); replace HO_27 := Aside0.mk (Kd.S_over' (by (with_reducible repeat (first | apply Kd.S_alloc | apply Kd.S_drewN | apply Kd.S_drew)); exact HO_27.out) (Kd.R_typed (Zr HO_5.out)) (by decide) hg); replace HL654_0 := Aside0.mk (Kd.R_over' (by (with_reducible repeat (first | apply Kd.R_alloc | apply Kd.R_drewN | apply Kd.R_drew)); exact HL654_0.out) (Kd.R_typed (Zr HO_5.out)) (by decide) hg); replace HB := Aside0.mk (hb); clear HO_5; clear ho hb hg hat))
          go_roundg k1
          case measure => have := HK1.out; omega
          case rel => exact ⟨(x4_1), (y657), (wrap64 (x29_1 + 1)), (Zs), H', ⟨by have := HK1.out; omega⟩, ⟨Zr HO_4.out⟩, ⟨Zr HO659.out⟩, ⟨by (with_reducible repeat (first | apply Kd.S_alloc | apply Kd.S_drewN | apply Kd.S_drew)); exact HO_27.out⟩, ⟨Zb⟩⟩
         rw [if_neg c18] at H
         exact absurd H (by simp)
        rw [if_neg c17] at H
        have c17b0 : (t656 == 0) = E := beq_eq_false_iff_ne.mpr c17
        have c17b1 : (t656 != 0) = T := bne_iff_ne.mpr c17
        (try simp only [c17b0, c17b1])
        simp only [Option.some.injEq, Prod.mk.injEq] at H
        obtain ⟨rfl, rfl, rfl⟩ := H
        go_wp2
        go_ret3
        exact ⟨_, _, Zq, by first | exact Kd.R_nil _ _ _ _ _ | exact Kd.N_nil _ _ _ _ _ | exact Kd.V_nil _ _ _ _ _ | exact Kd.Q_nil _ _ _ _ _ | exact Kd.S_nil _ _ _ _ _, by first | exact Kd.R_nil _ _ _ _ _ | exact Kd.N_nil _ _ _ _ _ | exact Kd.V_nil _ _ _ _ _ | exact Kd.Q_nil _ _ _ _ _ | exact Kd.S_nil _ _ _ _ _, Zb⟩
       rw [if_neg c14] at H
       exact absurd H (by simp)
      rw [if_neg c13] at H
      exact absurd H (by simp)
     rw [if_neg c12] at H
     have c12b0 : decide (x29_1 < (t649.length : Int)) = E := decide_eq_false c12
     clear c12
     (try simp only [c12b0])
     simp only [Option.some.injEq, Prod.mk.injEq] at H
     obtain ⟨rfl, rfl, rfl⟩ := H
     go_wp2
     go_ret3
     exact ⟨_, _, Zq, Zr HO_4.out, Zr HO_5.out, Zb⟩
  rw [if_neg c8] at H
  have c8b0 : (t647 == 0) = E := beq_eq_false_iff_ne.mpr c8
  have c8b1 : (t647 != 0) = T := bne_iff_ne.mpr c8
  (try simp only [c8b0, c8b1])
  simp only [Option.some.injEq, Prod.mk.injEq] at H
  obtain ⟨rfl, rfl, rfl⟩ := H
  go_wp2
  go_ret3
  exact ⟨_, _, Zq, by first | exact Kd.R_nil _ _ _ _ _ | exact Kd.N_nil _ _ _ _ _ | exact Kd.V_nil _ _ _ _ _ | exact Kd.Q_nil _ _ _ _ _ | exact Kd.S_nil _ _ _ _ _, by first | exact Kd.R_nil _ _ _ _ _ | exact Kd.N_nil _ _ _ _ _ | exact Kd.V_nil _ _ _ _ _ | exact Kd.Q_nil _ _ _ _ _ | exact Kd.S_nil _ _ _ _ _, Zb⟩
 rw [if_neg c5] at H
 have c5b0 : (t646 == 0) = E := beq_eq_false_iff_ne.mpr c5
 have c5b1 : (t646 != 0) = T := bne_iff_ne.mpr c5
 (try simp only [c5b0, c5b1])
 simp only [Option.some.injEq, Prod.mk.injEq] at H
 obtain ⟨rfl, rfl, rfl⟩ := H
 go_wp2
 go_ret3
 exact ⟨_, _, Zq, by first | exact Kd.R_nil _ _ _ _ _ | exact Kd.N_nil _ _ _ _ _ | exact Kd.V_nil _ _ _ _ _ | exact Kd.Q_nil _ _ _ _ _ | exact Kd.S_nil _ _ _ _ _, by first | exact Kd.R_nil _ _ _ _ _ | exact Kd.N_nil _ _ _ _ _ | exact Kd.V_nil _ _ _ _ _ | exact Kd.Q_nil _ _ _ _ _ | exact Kd.S_nil _ _ _ _ _, Zb⟩
end Go.Proofs.Ytgnmhfjfefgbfaa.Pr
