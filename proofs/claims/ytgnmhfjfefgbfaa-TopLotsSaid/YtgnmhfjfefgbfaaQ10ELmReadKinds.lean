/- How a value that reads as data is read by a kind of the print: numbers, bools, strings, structs, arrays, slices of these, nested. Any program. -/
import Derived.Test.YtgnmhfjfefgbfaaQ10EP0
import Derived.Deep.Slices
import Derived.OpenShut
import Derived.SizedLaws
namespace Go.Proofs.Ytgnmhfjfefgbfaa.Pr
open Go.RowKit Go.Proofs.Ytgnmhfjfefgbfaa.Pr Go.Proofs.YtgnmhfjfefgbfaaW.PrintWords Go.Proofs.YtgnmhfjfefgbfaaW.PrintLast Go.Proofs.YtgnmhfjfefgbfaaW.PrintMore
set_option linter.unusedVariables false
set_option linter.unusedSimpArgs false
structure Rdb {α : Type} (P : Program) (t : TypeId) (d : Kd α) (ok : α → Prop) : Prop where
 rd : ∀ {H : Type} (enc : TypeId × Value → H) (w : World) (fuel : Nat) (cs : List Value) (x : DataW H × List MemPlace), DataW.trod enc P w 0 (fun _ => true) true fuel t cs = some x → ∃ a, d.K w a cs ∧ ok a
theorem Rdb.int {P : Program} {t : TypeId} {k : IntKind} (ht : P.underlying t = some (.int k)) : Rdb P t (Kd.int k) (fun x => (Lit.int k x).wf = true) :=
 ⟨fun enc w fuel cs x h => by
  obtain ⟨n, rfl, _, hw⟩ := DataW.trod_int ht h
  exact ⟨n, rfl, hw⟩⟩
theorem Rdb.bool {P : Program} {t : TypeId} (ht : P.underlying t = some .bool) : Rdb P t Kd.bool (fun _ => True) :=
 ⟨fun enc w fuel cs x h => by
  obtain ⟨b, rfl, _⟩ := DataW.trod_bool ht h
  exact ⟨b, rfl, trivial⟩⟩
theorem Rdb.string {P : Program} {t : TypeId} (ht : P.underlying t = some .string) : Rdb P t Kd.string (fun s => s.size ≤ 9223372036854775807) :=
 ⟨fun enc w fuel cs x h => by
  obtain ⟨s, rfl, _, hm⟩ := DataW.trod_string ht h
  exact ⟨s, rfl, hm⟩⟩
theorem Rdb.iso {α β : Type} {P : Program} {t : TypeId} {d : Kd α} {ok : α → Prop} (h : Rdb P t d ok) (f : β → α) (g : α → β) (hg : ∀ a, f (g a) = a) : Rdb P t (Kd.iso d f) (fun b => ok (f b)) :=
 ⟨fun enc w fuel cs x hx => by
  obtain ⟨a, hK, ha⟩ := h.rd enc w fuel cs x hx
  exact ⟨g a, by show d.K w (f (g a)) cs; rw [hg]; exact hK, by rw [hg]; exact ha⟩⟩
theorem Rdb.slice {α : Type} {P : Program} {t e : TypeId} {d : Kd α} {ok : α → Prop} (ht : P.underlying t = some (.slice e)) (hc : P.cellsOf e = d.sz) (h : Rdb P e d ok) : Rdb P t (Kd.slice e d) (fun xs => ∀ x ∈ xs, ok x) :=
 ⟨fun enc w fuel cs x hx => by
  rcases Deep.open_slice ht hx with ⟨rfl, _⟩ | ⟨a, len, cap, m, n, D, Pl, rfl, _, hl, hm, hmm, _, hel⟩
  ·exact ⟨[], ⟨none, 0, rfl, Nat.le_refl _, rfl, Nat.zero_le _, fun h0 => absurd h0 (by simp)⟩, fun x hx => by cases hx⟩
  have hm' : m = cap := by simpa using hmm
  have each : ∀ i, i < len → ∃ y cs', d.K w y cs' ∧ ok y ∧ w.cells? 0 (a.add (i * P.cellsOf e)) (P.cellsOf e) = some cs' := fun i hi => by
   obtain ⟨cs', h1, h2⟩ := hel i (by omega)
   obtain ⟨y, h3, h4⟩ := h.rd enc w n cs' _ h2
   exact ⟨y, cs', h3, h4, h1⟩
  have pick : ∃ xs : List α, xs.length = len ∧ ∀ i (y : α), xs[i]? = some y → ∃ cs', d.K w y cs' ∧ ok y ∧ w.cells? 0 (a.add (i * P.cellsOf e)) (P.cellsOf e) = some cs' := by
   have go : ∀ k, k ≤ len → ∃ xs : List α, xs.length = k ∧ ∀ i (y : α), xs[i]? = some y → ∃ cs', d.K w y cs' ∧ ok y ∧ w.cells? 0 (a.add (i * P.cellsOf e)) (P.cellsOf e) = some cs' := by
    intro k
    induction k with
    | zero => exact fun _ => ⟨[], rfl, fun i y h => by simp at h⟩
    | succ k ih =>
     intro hk
     obtain ⟨xs, hxl, hxs⟩ := ih (by omega)
     obtain ⟨y, cs', h1, h2, h3⟩ := each k (by omega)
     refine ⟨xs ++ [y], by simp [hxl], fun i z hz => ?_⟩
     by_cases hi : i < xs.length
     ·rw [List.getElem?_append_left hi] at hz
      exact hxs i z hz
     rw [List.getElem?_append_right (by omega)] at hz
     have hi0 : i - xs.length = 0 := by
      by_cases q : i - xs.length = 0
      ·exact q
      rw [List.getElem?_eq_none (by simp; omega)] at hz; cases hz
     rw [hi0] at hz
     obtain rfl : y = z := by simpa using hz
     obtain rfl : i = k := by omega
     exact ⟨cs', h1, h2, h3⟩
   exact go len (Nat.le_refl _)
  obtain ⟨xs, hxl, hxs⟩ := pick
  refine ⟨xs, ⟨some a, cap, by rw [hxl], by rw [hxl]; exact hl, rfl, ?_, fun _ => ⟨a, rfl, fun j p hp => ?_⟩⟩, fun x hx => ?_⟩
  ·rw [hxl]; simp only [maxLen] at hm; omega
  ·obtain ⟨cs', h1, _, h3⟩ := hxs j p hp
   refine ⟨cs', d.K_len h1, h1, fun i u hu => ?_⟩
   obtain ⟨hlen, hcell⟩ : cs'.length = P.cellsOf e ∧ ∀ i, i < P.cellsOf e → w.cell? ((a.add (j * P.cellsOf e)).add i) = cs'[i]? := by
    have := World.cells?_some h3
    exact ⟨this.2.1, this.2.2⟩
   have hi : i < cs'.length := (List.getElem?_eq_some_iff.1 hu).1
   have := hcell i (by omega)
   rw [hu, Deep.add_add, hc] at this
   exact this
  obtain ⟨i, hi⟩ := List.getElem?_of_mem hx
  obtain ⟨_, _, h2, _⟩ := hxs i x hi
  exact h2⟩
structure RdF {α : Type} (P : Program) (fs : List (Nat × TypeId)) (off L : Nat) (d : Kd α) (ok : α → Prop) : Prop where
 rd : ∀ {H : Type} (enc : TypeId × Value → H) (w : World) (fuel : Nat) (cs : List Value), cs.length = L → (∀ f ∈ fs, ∃ y : DataW H × List MemPlace, DataW.trod enc P w 0 (fun _ => true) true fuel f.2 ((cs.drop f.1).take (P.cellsOf f.2)) = some y) → ∃ a, d.K w a (cs.drop off) ∧ ok a
theorem RdF.last {α : Type} {P : Program} {t : TypeId} {off L : Nat} {d : Kd α} {ok : α → Prop} (h : Rdb P t d ok) (hL : off + P.cellsOf t = L) : RdF P [(off, t)] off L d ok :=
 ⟨fun enc w fuel cs hl hf => by
  obtain ⟨y, hy⟩ := hf _ List.mem_cons_self
  rw [List.take_of_length_le (by simp; omega)] at hy
  exact h.rd enc w fuel _ _ hy⟩
theorem RdF.cons {α β : Type} {P : Program} {t : TypeId} {off L : Nat} {fs : List (Nat × TypeId)} {d : Kd α} {d' : Kd β} {ok : α → Prop} {ok' : β → Prop} (h : Rdb P t d ok) (k : RdF P fs (off + P.cellsOf t) L d' ok') : RdF P ((off, t) :: fs) off L (Kd.pair d d') (fun x => ok x.1 ∧ ok' x.2) :=
 ⟨fun enc w fuel cs hl hf => by
  obtain ⟨y, hy⟩ := hf _ List.mem_cons_self
  obtain ⟨a, ha, oa⟩ := h.rd enc w fuel _ _ hy
  obtain ⟨b, hb, ob⟩ := k.rd enc w fuel cs hl (fun f hm => hf f (List.mem_cons_of_mem _ hm))
  refine ⟨(a, b), ⟨_, _, ?_, ha, hb⟩, oa, ob⟩
  rw [← List.drop_drop]
  exact (List.take_append_drop _ _).symm⟩
theorem Rdb.struct {α : Type} {P : Program} {t : TypeId} {fs : Array Field} {L : Nat} {d : Kd α} {ok : α → Prop} (ht : P.underlying t = some (.struct fs)) (hL : P.cellsOf t = L) (h : RdF P (fs.toList.map fun f => (f.offset, f.type)) 0 L d ok) : Rdb P t d ok :=
 ⟨fun enc w fuel cs x hx => by
  obtain ⟨xs, n, rfl, _, hlen, hsz, hel⟩ := DataW.trod_struct ht hx
  refine h.rd enc w n cs (hlen.trans hL) (fun f hf => ?_)
  obtain ⟨g, hg, rfl⟩ := List.mem_map.1 hf
  obtain ⟨i, hi⟩ := List.getElem?_of_mem hg
  have hi' : fs[i]? = some g := by simpa using hi
  have hi2 : i < xs.length := by rw [hsz]; exact (Array.getElem?_eq_some_iff.1 hi').1
  exact ⟨xs[i], by rw [hel i g hi', List.getElem?_eq_getElem hi2]⟩⟩
theorem Qc9 {H : Type} {enc : TypeId × Value → H} {P : Program} {W : World} {base : Nat} {spare : Nat → Bool} {held : Bool} {t e : TypeId} {a : Option Addr} {len cap : Nat} {d : DataW H} {ps : List MemPlace} {ts : List TypeId} {ds : List (DataW H)} {j : Nat}
  (hsz : (DataW.weightsEach P ts ds).all (· ≤ reachBytes) = true) (ht : ts[j]? = some t) (hd : ds[j]? = some d) (hu : P.underlying t = some (.slice e)) {B : Nat} (hB : P.bytesOf e = B)
  (h : DataW.Trod enc P W base spare held t (.slice a len cap) d ps) : len * B ≤ 140737488351232 := by
 obtain ⟨fuel, hf⟩ := h
 rcases DataW.trod_slice hu hf with ⟨hcs, _⟩ | ⟨x, l, c, elems, rest, n, _, hcs, hx, _, hl, _, hlen, _⟩
 ·simp [Value.cells] at hcs
  obtain ⟨rfl, rfl, rfl⟩ := hcs
  simp
 simp [Value.cells] at hcs
 obtain ⟨rfl, rfl, rfl⟩ := hcs
 obtain ⟨hx, _⟩ := Prod.mk.inj hx
 subst hx
 have z := sized_slice hsz ht hd hu
 rw [hB] at z
 simp only [List.length_map] at z
 rw [hlen] at z
 exact Nat.le_trans (Nat.mul_le_mul_right _ (Nat.le_add_right _ _)) z
theorem wf64 {x : Int} (h : (Lit.int .i64 x).wf = true) : -9223372036854775808 ≤ x ∧ x ≤ 9223372036854775807 := bounds_i64 h
theorem QbQ {H : Type} {P : Program} {e : TypeId} : ∀ {ds : List (DataW H)} {d : DataW H}, d ∈ ds → ∀ n ∈ d.weights P e, n ∈ DataW.weightsAll P e ds
 | [], _, h, _, _ => by simp at h
 | d0 :: ds, d, h, n, hn => by
  simp only [DataW.weightsAll, List.mem_append]
  rcases List.mem_cons.1 h with rfl | h
  ·exact Or.inl hn
  exact Or.inr (QbQ h n hn)
theorem Qek {H : Type} {enc : TypeId × Value → H} {P : Program} {W : World} {spare : Nat → Bool} {held : Bool} {t e e2 : TypeId} {ad : Addr} {len cap : Nat} {d : DataW H} {ps : List MemPlace} {ts : List TypeId} {ds : List (DataW H)} {j i : Nat} {fs : Array Field} {g : Field}
  (hsz : (DataW.weightsEach P ts ds).all (· ≤ reachBytes) = true) (ht : ts[j]? = some t) (hd : ds[j]? = some d) (hu : P.underlying t = some (.slice e)) (hue : P.underlying e = some (.struct fs)) (hg : fs[i]? = some g) (hu2 : P.underlying g.type = some (.slice e2)) (hc1 : P.cellsOf g.type = 1) (hin : g.offset < P.cellsOf e) {B : Nat} (hB : P.bytesOf e2 = B)
  (h : DataW.Trod enc P W 0 spare held t (.slice (some ad) len cap) d ps) {m : Nat} (hm : m < len) {a2 : Option Addr} {l2 c2 : Nat} (hcell : W.cell? ((ad.add (m * P.cellsOf e)).add g.offset) = some (.slice a2 l2 c2)) : l2 * B ≤ 140737488351232 := by
 obtain ⟨fuel, hf⟩ := h
 rcases DataW.trod_slice hu hf with ⟨hcs, _⟩ | ⟨x, l, c, elems, rest, n, _, hcs, hx, _, hl, _, hlen, hel, _⟩
 ·simp [Value.cells] at hcs
 simp [Value.cells] at hcs
 obtain ⟨rfl, rfl, rfl⟩ := hcs
 obtain ⟨hx, _⟩ := Prod.mk.inj hx
 have h1 := hel m hm
 rw [List.getElem?_eq_getElem (show m < elems.length by omega)] at h1
 obtain ⟨cs', h2, h3⟩ := Option.bind_eq_some_iff.1 h1
 obtain ⟨_, h4, h5⟩ := World.cells?_some h2
 have h6 := h5 g.offset hin
 rw [hcell] at h6
 have hs : (cs'.drop g.offset).take (P.cellsOf g.type) = [.slice a2 l2 c2] := by
  rw [hc1]
  obtain ⟨q, hq⟩ := List.getElem?_eq_some_iff.1 h6.symm
  rw [List.drop_eq_getElem_cons q, hq]
  rfl
 obtain ⟨xs, n2, _, hx2, _, hsize, hel2⟩ := DataW.trod_struct hue h3
 have hi : i < xs.length := by rw [hsize]; exact (Array.getElem?_eq_some_iff.1 hg).1
 have h7 := hel2 i g hg
 rw [hs, List.getElem?_eq_getElem hi] at h7
 rcases DataW.trod_slice hu2 h7 with ⟨hcs, _⟩ | ⟨x3, l3, c3, elems3, rest3, m3, _, hcs, hy, _, hl3, _, hlen3, _⟩
 ·simp at hcs
  obtain ⟨rfl, rfl, rfl⟩ := hcs
  simp
 simp at hcs
 obtain ⟨rfl, rfl, rfl⟩ := hcs
 have z := of_decide_eq_true (List.all_eq_true.1 hsz _ (DataW.weights_mem_each ht hd ((elems3.length + rest3.length) * P.bytesOf e2) (by
  rw [hx]
  simp only [DataW.weights, hu]
  refine List.mem_cons_of_mem _ (List.mem_append_left _ (QbQ (d := elems[m].1) (List.mem_map_of_mem (List.getElem_mem _)) _ ?_))
  rw [hx2]
  simp only [DataW.weights, hue]
  refine DataW.weights_mem_each (j := i) (t := g.type) (d := xs[i].1) ?_ ?_ _ ?_
  ·rw [List.getElem?_map, Array.getElem?_toList, hg]; rfl
  ·rw [List.getElem?_map, List.getElem?_eq_getElem hi]; rfl
  rw [hy]
  simp [DataW.weights, hu2])))
 rw [hB, hlen3] at z
 exact Nat.le_trans (Nat.mul_le_mul_right _ (Nat.le_add_right _ _)) z
end Go.Proofs.Ytgnmhfjfefgbfaa.Pr
