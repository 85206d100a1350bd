/- Functions' values and contracts, as the print wrote them. -/
import Derived.Test.YtgnmhfjfefgbfaaQ10EP0
import Derived.Test.YtgnmhfjfefgbfaaQ10EP2
import Derived.Test.YtgnmhfjfefgbfaaQ10EP3
namespace Go.Proofs.Ytgnmhfjfefgbfaa.Pr
open Go.RowKit Go.Proofs.YtgnmhfjfefgbfaaW.PrintWords Go.Proofs.YtgnmhfjfefgbfaaW.PrintLast Go.Proofs.YtgnmhfjfefgbfaaW.PrintMore
attribute [local go_sem] QaO QaQ QaU QaV QaK QaL QaP QaR   -- for this text's walks alone
set_option linter.unusedVariables false
set_option linter.unusedSimpArgs false
set_option maxRecDepth 100000
attribute [local go_sem] Oper.semAt_some
abbrev SV := Option Addr × Nat × Nat
def svV (x : SV) : Value := .slice x.1 x.2.1 x.2.2
def encL (x : Int × SV) : Value := .agg #[.int .i64 x.1, svV x.2]
def itl : List SV → Int → List (Int × SV)
 | [], _ => []
 | v :: t, id => if v.2.1 = 0 then itl t id else (wrap64 (id + 1), v) :: itl t (wrap64 (id + 1))
set_option maxHeartbeats 4000000 in
theorem Qe9 (F : Fence) (n : Nat) (hf : F.fn 152) (hro : F.round = none) (hn : 1 ≤ n) (l Bm n₀ : Nat) (vs : List SV) (hlen : vs.length ≤ 1000000) (ad : Option Addr) (cap : Nat) (J Jx : List (Int × SV) → World → Prop)
  (hY : ∀ pre x W, J pre W → pre.length < vs.length → YieldAt F (n - 1) Try.prog l #[encL x] W fun e W' => (e = .returned (.bool true) ∧ J (pre ++ [x]) W' ∧ Below n₀ W W') ∨ (e = .returned (.bool false) ∧ Jx (pre ++ [x]) W'))
  (W : World) (hm : W.cell? ⟨Bm, 0, none⟩ = some (.slice ad vs.length cap)) (hc : ∀ j v, vs[j]? = some v → ∃ a, ad = some a ∧ (a.add j).block < n₀ ∧ W.cell? (a.add j) = some (svV v)) (h0 : J [] W) :
  CallsIn F n Try.prog 152 #[.func (.yield l) #[] #[], .pointer (some ⟨Bm, 0, none⟩)] W fun e W' => (∃ v, e = .returned v) ∧ ((∃ xs, xs = itl vs 0 ∧ J xs W') ∨ (∃ pre, True ∧ Jx pre W')) := by
 have HC := Aside0.mk hc
 clear hc
 refine callsIn_of_wp Try.func152 rfl hf ?_ hro
 simp only [Try.ntmps152, List.size_toArray, List.length_cons, List.length_nil, Nat.reduceAdd, Nat.reduceSub, Array.replicate_succ, Array.replicate_zero, List.push_toArray, List.append_toArray, List.nil_append, List.cons_append]
 gi_wp2
 gi_loopw [3, 8] (fun v3 v8 wr => ∃ (i : Nat) (id : Int) (pre : List (Int × SV)), v3 = .int .i64 id ∧ v8 = .int .i64 (i : Int) ∧ i ≤ vs.length ∧ itl vs 0 = pre ++ itl (vs.drop i) id ∧ pre.length ≤ i ∧ Below n₀ W wr ∧ J pre wr)
  (fun _ v8 _ => vs.length - (intOf v8).toNat)
 case atStart =>
  exact ⟨0, 0, [], rfl, rfl, Nat.zero_le _, by simp, Nat.le_refl _, Below.refl _ _, h0⟩
 case round =>
  obtain ⟨i, id, pre, rfl, rfl, hi, hx, hp, hb, hJ⟩ := hrel
  by_cases c : i < vs.length
  ·have c0 : decide ((i : Int) < (vs.length : Int)) = true := decide_eq_true (by omega)
   obtain ⟨a, e1, hab, hca⟩ := HC.out i vs[i] (List.getElem?_eq_getElem c)
   subst e1
   have hd : vs.drop i = vs[i] :: vs.drop (i + 1) := List.drop_eq_getElem_cons c
   generalize vs[i] = v at hca hd
   obtain ⟨A, len, cp⟩ := v
   have hx1 : wr.cell? (a.add i) = some (.slice A len cp) := (hb.cell (p := a.add i) hab).trans hca
   have p1 : (0 ≤ (i : Int)) = True := eq_true (by omega)
   have q1 : ((i : Int) < (vs.length : Int)) = True := eq_true (by omega)
   rw [hd] at hx
   simp only [itl] at hx
   have hX := Aside0.mk hx
   have hB := Aside0.mk hb
   have hP := Aside0.mk hp
   have hI := Aside0.mk c
   clear hx hb hp hca hd c
   by_cases z : len = 0
   ·have z0 : ((len : Int) == 0) = true := beq_iff_eq.mpr (by omega)
    have hX2 := Aside0.mk (show itl vs 0 = pre ++ itl (vs.drop (i + 1)) id by rw [hX.out, if_pos z])
    clear hX z
    gi_wp2
    go_roundw
    case rel => exact ⟨i + 1, id, pre, rfl, by first | rfl | (congr 1; omega), by have := hI.out; omega, hX2.out, by have := hP.out; omega, hB.out, hJ⟩
    case measure => have := hI.out; simp only [intOf]; omega
   have z0 : ((len : Int) == 0) = false := beq_eq_false_iff_ne.mpr (by omega)
   have hX2 := Aside0.mk (show itl vs 0 = (pre ++ [(wrap64 (id + 1), (A, len, cp))]) ++ itl (vs.drop (i + 1)) (wrap64 (id + 1)) by rw [hX.out, if_neg z]; simp)
   clear hX z
   obtain ⟨fn, tmps, assign, body, hy, hR⟩ := hY pre (wrap64 (id + 1), (A, len, cp)) wr hJ (by have := hI.out; have := hP.out; omega)
   simp only [encL, svV] at hy
   gi_wp2
   refine hR.mono ?_
   rintro e W3 (⟨rfl, hJ4, hk3⟩ | ⟨rfl, hJx3⟩)
   ·gi_wp2
    go_roundw
    case rel => exact ⟨i + 1, _, _, rfl, by first | rfl | (congr 1; omega), by have := hI.out; omega, hX2.out, by have := hP.out; simp; omega, hB.out.trans hk3, hJ4⟩
    case measure => have := hI.out; simp only [intOf]; omega
   gi_wp2
   refine bodyPost_ret (results_none rfl _ _ _) rfl ?_
   exact ⟨⟨_, rfl⟩, .inr ⟨_, trivial, hJx3⟩⟩
  have c0 : decide ((i : Int) < (vs.length : Int)) = false := decide_eq_false (by omega)
  have hX := Aside0.mk (show itl vs 0 = pre by rw [hx, List.drop_eq_nil_of_le (by omega)]; simp [itl])
  clear hx
  gi_wp2
  go_end0
  exact ⟨⟨_, rfl⟩, .inl ⟨pre, hX.out.symm, hJ⟩⟩
theorem Qea (F : Fence) (n : Nat) (hf : F.fn 72) (hro : F.round = none) (A : Option Addr) (len cap : Nat) (w : World) :
  CallsIn F n Try.prog 72 #[.slice A len cap] w fun e w' => e = .returned (.func (.func 152) #[] #[.pointer (some ⟨w.heap.size, 0, none⟩)]) ∧ w' = w.alloc (.cells #[.slice A len cap] 44) := by
 refine callsIn_of_wp Try.func72 rfl hf ?_ hro
 simp only [Try.ntmps72, List.size_toArray, List.length_cons, List.length_nil, Nat.reduceAdd, Nat.reduceSub, Array.replicate_succ, Array.replicate_zero, List.push_toArray, List.append_toArray, List.nil_append, List.cons_append]
 gi_wp2
 go_ret
 exact ⟨rfl, rfl⟩
def cellsL (x : Int × SV) : List Value := [.int .i64 x.1, svV x.2]
def rowL (l : List (Int × SV)) : List Value := (l.map cellsL).flatten
theorem QeC (l : List (Int × SV)) (p : Int × SV) : rowL (l ++ [p]) = rowL l ++ cellsL p := by simp [rowL]
theorem QeU : (Try.prog.info? 67).map (fun i => (i.zero, i.size, i.bytes)) = some (some (.agg #[(.int .i64 0), (.slice none 0 0)]), 2, 32) := by kernel_rfl
set_option maxHeartbeats 4000000 in
theorem Qdb (F : Fence) (n : Nat) (hf : F.fn 151) (hro : F.round = none) (hn : 1 ≤ n) (gf : Nat) (lb : Array Value) (hg : F.fn gf) (eg : ∀ args w, (callFunc gf args).run Try.prog w = .ok (.enter gf args) w)
  (S Sp : List (Int × SV) → Prop) (N : Nat) (hN : N ≤ 1000000) (w0 w : World) (hb0 : Below w0.heap.size w0 w) (n₀ : Nat) (hn0 : n₀ ≤ w.heap.size) (hseq : SeqStopsK F (n - 1) Try.prog gf lb (fun p => #[encL p]) (Below n₀) S Sp N w0) :
  CallsIn F n Try.prog 151 #[.slice none 0 0, .func (.func gf) #[] lb] w fun e W' => ∃ v xs, e = .returned v ∧ S xs ∧ W'.ownsRow w.heap.size 67 2 v xs.length (rowL xs) ∧ Below w.heap.size w W' := by
 obtain ⟨i0, hi, hz0, hz1, hz2⟩ := info_parts QeU
 refine callsIn_of_wp_marks Try.func151 rfl hf ?_ hro
 simp only [Try.ntmps151, List.size_toArray, List.length_cons, List.length_nil, Nat.reduceAdd, Nat.reduceSub, Array.replicate_succ, Array.replicate_zero, List.push_toArray, List.append_toArray, List.nil_append, List.cons_append]
 gi_wp2
 have bS := Boxed.new w 59 (.slice none 0 0)
 have hB1 : Below w.heap.size w (w.alloc (.cells #[.slice none 0 0] 59)) := (Below.refl _ w).alloc (Nat.le_refl _) _
 obtain ⟨W0, hW0⟩ : ∃ W0, w.alloc (.cells #[.slice none 0 0] 59) = W0 := ⟨_, rfl⟩
 have hsz : W0.heap.size = w.heap.size + 1 := by rw [← hW0]; simp
 rw [hW0] at bS hB1 ⊢
 refine wpIn_rangeFunc_ownH hro hn (gf := gf) (lb := lb) rfl hg eg hseq belowK_t (belowK_b (by omega)) (hb0.trans (by rw [← hW0]; exact ((Below.refl w0.heap.size w).alloc hb0.size _))) (fun _ => rfl)
  (fun pre W => (∃ v, Boxed W w.heap.size 59 v ∧ W.ownsRow w.heap.size 67 2 v pre.length (rowL pre) ∧ True) ∧ Below w.heap.size w W)
  (fun _ _ _ => False)
  (OwnFrom.and (Own.from (holdsRow_own w.heap.size w.heap.size 59 67 2 (fun pre => pre.length) rowL (fun _ _ => True)) _) (ownFrom_below (Nat.le_refl _) (by omega)))
  (fun _ _ _ _ _ hs _ _ => hs)
  ⟨⟨_, bS, World.ownsRow_nil _ _ _ _, trivial⟩, hB1⟩
  (fun x a' W => ∃ Bx, w.heap.size < Bx ∧ W.heap[Bx]? = some (.cells (cellsL x).toArray 67 (0, 0)) ∧ a' = { tmps := #[.slice none 0 0, .func (.func gf) #[] lb, .pointer (some ⟨w.heap.size, 0, none⟩), undef, .slice none 0 0, .pointer (some ⟨Bx, 0, none⟩), .func (.func gf) #[] lb, encL x, undef, undef, undef, undef, undef], defers := [] })
  (fun x a' s A B row hs hgr hr => by
   obtain ⟨Bx, h1, h2, h3⟩ := hs
   exact ⟨Bx, h1, Qdj h2 hgr (fun r e => (hr r e).2), h3⟩) ?assign ?body ?done ?stop
 case assign =>
  rintro l pre ⟨id, A, len, cp⟩ W K ⟨⟨v, hv, hrow, _⟩, hB⟩ hK
  simp only [encL, svV] at hK ⊢
  gi_wp2
  refine hK _ _ ((KeepsOthers.alloc _ _).from _) ((Below.refl n₀ W).alloc (by have := hB.size; omega) _) ⟨⟨v, hv.alloc _, hrow.alloc _, trivial⟩, hB.alloc (by have := hB.size; omega) _⟩ ⟨W.heap.size, hv.lt, heap_alloc_new W _, rfl⟩
 case body =>
  rintro l pre ⟨id, A, len, cp⟩ a' W hl ⟨r, hr⟩ ⟨⟨v, hv, hrow, _⟩, hB⟩ ⟨Bx, hBx, bX, rfl⟩ hlt
  have hc := hv.cell
  have hx0 : W.cell? ⟨Bx, 0, none⟩ = some (.int .i64 id) := (Qae bX 0).trans rfl
  have hx1 : W.cell? ⟨Bx, 1, none⟩ = some (.slice A len cp) := (Qae bX 1).trans rfl
  simp only [encL, svV]
  gi_wp2_with (gi_at_builtin; refine wpListIn_append_own _ rfl _ _ 59 rfl w.heap.size 67 i0 (.agg #[(.int .i64 0), (.slice none 0 0)]) 2 32 Try.underlying59 hi hz0 hz1 hz2 rfl (by decide) _ _ _ rfl (hrow.alloc _) ⟨W.heap.size, 0, none⟩ 1 1 (cellsL (id, A, len, cp)) rfl rfl (QcZ _ _ _) (by intro u hu; simp [cellsL] at hu; rcases hu with rfl | rfl <;> rfl) (by simp only [maxLen]; omega) (by omega) (by have := hB.size; simp; omega) ?_; intro v' w1 hown' hgrow _; obtain ⟨g', cap', rfl⟩ := ownsRow_succ hown'; obtain ⟨hv1, hv2, hr2, hk2, hb2⟩ := hv.appended (by decide) hrow hB.size (Nat.le_refl _) hown' hgrow; have hc1 := hv1.cell; have hf1 := hv1.frozen)
  exact ⟨hk2.from _, hb2.mono hn0, ⟨_, hv2, by rw [QeC]; simpa using hr2, trivial⟩, hB.trans hb2⟩
 case done =>
  rintro D ys W hD hS ⟨⟨v, hv, hrow, _⟩, hB⟩ hK
  have hc := hv.cell
  gi_wp2
  refine ⟨by simp, .inl ⟨_, _, rfl, run_takeDeferred hK, ?_⟩⟩
  exact ⟨_, results_tmp rfl _ _ _, v, ys, rfl, hS, ownsRow_putObj hrow _ hK rfl, hB.trans (belowK_b (w := w) (Nat.le_refl _) W D _ _ (by omega) hK rfl rfl)⟩
 case stop =>
  rintro D c pre W _ _ h _
  exact h.elim
def someL : List (List S71) → Int → List S67
 | [], _ => []
 | l :: t, id => if l.length = 0 then someL t id else ⟨wrap64 (id + 1), l⟩ :: someL t (wrap64 (id + 1))
theorem Qe6 (l : List (Int × SV)) : (rowL l).length = l.length * 2 := by
 induction l with
 | nil => rfl
 | cons p l ih => simp only [rowL, List.map_cons, List.flatten_cons, List.length_append, List.length_cons] at *; rw [ih]; simp [cellsL]; omega
theorem Qc7 : ∀ (xs : List (Int × SV)) (j : Nat) (p : Int × SV), xs[j]? = some p → ((rowL xs).drop (j * 2)).take 2 = cellsL p
 | [], j, p, h => by simp at h
 | x :: xs, 0, p, h => by
  simp at h
  subst h
  have e : rowL (x :: xs) = cellsL x ++ rowL xs := by simp [rowL]
  rw [e, Nat.zero_mul, List.drop_zero]
  exact List.take_left' rfl
 | x :: xs, j + 1, p, h => by
  have ih := Qc7 xs j p (by simpa using h)
  have e : rowL (x :: xs) = cellsL x ++ rowL xs := by simp [rowL]
  have hl : (cellsL x).length = 2 := rfl
  rw [e, show (j + 1) * 2 = (cellsL x).length + j * 2 by rw [hl]; omega, List.drop_append, List.drop_eq_nil_of_le (by omega), List.nil_append, Nat.add_sub_cancel_left]
  exact ih
set_option maxHeartbeats 4000000 in
theorem QeN.calls (gf : Nat) (lb : Array Value) (eg : ∀ args w, (callFunc gf args).run Try.prog w = .ok (.enter gf args) w)
  (S Sp : List (Int × SV) → Prop) (N : Nat) (hN : N ≤ 1000000) (w0 w : World) (hb0 : Below w0.heap.size w0 w) (n₀ : Nat) (hn0 : n₀ ≤ w.heap.size) (hseq : SeqStopsK Fence.wide 4 Try.prog gf lb (fun p => #[encL p]) (Below n₀) S Sp N w0) :
  Calls Try.prog 71 #[.func (.func gf) #[] lb] w fun e W' => ∃ v xs, e = .returned v ∧ S xs ∧ W'.ownsRow w.heap.size 67 2 v xs.length (rowL xs) ∧ Below w.heap.size w W' := by
 have h := callsIn_wide.1 (Qdb Fence.wide 5 trivial rfl (by omega) gf lb trivial eg S Sp N hN w0 w hb0 n₀ hn0 hseq)
 go_enter Try.func71, Try.ntmps71
 go_wp2_with (go_at_call 151; refine h.mono ?_; rintro e W' ⟨v, xs, rfl, h1, h2, h3⟩)
 go_ret
 exact ⟨v, xs, rfl, h1, h2, h3⟩
def cntL : List (List S71) → Nat → Nat
 | [], _ => 0
 | _ :: _, 0 => 0
 | l :: t, j + 1 => (if l.length = 0 then 0 else 1) + cntL t j
theorem QcA : ∀ (P : List (List S71)) (vs : List SV) (id : Int), vs.length = P.length → (∀ j v, vs[j]? = some v → v.2.1 = (P.getD j []).length) →
  (itl vs id).length = (someL P id).length ∧ ∀ i x, (itl vs id)[i]? = some x → ∃ j, vs[j]? = some x.2 ∧ (someL P id)[i]? = some ⟨x.1, P.getD j []⟩ ∧ cntL P j = i
 | [], [], id, _, _ => by simp [itl, someL]
 | [], _ :: _, _, h, _ => by simp at h
 | _ :: _, [], _, h, _ => by simp at h
 | l :: P, v :: vs, id, h, hl => by
  have h0 : v.2.1 = l.length := hl 0 v rfl
  have hl' : ∀ j v, vs[j]? = some v → v.2.1 = (P.getD j []).length := fun j v hv => by simpa using hl (j + 1) v (by simpa using hv)
  by_cases c : l.length = 0
  ·have ih := QcA P vs id (by simpa using h) hl'
   unfold itl someL
   rw [if_pos (by omega), if_pos c]
   refine ⟨ih.1, fun i x hx => ?_⟩
   obtain ⟨j, j1, j2, j3⟩ := ih.2 i x hx
   exact ⟨j + 1, by simpa using j1, by simpa using j2, by simp [cntL, c, j3]⟩
  have ih := QcA P vs (wrap64 (id + 1)) (by simpa using h) hl'
  unfold itl someL
  rw [if_neg (by omega), if_neg c]
  refine ⟨by simp [ih.1], fun i x hx => ?_⟩
  cases i with
  | zero =>
   simp at hx
   subst hx
   exact ⟨0, rfl, by simp, rfl⟩
  | succ i =>
   obtain ⟨j, j1, j2, j3⟩ := ih.2 i x (by simpa using hx)
   exact ⟨j + 1, by simpa using j1, by simpa using j2, by simp [cntL, c, j3]; omega⟩
def toSV : Value → SV
 | .slice A n c => (A, n, c)
 | _ => (none, 0, 0)
set_option maxHeartbeats 4000000 in
theorem lotsS.calls {w : World} {base : Nat} {vp : Value} {P : List (List S71)} (HP : Kd.S (Kd.slice 71 k71) 22 w base (fun _ => True) vp P) (hbase : base ≤ w.heap.size) (hlen : P.length ≤ 1000000) :
  Calls Try.prog 71 #[.func (.func 152) #[] #[.pointer (some ⟨w.heap.size, 0, none⟩)]] (w.alloc (.cells #[vp] 44)) fun e W' => ∃ v, e = .returned v ∧ Kd.S k67 67 W' base (fun _ => True) v (someL P 0) ∧ Below w.heap.size w W' := by
 obtain ⟨f, h0, inner, hown, hr⟩ := HP
 rw [List.length_zipIdx] at hown
 have hil : inner.length = P.length := by have := hr.1; rw [List.length_zipIdx] at this; exact this.trans (Nat.mul_one _)
 have hat : ∀ j (p : List S71), P[j]? = some p → ∃ v, inner[j]? = some v ∧ k71.R 71 w base (fun k => (True ∧ some k ≠ vp.ownBlock) ∧ f k = j) v p := by
  intro j p hj
  obtain ⟨v, hv, hR⟩ := hr.2 j (p, j) (Kd.zip_at hj)
  refine ⟨v, ?_, hR⟩
  have hjl : j < inner.length := by rw [hil]; exact (List.getElem?_eq_some_iff.1 hj).1
  have hv' : (inner.drop (j * 1)).take 1 = [v] := hv
  rw [Nat.mul_one, List.drop_eq_getElem_cons hjl] at hv'
  simp only [List.take_succ_cons, List.take_zero, List.cons.injEq, and_true] at hv'
  rw [List.getElem?_eq_getElem hjl, hv']
 have hsv : ∀ j v, (inner.map toSV)[j]? = some v → inner[j]? = some (svV v) ∧ v.2.1 = (P.getD j []).length := by
  intro j v hv
  rw [List.getElem?_map] at hv
  obtain ⟨u, hu, rfl⟩ := Option.map_eq_some_iff.1 hv
  have hjl : j < P.length := by rw [← hil]; exact (List.getElem?_eq_some_iff.1 hu).1
  obtain ⟨v', e1, hR⟩ := hat j P[j] (List.getElem?_eq_getElem hjl)
  rw [hu] at e1
  injection e1 with e1
  subst e1
  obtain ⟨A, c, rfl⟩ := Kd.R_slice hR
  exact ⟨hu, by simp [toSV, List.getD_eq_getElem?_getD, List.getElem?_eq_getElem hjl]⟩
 have hvl : (inner.map toSV).length = P.length := by rw [List.length_map, hil]
 obtain ⟨A, cap, hvp, hcell⟩ : ∃ A cap, vp = .slice A P.length cap ∧ ∀ j v, (inner.map toSV)[j]? = some v → ∃ a, A = some a ∧ (a.add j).block < w.heap.size ∧ w.cell? (a.add j) = some (svV v) := by
  rcases hown.2 with ⟨e, hn⟩ | ⟨g, cap, cur, e, hb, hh, hnc, hcm, hcs, htk⟩
  ·refine ⟨none, 0, by rw [e, hn], fun j v hv => ?_⟩
   have := (List.getElem?_eq_some_iff.1 hv).1
   omega
  refine ⟨some ⟨g, 0, none⟩, cap, e, fun j v hv => ⟨_, rfl, ?_, ?_⟩⟩
  ·rw [Addr.add_lit]; exact blk_lt hh
  have hu := (hsv j v hv).1
  have hjl : j < P.length := by rw [← hvl]; exact (List.getElem?_eq_some_iff.1 hv).1
  have htk' : cur.toList.take P.length = inner := by rw [← htk]; congr 1; exact (Nat.mul_one _).symm
  rw [← htk', List.getElem?_take, if_pos hjl] at hu
  rw [Addr.add_lit, Qae hh, Nat.zero_add, ← Array.getElem?_toList]
  exact hu
 have hw0 : (w.alloc (.cells #[vp] 44)).heap.size = w.heap.size + 1 := by simp
 have hbw : Below w.heap.size w (w.alloc (.cells #[vp] 44)) := Qac (Below.refl _ _) _
 have hbox : (w.alloc (.cells #[vp] 44)).cell? ⟨w.heap.size, 0, none⟩ = some (.slice A (inner.map toSV).length cap) := by rw [hvl, ← hvp]; exact (Boxed.new w _ _).cell
 have hseq : SeqStopsK Fence.wide 4 Try.prog 152 #[.pointer (some ⟨w.heap.size, 0, none⟩)] (fun p => #[encL p]) (Below (w.alloc (.cells #[vp] 44)).heap.size) (fun xs => xs = itl (inner.map toSV) 0) (fun _ => True) (inner.map toSV).length (w.alloc (.cells #[vp] 44)) := fun l J Jx W hW hJ _ hY h0 => by
  refine Qe9 Fence.wide 4 trivial rfl (by omega) l w.heap.size _ (inner.map toSV) (by rw [hvl]; exact hlen) A cap J Jx hY W ((hW.cell (p := ⟨w.heap.size, 0, none⟩) (by rw [hw0]; exact Nat.lt_succ_self _)).trans hbox) (fun j v hv => ?_) h0
  obtain ⟨a, ea, hab, hac⟩ := hcell j v hv
  exact ⟨a, ea, by omega, (hW.cell (by omega)).trans ((hbw.cell hab).trans hac)⟩
 have hcol := QeN.calls 152 #[.pointer (some ⟨w.heap.size, 0, none⟩)] (enters_of Try.func152 (by kernel_rfl) rfl) _ _ _ (by rw [hvl]; exact hlen) _ _ (Below.refl _ _) _ (Nat.le_refl _) hseq
 refine hcol.mono ?_
 rintro e W' ⟨v, xs, rfl, rfl, hrow, hb⟩
 have hb' : Below w.heap.size w W' := Qav hbw hb
 obtain ⟨hl, hlots⟩ := QcA P (inner.map toSV) 0 hvl (fun j v hv => (hsv j v hv).2)
 refine ⟨v, rfl, ⟨fun k => cntL P (f k), fun _ _ => trivial, rowL (itl (inner.map toSV) 0), ?_, ?_⟩, hb'⟩
 ·rw [List.length_zipIdx, ← hl]
  refine ⟨hrow.1, ?_⟩
  rcases hrow.2 with h | ⟨g, cp, cur, e, hgb, r⟩
  ·exact .inl h
  exact .inr ⟨g, cp, cur, e, by omega, r⟩
 refine ⟨by rw [Qe6, List.length_zipIdx, hl]; rfl, ?_⟩
 rintro i ⟨p, i'⟩ hi
 rw [List.getElem?_zipIdx] at hi
 obtain ⟨p', hp, e⟩ := Option.map_eq_some_iff.1 hi
 simp only [Prod.mk.injEq, Nat.zero_add] at e
 obtain ⟨rfl, rfl⟩ := e
 have hil2 : i < (itl (inner.map toSV) 0).length := by rw [hl]; exact (List.getElem?_eq_some_iff.1 hp).1
 obtain ⟨j, j1, j2, j3⟩ := hlots i _ (List.getElem?_eq_getElem hil2)
 rw [hp] at j2
 injection j2 with j2
 subst j2
 have hjl : j < P.length := by rw [← hvl]; exact (List.getElem?_eq_some_iff.1 j1).1
 obtain ⟨u, hu, hR⟩ := hat j P[j] (List.getElem?_eq_getElem hjl)
 rw [(hsv j _ j1).1] at hu
 injection hu with hu
 show Kd.M _ _ _ _ _ (((rowL (itl (inner.map toSV) 0)).drop (i * 2)).take 2)
 rw [Qc7 _ i _ (List.getElem?_eq_getElem hil2)]
 show k67.M W' base _ _ (cellsL _)
 refine Qfx _ _ _ _ ?_
 have hg : P.getD j [] = P[j] := by rw [List.getD_eq_getElem?_getD, List.getElem?_eq_getElem hjl]; rfl
 rw [hu]
 show Kd.R _ _ _ _ _ _ (P.getD j [])
 rw [hg]
 refine Kd.R_mono (Kd.R_below (Kd.R_bound hR) hb') (fun k hk => ?_)
 obtain ⟨⟨_, hfk⟩, hk1, hk2, _⟩ := hk
 refine ⟨⟨trivial, fun e => ?_⟩, by show cntL P (f k) = i; rw [hfk]; exact j3⟩
 rcases hrow.2 with ⟨hv0, _⟩ | ⟨g, cp, cur, hv0, hgb, _⟩
 ·rw [hv0] at e; cases e
 rw [hv0] at e
 simp [Value.ownBlock] at e
 omega
def lot_By.f (k : Nat) (l0 : List (S71)) : Option ((List (S67)) × Int) := (Qal.f k l0).bind fun t682 => (if t682 = 0 then ((Qap.f k l0).bind fun bt683 => (if bt683.2.length ≤ 1000000 then (some (someL bt683.2 0, 0)) else (none))) else (some (([] : List (S67)), t682)))
theorem lot_By.mono : ∀ a0 k, LeO (lot_By.f k a0) (lot_By.f (k + 1) a0) := by
 intro a0 k
 unfold lot_By.f
 exact ZM2 Qal.mono Qap.mono
set_option maxHeartbeats 8000000 in
theorem lot_By.calls (k : Nat) (A0 : Option Addr) (c0 : Nat) (l0 : List (S71)) (r1 : List (S67)) (r2 : Int) (w : World) (hr0 : Kd.C k71 w A0 l0.length l0) (hc0 : l0.length ≤ c0) (h : lot_By.f k l0 = some (r1, r2)) :
  Calls Try.prog 25 #[.slice A0 l0.length c0] w fun e w' => ∃ v0_ : Value, e = .returned (.tuple #[v0_, .int .i64 r2]) ∧ Kd.S k67 67 w' w.heap.size (fun _ => True) v0_ r1 ∧ Below w.heap.size w w' := by
 have HR0 := Aside0.mk hr0
 have HC0 := Aside0.mk hc0
 clear hr0 hc0
 have HB := Aside0.mk (Below.refl w.heap.size w)
 have H : ((Qal.f k l0).bind fun t682 => (if t682 = 0 then ((Qap.f k l0).bind fun bt683 => (if bt683.2.length ≤ 1000000 then (some (someL bt683.2 0, 0)) else (none))) else (some (([] : List (S67)), t682)))) = some (r1, r2) := h
 clear h
 replace H := Option.bind_eq_some_iff.mp H
 obtain ⟨t682, A20, H⟩ := H
 replace H : (if t682 = 0 then ((Qap.f k l0).bind fun bt683 => (if bt683.2.length ≤ 1000000 then (some (someL bt683.2 0, 0)) else (none))) else (some (([] : List (S67)), t682))) = some (r1, r2) := H
 have A2 := Aside0.mk A20
 clear A20
 go_enter Try.func25, Try.ntmps25
 go_upto_if 10 with (first | ((with_reducible refine QaF (f := 9) rfl ?_); refine goesL_ (some 8) rfl rfl Try.func9 (by kernel_rfl) rfl #[.slice A0 l0.length c0] rfl (Zl) ?_; (with_reducible refine (Qal.calls k _ _ l0 t682 _ ?side1 ?side2 A2.out).mono ?_); (case side1 => exact Zv HR0.out); (case side2 => exact HC0.out); rintro e w3 ⟨rfl, hb⟩; refine ⟨_, rfl, ?_⟩; replace HB := Aside0.mk (Qav (Zb) hb); (try clear hb); (try clear hb2); (try clear hk); (try clear hi)))
 (try simp only [Act.put, Zj, Zk, Zm])
 by_cases c4 : t682 = 0
 ·rw [if_pos c4] at H
  have c4b0 : (t682 == 0) = true := beq_iff_eq.mpr c4
  have c4b1 : (t682 != 0) = false := bne_eq_false_iff_eq.mpr c4
  clear c4
  (try simp only [c4b0, c4b1])
  replace H := Option.bind_eq_some_iff.mp H
  obtain ⟨⟨t683, t684⟩, A50, H⟩ := H
  replace H : (if t684.length ≤ 1000000 then (some (someL t684 0, 0)) else (none)) = some (r1, r2) := H
  have A5 := Aside0.mk A50
  clear A50
  by_cases cz : t684.length ≤ 1000000
  ·rw [if_pos cz] at H
   simp only [Option.some.injEq, Prod.mk.injEq] at H
   obtain ⟨rfl, rfl⟩ := H
   have LZ := Aside0.mk cz
   clear cz
   go_upto_region 5 with (first | ((with_reducible refine QaF (f := 14) rfl ?_); refine goesL_ (some 14) rfl rfl Try.func14 (by kernel_rfl) rfl #[.slice A0 l0.length c0] rfl (Zl) ?_; (with_reducible refine (Qap.calls k _ _ l0 t683 t684 _ ?side1 ?side2 A5.out).mono ?_); (case side1 => exact Zv (Kd.C_below HR0.out HB.out)); (case side2 => exact HC0.out); rintro e w6 ⟨v685, v687, rfl, ho0, ho1, hb⟩; refine ⟨_, rfl, ?_⟩; have HO686 := Aside0.mk (Kd.R_lower ho0 (Qau (Zb))); have HO688 := Aside0.mk (Kd.S_lower ho1 (Qau (Zb))); replace HB := Aside0.mk (Qav (Zb) hb); (try clear hb); (try clear hb2); (try clear hk); (try clear hi); (try clear ho0); (try clear ho1)))
   obtain ⟨Aoz, coz, eoz⟩ := Kd.S_slice HO688.out
   subst eoz
   go_wp2_with (first | (go_at_call 72; refine (callsIn_wide.1 (Qea Fence.wide 5 trivial rfl _ _ _ _)).mono ?_; rintro e wz1 ⟨rfl, rfl⟩) | (go_at_call 71; refine (lotsS.calls HO688.out (Qau HB.out) LZ.out).mono ?_; rintro e wz2 ⟨vz, rfl, hz, hbz⟩; have HZ := Aside0.mk hz; have HBZ := Aside0.mk (Qav HB.out hbz); clear hz hbz))
   go_ret2
   exact ⟨_, rfl, HZ.out, HBZ.out⟩
  rw [if_neg cz] at H
  exact absurd H (by simp)
 rw [if_neg c4] at H
 have c4b0 : (t682 == 0) = false := beq_eq_false_iff_ne.mpr c4
 have c4b1 : (t682 != 0) = true := bne_iff_ne.mpr c4
 (try simp only [c4b0, c4b1])
 simp only [Option.some.injEq, Prod.mk.injEq] at H
 obtain ⟨rfl, rfl⟩ := H
 go_wp2
 go_ret2
 exact ⟨_, Zq, by first | exact Kd.S_nil _ _ _ _ _ | exact Kd.N_nil _ _ _ _ _ | exact Kd.V_nil _ _ _ _ _ | exact Kd.Q_nil _ _ _ _ _ | exact Kd.R_nil _ _ _ _ _, Zb⟩
end Go.Proofs.Ytgnmhfjfefgbfaa.Pr
