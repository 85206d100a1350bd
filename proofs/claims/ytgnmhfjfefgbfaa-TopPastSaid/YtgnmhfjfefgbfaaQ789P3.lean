/- Functions' values and contracts, as the print wrote them. -/
import Derived.Test.YtgnmhfjfefgbfaaQ789P0
import Derived.Test.YtgnmhfjfefgbfaaQ789P2
import Derived.Test.YtgnmhfjfefgbfaaQ789P1
namespace Go.Proofs.Ytgnmhfjfefgbfaa.Pr
open Bool renaming true → T
open Bool renaming false → F
open Go.RowKit Go.Proofs.YtgnmhfjfefgbfaaW.PrintWords Go.Proofs.YtgnmhfjfefgbfaaW.PrintLast Go.Proofs.YtgnmhfjfefgbfaaW.PrintMore
attribute [local go_sem] QaL QaN QaT QaU QaJ QaK QaM QaO   -- for this text's walks alone
set_option linter.unusedVariables false
set_option linter.unusedSimpArgs false
set_option maxRecDepth 100000
def sortI.ren : Go.Shelf.Ren := ⟨fun x => if x = 6 then 139 else if x = 14 then 200 else if x = 15 then 195 else if x = 20 then 233 else if x = 21 then 234 else if x = 22 then 235 else if x = 23 then 236 else if x = 24 then 237 else if x = 25 then 238 else if x = 26 then 239 else if x = 27 then 240 else if x = 28 then 230 else if x = 29 then 231 else if x = 46 then 251 else if x = 47 then 247 else if x = 48 then 248 else if x = 49 then 252 else if x = 50 then 253 else if x = 57 then 265 else x, fun x => if x = 0 then 0 else if x = 3 then 3 else if x = 4 then 4 else if x = 5 then 5 else if x = 9 then 9 else if x = 22 then 32 else if x = 24 then 3 else if x = 25 then 239 else if x = 39 then 63 else if x = 45 then 312 else if x = 46 then 313 else if x = 50 then 130 else if x = 53 then 319 else if x = 55 then 283 else if x = 66 then 331 else if x = 70 then 147 else if x = 76 then 347 else if x = 77 then 171 else x, fun x => x⟩
theorem sortI.lay : SlLaysF.n6 Try.prog sortI.ren where
 mixed := by kernel_rfl
 f6 := ⟨"slices.SortFunc[[]int,int]", by kernel_rfl, by kernel_rfl⟩
 f14 := ⟨"slices.pdqsortCmpFunc[int]", by kernel_rfl, by kernel_rfl⟩
 f15 := by kernel_rfl
 f20 := ⟨"slices.insertionSortCmpFunc[int]", by kernel_rfl, by kernel_rfl⟩
 f21 := ⟨"slices.heapSortCmpFunc[int]", by kernel_rfl, by kernel_rfl⟩
 f22 := ⟨"slices.breakPatternsCmpFunc[int]", by kernel_rfl, by kernel_rfl⟩
 f23 := ⟨"slices.choosePivotCmpFunc[int]", by kernel_rfl, by kernel_rfl⟩
 f24 := ⟨"slices.reverseRangeCmpFunc[int]", by kernel_rfl, by kernel_rfl⟩
 f25 := ⟨"slices.partialInsertionSortCmpFunc[int]", by kernel_rfl, by kernel_rfl⟩
 f26 := ⟨"slices.partitionEqualCmpFunc[int]", by kernel_rfl, by kernel_rfl⟩
 f27 := ⟨"slices.partitionCmpFunc[int]", by kernel_rfl, by kernel_rfl⟩
 f28 := by kernel_rfl
 f29 := by kernel_rfl
 f46 := ⟨"slices.siftDownCmpFunc[int]", by kernel_rfl, by kernel_rfl⟩
 f47 := by kernel_rfl
 f48 := by kernel_rfl
 f49 := ⟨"slices.medianAdjacentCmpFunc[int]", by kernel_rfl, by kernel_rfl⟩
 f50 := ⟨"slices.medianCmpFunc[int]", by kernel_rfl, by kernel_rfl⟩
 f57 := ⟨"slices.order2CmpFunc[int]", by kernel_rfl, by kernel_rfl⟩
 t0 := Try.underlying0
 a0 := Try.isAgg0
 z0 := Try.sizeOf0
 v0 := Try.zeroValue0
 t3 := Try.underlying3
 a3 := Try.isAgg3
 z3 := Try.sizeOf3
 v3 := Try.zeroValue3
 t4 := Try.underlying4
 a4 := Try.isAgg4
 z4 := Try.sizeOf4
 v4 := Try.zeroValue4
 t5 := Try.underlying5
 a5 := Try.isAgg5
 z5 := Try.sizeOf5
 v5 := Try.zeroValue5
 t9 := Try.underlying9
 a9 := Try.isAgg9
 z9 := Try.sizeOf9
 v9 := Try.zeroValue9
 t22 := Try.underlying32
 a22 := Try.isAgg32
 z22 := Try.sizeOf32
 v22 := Try.zeroValue32
 a24 := Try.isAgg3
 z24 := Try.sizeOf3
 t25 := Try.underlying239
 a25 := Try.isAgg239
 z25 := Try.sizeOf239
 v25 := Try.zeroValue239
 t39 := Try.underlying63
 a39 := Try.isAgg63
 z39 := Try.sizeOf63
 v39 := Try.zeroValue63
 t45 := Try.underlying312
 a45 := Try.isAgg312
 z45 := Try.sizeOf312
 v45 := Try.zeroValue312
 t46 := Try.underlying313
 a46 := Try.isAgg313
 z46 := Try.sizeOf313
 v46 := Try.zeroValue313
 t50 := Try.underlying130
 a50 := Try.isAgg130
 z50 := Try.sizeOf130
 v50 := Try.zeroValue130
 t53 := Try.underlying319
 a53 := Try.isAgg319
 z53 := Try.sizeOf319
 v53 := Try.zeroValue319
 t55 := Try.underlying283
 a55 := Try.isAgg283
 z55 := Try.sizeOf283
 v55 := Try.zeroValue283
 t66 := Try.underlying331
 a66 := Try.isAgg331
 z66 := Try.sizeOf331
 v66 := Try.zeroValue331
 t70 := Try.underlying147
 a70 := Try.isAgg147
 z70 := Try.sizeOf147
 v70 := Try.zeroValue147
 t76 := Try.underlying347
 a76 := Try.isAgg347
 z76 := Try.sizeOf347
 v76 := Try.zeroValue347
 t77 := Try.underlying171
 a77 := Try.isAgg171
 z77 := Try.sizeOf171
 v77 := Try.zeroValue171
theorem Qdz {w : World} {g : Nat} {cur : Array Value} {t : TypeId} (h : w.heap[g]? = some (.cells cur t (0, 0))) (d : Array Int) (m : Nat) (os : Array Obj) :
  (Go.Sort.grow (Go.Sort.putRow (Value.int .i64) (Go.Sort.ahead w m) g 0 d) os).heap[g]? = some (.cells (Go.Sort.putCells (Value.int .i64) 0 d cur) t (0, 0)) := by
 have hl := blk_lt h
 show ((w.heap.modify g (Go.Sort.onCells (Go.Sort.putCells (Value.int .i64) 0 d))) ++ os)[g]? = _
 rw [Array.getElem?_append_left (by simpa using hl), Array.getElem?_modify, if_pos rfl, h]
 rfl
theorem Qdy {w : World} {g : Nat} (d : Array Int) (m : Nat) (os : Array Obj) : w.grownBy (Go.Sort.grow (Go.Sort.putRow (Value.int .i64) (Go.Sort.ahead w m) g 0 d) os) (some g) := by
 refine ⟨rfl, rfl, rfl, ?_, fun k hk hne => ?_⟩
 ·show w.heap.size ≤ ((w.heap.modify g (Go.Sort.onCells (Go.Sort.putCells (Value.int .i64) 0 d))) ++ os).size
  simp
 show ((w.heap.modify g (Go.Sort.onCells (Go.Sort.putCells (Value.int .i64) 0 d))) ++ os)[k]? = _
 rw [Array.getElem?_append_left (by simpa using hk), Array.getElem?_modify, if_neg (fun e => hne (by rw [e]))]
theorem Qdi (d : Array Int) (cur : Array Value) (h : d.size ≤ cur.size) : (Go.Sort.putCells (Value.int .i64) 0 d cur).toList.take d.size = encs (Value.int .i64) d.toList := by
 apply List.ext_getElem
 ·simp [Go.Sort.putCells, encs]; omega
 intro i h1 h2
 have hi : i < d.size := by simp at h1; omega
 simp only [Go.Sort.putCells, encs, List.getElem_take, Array.getElem_toList, Array.getElem_mapIdx, List.getElem_map]
 rw [if_pos ⟨Nat.zero_le _, by omega⟩, Nat.sub_zero, getElem!_pos d i hi]
theorem sort_R {w : World} {base g cap : Nat} {ok : Nat → Prop} {xs : List Int} (HO : (Kd.int .i64).R 3 w base ok (.slice (some ⟨g, 0, none⟩) xs.length cap) xs) (d : Array Int) (hd : d.size = xs.length) (m : Nat) (os : Array Obj) :
  (Kd.int .i64).R 3 (Go.Sort.grow (Go.Sort.putRow (Value.int .i64) (Go.Sort.ahead w m) g 0 d) os) base ok (.slice (some ⟨g, 0, none⟩) xs.length cap) d.toList ∧ w.grownBy (Go.Sort.grow (Go.Sort.putRow (Value.int .i64) (Go.Sort.ahead w m) g 0 d) os) (some g) := by
 refine ⟨?_, Qdy d m os⟩
 obtain ⟨hlen, hcase⟩ := Kd.own_of_R HO
 rcases hcase with ⟨e, _⟩ | ⟨g', cap', cur, e, hb, hh, hnc, hcm, hcs, htk⟩
 ·cases e
 injection e with e1 e2 e3
 injection e1 with e1
 injection e1 with e1
 subst e1; subst e3
 have hdl : d.toList.length = xs.length := by rw [Array.length_toList, hd]
 refine Kd.R_of_own ⟨by simp [encs], .inr ⟨g, cap, _, by rw [hdl], hb, Qdz hh d m os, by rw [hdl]; exact hnc, hcm, by rw [← hcs]; simp [Go.Sort.putCells], ?_⟩⟩ HO.1
 rw [hdl, Nat.mul_one, ← hd]
 exact Qdi d cur (by omega)
theorem Qdb.calls (x : Int) (w : World) : Calls Try.prog 198 #[.int .i64 x] w fun e w' => e = .returned (.bool F) ∧ w' = w := by
 go_enter Try.func198, Try.ntmps198
 go_wp2
 go_ret
 exact ⟨by simp, rfl⟩
set_option maxHeartbeats 1000000 in
theorem Qdl.calls (x y : Int) (w : World) : Calls Try.prog 131 #[.int .i64 x, .int .i64 y] w fun e w' => e = .returned (.int .i64 (Go.Lib.compareInt x y)) ∧ w' = w := by
 go_enter Try.func131, Try.ntmps131
 go_wp2_with (go_at_call 198; refine (Qdb.calls _ _).mono ?_; rintro e w' ⟨rfl, hw⟩; rw [hw])
 all_goals (go_ret; refine ⟨?_, rfl⟩; unfold Go.Lib.compareInt; (repeat' split) <;> first | rfl | (exfalso; omega))
theorem QcA.calls (x y : Int) (W : World) : Calls Try.prog 140 #[.int .i64 x, .int .i64 y] W fun e w' => e = .returned (.int .i64 (Go.Lib.compareInt y x)) ∧ ∃ q, w' = W.drewN q := by
 have hcon := Qdl.calls y x W
 generalize Go.Lib.compareInt y x = r at hcon ⊢
 go_enter Try.func140, Try.ntmps140
 go_wp2_with (go_at_call 131; refine hcon.mono ?_; rintro e w' ⟨rfl, rfl⟩)
 go_ret
 exact ⟨rfl, 0, rfl⟩
def cmpD (x y : Int) : Int := Go.Lib.compareInt y x
theorem Qbo (x y : Int) : Go.Proofs.ltOf cmpD x y = decide (y < x) := by
 unfold Go.Proofs.ltOf cmpD Go.Lib.compareInt
 by_cases h1 : y < x
 ·simp [h1]
 by_cases h2 : x < y <;> simp [h1, h2]
theorem QcF : Go.Sort.SWO (Go.Proofs.ltOf cmpD) where
 irrefl x := by rw [Qbo]; simp
 trans x y z h1 h2 := by rw [Qbo] at *; simp at *; omega
 ntrans x y z h1 h2 := by rw [Qbo] at *; simp at *; omega
def srtD (l : List Int) : List Int := l.mergeSort (fun x y => decide (y ≤ x))
set_option maxHeartbeats 1000000 in
theorem sortI.own {w : World} {base g cap : Nat} {ok : Nat → Prop} {xs : List Int} (HO : (Kd.int .i64).R 3 w base ok (.slice (some ⟨g, 0, none⟩) xs.length cap) xs) (hl : xs.length < 4611686018427387904) :
  Calls Try.prog 139 #[.slice (some ⟨g, 0, none⟩) xs.length cap, .func (.func 140) #[] #[]] w fun e w' => e = .returned (.tuple #[]) ∧ (Kd.int .i64).R 3 w' base ok (.slice (some ⟨g, 0, none⟩) xs.length cap) (srtD xs) ∧ w.grownBy w' (some g) := by
 have eg : ∀ args w, (callFunc 140 args).run Try.prog w = .ok (.enter 140 args) w := enters_of Try.func140 (by kernel_rfl) rfl
 have hcmp : Go.Proofs.CmpReads Try.prog 140 #[] (Value.int .i64) cmpD g 0 xs.toArray.size w := fun _ _ _ _ x y => QcA.calls x y _
 have hg : Go.Sort.Holds (Value.int .i64) w g 0 xs.toArray ∧ g < w.heap.size := by
  obtain ⟨hlen, hcase⟩ := Kd.own_of_R HO
  rcases hcase with ⟨e, _⟩ | ⟨g', cap', cur, e, hb, hh, hnc, hcm, hcs, htk⟩
  ·cases e
  injection e with e1 e2 e3
  injection e1 with e1
  injection e1 with e1
  subst e1
  refine ⟨fun j hj => ⟨?_, Qai hh _⟩, blk_lt hh⟩
  have hj' : j < xs.length := by simpa using hj
  have hx : (encs (Value.int .i64) xs)[j]? = some (Value.int .i64 (xs.toArray[j]!)) := by
   simp [encs, hj', getElem!_pos]
  rw [Qah hh, Nat.zero_add, ← Array.getElem?_toList]
  rw [← htk, List.getElem?_take] at hx
  split at hx
  ·exact hx
  cases hx
 have h := Go.Proofs.Any.slices_SortFunc sortI.lay (Value.int .i64) (fun _ => rfl) cmpD QcF 140 #[] g 0 cap xs.toArray w eg hcmp.lays hg.1 hg.2 (by simpa using hl)
 change Calls Try.prog 139 _ _ _ at h
 rw [List.size_toArray] at h
 refine h.mono ?_
 rintro e w' ⟨rfl, d', n, os, hp, hs, rfl⟩
 have hd : d'.toList = srtD xs := by
  have hu := Go.Sort.sorted_unique_holds (lt := Go.Proofs.ltOf cmpD) QcF (fun x y h1 h2 => by rw [Qbo] at h1 h2; simp at h1 h2; omega) xs.toArray d' (by rw [List.size_toArray]; exact hp) (by rw [List.size_toArray]; exact hs)
  rw [hu]
  unfold srtD
  congr 1
  funext x y
  rw [Qbo]
  by_cases hxy : x < y
  ·simp [hxy]
  simp [hxy]; omega
 obtain ⟨r1, r2⟩ := sort_R HO d' (by rw [hp.1]; simp) n os
 rw [hd] at r1
 exact ⟨rfl, r1, r2⟩
def QaW.f (k : Nat) (l0 : List Int) (a1 : Int) : Option (List Int × Int) :=
 if (l0.length : Int) > 512 then some ([], 8)
 else if a1 < 1 then some ([], 2)
 else if a1 > (l0.length : Int) then some ([], 2)
 else (QaB.f k l0).bind fun t => if t = T then some ([], 2) else some ((srtD l0).take a1.toNat, 0)
theorem QaW.mono : ∀ a0 a1 k, LeO (QaW.f k a0 a1) (QaW.f (k + 1) a0 a1) := by
 intro a0 a1 k
 unfold QaW.f
 refine LeO.ite (LeO.refl _) (LeO.ite (LeO.refl _) (LeO.ite (LeO.refl _) ?_))
 exact LeO.bind (QaB.mono _ _) (fun _ => LeO.refl _)
theorem QcZ {W : World} {e : Nat} {base : Nat} {ok : Nat → Prop} {v : Value} {xs : List Int} (h : (Kd.int .i64).R e W base ok v xs) (h0 : 0 < xs.length) : ∃ g c, v = .slice (some ⟨g, 0, none⟩) xs.length c ∧ base ≤ g ∧ xs.length ≤ c := by
 obtain ⟨_, hcase⟩ := Kd.own_of_R h
 rcases hcase with ⟨_, hx⟩ | ⟨g, cap, cur, hv, hb, hh, hnc, _⟩
 ·omega
 exact ⟨g, cap, hv, hb, hnc⟩
theorem QcH (l : List Int) : (srtD l).length = l.length := (List.mergeSort_perm _ _).length_eq
set_option maxHeartbeats 8000000 in
theorem QaW.calls (k : Nat) (A0 : Option Addr) (c0 : Nat) (l0 : List Int) (a1 : Int) (r1 : List Int) (r2 : Int) (w : World) (hr0 : Kd.C (Kd.int .i64) w A0 l0.length l0) (hc0 : l0.length ≤ c0) (h : QaW.f k l0 a1 = some (r1, r2)) :
  Calls Try.prog 57 #[.slice A0 l0.length c0, .int .i64 a1] w fun e w' => ∃ v0_ : Value, e = .returned (.tuple #[v0_, .int .i64 r2]) ∧ Kd.R (Kd.int .i64) 3 w' w.heap.size (fun _ => True) v0_ r1 ∧ Below w.heap.size w w' := by
 have HR := Aside0.mk hr0
 have HC := Aside0.mk hc0
 clear hr0 hc0
 unfold QaW.f at h
 by_cases c1 : (l0.length : Int) > 512
 ·rw [if_pos c1] at h
  have c1b : decide ((l0.length : Int) > 512) = T := decide_eq_true c1
  simp only [Option.some.injEq, Prod.mk.injEq] at h
  obtain ⟨rfl, rfl⟩ := h
  clear c1
  go_enter Try.func57, Try.ntmps57
  go_wp2
  go_ret2
  exact ⟨_, rfl, Kd.R_nil _ _ _ _ _, Below.refl _ _⟩
 rw [if_neg c1] at h
 have c1b : decide ((l0.length : Int) > 512) = F := decide_eq_false c1
 have HL := Aside0.mk c1
 clear c1
 by_cases c2 : a1 < 1
 ·rw [if_pos c2] at h
  have c2b : decide (a1 < 1) = T := decide_eq_true c2
  simp only [Option.some.injEq, Prod.mk.injEq] at h
  obtain ⟨rfl, rfl⟩ := h
  clear c2
  go_enter Try.func57, Try.ntmps57
  go_wp2
  go_ret2
  exact ⟨_, rfl, Kd.R_nil _ _ _ _ _, Below.refl _ _⟩
 rw [if_neg c2] at h
 have c2b : decide (a1 < 1) = F := decide_eq_false c2
 have H1 := Aside0.mk c2
 clear c2
 by_cases c3 : a1 > (l0.length : Int)
 ·rw [if_pos c3] at h
  have c3b : decide (a1 > (l0.length : Int)) = T := decide_eq_true c3
  simp only [Option.some.injEq, Prod.mk.injEq] at h
  obtain ⟨rfl, rfl⟩ := h
  clear c3
  go_enter Try.func57, Try.ntmps57
  go_wp2
  go_ret2
  exact ⟨_, rfl, Kd.R_nil _ _ _ _ _, Below.refl _ _⟩
 rw [if_neg c3] at h
 have c3b : decide (a1 > (l0.length : Int)) = F := decide_eq_false c3
 have H2 := Aside0.mk c3
 clear c3
 obtain ⟨t, ht, h⟩ := Option.bind_eq_some_iff.1 h
 have HT := Aside0.mk ht
 clear ht
 cases t with
 | true =>
  rw [if_pos rfl] at h
  simp only [Option.some.injEq, Prod.mk.injEq] at h
  obtain ⟨rfl, rfl⟩ := h
  go_enter Try.func57, Try.ntmps57
  go_wp2_with (first | (go_at_call 132; refine (QaB.calls k A0 c0 l0 T _ HR.out HC.out HT.out).mono ?_; rintro e w1 ⟨rfl, hd⟩; have HB := Aside0.mk hd.below; clear hd))
  go_ret2
  exact ⟨_, rfl, Kd.R_nil _ _ _ _ _, HB.out⟩
 | false =>
  rw [if_neg (by decide)] at h
  simp only [Option.some.injEq, Prod.mk.injEq] at h
  obtain ⟨hq, rfl⟩ := h
  have HQ := Aside0.mk hq
  clear hq
  have hmk : decide ((0 : Int) ≤ (l0.length : Int)) = T := decide_eq_true (by omega)
  have hk0 : (0 : Int) ≤ a1 := by have := H1.out; omega
  have hk1 : a1 ≤ (l0.length : Int) := by have := H2.out; omega
  have hl0 : 0 < l0.length := by have := H1.out; have := H2.out; omega
  have HK := Aside0.mk (And.intro hk0 (And.intro hk1 hl0))
  clear hk1 hl0
  replace hk0 := eq_true hk0
  go_enter Try.func57, Try.ntmps57
  go_upto_region 6 with (first | (go_at_call 132; refine (QaB.calls k A0 c0 l0 F _ HR.out HC.out HT.out).mono ?_; rintro e w1 ⟨rfl, hd⟩; have HB := Aside0.mk hd.below; clear hd) | ((with_reducible refine QaR (N := 24) rfl ?_); refine Kd.R_make (Kd.int .i64) _ 3 rfl (N := 24) rfl 32 _ _ rfl (l0.length : Int) rfl rfl Try.underlying32 (.int .i64 0) 8 info3 rfl (by decide) (by omega) 0 (ok := fun _ => True) (okp := fun _ => True) rfl (fun _ hk => hk) trivial (by omega) (by have := HL.out; omega) (Below.refl _ _) (Nat.le_refl _) ?_; intro v1 w2 ho hb hg hnew; have n1_ := Aside0.mk (Kd.R_lower ho (Qax HB.out)); have n2_ := Aside0.mk (Qap HB.out hb); clear HB ho hb hg hnew; have HO := n1_; have HB := n2_; clear n1_ n2_))
  go_upto_region 7 with (first | ((with_reducible refine QaR (N := 27) rfl ?_); refine Qc4 (Kd.int .i64) _ rfl (.tmp 25) (.tmp 26) 32 32 3 rfl Try.underlying32 (by kernel_rfl) (by decide) _ _ l0 A0 l0.length c0 _ (fun k => True ∧ some k ≠ v1.ownBlock) rfl rfl HO.out (Kd.C_below HR.out HB.out) (fun W' x cs hx => hx) (fun k hk => hk) HB.out (by have := HB.out.size; omega) (by simp) ?_; intro w3 ho2 hb2 hg2; have HO2 := Aside0.mk ho2; have HB2 := Aside0.mk hb2; clear ho2 hb2 hg2 HO HB))
  obtain ⟨g, c, hv, hgb, hgc⟩ := QcZ HO2.out HK.out.2.2
  subst hv
  have GB := Aside0.mk (And.intro hgb hgc)
  have hk2 : (a1 ≤ (c : Int)) = True := eq_true (by have := HK.out; omega)
  clear hgb hgc
  go_wp2_with (first | (go_at_call 139; refine (sortI.own HO2.out (by have := HL.out; omega)).mono ?_; rintro e w4 ⟨rfl, hr, hg⟩; have HO3 := Aside0.mk hr; have HB3 := Aside0.mk (HB2.out.grown hg (Qax HB2.out) (fun j hj => by cases hj; exact GB.out.1)); clear hr hg HO2 HB2))
  go_ret2
  refine ⟨_, rfl, ?_, HB3.out⟩
  rw [← HQ.out]
  have hx := Kd.R_take (m := a1.toNat) HO3.out (by rw [QcH]; have := HK.out; omega)
  exact hx
def Qay.l0 : Nat → Int → Int → Int → List Int → Int → Int → Option (Int × Int)
 | 0, _, _, _, _, _, _ => none
 | k + 1, x1, x4, x7, x20, x21, x22 => if x22 < x21 then (if 0 ≤ x22 then (if x22 < (x20.length : Int) then (if x1 = 0 then (none) else (Qay.l0 k x1 (wrap64 (x4 + (wrap64 (Int.tdiv (wrap64 ((rd x20 x22) - (Int.tmod (wrap64 ((Int.tmod (rd x20 x22) x1) + x1)) x1))) x1)))) (wrap64 (x7 + (Int.tmod (wrap64 ((Int.tmod (rd x20 x22) x1) + x1)) x1))) x20 x21 (wrap64 (x22 + 1)))) else (none)) else (none)) else (if x1 = 0 then (none) else (some (mx (wrap64 (x4 + (wrap64 (Int.tdiv (wrap64 ((wrap64 (x7 + x1)) - 1)) x1)))) 0, 0)))
def Qay.f (k : Nat) (l0 : List Int) (a1 : Int) : Option (Int × Int) := (QaW.f k l0 a1).bind fun bt368 => (if bt368.2 = 0 then (Qay.l0 k a1 0 0 bt368.1 (bt368.1.length : Int) 0) else (some (0, bt368.2)))
theorem Qay.mono_l : ∀ k, (∀ y0 y1 y2 y3 y4 y5, LeO (Qay.l0 k y0 y1 y2 y3 y4 y5) (Qay.l0 (k + 1) y0 y1 y2 y3 y4 y5))
 | 0 => fun _ _ _ _ _ _ r h => by simp [Qay.l0] at h
 | k + 1 => by
  have ih0 := Qay.mono_l k
  intro y0 y1 y2 y3 y4 y5
  unfold Qay.l0
  exact ZM2 ih0 QaW.mono
theorem Qay.mono : ∀ a0 a1 k, LeO (Qay.f k a0 a1) (Qay.f (k + 1) a0 a1) := by
 intro a0 a1 k
 have ih0 := Qay.mono_l k
 unfold Qay.f
 exact ZM2 ih0 QaW.mono
set_option maxHeartbeats 8000000 in
theorem Qay.calls (k : Nat) (A0 : Option Addr) (c0 : Nat) (l0 : List Int) (a1 : Int) (r1 : Int) (r2 : Int) (w : World) (hr0 : Kd.C (Kd.int .i64) w A0 l0.length l0) (hc0 : l0.length ≤ c0) (h : Qay.f k l0 a1 = some (r1, r2)) :
  Calls Try.prog 13 #[.slice A0 l0.length c0, .int .i64 a1] w fun e w' => e = .returned (.tuple #[.int .i64 r1, .int .i64 r2]) ∧ Below w.heap.size w w' := by
 have HR0 := Aside0.mk hr0
 have HC0 := Aside0.mk hc0
 clear hr0 hc0
 have HB := Aside0.mk (Below.refl w.heap.size w)
 have H : ((QaW.f k l0 a1).bind fun bt368 => (if bt368.2 = 0 then (Qay.l0 k a1 0 0 bt368.1 (bt368.1.length : Int) 0) else (some (0, bt368.2)))) = some (r1, r2) := h
 clear h
 replace H := Option.bind_eq_some_iff.mp H
 obtain ⟨⟨t368, t369⟩, A30, H⟩ := H
 replace H : (if t369 = 0 then (Qay.l0 k a1 0 0 t368 (t368.length : Int) 0) else (some (0, t369))) = some (r1, r2) := H
 have A3 := Aside0.mk A30
 clear A30
 go_enter Try.func13, Try.ntmps13
 go_upto_if 18 with (first | ((with_reducible refine QaI (f := 57) rfl ?_); refine goesL_ (some 14) rfl rfl Try.func57 (by kernel_rfl) rfl #[.slice A0 l0.length c0, .int .i64 a1] rfl (Zl) ?_; (with_reducible refine (QaW.calls k _ _ l0 a1 t368 t369 _ ?side1 ?side2 A3.out).mono ?_); (case side1 => exact Zv HR0.out); (case side2 => exact HC0.out); rintro e w4 ⟨v370, rfl, ho0, hb⟩; refine ⟨_, rfl, ?_⟩; have HO371 := Aside0.mk (Kd.R_lower ho0 (Qax (Zb))); replace HB := Aside0.mk (Qap (Zb) hb); (try clear hb); (try clear hb2); (try clear hk); (try clear hi); (try clear ho0)))
 (try simp only [Act.put, Zj, Zk, Zm])
 by_cases c5 : t369 = 0
 ·rw [if_pos c5] at H
  have c5b0 : (t369 == 0) = T := beq_iff_eq.mpr c5
  have c5b1 : (t369 != 0) = F := bne_eq_false_iff_eq.mpr c5
  clear c5
  (try simp only [c5b0, c5b1])
  have H' := Aside0.mk H
  clear H
  obtain ⟨Ao6, co6, eo6⟩ := Kd.R_slice HO371.out
  subst eo6
  go_wp2
  go_loopg [4, 7, 22] k (fun kq v4 v7 v22 w' => ∃ (x4_1 : Int) (x7_1 : Int) (x22_1 : Int), v4 = .int .i64 x4_1 ∧ v7 = .int .i64 x7_1 ∧ v22 = .int .i64 x22_1 ∧ Aside0 (Qay.l0 kq a1 x4_1 x7_1 t368 (t368.length : Int) x22_1 = some (r1, r2)) ∧ Aside0 (kq ≤ k) ∧ Aside0 (Kd.R (Kd.int .i64) 3 w' w.heap.size (fun _ => True) (.slice Ao6 t368.length co6) t368) ∧ Aside0 (Below w.heap.size w w'))
  case atStart => exact ⟨(0), (0), (0), (Zs), (Zs), (Zs), H', ⟨Nat.le_refl _⟩, ⟨Zr HO371.out⟩, ⟨Zb⟩⟩
  case round =>
   clear H'
   try clear c1
   try clear p2
   try clear c5
   try clear c5b0
   try clear c5b1
   obtain ⟨x4_1, x7_1, x22_1, rfl, rfl, rfl, HA, HK1, HO_20, HB⟩ := hrel
   cases gk with
   | zero => exact absurd HA.out (by simp [Qay.l0])
   | succ k1 =>
    have H := HA.out
    clear HA
    simp only [Qay.l0] at H
    by_cases c7 : x22_1 < (t368.length : Int)
    ·rw [if_pos c7] at H
     have c7b0 : decide (x22_1 < (t368.length : Int)) = T := decide_eq_true c7
     clear c7
     (try simp only [c7b0])
     by_cases c8 : 0 ≤ x22_1
     ·rw [if_pos c8] at H
      have c8b0 : decide (0 ≤ x22_1) = T := decide_eq_true c8
      clear c8
      by_cases c9 : x22_1 < (t368.length : Int)
      ·rw [if_pos c9] at H
       have c9b0 : decide (x22_1 < (t368.length : Int)) = T := decide_eq_true c9
       clear c9
       by_cases c10 : a1 = 0
       ·rw [if_pos c10] at H
        exact absurd H (by simp)
       rw [if_neg c10] at H
       have c10b0 : (a1 == 0) = F := beq_eq_false_iff_ne.mpr c10
       have c10b1 : (a1 != 0) = T := bne_iff_ne.mpr c10
       have H' := Aside0.mk H
       clear H
       have p372 : 0 ≤ (x22_1 : Int) := Ze
       have q372 : x22_1 < (t368.length : Int) := Ze
       obtain ⟨ad372, e372, hx372_0⟩ := Kd.at_int (Kd.R_reads' HO_20.out).2.2 x22_1 p372 q372
       cases e372
       replace p372 := eq_true p372
       replace q372 := eq_true q372
       go_wp2
       go_roundg k1
       case measure => have := HK1.out; omega
       case rel => exact ⟨(wrap64 (x4_1 + (wrap64 (Int.tdiv (wrap64 ((rd t368 x22_1) - (Int.tmod (wrap64 ((Int.tmod (rd t368 x22_1) a1) + a1)) a1))) a1)))), (wrap64 (x7_1 + (Int.tmod (wrap64 ((Int.tmod (rd t368 x22_1) a1) + a1)) a1))), (wrap64 (x22_1 + 1)), (Zs), (Zs), (Zs), H', ⟨by have := HK1.out; omega⟩, ⟨Zr HO_20.out⟩, ⟨Zb⟩⟩
      rw [if_neg c9] at H
      exact absurd H (by simp)
     rw [if_neg c8] at H
     exact absurd H (by simp)
    rw [if_neg c7] at H
    have c7b0 : decide (x22_1 < (t368.length : Int)) = F := decide_eq_false c7
    clear c7
    (try simp only [c7b0])
    by_cases c11 : a1 = 0
    ·rw [if_pos c11] at H
     exact absurd H (by simp)
    rw [if_neg c11] at H
    have c11b0 : (a1 == 0) = F := beq_eq_false_iff_ne.mpr c11
    have c11b1 : (a1 != 0) = T := bne_iff_ne.mpr c11
    obtain ⟨ji12, hji12⟩ : ∃ j_ : Int, (mx (wrap64 (x4_1 + (wrap64 (Int.tdiv (wrap64 ((wrap64 (x7_1 + a1)) - 1)) a1)))) 0) = j_ := ⟨_, rfl⟩
    replace H : (some (ji12, 0)) = some (r1, r2) := by first | (rw [hji12] at H; exact H) | (simp only [hji12] at H ⊢; exact H)
    have hji12_ : (if (wrap64 (x4_1 + (wrap64 (Int.tdiv (wrap64 ((wrap64 (x7_1 + a1)) - 1)) a1)))) < 0 then 0 else (wrap64 (x4_1 + (wrap64 (Int.tdiv (wrap64 ((wrap64 (x7_1 + a1)) - 1)) a1))))) = ji12 := hji12
    simp only [Option.some.injEq, Prod.mk.injEq] at H
    obtain ⟨rfl, rfl⟩ := H
    go_wp2
    go_ret2
    exact ⟨by first | rfl | (simp [Qar, Qas] <;> rfl) | (simp only [← hji12]; first | rfl | (simp [Qar, Qas] <;> rfl)) | (simp [*, Qar, Qas] <;> rfl), Zb⟩
 rw [if_neg c5] at H
 have c5b0 : (t369 == 0) = F := beq_eq_false_iff_ne.mpr c5
 have c5b1 : (t369 != 0) = T := bne_iff_ne.mpr c5
 (try simp only [c5b0, c5b1])
 simp only [Option.some.injEq, Prod.mk.injEq] at H
 obtain ⟨rfl, rfl⟩ := H
 go_wp2
 go_ret2
 exact ⟨Zq, Zb⟩
mutual
def contangotop_TopPast.j0 : Nat → List (S71) → List (S71) → Bool → List (S69) → List (List Int) → Int → Option (Bool)
 | 0, _, _, _, _, _, _ => none
 | k + 1, x0, x1, x41, x374000, x374001, x374002 => if x41 = T then ((Qav.f k).bind fun t376 => (some t376)) else ((Qak.f k x0 x1).bind fun bt377 => (if bt377.2 = T then ((Qao.f k x0 x374000 x374001).bind fun bt382 => ((Qao.f k x1 x374000 x374001).bind fun bt386 => ((Qao.f k bt377.1 x374000 x374001).bind fun bt390 => (if bt382.2 = 0 then (if bt386.2 = 0 then (contangotop_TopPast.j1 k bt382.1 bt386.1 bt390.1 (bt390.2 != 0) x374000 x374001 x374002) else (contangotop_TopPast.j1 k bt382.1 bt386.1 bt390.1 T x374000 x374001 x374002)) else (contangotop_TopPast.j1 k bt382.1 bt386.1 bt390.1 T x374000 x374001 x374002))))) else ((Qav.f k).bind fun t381 => (some t381))))
def contangotop_TopPast.j1 : Nat → List Int → List Int → List Int → Bool → List (S69) → List (List Int) → Int → Option (Bool)
 | 0, _, _, _, _, _, _, _ => none
 | k + 1, x9, x11, x13, x88, x374000, x374001, x374002 => if x88 = T then ((Qav.f k).bind fun t394 => (some t394)) else (if (x9.length : Int) = (x374001.length : Int) then (if (x11.length : Int) = (x9.length : Int) then (contangotop_TopPast.j2 k x9 x11 x13 ((x13.length : Int) != (x9.length : Int)) x374000 x374001 x374002) else (contangotop_TopPast.j2 k x9 x11 x13 T x374000 x374001 x374002)) else (contangotop_TopPast.j2 k x9 x11 x13 T x374000 x374001 x374002))
def contangotop_TopPast.j2 : Nat → List Int → List Int → List Int → Bool → List (S69) → List (List Int) → Int → Option (Bool)
 | 0, _, _, _, _, _, _, _ => none
 | k + 1, x9, x11, x13, x109, x374000, x374001, x374002 => if x109 = T then (none) else (contangotop_TopPast.l0 k x9 x11 x13 0 x374000 x374001 x374002)
def contangotop_TopPast.l0 : Nat → List Int → List Int → List Int → Int → List (S69) → List (List Int) → Int → Option (Bool)
 | 0, _, _, _, _, _, _, _ => none
 | k + 1, x9, x11, x13, x15, x374000, x374001, x374002 => if x15 < (x9.length : Int) then (if 0 ≤ x15 then (if x15 < (x13.length : Int) then (if x15 < (x11.length : Int) then (if (rd x13 x15) = (wrap64 ((rd x9 x15) + (rd x11 x15))) then (contangotop_TopPast.l0 k x9 x11 x13 (wrap64 (x15 + 1)) x374000 x374001 x374002) else (none)) else (none)) else (none)) else (none)) else ((Qay.f k x9 x374002).bind fun bt398 => ((Qay.f k x11 x374002).bind fun bt400 => ((Qay.f k x13 x374002).bind fun bt402 => (if bt398.2 = bt400.2 then (if bt400.2 = bt402.2 then (if bt402.1 ≤ (wrap64 (bt398.1 + bt400.1)) then ((Qav.f k).bind fun t404 => (some t404)) else (none)) else (none)) else (none)))))
end
def contangotop_TopPast.f (k : Nat) (l0 : List (S71)) (l1 : List (S71)) (l2_0 : List (S69)) (l2_1 : List (List Int)) (a2_2 : Int) : Option (Bool) := (Qal.f k l0).bind fun t374 => (if t374 = 0 then ((Qal.f k l1).bind fun t375 => (if t375 = 0 then (if (l2_1.length : Int) > 40 then (contangotop_TopPast.j0 k l0 l1 T l2_0 l2_1 a2_2) else (contangotop_TopPast.j0 k l0 l1 (decide ((l2_0.length : Int) > 130)) l2_0 l2_1 a2_2)) else (contangotop_TopPast.j0 k l0 l1 T l2_0 l2_1 a2_2))) else (contangotop_TopPast.j0 k l0 l1 T l2_0 l2_1 a2_2))
theorem contangotop_TopPast.mono_l : ∀ k, (∀ y0 y1 y2 y3 y4 y5, LeO (contangotop_TopPast.j0 k y0 y1 y2 y3 y4 y5) (contangotop_TopPast.j0 (k + 1) y0 y1 y2 y3 y4 y5)) ∧ (∀ y0 y1 y2 y3 y4 y5 y6, LeO (contangotop_TopPast.j1 k y0 y1 y2 y3 y4 y5 y6) (contangotop_TopPast.j1 (k + 1) y0 y1 y2 y3 y4 y5 y6)) ∧ (∀ y0 y1 y2 y3 y4 y5 y6, LeO (contangotop_TopPast.j2 k y0 y1 y2 y3 y4 y5 y6) (contangotop_TopPast.j2 (k + 1) y0 y1 y2 y3 y4 y5 y6)) ∧ (∀ y0 y1 y2 y3 y4 y5 y6, LeO (contangotop_TopPast.l0 k y0 y1 y2 y3 y4 y5 y6) (contangotop_TopPast.l0 (k + 1) y0 y1 y2 y3 y4 y5 y6))
 | 0 => ⟨fun _ _ _ _ _ _ r h => by simp [contangotop_TopPast.j0] at h, fun _ _ _ _ _ _ _ r h => by simp [contangotop_TopPast.j1] at h, fun _ _ _ _ _ _ _ r h => by simp [contangotop_TopPast.j2] at h, fun _ _ _ _ _ _ _ r h => by simp [contangotop_TopPast.l0] at h⟩
 | k + 1 => by
  obtain ⟨ih0, ih1, ih2, ih3⟩ := contangotop_TopPast.mono_l k
  refine ⟨?_, ?_, ?_, ?_⟩
  ·intro y0 y1 y2 y3 y4 y5
   unfold contangotop_TopPast.j0
   exact ZM9 ih0 ih1 ih2 ih3 Qak.mono Qav.mono Qao.mono Qay.mono Qal.mono
  ·intro y0 y1 y2 y3 y4 y5 y6
   unfold contangotop_TopPast.j1
   exact ZM9 ih0 ih1 ih2 ih3 Qak.mono Qav.mono Qao.mono Qay.mono Qal.mono
  ·intro y0 y1 y2 y3 y4 y5 y6
   unfold contangotop_TopPast.j2
   exact ZM9 ih0 ih1 ih2 ih3 Qak.mono Qav.mono Qao.mono Qay.mono Qal.mono
  intro y0 y1 y2 y3 y4 y5 y6
  unfold contangotop_TopPast.l0
  exact ZM9 ih0 ih1 ih2 ih3 Qak.mono Qav.mono Qao.mono Qay.mono Qal.mono
theorem contangotop_TopPast.mono : ∀ a0 a1 a2 a3 a4 k, LeO (contangotop_TopPast.f k a0 a1 a2 a3 a4) (contangotop_TopPast.f (k + 1) a0 a1 a2 a3 a4) := by
 intro a0 a1 a2 a3 a4 k
 obtain ⟨ih0, ih1, ih2, ih3⟩ := contangotop_TopPast.mono_l k
 unfold contangotop_TopPast.f
 exact ZM9 ih0 ih1 ih2 ih3 Qak.mono Qav.mono Qao.mono Qay.mono Qal.mono
set_option maxHeartbeats 8000000 in
theorem contangotop_TopPast.calls (k : Nat) (A0 : Option Addr) (c0 : Nat) (l0 : List (S71)) (A1 : Option Addr) (c1 : Nat) (l1 : List (S71)) (A2_0 : Option Addr) (c2_0 : Nat) (l2_0 : List (S69)) (A2_1 : Option Addr) (c2_1 : Nat) (l2_1 : List (List Int)) (a2_2 : Int) (r : Bool) (w : World) (hr0 : Kd.C k71 w A0 l0.length l0) (hc0 : l0.length ≤ c0) (hr1 : Kd.C k71 w A1 l1.length l1) (hc1 : l1.length ≤ c1) (hr2_0 : Kd.C k69 w A2_0 l2_0.length l2_0) (hc2_0 : l2_0.length ≤ c2_0) (hr2_1 : Kd.C (Kd.slice 3 (Kd.int .i64)) w A2_1 l2_1.length l2_1) (hc2_1 : l2_1.length ≤ c2_1) (h : contangotop_TopPast.f k l0 l1 l2_0 l2_1 a2_2 = some r) :
  Calls Try.prog 3 #[.slice A0 l0.length c0, .slice A1 l1.length c1, .agg #[.slice A2_0 l2_0.length c2_0, .slice A2_1 l2_1.length c2_1, .int .i64 a2_2]] w fun e w' => e = .returned (.bool r) ∧ Below w.heap.size w w' := by
 have hu26 := Try.underlying26
 have HR0 := Aside0.mk hr0
 have HC0 := Aside0.mk hc0
 clear hr0 hc0
 have HR1 := Aside0.mk hr1
 have HC1 := Aside0.mk hc1
 clear hr1 hc1
 have HR2_0 := Aside0.mk hr2_0
 have HC2_0 := Aside0.mk hc2_0
 clear hr2_0 hc2_0
 have HR2_1 := Aside0.mk hr2_1
 have HC2_1 := Aside0.mk hc2_1
 clear hr2_1 hc2_1
 have HB := Aside0.mk (Below.refl w.heap.size w)
 have H : ((Qal.f k l0).bind fun t374 => (if t374 = 0 then ((Qal.f k l1).bind fun t375 => (if t375 = 0 then (if (l2_1.length : Int) > 40 then (contangotop_TopPast.j0 k l0 l1 T l2_0 l2_1 a2_2) else (contangotop_TopPast.j0 k l0 l1 (decide ((l2_0.length : Int) > 130)) l2_0 l2_1 a2_2)) else (contangotop_TopPast.j0 k l0 l1 T l2_0 l2_1 a2_2))) else (contangotop_TopPast.j0 k l0 l1 T l2_0 l2_1 a2_2))) = some r := h
 clear h
 have HC4 := Aside0.mk H
 clear H
 go_enter Try.func3, Try.ntmps3
 go_upto_region 1 with (first | ((with_reducible refine QaR (N := 5) rfl ?_); (try (refine Qbh (by rfl) ?_; dsimp only)); refine Zbx (N := 5) (cs := #[.slice A2_0 l2_0.length c2_0, .slice A2_1 l2_1.length c2_1, .int .i64 a2_2]) (t := 26) ?_; intro gb373 hg w5 hbox hb; have BK373 := Aside0.mk (hbox); have GW373 := Aside0.mk (Zt w hg (Zb)); have GE373 := GW373; replace HB := Aside0.mk (Qap (Zb) hb); clear hb hbox hg))
 repeat (go_quiet (first | ((with_reducible refine QaR (N := 5) rfl ?_); (try (refine Qbh (by rfl) ?_; dsimp only)); refine Zbx (N := 5) (cs := #[.slice A2_0 l2_0.length c2_0, .slice A2_1 l2_1.length c2_1, .int .i64 a2_2]) (t := 26) ?_; intro gb373 hg w5 hbox hb; have BK373 := Aside0.mk (hbox); have GW373 := Aside0.mk (Zt w hg (Zb)); have GE373 := GW373; replace HB := Aside0.mk (Qap (Zb) hb); clear hb hbox hg)); go_upto_region 1 with (first | ((with_reducible refine QaR (N := 5) rfl ?_); (try (refine Qbh (by rfl) ?_; dsimp only)); refine Zbx (N := 5) (cs := #[.slice A2_0 l2_0.length c2_0, .slice A2_1 l2_1.length c2_1, .int .i64 a2_2]) (t := 26) ?_; intro gb373 hg w5 hbox hb; have BK373 := Aside0.mk (hbox); have GW373 := Aside0.mk (Zt w hg (Zb)); have GE373 := GW373; replace HB := Aside0.mk (Qap (Zb) hb); clear hb hbox hg)))
 (try simp only [Act.put, Zj, Zk, Zm])
 go_cut [41] (fun v41 wc => ∃ (kq : Nat) (x41_3 : Bool), v41 = .bool x41_3 ∧ Aside0 (contangotop_TopPast.j0 kq l0 l1 x41_3 l2_0 l2_1 a2_2 = some r) ∧ Aside0 (kq ≤ k) ∧ Aside0 (wc.heap[gb373]? = some (.cells #[(.slice A2_0 l2_0.length c2_0), (.slice A2_1 l2_1.length c2_1), .int .i64 a2_2] 26 (0, 0))) ∧ Aside0 (Below w.heap.size w wc))
 case first =>
  have H := HC4.out
  clear HC4
  replace H := Option.bind_eq_some_iff.mp H
  obtain ⟨t374, A60, H⟩ := H
  replace H : (if t374 = 0 then ((Qal.f k l1).bind fun t375 => (if t375 = 0 then (if (l2_1.length : Int) > 40 then (contangotop_TopPast.j0 k l0 l1 T l2_0 l2_1 a2_2) else (contangotop_TopPast.j0 k l0 l1 (decide ((l2_0.length : Int) > 130)) l2_0 l2_1 a2_2)) else (contangotop_TopPast.j0 k l0 l1 T l2_0 l2_1 a2_2))) else (contangotop_TopPast.j0 k l0 l1 T l2_0 l2_1 a2_2)) = some r := H
  have A6 := Aside0.mk A60
  clear A60
  by_cases c7 : t374 = 0
  ·rw [if_pos c7] at H
   have c7b0 : (t374 == 0) = T := beq_iff_eq.mpr c7
   have c7b1 : (t374 != 0) = F := bne_eq_false_iff_eq.mpr c7
   clear c7
   replace H := Option.bind_eq_some_iff.mp H
   obtain ⟨t375, A80, H⟩ := H
   replace H : (if t375 = 0 then (if (l2_1.length : Int) > 40 then (contangotop_TopPast.j0 k l0 l1 T l2_0 l2_1 a2_2) else (contangotop_TopPast.j0 k l0 l1 (decide ((l2_0.length : Int) > 130)) l2_0 l2_1 a2_2)) else (contangotop_TopPast.j0 k l0 l1 T l2_0 l2_1 a2_2)) = some r := H
   have A8 := Aside0.mk A80
   clear A80
   by_cases c9 : t375 = 0
   ·rw [if_pos c9] at H
    have c9b0 : (t375 == 0) = T := beq_iff_eq.mpr c9
    have c9b1 : (t375 != 0) = F := bne_eq_false_iff_eq.mpr c9
    clear c9
    by_cases c10 : (l2_1.length : Int) > 40
    ·rw [if_pos c10] at H
     have c10b0 : decide (40 < (l2_1.length : Int)) = T := decide_eq_true c10
     have c10b1 : decide (40 < l2_1.length) = T := decide_eq_true (by omega)
     clear c10
     have H' := Aside0.mk H
     clear H
     go_wp2_with (first | (go_at_call 9; (with_reducible refine (Qal.calls k _ _ l0 t374 _ ?side1 ?side2 A6.out).mono ?_); (case side1 => exact Zv (Kd.C_below HR0.out HB.out)); (case side2 => exact HC0.out); rintro e w11 ⟨rfl, hb⟩; replace BK373 := Aside0.mk (Zi BK373.out hb); replace HB := Aside0.mk (Qap (Zc1 GE373.out) hb); (try clear hb); (try clear hb2); (try clear hk); (try clear hi)) | (go_at_call 9; (with_reducible refine (Qal.calls k _ _ l1 t375 _ ?side1 ?side2 A8.out).mono ?_); (case side1 => exact Zv (Kd.C_below HR1.out HB.out)); (case side2 => exact HC1.out); rintro e w12 ⟨rfl, hb⟩; replace BK373 := Aside0.mk (Zi BK373.out hb); replace HB := Aside0.mk (Qap (Zc1 GE373.out) hb); (try clear hb); (try clear hb2); (try clear hk); (try clear hi); obtain ⟨hcz13_0, hfz13_0⟩ := Zy (v := (.slice A2_0 l2_0.length c2_0)) BK373.out 0; obtain ⟨hcz13_1, hfz13_1⟩ := Zy (v := (.slice A2_1 l2_1.length c2_1)) BK373.out 1; obtain ⟨hcz13_2, hfz13_2⟩ := Zy (v := (.int .i64 a2_2)) BK373.out 2))
     repeat (go_quiet (first | (go_at_call 9; (with_reducible refine (Qal.calls k _ _ l0 t374 _ ?side1 ?side2 A6.out).mono ?_); (case side1 => exact Zv (Kd.C_below HR0.out HB.out)); (case side2 => exact HC0.out); rintro e w11 ⟨rfl, hb⟩; replace BK373 := Aside0.mk (Zi BK373.out hb); replace HB := Aside0.mk (Qap (Zc1 GE373.out) hb); (try clear hb); (try clear hb2); (try clear hk); (try clear hi)) | (go_at_call 9; (with_reducible refine (Qal.calls k _ _ l1 t375 _ ?side1 ?side2 A8.out).mono ?_); (case side1 => exact Zv (Kd.C_below HR1.out HB.out)); (case side2 => exact HC1.out); rintro e w12 ⟨rfl, hb⟩; replace BK373 := Aside0.mk (Zi BK373.out hb); replace HB := Aside0.mk (Qap (Zc1 GE373.out) hb); (try clear hb); (try clear hb2); (try clear hk); (try clear hi); obtain ⟨hcz13_0, hfz13_0⟩ := Zy (v := (.slice A2_0 l2_0.length c2_0)) BK373.out 0; obtain ⟨hcz13_1, hfz13_1⟩ := Zy (v := (.slice A2_1 l2_1.length c2_1)) BK373.out 1; obtain ⟨hcz13_2, hfz13_2⟩ := Zy (v := (.int .i64 a2_2)) BK373.out 2)); try go_wp2_with (first | (go_at_call 9; (with_reducible refine (Qal.calls k _ _ l0 t374 _ ?side1 ?side2 A6.out).mono ?_); (case side1 => exact Zv (Kd.C_below HR0.out HB.out)); (case side2 => exact HC0.out); rintro e w11 ⟨rfl, hb⟩; replace BK373 := Aside0.mk (Zi BK373.out hb); replace HB := Aside0.mk (Qap (Zc1 GE373.out) hb); (try clear hb); (try clear hb2); (try clear hk); (try clear hi)) | (go_at_call 9; (with_reducible refine (Qal.calls k _ _ l1 t375 _ ?side1 ?side2 A8.out).mono ?_); (case side1 => exact Zv (Kd.C_below HR1.out HB.out)); (case side2 => exact HC1.out); rintro e w12 ⟨rfl, hb⟩; replace BK373 := Aside0.mk (Zi BK373.out hb); replace HB := Aside0.mk (Qap (Zc1 GE373.out) hb); (try clear hb); (try clear hb2); (try clear hk); (try clear hi); obtain ⟨hcz13_0, hfz13_0⟩ := Zy (v := (.slice A2_0 l2_0.length c2_0)) BK373.out 0; obtain ⟨hcz13_1, hfz13_1⟩ := Zy (v := (.slice A2_1 l2_1.length c2_1)) BK373.out 1; obtain ⟨hcz13_2, hfz13_2⟩ := Zy (v := (.int .i64 a2_2)) BK373.out 2)))
     go_meet
     case rel => exact ⟨_, (T), (Zs), H', ⟨by first | omega | exact Nat.le_refl _⟩, ⟨Zu BK373.out⟩, ⟨Zc1 GE373.out⟩⟩
    rw [if_neg c10] at H
    have c10b0 : decide (40 < (l2_1.length : Int)) = F := decide_eq_false c10
    have c10b1 : decide (40 < l2_1.length) = F := decide_eq_false (by omega)
    clear c10
    have H' := Aside0.mk H
    clear H
    go_wp2_with (first | (go_at_call 9; (with_reducible refine (Qal.calls k _ _ l0 t374 _ ?side1 ?side2 A6.out).mono ?_); (case side1 => exact Zv (Kd.C_below HR0.out HB.out)); (case side2 => exact HC0.out); rintro e w14 ⟨rfl, hb⟩; replace BK373 := Aside0.mk (Zi BK373.out hb); replace HB := Aside0.mk (Qap (Zc1 GE373.out) hb); (try clear hb); (try clear hb2); (try clear hk); (try clear hi)) | (go_at_call 9; (with_reducible refine (Qal.calls k _ _ l1 t375 _ ?side1 ?side2 A8.out).mono ?_); (case side1 => exact Zv (Kd.C_below HR1.out HB.out)); (case side2 => exact HC1.out); rintro e w15 ⟨rfl, hb⟩; replace BK373 := Aside0.mk (Zi BK373.out hb); replace HB := Aside0.mk (Qap (Zc1 GE373.out) hb); (try clear hb); (try clear hb2); (try clear hk); (try clear hi); obtain ⟨hcz16_0, hfz16_0⟩ := Zy (v := (.slice A2_0 l2_0.length c2_0)) BK373.out 0; obtain ⟨hcz16_1, hfz16_1⟩ := Zy (v := (.slice A2_1 l2_1.length c2_1)) BK373.out 1; obtain ⟨hcz16_2, hfz16_2⟩ := Zy (v := (.int .i64 a2_2)) BK373.out 2))
    repeat (go_quiet (first | (go_at_call 9; (with_reducible refine (Qal.calls k _ _ l0 t374 _ ?side1 ?side2 A6.out).mono ?_); (case side1 => exact Zv (Kd.C_below HR0.out HB.out)); (case side2 => exact HC0.out); rintro e w14 ⟨rfl, hb⟩; replace BK373 := Aside0.mk (Zi BK373.out hb); replace HB := Aside0.mk (Qap (Zc1 GE373.out) hb); (try clear hb); (try clear hb2); (try clear hk); (try clear hi)) | (go_at_call 9; (with_reducible refine (Qal.calls k _ _ l1 t375 _ ?side1 ?side2 A8.out).mono ?_); (case side1 => exact Zv (Kd.C_below HR1.out HB.out)); (case side2 => exact HC1.out); rintro e w15 ⟨rfl, hb⟩; replace BK373 := Aside0.mk (Zi BK373.out hb); replace HB := Aside0.mk (Qap (Zc1 GE373.out) hb); (try clear hb); (try clear hb2); (try clear hk); (try clear hi); obtain ⟨hcz16_0, hfz16_0⟩ := Zy (v := (.slice A2_0 l2_0.length c2_0)) BK373.out 0; obtain ⟨hcz16_1, hfz16_1⟩ := Zy (v := (.slice A2_1 l2_1.length c2_1)) BK373.out 1; obtain ⟨hcz16_2, hfz16_2⟩ := Zy (v := (.int .i64 a2_2)) BK373.out 2)); try go_wp2_with (first | (go_at_call 9; (with_reducible refine (Qal.calls k _ _ l0 t374 _ ?side1 ?side2 A6.out).mono ?_); (case side1 => exact Zv (Kd.C_below HR0.out HB.out)); (case side2 => exact HC0.out); rintro e w14 ⟨rfl, hb⟩; replace BK373 := Aside0.mk (Zi BK373.out hb); replace HB := Aside0.mk (Qap (Zc1 GE373.out) hb); (try clear hb); (try clear hb2); (try clear hk); (try clear hi)) | (go_at_call 9; (with_reducible refine (Qal.calls k _ _ l1 t375 _ ?side1 ?side2 A8.out).mono ?_); (case side1 => exact Zv (Kd.C_below HR1.out HB.out)); (case side2 => exact HC1.out); rintro e w15 ⟨rfl, hb⟩; replace BK373 := Aside0.mk (Zi BK373.out hb); replace HB := Aside0.mk (Qap (Zc1 GE373.out) hb); (try clear hb); (try clear hb2); (try clear hk); (try clear hi); obtain ⟨hcz16_0, hfz16_0⟩ := Zy (v := (.slice A2_0 l2_0.length c2_0)) BK373.out 0; obtain ⟨hcz16_1, hfz16_1⟩ := Zy (v := (.slice A2_1 l2_1.length c2_1)) BK373.out 1; obtain ⟨hcz16_2, hfz16_2⟩ := Zy (v := (.int .i64 a2_2)) BK373.out 2)))
    go_meet
    case rel => exact ⟨_, (decide ((l2_0.length : Int) > 130)), (Zs), H', ⟨by first | omega | exact Nat.le_refl _⟩, ⟨Zu BK373.out⟩, ⟨Zc1 GE373.out⟩⟩
   rw [if_neg c9] at H
   have c9b0 : (t375 == 0) = F := beq_eq_false_iff_ne.mpr c9
   have c9b1 : (t375 != 0) = T := bne_iff_ne.mpr c9
   have H' := Aside0.mk H
   clear H
   go_wp2_with (first | (go_at_call 9; (with_reducible refine (Qal.calls k _ _ l0 t374 _ ?side1 ?side2 A6.out).mono ?_); (case side1 => exact Zv (Kd.C_below HR0.out HB.out)); (case side2 => exact HC0.out); rintro e w17 ⟨rfl, hb⟩; replace BK373 := Aside0.mk (Zi BK373.out hb); replace HB := Aside0.mk (Qap (Zc1 GE373.out) hb); (try clear hb); (try clear hb2); (try clear hk); (try clear hi)) | (go_at_call 9; (with_reducible refine (Qal.calls k _ _ l1 t375 _ ?side1 ?side2 A8.out).mono ?_); (case side1 => exact Zv (Kd.C_below HR1.out HB.out)); (case side2 => exact HC1.out); rintro e w18 ⟨rfl, hb⟩; replace BK373 := Aside0.mk (Zi BK373.out hb); replace HB := Aside0.mk (Qap (Zc1 GE373.out) hb); (try clear hb); (try clear hb2); (try clear hk); (try clear hi)))
   repeat (go_quiet (first | (go_at_call 9; (with_reducible refine (Qal.calls k _ _ l0 t374 _ ?side1 ?side2 A6.out).mono ?_); (case side1 => exact Zv (Kd.C_below HR0.out HB.out)); (case side2 => exact HC0.out); rintro e w17 ⟨rfl, hb⟩; replace BK373 := Aside0.mk (Zi BK373.out hb); replace HB := Aside0.mk (Qap (Zc1 GE373.out) hb); (try clear hb); (try clear hb2); (try clear hk); (try clear hi)) | (go_at_call 9; (with_reducible refine (Qal.calls k _ _ l1 t375 _ ?side1 ?side2 A8.out).mono ?_); (case side1 => exact Zv (Kd.C_below HR1.out HB.out)); (case side2 => exact HC1.out); rintro e w18 ⟨rfl, hb⟩; replace BK373 := Aside0.mk (Zi BK373.out hb); replace HB := Aside0.mk (Qap (Zc1 GE373.out) hb); (try clear hb); (try clear hb2); (try clear hk); (try clear hi))); try go_wp2_with (first | (go_at_call 9; (with_reducible refine (Qal.calls k _ _ l0 t374 _ ?side1 ?side2 A6.out).mono ?_); (case side1 => exact Zv (Kd.C_below HR0.out HB.out)); (case side2 => exact HC0.out); rintro e w17 ⟨rfl, hb⟩; replace BK373 := Aside0.mk (Zi BK373.out hb); replace HB := Aside0.mk (Qap (Zc1 GE373.out) hb); (try clear hb); (try clear hb2); (try clear hk); (try clear hi)) | (go_at_call 9; (with_reducible refine (Qal.calls k _ _ l1 t375 _ ?side1 ?side2 A8.out).mono ?_); (case side1 => exact Zv (Kd.C_below HR1.out HB.out)); (case side2 => exact HC1.out); rintro e w18 ⟨rfl, hb⟩; replace BK373 := Aside0.mk (Zi BK373.out hb); replace HB := Aside0.mk (Qap (Zc1 GE373.out) hb); (try clear hb); (try clear hb2); (try clear hk); (try clear hi))))
   go_meet
   case rel => exact ⟨_, (T), (Zs), H', ⟨by first | omega | exact Nat.le_refl _⟩, ⟨Zu BK373.out⟩, ⟨Zc1 GE373.out⟩⟩
  rw [if_neg c7] at H
  have c7b0 : (t374 == 0) = F := beq_eq_false_iff_ne.mpr c7
  have c7b1 : (t374 != 0) = T := bne_iff_ne.mpr c7
  have H' := Aside0.mk H
  clear H
  go_wp2_with (first | (go_at_call 9; (with_reducible refine (Qal.calls k _ _ l0 t374 _ ?side1 ?side2 A6.out).mono ?_); (case side1 => exact Zv (Kd.C_below HR0.out HB.out)); (case side2 => exact HC0.out); rintro e w19 ⟨rfl, hb⟩; replace BK373 := Aside0.mk (Zi BK373.out hb); replace HB := Aside0.mk (Qap (Zc1 GE373.out) hb); (try clear hb); (try clear hb2); (try clear hk); (try clear hi)))
  repeat (go_quiet (first | (go_at_call 9; (with_reducible refine (Qal.calls k _ _ l0 t374 _ ?side1 ?side2 A6.out).mono ?_); (case side1 => exact Zv (Kd.C_below HR0.out HB.out)); (case side2 => exact HC0.out); rintro e w19 ⟨rfl, hb⟩; replace BK373 := Aside0.mk (Zi BK373.out hb); replace HB := Aside0.mk (Qap (Zc1 GE373.out) hb); (try clear hb); (try clear hb2); (try clear hk); (try clear hi))); try go_wp2_with (first | (go_at_call 9; (with_reducible refine (Qal.calls k _ _ l0 t374 _ ?side1 ?side2 A6.out).mono ?_); (case side1 => exact Zv (Kd.C_below HR0.out HB.out)); (case side2 => exact HC0.out); rintro e w19 ⟨rfl, hb⟩; replace BK373 := Aside0.mk (Zi BK373.out hb); replace HB := Aside0.mk (Qap (Zc1 GE373.out) hb); (try clear hb); (try clear hb2); (try clear hk); (try clear hi))))
  go_meet
  case rel => exact ⟨_, (T), (Zs), H', ⟨by first | omega | exact Nat.le_refl _⟩, ⟨Zu BK373.out⟩, ⟨Zc1 GE373.out⟩⟩
 case rest =>
  clear HC4
  try clear c1
  try clear c2
  try clear p2
  try clear c3
  try clear c7
  try clear c7b0
  try clear c7b1
  try clear c9
  try clear c9b0
  try clear c9b1
  try clear c10
  try clear c10b0
  try clear c10b1
  try clear hcz13_0
  try clear hcz13_1
  try clear hcz13_2
  try clear hcz16_0
  try clear hcz16_1
  try clear hcz16_2
  try clear hfz13_0
  try clear hfz13_1
  try clear hfz13_2
  try clear hfz16_0
  try clear hfz16_1
  try clear hfz16_2
  obtain ⟨kq, x41_3, rfl, HA, HJ3, BK373, HB⟩ := hcut
  cases kq with
  | zero => exact absurd HA.out (by simp [contangotop_TopPast.j0])
  | succ kj3 =>
   have H := HA.out
   clear HA
   simp only [contangotop_TopPast.j0] at H
   by_cases c20 : x41_3 = T
   ·subst c20
    have H1 : ((Qav.f kj3).bind fun t376 => (some t376)) = some r := by rw [if_pos rfl] at H; exact H
    clear H
    have H := H1
    clear H1
    replace H := Option.bind_eq_some_iff.mp H
    obtain ⟨t376, A210, H⟩ := H
    replace H : (some t376) = some r := H
    have A21 := Aside0.mk A210
    clear A210
    obtain rfl := Option.some.inj H
    go_wp2_with (first | (go_at_call 10; (with_reducible refine (Qav.calls kj3  t376 _ A21.out).mono ?_); rintro e w22 ⟨rfl, hb⟩; replace BK373 := Aside0.mk (Zi BK373.out hb); replace HB := Aside0.mk (Qap (Zc1 GE373.out) hb); (try clear hb); (try clear hb2); (try clear hk); (try clear hi)))
    repeat (go_quiet (first | (go_at_call 10; (with_reducible refine (Qav.calls kj3  t376 _ A21.out).mono ?_); rintro e w22 ⟨rfl, hb⟩; replace BK373 := Aside0.mk (Zi BK373.out hb); replace HB := Aside0.mk (Qap (Zc1 GE373.out) hb); (try clear hb); (try clear hb2); (try clear hk); (try clear hi))); try go_wp2_with (first | (go_at_call 10; (with_reducible refine (Qav.calls kj3  t376 _ A21.out).mono ?_); rintro e w22 ⟨rfl, hb⟩; replace BK373 := Aside0.mk (Zi BK373.out hb); replace HB := Aside0.mk (Qap (Zc1 GE373.out) hb); (try clear hb); (try clear hb2); (try clear hk); (try clear hi))))
    go_ret
    exact ⟨Zq, Zc1 GE373.out⟩
   replace c20 := Bool.eq_false_iff.mpr c20
   subst c20
   have H1 : ((Qak.f kj3 l0 l1).bind fun bt377 => (if bt377.2 = T then ((Qao.f kj3 l0 l2_0 l2_1).bind fun bt382 => ((Qao.f kj3 l1 l2_0 l2_1).bind fun bt386 => ((Qao.f kj3 bt377.1 l2_0 l2_1).bind fun bt390 => (if bt382.2 = 0 then (if bt386.2 = 0 then (contangotop_TopPast.j1 kj3 bt382.1 bt386.1 bt390.1 (bt390.2 != 0) l2_0 l2_1 a2_2) else (contangotop_TopPast.j1 kj3 bt382.1 bt386.1 bt390.1 T l2_0 l2_1 a2_2)) else (contangotop_TopPast.j1 kj3 bt382.1 bt386.1 bt390.1 T l2_0 l2_1 a2_2))))) else ((Qav.f kj3).bind fun t381 => (some t381)))) = some r := by rw [if_neg (show ¬ (F = T) by decide)] at H; exact H
   clear H
   have H := H1
   clear H1
   replace H := Option.bind_eq_some_iff.mp H
   obtain ⟨⟨t377, t378⟩, A230, H⟩ := H
   replace H : (if t378 = T then ((Qao.f kj3 l0 l2_0 l2_1).bind fun bt382 => ((Qao.f kj3 l1 l2_0 l2_1).bind fun bt386 => ((Qao.f kj3 t377 l2_0 l2_1).bind fun bt390 => (if bt382.2 = 0 then (if bt386.2 = 0 then (contangotop_TopPast.j1 kj3 bt382.1 bt386.1 bt390.1 (bt390.2 != 0) l2_0 l2_1 a2_2) else (contangotop_TopPast.j1 kj3 bt382.1 bt386.1 bt390.1 T l2_0 l2_1 a2_2)) else (contangotop_TopPast.j1 kj3 bt382.1 bt386.1 bt390.1 T l2_0 l2_1 a2_2))))) else ((Qav.f kj3).bind fun t381 => (some t381))) = some r := H
   have A23 := Aside0.mk A230
   clear A230
   go_upto_if 50 with (first | (go_at_call 11; (with_reducible refine (Qak.calls kj3 _ _ l0 _ _ l1 t377 t378 _ ?side1 ?side2 ?side3 ?side4 A23.out).mono ?_); (case side1 => exact Zv (Kd.C_below HR0.out HB.out)); (case side2 => exact HC0.out); (case side3 => exact Zv (Kd.C_below HR1.out HB.out)); (case side4 => exact HC1.out); rintro e w24 ⟨v379, rfl, ho0, hb⟩; have HO380 := Aside0.mk (Kd.R_lower ho0 (Qax (Zc1 GE373.out))); replace BK373 := Aside0.mk (Zi BK373.out hb); replace HB := Aside0.mk (Qap (Zc1 GE373.out) hb); (try clear hb); (try clear hb2); (try clear hk); (try clear hi); (try clear ho0)))
   repeat (go_quiet (first | (go_at_call 11; (with_reducible refine (Qak.calls kj3 _ _ l0 _ _ l1 t377 t378 _ ?side1 ?side2 ?side3 ?side4 A23.out).mono ?_); (case side1 => exact Zv (Kd.C_below HR0.out HB.out)); (case side2 => exact HC0.out); (case side3 => exact Zv (Kd.C_below HR1.out HB.out)); (case side4 => exact HC1.out); rintro e w24 ⟨v379, rfl, ho0, hb⟩; have HO380 := Aside0.mk (Kd.R_lower ho0 (Qax (Zc1 GE373.out))); replace BK373 := Aside0.mk (Zi BK373.out hb); replace HB := Aside0.mk (Qap (Zc1 GE373.out) hb); (try clear hb); (try clear hb2); (try clear hk); (try clear hi); (try clear ho0))); go_upto_if 50 with (first | (go_at_call 11; (with_reducible refine (Qak.calls kj3 _ _ l0 _ _ l1 t377 t378 _ ?side1 ?side2 ?side3 ?side4 A23.out).mono ?_); (case side1 => exact Zv (Kd.C_below HR0.out HB.out)); (case side2 => exact HC0.out); (case side3 => exact Zv (Kd.C_below HR1.out HB.out)); (case side4 => exact HC1.out); rintro e w24 ⟨v379, rfl, ho0, hb⟩; have HO380 := Aside0.mk (Kd.R_lower ho0 (Qax (Zc1 GE373.out))); replace BK373 := Aside0.mk (Zi BK373.out hb); replace HB := Aside0.mk (Qap (Zc1 GE373.out) hb); (try clear hb); (try clear hb2); (try clear hk); (try clear hi); (try clear ho0))))
   (try simp only [Act.put, Zj, Zk, Zm])
   by_cases c25 : t378 = T
   ·subst c25
    have H1 : ((Qao.f kj3 l0 l2_0 l2_1).bind fun bt382 => ((Qao.f kj3 l1 l2_0 l2_1).bind fun bt386 => ((Qao.f kj3 t377 l2_0 l2_1).bind fun bt390 => (if bt382.2 = 0 then (if bt386.2 = 0 then (contangotop_TopPast.j1 kj3 bt382.1 bt386.1 bt390.1 (bt390.2 != 0) l2_0 l2_1 a2_2) else (contangotop_TopPast.j1 kj3 bt382.1 bt386.1 bt390.1 T l2_0 l2_1 a2_2)) else (contangotop_TopPast.j1 kj3 bt382.1 bt386.1 bt390.1 T l2_0 l2_1 a2_2))))) = some r := by rw [if_pos rfl] at H; exact H
    clear H
    have H := H1
    clear H1
    replace H := Option.bind_eq_some_iff.mp H
    obtain ⟨⟨t382, t383⟩, A260, H⟩ := H
    replace H : ((Qao.f kj3 l1 l2_0 l2_1).bind fun bt386 => ((Qao.f kj3 t377 l2_0 l2_1).bind fun bt390 => (if t383 = 0 then (if bt386.2 = 0 then (contangotop_TopPast.j1 kj3 t382 bt386.1 bt390.1 (bt390.2 != 0) l2_0 l2_1 a2_2) else (contangotop_TopPast.j1 kj3 t382 bt386.1 bt390.1 T l2_0 l2_1 a2_2)) else (contangotop_TopPast.j1 kj3 t382 bt386.1 bt390.1 T l2_0 l2_1 a2_2)))) = some r := H
    have A26 := Aside0.mk A260
    clear A260
    replace H := Option.bind_eq_some_iff.mp H
    obtain ⟨⟨t386, t387⟩, A270, H⟩ := H
    replace H : ((Qao.f kj3 t377 l2_0 l2_1).bind fun bt390 => (if t383 = 0 then (if t387 = 0 then (contangotop_TopPast.j1 kj3 t382 t386 bt390.1 (bt390.2 != 0) l2_0 l2_1 a2_2) else (contangotop_TopPast.j1 kj3 t382 t386 bt390.1 T l2_0 l2_1 a2_2)) else (contangotop_TopPast.j1 kj3 t382 t386 bt390.1 T l2_0 l2_1 a2_2))) = some r := H
    have A27 := Aside0.mk A270
    clear A270
    replace H := Option.bind_eq_some_iff.mp H
    obtain ⟨⟨t390, t391⟩, A280, H⟩ := H
    replace H : (if t383 = 0 then (if t387 = 0 then (contangotop_TopPast.j1 kj3 t382 t386 t390 (t391 != 0) l2_0 l2_1 a2_2) else (contangotop_TopPast.j1 kj3 t382 t386 t390 T l2_0 l2_1 a2_2)) else (contangotop_TopPast.j1 kj3 t382 t386 t390 T l2_0 l2_1 a2_2)) = some r := H
    have A28 := Aside0.mk A280
    clear A280
    have HC29 := Aside0.mk H
    clear H
    obtain ⟨hcz30_0, hfz30_0⟩ := Zy (v := (.slice A2_0 l2_0.length c2_0)) BK373.out 0
    obtain ⟨hcz30_1, hfz30_1⟩ := Zy (v := (.slice A2_1 l2_1.length c2_1)) BK373.out 1
    obtain ⟨hcz30_2, hfz30_2⟩ := Zy (v := (.int .i64 a2_2)) BK373.out 2
    go_upto_region 9 with (first | (go_at_call 12; (with_reducible refine (Qao.calls kj3 _ _ l0 _ _ l2_0 _ _ l2_1 t382 t383 _ ?side1 ?side2 ?side3 ?side4 ?side5 ?side6 A26.out).mono ?_); (case side1 => exact Zv (Kd.C_below HR0.out HB.out)); (case side2 => exact HC0.out); (case side3 => exact Zv (Kd.C_below HR2_0.out HB.out)); (case side4 => exact HC2_0.out); (case side5 => exact Zv (Kd.C_below HR2_1.out HB.out)); (case side6 => exact HC2_1.out); rintro e w31 ⟨v384, rfl, ho0, hb⟩; have HO385 := Aside0.mk (Kd.R_lower ho0 (Qax (Zc1 GE373.out))); replace HO380 := Aside0.mk (Kd.R_below (Zr HO380.out) hb); replace BK373 := Aside0.mk (Zi BK373.out hb); replace HB := Aside0.mk (Qap (Zc1 GE373.out) hb); (try clear hb); (try clear hb2); (try clear hk); (try clear hi); (try clear ho0); obtain ⟨hcz32_0, hfz32_0⟩ := Zy (v := (.slice A2_0 l2_0.length c2_0)) BK373.out 0; obtain ⟨hcz32_1, hfz32_1⟩ := Zy (v := (.slice A2_1 l2_1.length c2_1)) BK373.out 1; obtain ⟨hcz32_2, hfz32_2⟩ := Zy (v := (.int .i64 a2_2)) BK373.out 2) | (go_at_call 12; (with_reducible refine (Qao.calls kj3 _ _ l1 _ _ l2_0 _ _ l2_1 t386 t387 _ ?side1 ?side2 ?side3 ?side4 ?side5 ?side6 A27.out).mono ?_); (case side1 => exact Zv (Kd.C_below HR1.out HB.out)); (case side2 => exact HC1.out); (case side3 => exact Zv (Kd.C_below HR2_0.out HB.out)); (case side4 => exact HC2_0.out); (case side5 => exact Zv (Kd.C_below HR2_1.out HB.out)); (case side6 => exact HC2_1.out); rintro e w33 ⟨v388, rfl, ho0, hb⟩; have HO389 := Aside0.mk (Kd.R_lower (Kd.R_new' ho0 (Kd.R_lt (Zr HO385.out))) (Qax (Zc1 GE373.out))); replace HO380 := Aside0.mk (Kd.R_below (Zr HO380.out) hb); replace HO385 := Aside0.mk (Kd.R_elder' (Zr HO385.out) (Kd.R_base ho0) hb); replace BK373 := Aside0.mk (Zi BK373.out hb); replace HB := Aside0.mk (Qap (Zc1 GE373.out) hb); (try clear hb); (try clear hb2); (try clear hk); (try clear hi); (try clear ho0); obtain ⟨hcz34_0, hfz34_0⟩ := Zy (v := (.slice A2_0 l2_0.length c2_0)) BK373.out 0; obtain ⟨hcz34_1, hfz34_1⟩ := Zy (v := (.slice A2_1 l2_1.length c2_1)) BK373.out 1; obtain ⟨hcz34_2, hfz34_2⟩ := Zy (v := (.int .i64 a2_2)) BK373.out 2; obtain ⟨Ao35, co35, eo35⟩ := Kd.R_slice HO380.out; subst eo35) | (go_at_call 12; (with_reducible refine (Qao.calls kj3 _ _ t377 _ _ l2_0 _ _ l2_1 t390 t391 _ ?side1 ?side2 ?side3 ?side4 ?side5 ?side6 A28.out).mono ?_); (case side1 => exact Zv (Kd.R_reads' HO380.out).2.2); (case side2 => exact (Kd.R_reads' HO380.out).2.1); (case side3 => exact Zv (Kd.C_below HR2_0.out HB.out)); (case side4 => exact HC2_0.out); (case side5 => exact Zv (Kd.C_below HR2_1.out HB.out)); (case side6 => exact HC2_1.out); rintro e w36 ⟨v392, rfl, ho0, hb⟩; have HO393 := Aside0.mk (Kd.R_lower (Kd.R_new' (Kd.R_new' ho0 (Kd.R_lt (Zr HO385.out))) (Kd.R_lt (Zr HO389.out))) (Qax (Zc1 GE373.out))); replace HO380 := Aside0.mk (Kd.R_below (Zr HO380.out) hb); replace HO385 := Aside0.mk (Kd.R_elder' (Zr HO385.out) (Kd.R_base ho0) hb); replace HO389 := Aside0.mk (Kd.R_elder' (Zr HO389.out) (Kd.R_base ho0) hb); replace BK373 := Aside0.mk (Zi BK373.out hb); replace HB := Aside0.mk (Qap (Zc1 GE373.out) hb); (try clear hb); (try clear hb2); (try clear hk); (try clear hi); (try clear ho0)))
    repeat (go_quiet (first | (go_at_call 12; (with_reducible refine (Qao.calls kj3 _ _ l0 _ _ l2_0 _ _ l2_1 t382 t383 _ ?side1 ?side2 ?side3 ?side4 ?side5 ?side6 A26.out).mono ?_); (case side1 => exact Zv (Kd.C_below HR0.out HB.out)); (case side2 => exact HC0.out); (case side3 => exact Zv (Kd.C_below HR2_0.out HB.out)); (case side4 => exact HC2_0.out); (case side5 => exact Zv (Kd.C_below HR2_1.out HB.out)); (case side6 => exact HC2_1.out); rintro e w31 ⟨v384, rfl, ho0, hb⟩; have HO385 := Aside0.mk (Kd.R_lower ho0 (Qax (Zc1 GE373.out))); replace HO380 := Aside0.mk (Kd.R_below (Zr HO380.out) hb); replace BK373 := Aside0.mk (Zi BK373.out hb); replace HB := Aside0.mk (Qap (Zc1 GE373.out) hb); (try clear hb); (try clear hb2); (try clear hk); (try clear hi); (try clear ho0); obtain ⟨hcz32_0, hfz32_0⟩ := Zy (v := (.slice A2_0 l2_0.length c2_0)) BK373.out 0; obtain ⟨hcz32_1, hfz32_1⟩ := Zy (v := (.slice A2_1 l2_1.length c2_1)) BK373.out 1; obtain ⟨hcz32_2, hfz32_2⟩ := Zy (v := (.int .i64 a2_2)) BK373.out 2) | (go_at_call 12; (with_reducible refine (Qao.calls kj3 _ _ l1 _ _ l2_0 _ _ l2_1 t386 t387 _ ?side1 ?side2 ?side3 ?side4 ?side5 ?side6 A27.out).mono ?_); (case side1 => exact Zv (Kd.C_below HR1.out HB.out)); (case side2 => exact HC1.out); (case side3 => exact Zv (Kd.C_below HR2_0.out HB.out)); (case side4 => exact HC2_0.out); (case side5 => exact Zv (Kd.C_below HR2_1.out HB.out)); (case side6 => exact HC2_1.out); rintro e w33 ⟨v388, rfl, ho0, hb⟩; have HO389 := Aside0.mk (Kd.R_lower (Kd.R_new' ho0 (Kd.R_lt (Zr HO385.out))) (Qax (Zc1 GE373.out))); replace HO380 := Aside0.mk (Kd.R_below (Zr HO380.out) hb); replace HO385 := Aside0.mk (Kd.R_elder' (Zr HO385.out) (Kd.R_base ho0) hb); replace BK373 := Aside0.mk (Zi BK373.out hb); replace HB := Aside0.mk (Qap (Zc1 GE373.out) hb); (try clear hb); (try clear hb2); (try clear hk); (try clear hi); (try clear ho0); obtain ⟨hcz34_0, hfz34_0⟩ := Zy (v := (.slice A2_0 l2_0.length c2_0)) BK373.out 0; obtain ⟨hcz34_1, hfz34_1⟩ := Zy (v := (.slice A2_1 l2_1.length c2_1)) BK373.out 1; obtain ⟨hcz34_2, hfz34_2⟩ := Zy (v := (.int .i64 a2_2)) BK373.out 2; obtain ⟨Ao35, co35, eo35⟩ := Kd.R_slice HO380.out; subst eo35) | (go_at_call 12; (with_reducible refine (Qao.calls kj3 _ _ t377 _ _ l2_0 _ _ l2_1 t390 t391 _ ?side1 ?side2 ?side3 ?side4 ?side5 ?side6 A28.out).mono ?_); (case side1 => exact Zv (Kd.R_reads' HO380.out).2.2); (case side2 => exact (Kd.R_reads' HO380.out).2.1); (case side3 => exact Zv (Kd.C_below HR2_0.out HB.out)); (case side4 => exact HC2_0.out); (case side5 => exact Zv (Kd.C_below HR2_1.out HB.out)); (case side6 => exact HC2_1.out); rintro e w36 ⟨v392, rfl, ho0, hb⟩; have HO393 := Aside0.mk (Kd.R_lower (Kd.R_new' (Kd.R_new' ho0 (Kd.R_lt (Zr HO385.out))) (Kd.R_lt (Zr HO389.out))) (Qax (Zc1 GE373.out))); replace HO380 := Aside0.mk (Kd.R_below (Zr HO380.out) hb); replace HO385 := Aside0.mk (Kd.R_elder' (Zr HO385.out) (Kd.R_base ho0) hb); replace HO389 := Aside0.mk (Kd.R_elder' (Zr HO389.out) (Kd.R_base ho0) hb); replace BK373 := Aside0.mk (Zi BK373.out hb); replace HB := Aside0.mk (Qap (Zc1 GE373.out) hb); (try clear hb); (try clear hb2); (try clear hk); (try clear hi); (try clear ho0))); go_upto_region 9 with (first | (go_at_call 12; (with_reducible refine (Qao.calls kj3 _ _ l0 _ _ l2_0 _ _ l2_1 t382 t383 _ ?side1 ?side2 ?side3 ?side4 ?side5 ?side6 A26.out).mono ?_); (case side1 => exact Zv (Kd.C_below HR0.out HB.out)); (case side2 => exact HC0.out); (case side3 => exact Zv (Kd.C_below HR2_0.out HB.out)); (case side4 => exact HC2_0.out); (case side5 => exact Zv (Kd.C_below HR2_1.out HB.out)); (case side6 => exact HC2_1.out); rintro e w31 ⟨v384, rfl, ho0, hb⟩; have HO385 := Aside0.mk (Kd.R_lower ho0 (Qax (Zc1 GE373.out))); replace HO380 := Aside0.mk (Kd.R_below (Zr HO380.out) hb); replace BK373 := Aside0.mk (Zi BK373.out hb); replace HB := Aside0.mk (Qap (Zc1 GE373.out) hb); (try clear hb); (try clear hb2); (try clear hk); (try clear hi); (try clear ho0); obtain ⟨hcz32_0, hfz32_0⟩ := Zy (v := (.slice A2_0 l2_0.length c2_0)) BK373.out 0; obtain ⟨hcz32_1, hfz32_1⟩ := Zy (v := (.slice A2_1 l2_1.length c2_1)) BK373.out 1; obtain ⟨hcz32_2, hfz32_2⟩ := Zy (v := (.int .i64 a2_2)) BK373.out 2) | (go_at_call 12; (with_reducible refine (Qao.calls kj3 _ _ l1 _ _ l2_0 _ _ l2_1 t386 t387 _ ?side1 ?side2 ?side3 ?side4 ?side5 ?side6 A27.out).mono ?_); (case side1 => exact Zv (Kd.C_below HR1.out HB.out)); (case side2 => exact HC1.out); (case side3 => exact Zv (Kd.C_below HR2_0.out HB.out)); (case side4 => exact HC2_0.out); (case side5 => exact Zv (Kd.C_below HR2_1.out HB.out)); (case side6 => exact HC2_1.out); rintro e w33 ⟨v388, rfl, ho0, hb⟩; have HO389 := Aside0.mk (Kd.R_lower (Kd.R_new' ho0 (Kd.R_lt (Zr HO385.out))) (Qax (Zc1 GE373.out))); replace HO380 := Aside0.mk (Kd.R_below (Zr HO380.out) hb); replace HO385 := Aside0.mk (Kd.R_elder' (Zr HO385.out) (Kd.R_base ho0) hb); replace BK373 := Aside0.mk (Zi BK373.out hb); replace HB := Aside0.mk (Qap (Zc1 GE373.out) hb); (try clear hb); (try clear hb2); (try clear hk); (try clear hi); (try clear ho0); obtain ⟨hcz34_0, hfz34_0⟩ := Zy (v := (.slice A2_0 l2_0.length c2_0)) BK373.out 0; obtain ⟨hcz34_1, hfz34_1⟩ := Zy (v := (.slice A2_1 l2_1.length c2_1)) BK373.out 1; obtain ⟨hcz34_2, hfz34_2⟩ := Zy (v := (.int .i64 a2_2)) BK373.out 2; obtain ⟨Ao35, co35, eo35⟩ := Kd.R_slice HO380.out; subst eo35) | (go_at_call 12; (with_reducible refine (Qao.calls kj3 _ _ t377 _ _ l2_0 _ _ l2_1 t390 t391 _ ?side1 ?side2 ?side3 ?side4 ?side5 ?side6 A28.out).mono ?_); (case side1 => exact Zv (Kd.R_reads' HO380.out).2.2); (case side2 => exact (Kd.R_reads' HO380.out).2.1); (case side3 => exact Zv (Kd.C_below HR2_0.out HB.out)); (case side4 => exact HC2_0.out); (case side5 => exact Zv (Kd.C_below HR2_1.out HB.out)); (case side6 => exact HC2_1.out); rintro e w36 ⟨v392, rfl, ho0, hb⟩; have HO393 := Aside0.mk (Kd.R_lower (Kd.R_new' (Kd.R_new' ho0 (Kd.R_lt (Zr HO385.out))) (Kd.R_lt (Zr HO389.out))) (Qax (Zc1 GE373.out))); replace HO380 := Aside0.mk (Kd.R_below (Zr HO380.out) hb); replace HO385 := Aside0.mk (Kd.R_elder' (Zr HO385.out) (Kd.R_base ho0) hb); replace HO389 := Aside0.mk (Kd.R_elder' (Zr HO389.out) (Kd.R_base ho0) hb); replace BK373 := Aside0.mk (Zi BK373.out hb); replace HB := Aside0.mk (Qap (Zc1 GE373.out) hb); (try clear hb); (try clear hb2); (try clear hk); (try clear hi); (try clear ho0))))
    (try simp only [Act.put, Zj, Zk, Zm])
    go_cut [88] (fun v88 wc => ∃ (kq : Nat) (x88_28 : Bool), v88 = .bool x88_28 ∧ Aside0 (contangotop_TopPast.j1 kq t382 t386 t390 x88_28 l2_0 l2_1 a2_2 = some r) ∧ Aside0 (kq ≤ kj3) ∧ Aside0 (Kd.R (Kd.int .i64) 3 wc w.heap.size (fun k_ => some k_ ≠ (v388 : Value).ownBlock ∧ some k_ ≠ (v392 : Value).ownBlock) v384 t382) ∧ Aside0 (Kd.R (Kd.int .i64) 3 wc w.heap.size (fun k_ => some k_ ≠ (v384 : Value).ownBlock ∧ some k_ ≠ (v392 : Value).ownBlock) v388 t386) ∧ Aside0 (Kd.R (Kd.int .i64) 3 wc w.heap.size (fun k_ => some k_ ≠ (v384 : Value).ownBlock ∧ some k_ ≠ (v388 : Value).ownBlock) v392 t390) ∧ Aside0 (wc.heap[gb373]? = some (.cells #[(.slice A2_0 l2_0.length c2_0), (.slice A2_1 l2_1.length c2_1), .int .i64 a2_2] 26 (0, 0))) ∧ Aside0 (Below w.heap.size w wc))
    case first =>
     have H := HC29.out
     clear HC29
     by_cases c37 : t383 = 0
     ·rw [if_pos c37] at H
      have c37b0 : (t383 == 0) = T := beq_iff_eq.mpr c37
      have c37b1 : (t383 != 0) = F := bne_eq_false_iff_eq.mpr c37
      clear c37
      by_cases c38 : t387 = 0
      ·rw [if_pos c38] at H
       have c38b0 : (t387 == 0) = T := beq_iff_eq.mpr c38
       have c38b1 : (t387 != 0) = F := bne_eq_false_iff_eq.mpr c38
       clear c38
       have H' := Aside0.mk H
       clear H
       go_wp2
       repeat (go_quiet (fail); try go_wp2)
       go_meet
       case rel => exact ⟨_, ((t391 != 0)), (Zs), H', ⟨by have := HJ3.out; first | omega | exact Nat.le_refl _⟩, ⟨by (with_reducible repeat (first | apply Kd.R_alloc | apply Kd.R_drewN | apply Kd.R_drew)); exact Kd.R_mono HO385.out (fun _ hk => ⟨hk.1.2, hk.2⟩)⟩, ⟨by (with_reducible repeat (first | apply Kd.R_alloc | apply Kd.R_drewN | apply Kd.R_drew)); exact Kd.R_mono HO389.out (fun _ hk => ⟨hk.1.2, hk.2⟩)⟩, ⟨by (with_reducible repeat (first | apply Kd.R_alloc | apply Kd.R_drewN | apply Kd.R_drew)); exact Kd.R_mono HO393.out (fun _ hk => ⟨hk.1.2, hk.2⟩)⟩, ⟨Zu BK373.out⟩, ⟨Zc1 GE373.out⟩⟩
      rw [if_neg c38] at H
      have c38b0 : (t387 == 0) = F := beq_eq_false_iff_ne.mpr c38
      have c38b1 : (t387 != 0) = T := bne_iff_ne.mpr c38
      have H' := Aside0.mk H
      clear H
      go_wp2
      repeat (go_quiet (fail); try go_wp2)
      go_meet
      case rel => exact ⟨_, (T), (Zs), H', ⟨by have := HJ3.out; first | omega | exact Nat.le_refl _⟩, ⟨by (with_reducible repeat (first | apply Kd.R_alloc | apply Kd.R_drewN | apply Kd.R_drew)); exact Kd.R_mono HO385.out (fun _ hk => ⟨hk.1.2, hk.2⟩)⟩, ⟨by (with_reducible repeat (first | apply Kd.R_alloc | apply Kd.R_drewN | apply Kd.R_drew)); exact Kd.R_mono HO389.out (fun _ hk => ⟨hk.1.2, hk.2⟩)⟩, ⟨by (with_reducible repeat (first | apply Kd.R_alloc | apply Kd.R_drewN | apply Kd.R_drew)); exact Kd.R_mono HO393.out (fun _ hk => ⟨hk.1.2, hk.2⟩)⟩, ⟨Zu BK373.out⟩, ⟨Zc1 GE373.out⟩⟩
     rw [if_neg c37] at H
     have c37b0 : (t383 == 0) = F := beq_eq_false_iff_ne.mpr c37
     have c37b1 : (t383 != 0) = T := bne_iff_ne.mpr c37
     have H' := Aside0.mk H
     clear H
     go_wp2
     repeat (go_quiet (fail); try go_wp2)
     go_meet
     case rel => exact ⟨_, (T), (Zs), H', ⟨by have := HJ3.out; first | omega | exact Nat.le_refl _⟩, ⟨by (with_reducible repeat (first | apply Kd.R_alloc | apply Kd.R_drewN | apply Kd.R_drew)); exact Kd.R_mono HO385.out (fun _ hk => ⟨hk.1.2, hk.2⟩)⟩, ⟨by (with_reducible repeat (first | apply Kd.R_alloc | apply Kd.R_drewN | apply Kd.R_drew)); exact Kd.R_mono HO389.out (fun _ hk => ⟨hk.1.2, hk.2⟩)⟩, ⟨by (with_reducible repeat (first | apply Kd.R_alloc | apply Kd.R_drewN | apply Kd.R_drew)); exact Kd.R_mono HO393.out (fun _ hk => ⟨hk.1.2, hk.2⟩)⟩, ⟨Zu BK373.out⟩, ⟨Zc1 GE373.out⟩⟩
    case rest =>
     clear HC29
     try clear c1
     try clear c2
     try clear p2
     try clear c3
     try clear c7
     try clear c7b0
     try clear c7b1
     try clear c9
     try clear c9b0
     try clear c9b1
     try clear c10
     try clear c10b0
     try clear c10b1
     try clear c20
     try clear c25
     try clear c37
     try clear c37b0
     try clear c37b1
     try clear c38
     try clear c38b0
     try clear c38b1
     try clear hcz13_0
     try clear hcz13_1
     try clear hcz13_2
     try clear hcz16_0
     try clear hcz16_1
     try clear hcz16_2
     try clear hcz30_0
     try clear hcz30_1
     try clear hcz30_2
     try clear hcz32_0
     try clear hcz32_1
     try clear hcz32_2
     try clear hcz34_0
     try clear hcz34_1
     try clear hcz34_2
     try clear hfz13_0
     try clear hfz13_1
     try clear hfz13_2
     try clear hfz16_0
     try clear hfz16_1
     try clear hfz16_2
     try clear hfz30_0
     try clear hfz30_1
     try clear hfz30_2
     try clear hfz32_0
     try clear hfz32_1
     try clear hfz32_2
     try clear hfz34_0
     try clear hfz34_1
     try clear hfz34_2
     try clear p2
     obtain ⟨kq, x88_28, rfl, HA, HJ28, HO_9, HO_11, HO_13, BK373, HB⟩ := hcut
     cases kq with
     | zero => exact absurd HA.out (by simp [contangotop_TopPast.j1])
     | succ kj28 =>
      have H := HA.out
      clear HA
      simp only [contangotop_TopPast.j1] at H
      by_cases c39 : x88_28 = T
      ·subst c39
       have H1 : ((Qav.f kj28).bind fun t394 => (some t394)) = some r := by rw [if_pos rfl] at H; exact H
       clear H
       have H := H1
       clear H1
       replace H := Option.bind_eq_some_iff.mp H
       obtain ⟨t394, A400, H⟩ := H
       replace H : (some t394) = some r := H
       have A40 := Aside0.mk A400
       clear A400
       obtain rfl := Option.some.inj H
       go_wp2_with (first | (go_at_call 10; (with_reducible refine (Qav.calls kj28  t394 _ A40.out).mono ?_); rintro e w41 ⟨rfl, hb⟩; replace HO_9 := Aside0.mk (Kd.R_below (Zr HO_9.out) hb); replace HO_11 := Aside0.mk (Kd.R_below (Zr HO_11.out) hb); replace HO_13 := Aside0.mk (Kd.R_below (Zr HO_13.out) hb); replace BK373 := Aside0.mk (Zi BK373.out hb); replace HB := Aside0.mk (Qap (Zc1 GE373.out) hb); (try clear hb); (try clear hb2); (try clear hk); (try clear hi)))
       repeat (go_quiet (first | (go_at_call 10; (with_reducible refine (Qav.calls kj28  t394 _ A40.out).mono ?_); rintro e w41 ⟨rfl, hb⟩; replace HO_9 := Aside0.mk (Kd.R_below (Zr HO_9.out) hb); replace HO_11 := Aside0.mk (Kd.R_below (Zr HO_11.out) hb); replace HO_13 := Aside0.mk (Kd.R_below (Zr HO_13.out) hb); replace BK373 := Aside0.mk (Zi BK373.out hb); replace HB := Aside0.mk (Qap (Zc1 GE373.out) hb); (try clear hb); (try clear hb2); (try clear hk); (try clear hi))); try go_wp2_with (first | (go_at_call 10; (with_reducible refine (Qav.calls kj28  t394 _ A40.out).mono ?_); rintro e w41 ⟨rfl, hb⟩; replace HO_9 := Aside0.mk (Kd.R_below (Zr HO_9.out) hb); replace HO_11 := Aside0.mk (Kd.R_below (Zr HO_11.out) hb); replace HO_13 := Aside0.mk (Kd.R_below (Zr HO_13.out) hb); replace BK373 := Aside0.mk (Zi BK373.out hb); replace HB := Aside0.mk (Qap (Zc1 GE373.out) hb); (try clear hb); (try clear hb2); (try clear hk); (try clear hi))))
       go_ret
       exact ⟨Zq, Zc1 GE373.out⟩
      replace c39 := Bool.eq_false_iff.mpr c39
      subst c39
      have H1 : (if (t382.length : Int) = (l2_1.length : Int) then (if (t386.length : Int) = (t382.length : Int) then (contangotop_TopPast.j2 kj28 t382 t386 t390 ((t390.length : Int) != (t382.length : Int)) l2_0 l2_1 a2_2) else (contangotop_TopPast.j2 kj28 t382 t386 t390 T l2_0 l2_1 a2_2)) else (contangotop_TopPast.j2 kj28 t382 t386 t390 T l2_0 l2_1 a2_2)) = some r := by rw [if_neg (show ¬ (F = T) by decide)] at H; exact H
      clear H
      have H := H1
      clear H1
      have HC42 := Aside0.mk H
      clear H
      go_upto_region 11 with (fail)
      repeat (go_quiet (fail); go_upto_region 11 with (fail))
      go_cut [109] (fun v109 wc => ∃ (kq : Nat) (x109_41 : Bool), v109 = .bool x109_41 ∧ Aside0 (contangotop_TopPast.j2 kq t382 t386 t390 x109_41 l2_0 l2_1 a2_2 = some r) ∧ Aside0 (kq ≤ kj28) ∧ Aside0 (Kd.R (Kd.int .i64) 3 wc w.heap.size (fun k_ => some k_ ≠ (v388 : Value).ownBlock ∧ some k_ ≠ (v392 : Value).ownBlock) v384 t382) ∧ Aside0 (Kd.R (Kd.int .i64) 3 wc w.heap.size (fun k_ => some k_ ≠ (v384 : Value).ownBlock ∧ some k_ ≠ (v392 : Value).ownBlock) v388 t386) ∧ Aside0 (Kd.R (Kd.int .i64) 3 wc w.heap.size (fun k_ => some k_ ≠ (v384 : Value).ownBlock ∧ some k_ ≠ (v388 : Value).ownBlock) v392 t390) ∧ Aside0 (wc.heap[gb373]? = some (.cells #[(.slice A2_0 l2_0.length c2_0), (.slice A2_1 l2_1.length c2_1), .int .i64 a2_2] 26 (0, 0))) ∧ Aside0 (Below w.heap.size w wc))
      case first =>
       have H := HC42.out
       clear HC42
       by_cases c43 : (t382.length : Int) = (l2_1.length : Int)
       ·rw [if_pos c43] at H
        have c43b0 : ((t382.length : Int) == (l2_1.length : Int)) = T := beq_iff_eq.mpr c43
        have c43b1 : ((t382.length : Int) != (l2_1.length : Int)) = F := bne_eq_false_iff_eq.mpr c43
        have c43b2 : (t382.length == l2_1.length) = T := by first | simpa using c43 | (simp at c43 ⊢; omega)
        clear c43
        by_cases c44 : (t386.length : Int) = (t382.length : Int)
        ·rw [if_pos c44] at H
         have c44b0 : ((t386.length : Int) == (t382.length : Int)) = T := beq_iff_eq.mpr c44
         have c44b1 : ((t386.length : Int) != (t382.length : Int)) = F := bne_eq_false_iff_eq.mpr c44
         have c44b2 : (t386.length == t382.length) = T := by first | simpa using c44 | (simp at c44 ⊢; omega)
         clear c44
         have H' := Aside0.mk H
         clear H
         obtain ⟨Ao45, co45, eo45⟩ := Kd.R_slice HO_9.out
         subst eo45
         obtain ⟨hcz46_0, hfz46_0⟩ := Zy (v := (.slice A2_0 l2_0.length c2_0)) BK373.out 0
         obtain ⟨hcz46_1, hfz46_1⟩ := Zy (v := (.slice A2_1 l2_1.length c2_1)) BK373.out 1
         obtain ⟨hcz46_2, hfz46_2⟩ := Zy (v := (.int .i64 a2_2)) BK373.out 2
         obtain ⟨Ao47, co47, eo47⟩ := Kd.R_slice HO_11.out
         subst eo47
         obtain ⟨Ao48, co48, eo48⟩ := Kd.R_slice HO_13.out
         subst eo48
         go_wp2
         repeat (go_quiet (fail); try go_wp2)
         go_meet
         case rel => exact ⟨_, (((t390.length : Int) != (t382.length : Int))), (Zs), H', ⟨by have := HJ3.out; have := HJ28.out; first | omega | exact Nat.le_refl _⟩, ⟨Zr HO_9.out⟩, ⟨Zr HO_11.out⟩, ⟨Zr HO_13.out⟩, ⟨Zu BK373.out⟩, ⟨Zc1 GE373.out⟩⟩
        rw [if_neg c44] at H
        have c44b0 : ((t386.length : Int) == (t382.length : Int)) = F := beq_eq_false_iff_ne.mpr c44
        have c44b1 : ((t386.length : Int) != (t382.length : Int)) = T := bne_iff_ne.mpr c44
        have c44b2 : (t386.length == t382.length) = F := by first | simpa using c44 | (simp at c44 ⊢; omega)
        have H' := Aside0.mk H
        clear H
        obtain ⟨Ao49, co49, eo49⟩ := Kd.R_slice HO_9.out
        subst eo49
        obtain ⟨hcz50_0, hfz50_0⟩ := Zy (v := (.slice A2_0 l2_0.length c2_0)) BK373.out 0
        obtain ⟨hcz50_1, hfz50_1⟩ := Zy (v := (.slice A2_1 l2_1.length c2_1)) BK373.out 1
        obtain ⟨hcz50_2, hfz50_2⟩ := Zy (v := (.int .i64 a2_2)) BK373.out 2
        obtain ⟨Ao51, co51, eo51⟩ := Kd.R_slice HO_11.out
        subst eo51
        go_wp2
        repeat (go_quiet (fail); try go_wp2)
        go_meet
        case rel => exact ⟨_, (T), (Zs), H', ⟨by have := HJ3.out; have := HJ28.out; first | omega | exact Nat.le_refl _⟩, ⟨Zr HO_9.out⟩, ⟨Zr HO_11.out⟩, ⟨Zr HO_13.out⟩, ⟨Zu BK373.out⟩, ⟨Zc1 GE373.out⟩⟩
       rw [if_neg c43] at H
       have c43b0 : ((t382.length : Int) == (l2_1.length : Int)) = F := beq_eq_false_iff_ne.mpr c43
       have c43b1 : ((t382.length : Int) != (l2_1.length : Int)) = T := bne_iff_ne.mpr c43
       have c43b2 : (t382.length == l2_1.length) = F := by first | simpa using c43 | (simp at c43 ⊢; omega)
       have H' := Aside0.mk H
       clear H
       obtain ⟨Ao52, co52, eo52⟩ := Kd.R_slice HO_9.out
       subst eo52
       obtain ⟨hcz53_0, hfz53_0⟩ := Zy (v := (.slice A2_0 l2_0.length c2_0)) BK373.out 0
       obtain ⟨hcz53_1, hfz53_1⟩ := Zy (v := (.slice A2_1 l2_1.length c2_1)) BK373.out 1
       obtain ⟨hcz53_2, hfz53_2⟩ := Zy (v := (.int .i64 a2_2)) BK373.out 2
       go_wp2
       repeat (go_quiet (fail); try go_wp2)
       go_meet
       case rel => exact ⟨_, (T), (Zs), H', ⟨by have := HJ3.out; have := HJ28.out; first | omega | exact Nat.le_refl _⟩, ⟨Zr HO_9.out⟩, ⟨Zr HO_11.out⟩, ⟨Zr HO_13.out⟩, ⟨Zu BK373.out⟩, ⟨Zc1 GE373.out⟩⟩
      case rest =>
       clear HC42
       try clear c1
       try clear c2
       try clear p2
       try clear c3
       try clear c4
       try clear c7
       try clear c7b0
       try clear c7b1
       try clear c9
       try clear c9b0
       try clear c9b1
       try clear c10
       try clear c10b0
       try clear c10b1
       try clear c20
       try clear c25
       try clear c37
       try clear c37b0
       try clear c37b1
       try clear c38
       try clear c38b0
       try clear c38b1
       try clear c39
       try clear c43
       try clear c43b0
       try clear c43b1
       try clear c43b2
       try clear c44
       try clear c44b0
       try clear c44b1
       try clear c44b2
       try clear hcz13_0
       try clear hcz13_1
       try clear hcz13_2
       try clear hcz16_0
       try clear hcz16_1
       try clear hcz16_2
       try clear hcz30_0
       try clear hcz30_1
       try clear hcz30_2
       try clear hcz32_0
       try clear hcz32_1
       try clear hcz32_2
       try clear hcz34_0
       try clear hcz34_1
       try clear hcz34_2
       try clear hcz46_0
       try clear hcz46_1
       try clear hcz46_2
       try clear hcz50_0
       try clear hcz50_1
       try clear hcz50_2
       try clear hcz53_0
       try clear hcz53_1
       try clear hcz53_2
       try clear hfz13_0
       try clear hfz13_1
       try clear hfz13_2
       try clear hfz16_0
       try clear hfz16_1
       try clear hfz16_2
       try clear hfz30_0
       try clear hfz30_1
       try clear hfz30_2
       try clear hfz32_0
       try clear hfz32_1
       try clear hfz32_2
       try clear hfz34_0
       try clear hfz34_1
       try clear hfz34_2
       try clear hfz46_0
       try clear hfz46_1
       try clear hfz46_2
       try clear hfz50_0
       try clear hfz50_1
       try clear hfz50_2
       try clear hfz53_0
       try clear hfz53_1
       try clear hfz53_2
       try clear p2
       obtain ⟨kq, x109_41, rfl, HA, HJ41, HO_9, HO_11, HO_13, BK373, HB⟩ := hcut
       cases kq with
       | zero => exact absurd HA.out (by simp [contangotop_TopPast.j2])
       | succ kj41 =>
        have H := HA.out
        clear HA
        simp only [contangotop_TopPast.j2] at H
        by_cases c54 : x109_41 = T
        ·subst c54
         have H1 : (none) = some r := by rw [if_pos rfl] at H; exact H
         clear H
         have H := H1
         clear H1
         exact absurd H (by simp)
        replace c54 := Bool.eq_false_iff.mpr c54
        subst c54
        have H1 : (contangotop_TopPast.l0 kj41 t382 t386 t390 0 l2_0 l2_1 a2_2) = some r := by rw [if_neg (show ¬ (F = T) by decide)] at H; exact H
        clear H
        have H := H1
        clear H1
        have H' := Aside0.mk H
        clear H
        go_wp2
        repeat (go_quiet (fail); try go_wp2)
        go_loopg [15] kj41 (fun kq v15 w' => ∃ (x15_4 : Int), v15 = .int .i64 x15_4 ∧ Aside0 (contangotop_TopPast.l0 kq t382 t386 t390 x15_4 l2_0 l2_1 a2_2 = some r) ∧ Aside0 (kq ≤ kj41) ∧ Aside0 (Kd.R (Kd.int .i64) 3 w' w.heap.size (fun k_ => some k_ ≠ (v388 : Value).ownBlock ∧ some k_ ≠ (v392 : Value).ownBlock) v384 t382) ∧ Aside0 (Kd.R (Kd.int .i64) 3 w' w.heap.size (fun k_ => some k_ ≠ (v384 : Value).ownBlock ∧ some k_ ≠ (v392 : Value).ownBlock) v388 t386) ∧ Aside0 (Kd.R (Kd.int .i64) 3 w' w.heap.size (fun k_ => some k_ ≠ (v384 : Value).ownBlock ∧ some k_ ≠ (v388 : Value).ownBlock) v392 t390) ∧ Aside0 (w'.heap[gb373]? = some (.cells #[(.slice A2_0 l2_0.length c2_0), (.slice A2_1 l2_1.length c2_1), .int .i64 a2_2] 26 (0, 0))) ∧ Aside0 (Below w.heap.size w w'))
        case atStart => exact ⟨(0), (Zs), H', ⟨Nat.le_refl _⟩, ⟨Zr HO_9.out⟩, ⟨Zr HO_11.out⟩, ⟨Zr HO_13.out⟩, ⟨Zu BK373.out⟩, ⟨Zc1 GE373.out⟩⟩
        case round =>
         clear H'
         try clear c1
         try clear c2
         try clear p2
         try clear c3
         try clear c4
         try clear c5
         try clear c7
         try clear c7b0
         try clear c7b1
         try clear c9
         try clear c9b0
         try clear c9b1
         try clear c10
         try clear c10b0
         try clear c10b1
         try clear c20
         try clear c25
         try clear c37
         try clear c37b0
         try clear c37b1
         try clear c38
         try clear c38b0
         try clear c38b1
         try clear c39
         try clear c43
         try clear c43b0
         try clear c43b1
         try clear c43b2
         try clear c44
         try clear c44b0
         try clear c44b1
         try clear c44b2
         try clear c54
         try clear hcz13_0
         try clear hcz13_1
         try clear hcz13_2
         try clear hcz16_0
         try clear hcz16_1
         try clear hcz16_2
         try clear hcz30_0
         try clear hcz30_1
         try clear hcz30_2
         try clear hcz32_0
         try clear hcz32_1
         try clear hcz32_2
         try clear hcz34_0
         try clear hcz34_1
         try clear hcz34_2
         try clear hcz46_0
         try clear hcz46_1
         try clear hcz46_2
         try clear hcz50_0
         try clear hcz50_1
         try clear hcz50_2
         try clear hcz53_0
         try clear hcz53_1
         try clear hcz53_2
         try clear hfz13_0
         try clear hfz13_1
         try clear hfz13_2
         try clear hfz16_0
         try clear hfz16_1
         try clear hfz16_2
         try clear hfz30_0
         try clear hfz30_1
         try clear hfz30_2
         try clear hfz32_0
         try clear hfz32_1
         try clear hfz32_2
         try clear hfz34_0
         try clear hfz34_1
         try clear hfz34_2
         try clear hfz46_0
         try clear hfz46_1
         try clear hfz46_2
         try clear hfz50_0
         try clear hfz50_1
         try clear hfz50_2
         try clear hfz53_0
         try clear hfz53_1
         try clear hfz53_2
         try clear p2
         obtain ⟨x15_4, rfl, HA, HK4, HO_9, HO_11, HO_13, BK373, HB⟩ := hrel
         cases gk with
         | zero => exact absurd HA.out (by simp [contangotop_TopPast.l0])
         | succ k4 =>
          have H := HA.out
          clear HA
          simp only [contangotop_TopPast.l0] at H
          obtain ⟨Ao55, co55, eo55⟩ := Kd.R_slice HO_9.out
          subst eo55
          go_upto_if 113 with (fail)
          repeat (go_quiet (fail); go_upto_if 113 with (fail))
          by_cases c56 : x15_4 < (t382.length : Int)
          ·rw [if_pos c56] at H
           have c56b0 : decide (x15_4 < (t382.length : Int)) = T := decide_eq_true c56
           clear c56
           (try simp only [c56b0])
           by_cases c57 : 0 ≤ x15_4
           ·rw [if_pos c57] at H
            have c57b0 : decide (0 ≤ x15_4) = T := decide_eq_true c57
            clear c57
            by_cases c58 : x15_4 < (t390.length : Int)
            ·rw [if_pos c58] at H
             have c58b0 : decide (x15_4 < (t390.length : Int)) = T := decide_eq_true c58
             clear c58
             by_cases c59 : x15_4 < (t386.length : Int)
             ·rw [if_pos c59] at H
              have c59b0 : decide (x15_4 < (t386.length : Int)) = T := decide_eq_true c59
              clear c59
              obtain ⟨Ao60, co60, eo60⟩ := Kd.R_slice HO_13.out
              subst eo60
              have p395 : 0 ≤ (x15_4 : Int) := Ze
              have q395 : x15_4 < (t390.length : Int) := Ze
              obtain ⟨ad395, e395, hx395_0⟩ := Kd.at_int (Kd.R_reads' HO_13.out).2.2 x15_4 p395 q395
              cases e395
              replace p395 := eq_true p395
              replace q395 := eq_true q395
              have p396 : 0 ≤ (x15_4 : Int) := Ze
              have q396 : x15_4 < (t382.length : Int) := Ze
              obtain ⟨ad396, e396, hx396_0⟩ := Kd.at_int (Kd.R_reads' HO_9.out).2.2 x15_4 p396 q396
              cases e396
              replace p396 := eq_true p396
              replace q396 := eq_true q396
              obtain ⟨Ao61, co61, eo61⟩ := Kd.R_slice HO_11.out
              subst eo61
              have p397 : 0 ≤ (x15_4 : Int) := Ze
              have q397 : x15_4 < (t386.length : Int) := Ze
              obtain ⟨ad397, e397, hx397_0⟩ := Kd.at_int (Kd.R_reads' HO_11.out).2.2 x15_4 p397 q397
              cases e397
              replace p397 := eq_true p397
              replace q397 := eq_true q397
              go_upto_if 129 with (fail)
              repeat (go_quiet (fail); go_upto_if 129 with (fail))
              by_cases c62 : (rd t390 x15_4) = (wrap64 ((rd t382 x15_4) + (rd t386 x15_4)))
              ·rw [if_pos c62] at H
               have c62b0 : ((rd t390 x15_4) == (wrap64 ((rd t382 x15_4) + (rd t386 x15_4)))) = T := beq_iff_eq.mpr c62
               have c62b1 : ((rd t390 x15_4) != (wrap64 ((rd t382 x15_4) + (rd t386 x15_4)))) = F := bne_eq_false_iff_eq.mpr c62
               clear c62
               (try simp only [c62b0, c62b1])
               have H' := Aside0.mk H
               clear H
               go_wp2
               repeat (go_quiet (fail); try go_wp2)
               go_roundg k4
               case measure => have := HJ3.out; have := HJ28.out; have := HJ41.out; have := HK4.out; omega
               case rel => exact ⟨(wrap64 (x15_4 + 1)), (Zs), H', ⟨by have := HJ3.out; have := HJ28.out; have := HJ41.out; have := HK4.out; omega⟩, ⟨Zr HO_9.out⟩, ⟨Zr HO_11.out⟩, ⟨Zr HO_13.out⟩, ⟨Zu BK373.out⟩, ⟨Zc1 GE373.out⟩⟩
              rw [if_neg c62] at H
              exact absurd H (by simp)
             rw [if_neg c59] at H
             exact absurd H (by simp)
            rw [if_neg c58] at H
            exact absurd H (by simp)
           rw [if_neg c57] at H
           exact absurd H (by simp)
          rw [if_neg c56] at H
          have c56b0 : decide (x15_4 < (t382.length : Int)) = F := decide_eq_false c56
          clear c56
          (try simp only [c56b0])
          replace H := Option.bind_eq_some_iff.mp H
          obtain ⟨⟨t398, t399⟩, A630, H⟩ := H
          replace H : ((Qay.f k4 t386 a2_2).bind fun bt400 => ((Qay.f k4 t390 a2_2).bind fun bt402 => (if t399 = bt400.2 then (if bt400.2 = bt402.2 then (if bt402.1 ≤ (wrap64 (t398 + bt400.1)) then ((Qav.f k4).bind fun t404 => (some t404)) else (none)) else (none)) else (none)))) = some r := H
          have A63 := Aside0.mk A630
          clear A630
          replace H := Option.bind_eq_some_iff.mp H
          obtain ⟨⟨t400, t401⟩, A640, H⟩ := H
          replace H : ((Qay.f k4 t390 a2_2).bind fun bt402 => (if t399 = t401 then (if t401 = bt402.2 then (if bt402.1 ≤ (wrap64 (t398 + t400)) then ((Qav.f k4).bind fun t404 => (some t404)) else (none)) else (none)) else (none))) = some r := H
          have A64 := Aside0.mk A640
          clear A640
          replace H := Option.bind_eq_some_iff.mp H
          obtain ⟨⟨t402, t403⟩, A650, H⟩ := H
          replace H : (if t399 = t401 then (if t401 = t403 then (if t402 ≤ (wrap64 (t398 + t400)) then ((Qav.f k4).bind fun t404 => (some t404)) else (none)) else (none)) else (none)) = some r := H
          have A65 := Aside0.mk A650
          clear A650
          obtain ⟨hcz66_0, hfz66_0⟩ := Zy (v := (.slice A2_0 l2_0.length c2_0)) BK373.out 0
          obtain ⟨hcz66_1, hfz66_1⟩ := Zy (v := (.slice A2_1 l2_1.length c2_1)) BK373.out 1
          obtain ⟨hcz66_2, hfz66_2⟩ := Zy (v := (.int .i64 a2_2)) BK373.out 2
          go_upto_region 21 with (first | (go_at_call 13; (with_reducible refine (Qay.calls k4 _ _ t382 a2_2 t398 t399 _ ?side1 ?side2 A63.out).mono ?_); (case side1 => exact Zv (Kd.R_reads' HO_9.out).2.2); (case side2 => exact (Kd.R_reads' HO_9.out).2.1); rintro e w67 ⟨rfl, hb⟩; replace HO_9 := Aside0.mk (Kd.R_below (Zr HO_9.out) hb); replace HO_11 := Aside0.mk (Kd.R_below (Zr HO_11.out) hb); replace HO_13 := Aside0.mk (Kd.R_below (Zr HO_13.out) hb); replace BK373 := Aside0.mk (Zi BK373.out hb); replace HB := Aside0.mk (Qap (Zc1 GE373.out) hb); (try clear hb); (try clear hb2); (try clear hk); (try clear hi); obtain ⟨hcz68_0, hfz68_0⟩ := Zy (v := (.slice A2_0 l2_0.length c2_0)) BK373.out 0; obtain ⟨hcz68_1, hfz68_1⟩ := Zy (v := (.slice A2_1 l2_1.length c2_1)) BK373.out 1; obtain ⟨hcz68_2, hfz68_2⟩ := Zy (v := (.int .i64 a2_2)) BK373.out 2; obtain ⟨Ao69, co69, eo69⟩ := Kd.R_slice HO_11.out; subst eo69) | (go_at_call 13; (with_reducible refine (Qay.calls k4 _ _ t386 a2_2 t400 t401 _ ?side1 ?side2 A64.out).mono ?_); (case side1 => exact Zv (Kd.R_reads' HO_11.out).2.2); (case side2 => exact (Kd.R_reads' HO_11.out).2.1); rintro e w70 ⟨rfl, hb⟩; replace HO_9 := Aside0.mk (Kd.R_below (Zr HO_9.out) hb); replace HO_11 := Aside0.mk (Kd.R_below (Zr HO_11.out) hb); replace HO_13 := Aside0.mk (Kd.R_below (Zr HO_13.out) hb); replace BK373 := Aside0.mk (Zi BK373.out hb); replace HB := Aside0.mk (Qap (Zc1 GE373.out) hb); (try clear hb); (try clear hb2); (try clear hk); (try clear hi); obtain ⟨hcz71_0, hfz71_0⟩ := Zy (v := (.slice A2_0 l2_0.length c2_0)) BK373.out 0; obtain ⟨hcz71_1, hfz71_1⟩ := Zy (v := (.slice A2_1 l2_1.length c2_1)) BK373.out 1; obtain ⟨hcz71_2, hfz71_2⟩ := Zy (v := (.int .i64 a2_2)) BK373.out 2; obtain ⟨Ao72, co72, eo72⟩ := Kd.R_slice HO_13.out; subst eo72) | (go_at_call 13; (with_reducible refine (Qay.calls k4 _ _ t390 a2_2 t402 t403 _ ?side1 ?side2 A65.out).mono ?_); (case side1 => exact Zv (Kd.R_reads' HO_13.out).2.2); (case side2 => exact (Kd.R_reads' HO_13.out).2.1); rintro e w73 ⟨rfl, hb⟩; replace HO_9 := Aside0.mk (Kd.R_below (Zr HO_9.out) hb); replace HO_11 := Aside0.mk (Kd.R_below (Zr HO_11.out) hb); replace HO_13 := Aside0.mk (Kd.R_below (Zr HO_13.out) hb); replace BK373 := Aside0.mk (Zi BK373.out hb); replace HB := Aside0.mk (Qap (Zc1 GE373.out) hb); (try clear hb); (try clear hb2); (try clear hk); (try clear hi)))
          repeat (go_quiet (first | (go_at_call 13; (with_reducible refine (Qay.calls k4 _ _ t382 a2_2 t398 t399 _ ?side1 ?side2 A63.out).mono ?_); (case side1 => exact Zv (Kd.R_reads' HO_9.out).2.2); (case side2 => exact (Kd.R_reads' HO_9.out).2.1); rintro e w67 ⟨rfl, hb⟩; replace HO_9 := Aside0.mk (Kd.R_below (Zr HO_9.out) hb); replace HO_11 := Aside0.mk (Kd.R_below (Zr HO_11.out) hb); replace HO_13 := Aside0.mk (Kd.R_below (Zr HO_13.out) hb); replace BK373 := Aside0.mk (Zi BK373.out hb); replace HB := Aside0.mk (Qap (Zc1 GE373.out) hb); (try clear hb); (try clear hb2); (try clear hk); (try clear hi); obtain ⟨hcz68_0, hfz68_0⟩ := Zy (v := (.slice A2_0 l2_0.length c2_0)) BK373.out 0; obtain ⟨hcz68_1, hfz68_1⟩ := Zy (v := (.slice A2_1 l2_1.length c2_1)) BK373.out 1; obtain ⟨hcz68_2, hfz68_2⟩ := Zy (v := (.int .i64 a2_2)) BK373.out 2; obtain ⟨Ao69, co69, eo69⟩ := Kd.R_slice HO_11.out; subst eo69) | (go_at_call 13; (with_reducible refine (Qay.calls k4 _ _ t386 a2_2 t400 t401 _ ?side1 ?side2 A64.out).mono ?_); (case side1 => exact Zv (Kd.R_reads' HO_11.out).2.2); (case side2 => exact (Kd.R_reads' HO_11.out).2.1); rintro e w70 ⟨rfl, hb⟩; replace HO_9 := Aside0.mk (Kd.R_below (Zr HO_9.out) hb); replace HO_11 := Aside0.mk (Kd.R_below (Zr HO_11.out) hb); replace HO_13 := Aside0.mk (Kd.R_below (Zr HO_13.out) hb); replace BK373 := Aside0.mk (Zi BK373.out hb); replace HB := Aside0.mk (Qap (Zc1 GE373.out) hb); (try clear hb); (try clear hb2); (try clear hk); (try clear hi); obtain ⟨hcz71_0, hfz71_0⟩ := Zy (v := (.slice A2_0 l2_0.length c2_0)) BK373.out 0; obtain ⟨hcz71_1, hfz71_1⟩ := Zy (v := (.slice A2_1 l2_1.length c2_1)) BK373.out 1; obtain ⟨hcz71_2, hfz71_2⟩ := Zy (v := (.int .i64 a2_2)) BK373.out 2; obtain ⟨Ao72, co72, eo72⟩ := Kd.R_slice HO_13.out; subst eo72) | (go_at_call 13; (with_reducible refine (Qay.calls k4 _ _ t390 a2_2 t402 t403 _ ?side1 ?side2 A65.out).mono ?_); (case side1 => exact Zv (Kd.R_reads' HO_13.out).2.2); (case side2 => exact (Kd.R_reads' HO_13.out).2.1); rintro e w73 ⟨rfl, hb⟩; replace HO_9 := Aside0.mk (Kd.R_below (Zr HO_9.out) hb); replace HO_11 := Aside0.mk (Kd.R_below (Zr HO_11.out) hb); replace HO_13 := Aside0.mk (Kd.R_below (Zr HO_13.out) hb); replace BK373 := Aside0.mk (Zi BK373.out hb); replace HB := Aside0.mk (Qap (Zc1 GE373.out) hb); (try clear hb); (try clear hb2); (try clear hk); (try clear hi))); go_upto_region 21 with (first | (go_at_call 13; (with_reducible refine (Qay.calls k4 _ _ t382 a2_2 t398 t399 _ ?side1 ?side2 A63.out).mono ?_); (case side1 => exact Zv (Kd.R_reads' HO_9.out).2.2); (case side2 => exact (Kd.R_reads' HO_9.out).2.1); rintro e w67 ⟨rfl, hb⟩; replace HO_9 := Aside0.mk (Kd.R_below (Zr HO_9.out) hb); replace HO_11 := Aside0.mk (Kd.R_below (Zr HO_11.out) hb); replace HO_13 := Aside0.mk (Kd.R_below (Zr HO_13.out) hb); replace BK373 := Aside0.mk (Zi BK373.out hb); replace HB := Aside0.mk (Qap (Zc1 GE373.out) hb); (try clear hb); (try clear hb2); (try clear hk); (try clear hi); obtain ⟨hcz68_0, hfz68_0⟩ := Zy (v := (.slice A2_0 l2_0.length c2_0)) BK373.out 0; obtain ⟨hcz68_1, hfz68_1⟩ := Zy (v := (.slice A2_1 l2_1.length c2_1)) BK373.out 1; obtain ⟨hcz68_2, hfz68_2⟩ := Zy (v := (.int .i64 a2_2)) BK373.out 2; obtain ⟨Ao69, co69, eo69⟩ := Kd.R_slice HO_11.out; subst eo69) | (go_at_call 13; (with_reducible refine (Qay.calls k4 _ _ t386 a2_2 t400 t401 _ ?side1 ?side2 A64.out).mono ?_); (case side1 => exact Zv (Kd.R_reads' HO_11.out).2.2); (case side2 => exact (Kd.R_reads' HO_11.out).2.1); rintro e w70 ⟨rfl, hb⟩; replace HO_9 := Aside0.mk (Kd.R_below (Zr HO_9.out) hb); replace HO_11 := Aside0.mk (Kd.R_below (Zr HO_11.out) hb); replace HO_13 := Aside0.mk (Kd.R_below (Zr HO_13.out) hb); replace BK373 := Aside0.mk (Zi BK373.out hb); replace HB := Aside0.mk (Qap (Zc1 GE373.out) hb); (try clear hb); (try clear hb2); (try clear hk); (try clear hi); obtain ⟨hcz71_0, hfz71_0⟩ := Zy (v := (.slice A2_0 l2_0.length c2_0)) BK373.out 0; obtain ⟨hcz71_1, hfz71_1⟩ := Zy (v := (.slice A2_1 l2_1.length c2_1)) BK373.out 1; obtain ⟨hcz71_2, hfz71_2⟩ := Zy (v := (.int .i64 a2_2)) BK373.out 2; obtain ⟨Ao72, co72, eo72⟩ := Kd.R_slice HO_13.out; subst eo72) | (go_at_call 13; (with_reducible refine (Qay.calls k4 _ _ t390 a2_2 t402 t403 _ ?side1 ?side2 A65.out).mono ?_); (case side1 => exact Zv (Kd.R_reads' HO_13.out).2.2); (case side2 => exact (Kd.R_reads' HO_13.out).2.1); rintro e w73 ⟨rfl, hb⟩; replace HO_9 := Aside0.mk (Kd.R_below (Zr HO_9.out) hb); replace HO_11 := Aside0.mk (Kd.R_below (Zr HO_11.out) hb); replace HO_13 := Aside0.mk (Kd.R_below (Zr HO_13.out) hb); replace BK373 := Aside0.mk (Zi BK373.out hb); replace HB := Aside0.mk (Qap (Zc1 GE373.out) hb); (try clear hb); (try clear hb2); (try clear hk); (try clear hi))))
          (try simp only [Act.put, Zj, Zk, Zm])
          by_cases c74 : t399 = t401
          ·rw [if_pos c74] at H
           have c74b0 : (t399 == t401) = T := beq_iff_eq.mpr c74
           have c74b1 : (t399 != t401) = F := bne_eq_false_iff_eq.mpr c74
           clear c74
           (try simp only [c74b0, c74b1])
           by_cases c75 : t401 = t403
           ·rw [if_pos c75] at H
            have c75b0 : (t401 == t403) = T := beq_iff_eq.mpr c75
            have c75b1 : (t401 != t403) = F := bne_eq_false_iff_eq.mpr c75
            clear c75
            by_cases c76 : t402 ≤ (wrap64 (t398 + t400))
            ·rw [if_pos c76] at H
             have c76b0 : decide (t402 ≤ (wrap64 (t398 + t400))) = T := decide_eq_true c76
             clear c76
             replace H := Option.bind_eq_some_iff.mp H
             obtain ⟨t404, A770, H⟩ := H
             replace H : (some t404) = some r := H
             have A77 := Aside0.mk A770
             clear A770
             obtain rfl := Option.some.inj H
             go_wp2_with (first | (go_at_call 10; (with_reducible refine (Qav.calls k4  t404 _ A77.out).mono ?_); rintro e w78 ⟨rfl, hb⟩; replace HO_9 := Aside0.mk (Kd.R_below (Zr HO_9.out) hb); replace HO_11 := Aside0.mk (Kd.R_below (Zr HO_11.out) hb); replace HO_13 := Aside0.mk (Kd.R_below (Zr HO_13.out) hb); replace BK373 := Aside0.mk (Zi BK373.out hb); replace HB := Aside0.mk (Qap (Zc1 GE373.out) hb); (try clear hb); (try clear hb2); (try clear hk); (try clear hi)))
             repeat (go_quiet (first | (go_at_call 10; (with_reducible refine (Qav.calls k4  t404 _ A77.out).mono ?_); rintro e w78 ⟨rfl, hb⟩; replace HO_9 := Aside0.mk (Kd.R_below (Zr HO_9.out) hb); replace HO_11 := Aside0.mk (Kd.R_below (Zr HO_11.out) hb); replace HO_13 := Aside0.mk (Kd.R_below (Zr HO_13.out) hb); replace BK373 := Aside0.mk (Zi BK373.out hb); replace HB := Aside0.mk (Qap (Zc1 GE373.out) hb); (try clear hb); (try clear hb2); (try clear hk); (try clear hi))); try go_wp2_with (first | (go_at_call 10; (with_reducible refine (Qav.calls k4  t404 _ A77.out).mono ?_); rintro e w78 ⟨rfl, hb⟩; replace HO_9 := Aside0.mk (Kd.R_below (Zr HO_9.out) hb); replace HO_11 := Aside0.mk (Kd.R_below (Zr HO_11.out) hb); replace HO_13 := Aside0.mk (Kd.R_below (Zr HO_13.out) hb); replace BK373 := Aside0.mk (Zi BK373.out hb); replace HB := Aside0.mk (Qap (Zc1 GE373.out) hb); (try clear hb); (try clear hb2); (try clear hk); (try clear hi))))
             go_ret
             exact ⟨Zq, Zc1 GE373.out⟩
            rw [if_neg c76] at H
            exact absurd H (by simp)
           rw [if_neg c75] at H
           exact absurd H (by simp)
          rw [if_neg c74] at H
          exact absurd H (by simp)
   replace c25 := Bool.eq_false_iff.mpr c25
   subst c25
   have H1 : ((Qav.f kj3).bind fun t381 => (some t381)) = some r := by rw [if_neg (show ¬ (F = T) by decide)] at H; exact H
   clear H
   have H := H1
   clear H1
   replace H := Option.bind_eq_some_iff.mp H
   obtain ⟨t381, A790, H⟩ := H
   replace H : (some t381) = some r := H
   have A79 := Aside0.mk A790
   clear A790
   obtain rfl := Option.some.inj H
   go_wp2_with (first | (go_at_call 10; (with_reducible refine (Qav.calls kj3  t381 _ A79.out).mono ?_); rintro e w80 ⟨rfl, hb⟩; replace HO380 := Aside0.mk (Kd.R_below (Zr HO380.out) hb); replace BK373 := Aside0.mk (Zi BK373.out hb); replace HB := Aside0.mk (Qap (Zc1 GE373.out) hb); (try clear hb); (try clear hb2); (try clear hk); (try clear hi)))
   repeat (go_quiet (first | (go_at_call 10; (with_reducible refine (Qav.calls kj3  t381 _ A79.out).mono ?_); rintro e w80 ⟨rfl, hb⟩; replace HO380 := Aside0.mk (Kd.R_below (Zr HO380.out) hb); replace BK373 := Aside0.mk (Zi BK373.out hb); replace HB := Aside0.mk (Qap (Zc1 GE373.out) hb); (try clear hb); (try clear hb2); (try clear hk); (try clear hi))); try go_wp2_with (first | (go_at_call 10; (with_reducible refine (Qav.calls kj3  t381 _ A79.out).mono ?_); rintro e w80 ⟨rfl, hb⟩; replace HO380 := Aside0.mk (Kd.R_below (Zr HO380.out) hb); replace BK373 := Aside0.mk (Zi BK373.out hb); replace HB := Aside0.mk (Qap (Zc1 GE373.out) hb); (try clear hb); (try clear hb2); (try clear hk); (try clear hi))))
   go_ret
   exact ⟨Zq, Zc1 GE373.out⟩
end Go.Proofs.Ytgnmhfjfefgbfaa.Pr
