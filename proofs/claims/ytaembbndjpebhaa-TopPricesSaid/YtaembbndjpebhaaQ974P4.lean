/- Functions' values and contracts, as the print wrote them. -/
import Derived.Test.YtaembbndjpebhaaQ974P0
import Derived.Test.YtaembbndjpebhaaQ974P1
import Derived.Test.YtaembbndjpebhaaQ974P3
namespace Go.Proofs.Ytaembbndjpebhaa.Pr
open Bool renaming true → F
open Bool renaming false → J
open Go.RowKit Go.Proofs.YtaembbndjpebhaaW.PrintWords Go.Proofs.YtaembbndjpebhaaW.PrintLast Go.Proofs.YtaembbndjpebhaaW.PrintMore
attribute [local go_sem] QaN QaP QaT QaU QaK QaL QaO QaQ   -- for this text's walks alone
set_option linter.unusedVariables false
set_option linter.unusedSimpArgs false
set_option maxRecDepth 100000
set_option maxHeartbeats 8000000
def Qbs (k : Nat) (lw : List S130) (least tick : Int) : Option (Int × Bool) := (QaI.f k lw).bind fun v => if v.1 < least then some (0, J) else (QaD.f k lw tick 5).bind fun m => some (m.1, m.2 == 0)
def Qbt (k : Nat) (bid ask tick : Int) : Option (Int × Bool) := (QaY.f k bid ask tick).bind fun m => some (m.1, (bid != 0) && ((ask != 0) && (m.2 == 0)))
def QbK (lt : List S130) (bid ask : Int) : Option (Int × Bool) := (QbP.f lt).bind fun t => some (if ask = 0 then (if bid = 0 then t.2.2.1 else mx t.2.2.1 bid) else mn (if bid = 0 then t.2.2.1 else mx t.2.2.1 bid) ask, t.2.2.2)
def Qbc (k : Nat) (p0 : ByteArray) (p1 p2 p3 p4 p5 : Int) (p6 : Bool) (q6 q7 : Int) : Option (Int × Bool) := (QaE.f k (wrap64 (q6 + q7)) (-16777216) 16777216).bind fun c => (Qbe.f k p0 p1 p2 p3 p4 p5 p6 c 5).bind fun m => some (m.1, m.2 == 0)
theorem Qbs.calls (k : Nat) (Aw : Option Addr) (cw : Nat) (lw : List S130) (q3 p3 : Int) (g5 gq gp : Nat) (r : Int × Bool) (w : World) (hr : Kd.C k130 w Aw lw.length lw) (hc : lw.length ≤ cw) (h5 : w.cell? ⟨g5, 0, none⟩ = some (.slice Aw lw.length cw)) (h3 : w.cell? ⟨gq, 3, none⟩ = some (.int .i64 q3)) (h2 : w.cell? ⟨gp, 3, none⟩ = some (.int .i64 p3)) (h : Qbs k lw q3 p3 = some r) :
  Calls Try.prog 86 #[.pointer (some ⟨g5, 0, none⟩), .pointer (some ⟨gq, 0, none⟩), .pointer (some ⟨gp, 0, none⟩)] w fun e w' => e = .returned (.tuple #[.int .i64 r.1, .bool r.2]) ∧ Below w.heap.size w w' := by
 have HR := Aside0.mk hr
 have HC := Aside0.mk hc
 clear hr hc
 unfold Qbs at h
 replace h := Option.bind_eq_some_iff.1 h
 obtain ⟨⟨v1, v2⟩, A10, H⟩ := h
 have A1 := Aside0.mk A10
 clear A10
 have h5' := h5
 have h3' := h3
 have h2' := h2
 go_enter Try.func86, Try.ntmps86
 go_upto_if 17 with (first | (go_at_call 87; refine (QaI.calls k Aw cw lw v1 v2 _ HR.out HC.out A1.out).mono ?_; rintro e w1 ⟨rfl, hb⟩; have HB := Aside0.mk hb; have h3a := (hb.cell (World.block_lt_of_cell? w _ h3)).trans h3; have h5a := (hb.cell (World.block_lt_of_cell? w _ h5)).trans h5; have h2a := (hb.cell (World.block_lt_of_cell? w _ h2)).trans h2; clear hb h5' h3' h2'))
 by_cases c : v1 < q3
 ·have cb : decide (v1 < q3) = F := decide_eq_true c
  have H1 : some ((0 : Int), J) = some r := by rw [if_pos c] at H; exact H
  clear H
  obtain rfl := Option.some.inj H1
  go_wp2
  go_ret2
  exact ⟨rfl, HB.out⟩
 have cb : decide (v1 < q3) = J := decide_eq_false c
 rw [if_neg c] at H
 replace H := Option.bind_eq_some_iff.1 H
 obtain ⟨⟨m1, m2⟩, A20, H⟩ := H
 have A2 := Aside0.mk A20
 clear A20
 obtain rfl := Option.some.inj H
 clear H
 go_wp2_with (first | (go_at_call 88; refine (QaD.calls k Aw cw lw p3 5 m1 m2 _ (Kd.C_below HR.out HB.out) HC.out A2.out).mono ?_; rintro e w2 ⟨rfl, hb⟩; have n_ := Aside0.mk (Qao HB.out hb); clear HB hb h3a h5a h2a; have HB := n_; clear n_))
 go_ret2
 exact ⟨rfl, HB.out⟩
theorem Qbt.calls (k : Nat) (q4 q5 p3 : Int) (gq gp : Nat) (r : Int × Bool) (w : World) (h4 : w.cell? ⟨gq, 4, none⟩ = some (.int .i64 q4)) (h5 : w.cell? ⟨gq, 5, none⟩ = some (.int .i64 q5)) (h2 : w.cell? ⟨gp, 3, none⟩ = some (.int .i64 p3)) (h : Qbt k q4 q5 p3 = some r) :
  Calls Try.prog 89 #[.pointer (some ⟨gq, 0, none⟩), .pointer (some ⟨gp, 0, none⟩)] w fun e w' => e = .returned (.tuple #[.int .i64 r.1, .bool r.2]) ∧ Below w.heap.size w w' := by
 unfold Qbt at h
 replace h := Option.bind_eq_some_iff.1 h
 obtain ⟨⟨m1, m2⟩, A10, H⟩ := h
 have A1 := Aside0.mk A10
 clear A10
 obtain rfl := Option.some.inj H
 clear H
 obtain ⟨rb, hrb⟩ : ∃ x, x = ((q4 != 0) && ((q5 != 0) && (m2 == 0))) := ⟨_, rfl⟩
 show Calls _ _ _ w fun e w' => e = .returned (.tuple #[.int .i64 m1, .bool ((q4 != 0) && ((q5 != 0) && (m2 == 0)))]) ∧ Below w.heap.size w w'
 rw [← hrb]
 have RB := Aside0.mk hrb
 clear hrb
 have h4' := h4
 have h5' := h5
 have h2' := h2
 by_cases c4 : q4 = 0
 ·have c4b : (q4 != 0) = J := bne_eq_false_iff_eq.mpr c4
  have e : rb = J := by rw [RB.out, c4b]; rfl
  subst e
  clear c4 RB
  go_enter Try.func89, Try.ntmps89
  go_wp2_with (first | (go_at_call 90; refine (QaY.calls k q4 q5 p3 m1 m2 _ A1.out).mono ?_; rintro e w1 ⟨rfl, hb⟩; have HB := Aside0.mk hb; have h4a := (hb.cell (World.block_lt_of_cell? w _ h4)).trans h4; have h5a := (hb.cell (World.block_lt_of_cell? w _ h5)).trans h5; clear hb h4' h5' h2'))
  go_ret2
  exact ⟨rfl, HB.out⟩
 have c4b : (q4 != 0) = F := bne_iff_ne.mpr c4
 by_cases c5 : q5 = 0
 ·have c5b : (q5 != 0) = J := bne_eq_false_iff_eq.mpr c5
  have e : rb = J := by rw [RB.out, c4b, c5b]; rfl
  subst e
  clear c4 c5 RB
  go_enter Try.func89, Try.ntmps89
  go_wp2_with (first | (go_at_call 90; refine (QaY.calls k q4 q5 p3 m1 m2 _ A1.out).mono ?_; rintro e w1 ⟨rfl, hb⟩; have HB := Aside0.mk hb; have h4a := (hb.cell (World.block_lt_of_cell? w _ h4)).trans h4; have h5a := (hb.cell (World.block_lt_of_cell? w _ h5)).trans h5; clear hb h4' h5' h2'))
  go_ret2
  exact ⟨rfl, HB.out⟩
 have c5b : (q5 != 0) = F := bne_iff_ne.mpr c5
 have e : rb = (m2 == 0) := by rw [RB.out, c4b, c5b]; rfl
 subst e
 clear c4 c5 RB
 go_enter Try.func89, Try.ntmps89
 go_wp2_with (first | (go_at_call 90; refine (QaY.calls k q4 q5 p3 m1 m2 _ A1.out).mono ?_; rintro e w1 ⟨rfl, hb⟩; have HB := Aside0.mk hb; have h4a := (hb.cell (World.block_lt_of_cell? w _ h4)).trans h4; have h5a := (hb.cell (World.block_lt_of_cell? w _ h5)).trans h5; clear hb h4' h5' h2'))
 go_ret2
 exact ⟨rfl, HB.out⟩
theorem QbK.calls (At : Option Addr) (ct : Nat) (lt : List S130) (q4 q5 : Int) (gq : Nat) (r : Int × Bool) (w : World) (hr : Kd.C k130 w At lt.length lt) (hc : lt.length ≤ ct) (h0 : w.cell? ⟨gq, 0, none⟩ = some (.slice At lt.length ct)) (h4 : w.cell? ⟨gq, 4, none⟩ = some (.int .i64 q4)) (h5 : w.cell? ⟨gq, 5, none⟩ = some (.int .i64 q5)) (h : QbK lt q4 q5 = some r) :
  Calls Try.prog 91 #[.pointer (some ⟨gq, 0, none⟩)] w fun e w' => e = .returned (.tuple #[.int .i64 r.1, .bool r.2]) ∧ Below w.heap.size w w' := by
 have HR := Aside0.mk hr
 have HC := Aside0.mk hc
 clear hr hc
 unfold QbK at h
 replace h := Option.bind_eq_some_iff.1 h
 obtain ⟨⟨t1, t2, t3, t4⟩, A10, H⟩ := h
 have A1 := Aside0.mk A10
 clear A10
 obtain rfl := Option.some.inj H
 clear H
 obtain ⟨rn, hrn⟩ : ∃ x, x = (if q5 = 0 then (if q4 = 0 then t3 else mx t3 q4) else mn (if q4 = 0 then t3 else mx t3 q4) q5) := ⟨_, rfl⟩
 show Calls _ _ _ w fun e w' => e = .returned (.tuple #[.int .i64 (if q5 = 0 then (if q4 = 0 then t3 else mx t3 q4) else mn (if q4 = 0 then t3 else mx t3 q4) q5), .bool t4]) ∧ Below w.heap.size w w'
 rw [← hrn]
 have RN := Aside0.mk hrn
 clear hrn
 have hu := Try.underlying130
 have h4' := h4
 have h5' := h5
 have h0' := h0
 go_enter Try.func91, Try.ntmps91
 go_upto_region 2 with (first | (go_at_call 92; refine (QbP.calls At ct lt t1 t2 t3 t4 _ HR.out HC.out A1.out).mono ?_; rintro e w1 ⟨rfl, hb⟩; have HB := Aside0.mk hb; have h4a := Aside0.mk ((hb.cell (World.block_lt_of_cell? w _ h4)).trans h4); have h5a := Aside0.mk ((hb.cell (World.block_lt_of_cell? w _ h5)).trans h5); clear hb h4' h5' h0') | ((with_reducible refine QaJ (N := 3) rfl ?_); refine Zbx (N := 3) (cs := #[.int .i64 0, .int .i64 0, .int .i64 0]) (t := 130) ?_; intro gt hg w2 hbox hb; have n_ := Aside0.mk (Qao HB.out hb); have GT := Aside0.mk (show w.heap.size ≤ gt by rw [hg]; exact Qaq HB.out); have BK := Aside0.mk hbox; have h4b := (hb.cell (World.block_lt_of_cell? _ _ h4a.out)).trans h4a.out; have h5b := (hb.cell (World.block_lt_of_cell? _ _ h5a.out)).trans h5a.out; have n4 : gq ≠ gt := (by have := World.block_lt_of_cell? _ _ h4a.out; rw [hg]; exact Nat.ne_of_lt this); clear HB hb h4a h5a hg hbox; have HB := n_; clear n_; have hz0 : w2.cell? ⟨gt, 0, none⟩ = some (.int .i64 0) := (Qab BK.out 0).trans rfl; have hz1 : w2.cell? ⟨gt, 1, none⟩ = some (.int .i64 0) := (Qab BK.out 1).trans rfl; have hz2 : w2.cell? ⟨gt, 2, none⟩ = some (.int .i64 0) := (Qab BK.out 2).trans rfl; have hf0 := Qaa BK.out 0; have hf1 := Qaa BK.out 1; have hf2 := Qaa BK.out 2))
 have n3_ : Aside0 ((((w2.setCell ⟨gt, 0, none⟩ (.int .i64 t1)).setCell ⟨gt, 1, none⟩ (.int .i64 t2)).setCell ⟨gt, 2, none⟩ (.int .i64 t3)).heap[gt]? = some (.cells #[.int .i64 t1, .int .i64 t2, .int .i64 t3] 130 (0, 0))) := ⟨by refine Qax (cs := #[.int .i64 t1, .int .i64 t2, .int .i64 0]) ?_ 2 _ rfl; refine Qax (cs := #[.int .i64 t1, .int .i64 0, .int .i64 0]) ?_ 1 _ rfl; refine Qax (cs := #[.int .i64 0, .int .i64 0, .int .i64 0]) ?_ 0 _ rfl; exact BK.out⟩
 have n4_ : (((w2.setCell ⟨gt, 0, none⟩ (.int .i64 t1)).setCell ⟨gt, 1, none⟩ (.int .i64 t2)).setCell ⟨gt, 2, none⟩ (.int .i64 t3)).cell? ⟨gq, 4, none⟩ = some (.int .i64 q4) := (Qbi n4 _).trans ((Qbi n4 _).trans ((Qbi n4 _).trans h4b))
 have n5_ : (((w2.setCell ⟨gt, 0, none⟩ (.int .i64 t1)).setCell ⟨gt, 1, none⟩ (.int .i64 t2)).setCell ⟨gt, 2, none⟩ (.int .i64 t3)).cell? ⟨gq, 5, none⟩ = some (.int .i64 q5) := (Qbi n4 _).trans ((Qbi n4 _).trans ((Qbi n4 _).trans h5b))
 have n6_ : Aside0 (Below w.heap.size w (((w2.setCell ⟨gt, 0, none⟩ (.int .i64 t1)).setCell ⟨gt, 1, none⟩ (.int .i64 t2)).setCell ⟨gt, 2, none⟩ (.int .i64 t3))) := ⟨Qag (Qag (Qag HB.out GT.out) GT.out) GT.out⟩
 clear h4b h5b hz0 hz1 hz2 hf0 hf1 hf2 HB BK
 generalize (((w2.setCell ⟨gt, 0, none⟩ (.int .i64 t1)).setCell ⟨gt, 1, none⟩ (.int .i64 t2)).setCell ⟨gt, 2, none⟩ (.int .i64 t3)) = w3 at n3_ n4_ n5_ n6_ ⊢
 have hz2 : w3.cell? ⟨gt, 2, none⟩ = some (.int .i64 t3) := (Qab n3_.out 2).trans rfl
 by_cases c4 : q4 = 0
 ·have c4b : (q4 != 0) = J := bne_eq_false_iff_eq.mpr c4
  by_cases c5 : q5 = 0
  ·have c5b : (q5 != 0) = J := bne_eq_false_iff_eq.mpr c5
   have e : rn = t3 := by rw [RN.out, if_pos c5, if_pos c4]
   subst e
   clear c4 c5 RN
   go_wp2
   go_ret2
   exact ⟨rfl, n6_.out⟩
  have c5b : (q5 != 0) = F := bne_iff_ne.mpr c5
  by_cases m1 : q5 < t3
  ·have e : rn = q5 := by rw [RN.out, if_neg c5, if_pos c4, show mn t3 q5 = if q5 < t3 then q5 else t3 from rfl, if_pos m1]
   subst e
   clear c4 c5 RN
   go_wp2
   go_ret2
   exact ⟨rfl, n6_.out⟩
  have e : rn = t3 := by rw [RN.out, if_neg c5, if_pos c4, show mn t3 q5 = if q5 < t3 then q5 else t3 from rfl, if_neg m1]
  subst e
  clear c4 c5 RN
  go_wp2
  go_ret2
  exact ⟨rfl, n6_.out⟩
 have c4b : (q4 != 0) = F := bne_iff_ne.mpr c4
 by_cases m0 : t3 < q4
 ·by_cases c5 : q5 = 0
  ·have c5b : (q5 != 0) = J := bne_eq_false_iff_eq.mpr c5
   have e : rn = q4 := by rw [RN.out, if_pos c5, if_neg c4, show mx t3 q4 = if t3 < q4 then q4 else t3 from rfl, if_pos m0]
   subst e
   clear c4 c5 RN
   go_wp2
   go_ret2
   exact ⟨rfl, n6_.out⟩
  have c5b : (q5 != 0) = F := bne_iff_ne.mpr c5
  by_cases m1 : q5 < q4
  ·have e : rn = q5 := by rw [RN.out, if_neg c5, if_neg c4, show mx t3 q4 = if t3 < q4 then q4 else t3 from rfl, if_pos m0, show mn q4 q5 = if q5 < q4 then q5 else q4 from rfl, if_pos m1]
   subst e
   clear c4 c5 RN
   go_wp2
   go_ret2
   exact ⟨rfl, n6_.out⟩
  have e : rn = q4 := by rw [RN.out, if_neg c5, if_neg c4, show mx t3 q4 = if t3 < q4 then q4 else t3 from rfl, if_pos m0, show mn q4 q5 = if q5 < q4 then q5 else q4 from rfl, if_neg m1]
  subst e
  clear c4 c5 RN
  go_wp2
  go_ret2
  exact ⟨rfl, n6_.out⟩
 by_cases c5 : q5 = 0
 ·have c5b : (q5 != 0) = J := bne_eq_false_iff_eq.mpr c5
  have e : rn = t3 := by rw [RN.out, if_pos c5, if_neg c4, show mx t3 q4 = if t3 < q4 then q4 else t3 from rfl, if_neg m0]
  subst e
  clear c4 c5 RN
  go_wp2
  go_ret2
  exact ⟨rfl, n6_.out⟩
 have c5b : (q5 != 0) = F := bne_iff_ne.mpr c5
 by_cases m1 : q5 < t3
 ·have e : rn = q5 := by rw [RN.out, if_neg c5, if_neg c4, show mx t3 q4 = if t3 < q4 then q4 else t3 from rfl, if_neg m0, show mn t3 q5 = if q5 < t3 then q5 else t3 from rfl, if_pos m1]
  subst e
  clear c4 c5 RN
  go_wp2
  go_ret2
  exact ⟨rfl, n6_.out⟩
 have e : rn = t3 := by rw [RN.out, if_neg c5, if_neg c4, show mx t3 q4 = if t3 < q4 then q4 else t3 from rfl, if_neg m0, show mn t3 q5 = if q5 < t3 then q5 else t3 from rfl, if_neg m1]
 subst e
 clear c4 c5 RN
 go_wp2
 go_ret2
 exact ⟨rfl, n6_.out⟩
def Qbc.T : Bool × List (List Nat × List Nat) := (F, [([], []), ([], []), ([1], [1]), ([], []), ([3], [3]), ([2, 4], [2, 4]), ([5], [5]), ([0, 6, 6], [0, 6]), ([7], [7]), ([8], [8]), ([8], [8]), ([9, 7, 0, 1, 2, 3, 4, 5, 6, 7, 8, 9], [9]), ([10, 11, 0, 1, 2, 3, 4, 5, 6, 7, 8, 9, 10, 11], [10])])
def Qbc.B : List Nat := [0, 0, 2, 0, 8, 30, 62, 127, 255, 511, 511, 1023, 4095]
theorem Qbc.tab : rtab .any (opsOf Try.f93 1) = Qbc.T := by kernel_rfl
theorem Qbc.bits : QbL Qbc.T.2 Qbc.B = F := by kernel_rfl
theorem Qbc.calls (k : Nat) (p0 : ByteArray) (p1 p2 p3 p4 p5 : Int) (p6 : Bool) (q6 q7 : Int) (gp gq : Nat) (r : Int × Bool) (w : World) (hp : w.heap[gp]? = some (.cells #[.string p0, .int .i64 p1, .int .i64 p2, .int .i64 p3, .int .i64 p4, .int .i64 p5, .bool p6] 73 (0, 0))) (h6 : w.cell? ⟨gq, 6, none⟩ = some (.int .i64 q6)) (h7 : w.cell? ⟨gq, 7, none⟩ = some (.int .i64 q7)) (h : Qbc k p0 p1 p2 p3 p4 p5 p6 q6 q7 = some r) :
  Calls Try.prog 93 #[.pointer (some ⟨gp, 0, none⟩), .pointer (some ⟨gq, 0, none⟩)] w fun e w' => e = .returned (.tuple #[.int .i64 r.1, .bool r.2]) ∧ Below w.heap.size w w' := by
 have BK := Aside0.mk hp
 clear hp
 unfold Qbc at h
 replace h := Option.bind_eq_some_iff.1 h
 obtain ⟨c, A10, H⟩ := h
 have A1 := Aside0.mk A10
 clear A10
 replace H := Option.bind_eq_some_iff.1 H
 obtain ⟨⟨m1, m2⟩, A20, H⟩ := H
 have A2 := Aside0.mk A20
 clear A20
 obtain rfl := Option.some.inj H
 clear H
 have hu := Try.underlying73
 go_enter Try.func93, Try.ntmps93
 go_upto_region 1 with (fail)
 refine start_ (n := 13) (S := fun w' => w'.cell? ⟨gp, 0, none⟩ = some (.string p0) ∧ w'.cell? ⟨gp, 1, none⟩ = some (.int .i64 p1) ∧ w'.cell? ⟨gp, 2, none⟩ = some (.int .i64 p2) ∧ w'.cell? ⟨gp, 3, none⟩ = some (.int .i64 p3) ∧ w'.cell? ⟨gp, 4, none⟩ = some (.int .i64 p4) ∧ w'.cell? ⟨gp, 5, none⟩ = some (.int .i64 p5) ∧ w'.cell? ⟨gp, 6, none⟩ = some (.bool p6) ∧ w'.cell? ⟨gq, 6, none⟩ = some (.int .i64 q6) ∧ w'.cell? ⟨gq, 7, none⟩ = some (.int .i64 q7)) (ds := []) #[J, J, J, J, J, J, J, J, J, J, J, J, J] (by kernel_rfl) rfl rfl ⟨(Qab (Qae BK.out) 0).trans rfl, (Qab (Qae BK.out) 1).trans rfl, (Qab (Qae BK.out) 2).trans rfl, (Qab (Qae BK.out) 3).trans rfl, (Qab (Qae BK.out) 4).trans rfl, (Qab (Qae BK.out) 5).trans rfl, (Qab (Qae BK.out) 6).trans rfl, h6, h7⟩ (fun hHeld => ?_); refine QbB Qbc.tab Qbc.bits (fun HT_ HW_ => ?_)
 refine pure_ (i := 1) (N := some 8) (v := ?_) (a' := ?_) #[J, F, J, J, J, J, J, J, J, J, J, J, J] rfl rfl (any_of HT_.out (by kernel_rfl)) (fun _ _ _ h => h) (Or.inl ⟨by rfl, ?_⟩) ?_ ?_
 rotate_left
 ·intro w'
  go_simp
  with_reducible rfl
 rotate_left
 ·simp only [Act.put, Zj, Zk, Zm, i64_w, i32_w]
  rfl
 refine pure_ (i := 3) (N := some 10) (v := ?_) (a' := ?_) #[J, F, J, F, J, J, J, J, J, J, J, J, J] rfl rfl (any_of HT_.out (by kernel_rfl)) (fun _ _ _ h => h) (Or.inl ⟨by rfl, ?_⟩) ?_ ?_
 rotate_left
 ·intro w'
  go_simp
  with_reducible rfl
 rotate_left
 ·simp only [Act.put, Zj, Zk, Zm, i64_w, i32_w]
  rfl
 refine take_ (i := 0) (N := some 7) (v := ?_) (a' := ?_) #[F, F, J, F, J, J, J, J, J, J, J, J, J] rfl rfl (Qa4 HT_.out HW_.out (by kernel_rfl)) (fun _ _ _ h => h) (Or.inl ⟨by rfl, ?_⟩) hHeld ?_ ?_
 rotate_left
 ·rintro w' ⟨s0, s1, s2, s3, s4, s5, s6, s7, s8⟩
  go_simp
  with_reducible rfl
 rotate_left
 ·simp only [Act.put, Zj, Zk, Zm, i64_w, i32_w]
  rfl
 refine take_ (i := 2) (N := some 9) (v := ?_) (a' := ?_) #[F, F, F, F, J, J, J, J, J, J, J, J, J] rfl rfl (Qa4 HT_.out HW_.out (by kernel_rfl)) (fun _ _ _ h => h) (Or.inl ⟨by rfl, ?_⟩) hHeld ?_ ?_
 rotate_left
 ·rintro w' ⟨s0, s1, s2, s3, s4, s5, s6, s7, s8⟩
  go_simp
  with_reducible rfl
 rotate_left
 ·simp only [Act.put, Zj, Zk, Zm, i64_w, i32_w]
  rfl
 refine take_ (i := 4) (N := some 11) (v := ?_) (a' := ?_) #[F, F, F, F, F, J, J, J, J, J, J, J, J] rfl rfl (Qa4 HT_.out HW_.out (by kernel_rfl)) (fun _ _ _ h => h) (Or.inl ⟨by rfl, ?_⟩) hHeld ?_ ?_
 rotate_left
 ·rintro w' ⟨s0, s1, s2, s3, s4, s5, s6, s7, s8⟩
  go_simp
  with_reducible rfl
 rotate_left
 ·simp only [Act.put, Zj, Zk, Zm, i64_w, i32_w]
  rfl
 refine pure_ (i := 5) (N := some 12) (v := ?_) (a' := ?_) #[F, F, F, F, F, F, J, J, J, J, J, J, J] rfl rfl (any_of HT_.out (by kernel_rfl)) (fun _ _ _ h => h) (Or.inl ⟨by rfl, ?_⟩) ?_ ?_
 rotate_left
 ·intro w'
  go_simp
  with_reducible rfl
 rotate_left
 ·simp only [Act.put, Zj, Zk, Zm, i64_w, i32_w]
  rfl
 refine one_ (i := 6) (N := some 13) #[F, F, F, F, F, F, F, J, J, J, J, J, J] rfl rfl (one_of HT_.out (by kernel_rfl)) (by decide) (fun K hK => ?_)
 refine goes_ Try.func61 (by kernel_rfl) rfl #[.int .i64 (wrap64 (q6 + q7)), .int .i64 (-16777216), .int .i64 16777216] (by rfl) rfl rfl (by (try simp only [List.map_toArray, List.map_cons, List.map_nil]); first | done | rfl) ?_
 refine (QaE.calls k (wrap64 (q6 + q7)) (-16777216) 16777216 c _ A1.out).mono ?_
 rintro e w1 ⟨rfl, hd⟩
 refine ⟨_, rfl, ?_⟩
 have hb := hd.below
 have HB := Aside0.mk (Qao (Qai (Below.refl w.heap.size w)) hb)
 have BK1 := Aside0.mk (Qam (Qae BK.out) hb)
 have h6a := (hb.cell (World.block_lt_of_cell? _ _ (hHeld.2.2.2.2.2.2.2.1))).trans (hHeld.2.2.2.2.2.2.2.1)
 have h7a := (hb.cell (World.block_lt_of_cell? _ _ (hHeld.2.2.2.2.2.2.2.2))).trans (hHeld.2.2.2.2.2.2.2.2)
 refine hK.out _ _ ⟨(Qab BK1.out 0).trans rfl, (Qab BK1.out 1).trans rfl, (Qab BK1.out 2).trans rfl, (Qab BK1.out 3).trans rfl, (Qab BK1.out 4).trans rfl, (Qab BK1.out 5).trans rfl, (Qab BK1.out 6).trans rfl, h6a, h7a⟩ (fun hHeld => ?_)
 clear hK K
 refine norm_ (a' := ?_) ?_ ?_
 rotate_left
 ·show Act.put _ (some 13) _ = _
  simp only [Act.put, Zj, Zk, Zm, i64_w, i32_w]
  rfl
 refine one_ (i := 7) (N := some 14) #[F, F, F, F, F, F, F, F, J, J, J, J, J] rfl rfl (one_of HT_.out (by kernel_rfl)) (by decide) (fun K hK => ?_)
 refine goes_ Try.func94 (by kernel_rfl) rfl #[.agg #[.string p0, .int .i64 p1, .int .i64 p2, .int .i64 p3, .int .i64 p4, .int .i64 p5, .bool p6], .int .i64 c, .int .i64 5] (by rfl) rfl rfl (by (try simp only [List.map_toArray, List.map_cons, List.map_nil]); first | done | rfl) ?_
 refine (Qbe.calls k p0 p1 p2 p3 p4 p5 p6 c 5 m1 m2 _ A2.out).mono ?_
 rintro e w2 ⟨rfl, hb2⟩
 refine ⟨_, rfl, ?_⟩
 have HB2 := Aside0.mk (Qao HB.out hb2)
 have BK2 := Aside0.mk (Qam BK1.out hb2)
 have h6b := (hb2.cell (World.block_lt_of_cell? _ _ h6a)).trans h6a
 have h7b := (hb2.cell (World.block_lt_of_cell? _ _ h7a)).trans h7a
 refine hK.out _ _ ⟨(Qab BK2.out 0).trans rfl, (Qab BK2.out 1).trans rfl, (Qab BK2.out 2).trans rfl, (Qab BK2.out 3).trans rfl, (Qab BK2.out 4).trans rfl, (Qab BK2.out 5).trans rfl, (Qab BK2.out 6).trans rfl, h6b, h7b⟩ (fun hHeld => ?_)
 clear hK K
 refine norm_ (a' := ?_) ?_ ?_
 rotate_left
 ·show Act.put _ (some 14) _ = _
  simp only [Act.put, Zj, Zk, Zm, i64_w, i32_w]
  rfl
 refine pure_ (i := 8) (N := some 6) (v := ?_) (a' := ?_) #[F, F, F, F, F, F, F, F, F, J, J, J, J] rfl rfl (any_of HT_.out (by kernel_rfl)) (fun _ _ _ h => h) (Or.inl ⟨by rfl, ?_⟩) ?_ ?_
 rotate_left
 ·intro w'
  go_simp
  with_reducible rfl
 rotate_left
 ·simp only [Act.put, Zj, Zk, Zm, i64_w, i32_w]
  rfl
 refine pure_ (i := 9) (N := some 15) (v := ?_) (a' := ?_) #[F, F, F, F, F, F, F, F, F, F, J, J, J] rfl rfl (any_of HT_.out (by kernel_rfl)) (fun _ _ _ h => h) (Or.inl ⟨by rfl, ?_⟩) ?_ ?_
 rotate_left
 ·intro w'
  go_simp
  with_reducible rfl
 rotate_left
 ·simp only [Act.put, Zj, Zk, Zm, i64_w, i32_w]
  rfl
 refine pure_ (i := 10) (N := some 16) (v := ?_) (a' := ?_) #[F, F, F, F, F, F, F, F, F, F, F, J, J] rfl rfl (any_of HT_.out (by kernel_rfl)) (fun _ _ _ h => h) (Or.inl ⟨by rfl, ?_⟩) ?_ ?_
 rotate_left
 ·intro w'
  go_simp
  with_reducible rfl
 rotate_left
 ·simp only [Act.put, Zj, Zk, Zm, i64_w, i32_w]
  rfl
 refine pure_ (i := 11) (N := some 4) (v := ?_) (a' := ?_) #[F, F, F, F, F, F, F, F, F, F, F, F, J] rfl rfl (any_of HT_.out (by kernel_rfl)) (fun _ _ _ h => h) (Or.inl ⟨by rfl, ?_⟩) ?_ ?_
 rotate_left
 ·intro w'
  go_simp
  with_reducible rfl
 rotate_left
 ·simp only [Act.put, Zj, Zk, Zm, i64_w, i32_w]
  rfl
 refine pure_ (i := 12) (N := some 5) (v := ?_) (a' := ?_) #[F, F, F, F, F, F, F, F, F, F, F, F, F] rfl rfl (any_of HT_.out (by kernel_rfl)) (fun _ _ _ h => h) (Or.inl ⟨by rfl, ?_⟩) ?_ ?_
 rotate_left
 ·intro w'
  go_simp
  with_reducible rfl
 rotate_left
 ·simp only [Act.put, Zj, Zk, Zm, i64_w, i32_w]
  rfl
 refine done_ (QbJ HT_.out (by kernel_rfl)) ?_
 go_wp2
 go_ret2
 exact ⟨rfl, HB2.out⟩
def QaM.x (k : Nat) (low high : Int) (n : Int × Bool) (i : Int) (rest : Option (Int × Int × Int)) : Option (Int × Int × Int) := if n.2 = F then (QaE.f k n.1 low high).bind fun c => some (c, i, 0) else rest
def QaM.f (k : Nat) (p0 : ByteArray) (p1 p2 p3 p4 p5 : Int) (p6 : Bool) (lt : List S130) (q1 q2 q3 q4 q5 q6 q7 : Int) : Option (Int × Int × Int) := (Qaz.f k p0 p1 p2 p3 p4 p5 p6 lt q1 q2 q3 q4 q5 q6 q7).bind fun e => if e = 0 then ((QaS.f k lt q1 q2).bind fun lw => (Qbs k lw q3 p3).bind fun n1 => QaM.x k p4 p5 n1 1 ((Qbt k q4 q5 p3).bind fun n2 => QaM.x k p4 p5 n2 2 ((QbK lt q4 q5).bind fun n3 => QaM.x k p4 p5 n3 3 ((Qbc k p0 p1 p2 p3 p4 p5 p6 q6 q7).bind fun n4 => QaM.x k p4 p5 n4 4 (some (0, 0, 17)))))) else some (0, 0, e)
theorem Qbs.mono (a b c) : ∀ k, LeO (Qbs k a b c) (Qbs (k + 1) a b c) := by
 intro k
 unfold Qbs
 exact LeO.bind (QaI.mono _ _) (fun _ => LeO.ite (LeO.refl _) (LeO.bind (QaD.mono _ _ _ _) (fun _ => LeO.refl _)))
theorem Qbt.mono (a b c) : ∀ k, LeO (Qbt k a b c) (Qbt (k + 1) a b c) := by
 intro k
 unfold Qbt
 exact LeO.bind (QaY.mono _ _ _ _) (fun _ => LeO.refl _)
theorem Qbc.mono (p0 p1 p2 p3 p4 p5 p6 q6 q7) : ∀ k, LeO (Qbc k p0 p1 p2 p3 p4 p5 p6 q6 q7) (Qbc (k + 1) p0 p1 p2 p3 p4 p5 p6 q6 q7) := by
 intro k
 unfold Qbc
 exact LeO.bind (QaE.mono _ _ _ _) (fun _ => LeO.bind (Qbe.mono _ _ _ _ _ _ _ _ _ _) (fun _ => LeO.refl _))
theorem QaM.mono_x (a b n i) {x y : Option (Int × Int × Int)} (h : LeO x y) (k : Nat) : LeO (QaM.x k a b n i x) (QaM.x (k + 1) a b n i y) := by
 unfold QaM.x
 exact LeO.ite (LeO.bind (QaE.mono _ _ _ _) (fun _ => LeO.refl _)) h
theorem QaM.mono : ∀ p0 p1 p2 p3 p4 p5 p6 lt q1 q2 q3 q4 q5 q6 q7 k, LeO (QaM.f k p0 p1 p2 p3 p4 p5 p6 lt q1 q2 q3 q4 q5 q6 q7) (QaM.f (k + 1) p0 p1 p2 p3 p4 p5 p6 lt q1 q2 q3 q4 q5 q6 q7) := by
 intro p0 p1 p2 p3 p4 p5 p6 lt q1 q2 q3 q4 q5 q6 q7 k
 unfold QaM.f
 exact LeO.bind (Qaz.mono _ _ _ _ _ _ _ _ _ _ _ _ _ _ _ _) (fun _ => LeO.ite (LeO.bind (QaS.mono _ _ _ _) (fun _ => LeO.bind (Qbs.mono _ _ _ _) (fun _ => QaM.mono_x _ _ _ _ (LeO.bind (Qbt.mono _ _ _ _) (fun _ => QaM.mono_x _ _ _ _ (LeO.bind (LeO.refl _) (fun _ => QaM.mono_x _ _ _ _ (LeO.bind (Qbc.mono _ _ _ _ _ _ _ _ _ _) (fun _ => QaM.mono_x _ _ _ _ (LeO.refl _) _)) _)) _)) _))) (LeO.refl _))
def Qa8.T : Bool × List (List Nat × List Nat) := (F, [([], []), ([], []), ([1], [1]), ([], []), ([3], [3]), ([0, 2, 4], [0, 2, 4]), ([], []), ([6], [6]), ([5, 5, 0, 1, 2, 3, 4, 5], [5]), ([7, 8, 0, 1, 2, 3, 4, 5, 6, 7, 8], [7]), ([9, 0, 1, 2, 3, 4, 5, 6, 7, 8, 9], [])])
def Qa8.B : List Nat := [0, 0, 2, 0, 8, 31, 0, 64, 63, 511, 1023]
theorem Qa8.tab : rtab .any (opsOf Try.f40 9) = Qa8.T := by kernel_rfl
theorem Qa8.bits : QbL Qa8.T.2 Qa8.B = F := by kernel_rfl
theorem QaM.calls (k : Nat) (p0 : ByteArray) (p1 p2 p3 p4 p5 : Int) (p6 : Bool) (At : Option Addr) (ct : Nat) (lt : List S130) (q1 q2 q3 q4 q5 q6 q7 : Int) (r1 r2 r3 : Int) (w : World) (hr : Kd.C k130 w At lt.length lt) (hc : lt.length ≤ ct) (h : QaM.f k p0 p1 p2 p3 p4 p5 p6 lt q1 q2 q3 q4 q5 q6 q7 = some (r1, r2, r3)) :
  Calls Try.prog 40 #[.agg #[.string p0, .int .i64 p1, .int .i64 p2, .int .i64 p3, .int .i64 p4, .int .i64 p5, .bool p6], .agg #[.slice At lt.length ct, .int .i64 q1, .int .i64 q2, .int .i64 q3, .int .i64 q4, .int .i64 q5, .int .i64 q6, .int .i64 q7]] w fun e w' => e = .returned (.tuple #[.int .i64 r1, .int .i64 r2, .int .i64 r3]) ∧ Below w.heap.size w w' := by
 have HR := Aside0.mk hr
 have HC := Aside0.mk hc
 clear hr hc
 have HB := Aside0.mk (Below.refl w.heap.size w)
 unfold QaM.f at h
 replace h := Option.bind_eq_some_iff.1 h
 obtain ⟨e0, A00, H⟩ := h
 have A0 := Aside0.mk A00
 clear A00
 have H' := Aside0.mk H
 clear H
 have huP := Try.underlying73
 have huQ := Try.underlying76
 have huR := Try.underlying103
 go_enter Try.func40, Try.ntmps40
 go_upto_if 16 with (first | ((with_reducible refine QaJ (N := 2) rfl ?_); refine Zbx (N := 2) (cs := #[.string p0, .int .i64 p1, .int .i64 p2, .int .i64 p3, .int .i64 p4, .int .i64 p5, .bool p6]) (t := 73) ?_; intro gP hg w2 hbox hb; have n_ := Aside0.mk (Qao HB.out hb); have GEgP := Aside0.mk (show w.heap.size ≤ gP by rw [hg]; exact Qaq HB.out); clear HB; have HB := n_; clear n_; have BKgP := Aside0.mk hbox; clear hb hbox hg) | ((with_reducible refine QaJ (N := 3) rfl ?_); refine Zbx (N := 3) (cs := #[.slice At lt.length ct, .int .i64 q1, .int .i64 q2, .int .i64 q3, .int .i64 q4, .int .i64 q5, .int .i64 q6, .int .i64 q7]) (t := 76) ?_; intro gQ hg w3 hbox hb; have n_ := Aside0.mk (Qao HB.out hb); have GEgQ := Aside0.mk (show w.heap.size ≤ gQ by rw [hg]; exact Qaq HB.out); have NBgP_gQ := Aside0.mk (show gP ≠ gQ by rw [hg]; exact Nat.ne_of_lt (blk_lt BKgP.out)); have ogP := Aside0.mk (Qam (g := gP) (o := .cells #[.string p0, .int .i64 p1, .int .i64 p2, .int .i64 p3, .int .i64 p4, .int .i64 p5, .bool p6] 73 (0, 0)) BKgP.out hb); clear HB BKgP; have HB := n_; have BKgP := ogP; clear n_ ogP; have BKgQ := Aside0.mk hbox; clear hb hbox hg; have hp_0 : w3.cell? ⟨gP, 0, none⟩ = some (.string p0) := (Qab BKgP.out 0).trans rfl; have hp_1 : w3.cell? ⟨gP, 1, none⟩ = some (.int .i64 p1) := (Qab BKgP.out 1).trans rfl; have hp_2 : w3.cell? ⟨gP, 2, none⟩ = some (.int .i64 p2) := (Qab BKgP.out 2).trans rfl; have hp_3 : w3.cell? ⟨gP, 3, none⟩ = some (.int .i64 p3) := (Qab BKgP.out 3).trans rfl; have hp_4 : w3.cell? ⟨gP, 4, none⟩ = some (.int .i64 p4) := (Qab BKgP.out 4).trans rfl; have hp_5 : w3.cell? ⟨gP, 5, none⟩ = some (.int .i64 p5) := (Qab BKgP.out 5).trans rfl; have hp_6 : w3.cell? ⟨gP, 6, none⟩ = some (.bool p6) := (Qab BKgP.out 6).trans rfl; have hq_0 : w3.cell? ⟨gQ, 0, none⟩ = some (.slice At lt.length ct) := (Qab BKgQ.out 0).trans rfl; have hq_1 : w3.cell? ⟨gQ, 1, none⟩ = some (.int .i64 q1) := (Qab BKgQ.out 1).trans rfl; have hq_2 : w3.cell? ⟨gQ, 2, none⟩ = some (.int .i64 q2) := (Qab BKgQ.out 2).trans rfl; have hq_3 : w3.cell? ⟨gQ, 3, none⟩ = some (.int .i64 q3) := (Qab BKgQ.out 3).trans rfl; have hq_4 : w3.cell? ⟨gQ, 4, none⟩ = some (.int .i64 q4) := (Qab BKgQ.out 4).trans rfl; have hq_5 : w3.cell? ⟨gQ, 5, none⟩ = some (.int .i64 q5) := (Qab BKgQ.out 5).trans rfl; have hq_6 : w3.cell? ⟨gQ, 6, none⟩ = some (.int .i64 q6) := (Qab BKgQ.out 6).trans rfl; have hq_7 : w3.cell? ⟨gQ, 7, none⟩ = some (.int .i64 q7) := (Qab BKgQ.out 7).trans rfl) | (go_at_call 63; refine (Qaz.calls k p0 p1 p2 p3 p4 p5 p6 At ct lt q1 q2 q3 q4 q5 q6 q7 e0 _ (Kd.C_below HR.out HB.out) HC.out A0.out).mono ?_; rintro _ w4 ⟨rfl, hb⟩; have n_ := Aside0.mk (Qao HB.out hb); have n1_ := Aside0.mk (Qam BKgP.out hb); have n2_ := Aside0.mk (Qam BKgQ.out hb); clear HB BKgP BKgQ hb; clear hp_0 hp_1 hp_2 hp_3 hp_4 hp_5 hp_6; clear hq_0 hq_1 hq_2 hq_3 hq_4 hq_5 hq_6 hq_7; have HB := n_; have BKgP := n1_; have BKgQ := n2_; clear n_ n1_ n2_))
 have H := H'.out
 clear H'
 by_cases c0 : e0 = 0
 ·rw [if_pos c0] at H
  have c0b : (e0 != 0) = J := bne_eq_false_iff_eq.mpr c0
  clear c0
  replace H := Option.bind_eq_some_iff.1 H
  obtain ⟨lw, AW0, H⟩ := H
  have AW := Aside0.mk AW0
  clear AW0
  have H' := Aside0.mk H
  clear H
  have hp_0 : w4.cell? ⟨gP, 0, none⟩ = some (.string p0) := (Qab BKgP.out 0).trans rfl
  have hp_1 : w4.cell? ⟨gP, 1, none⟩ = some (.int .i64 p1) := (Qab BKgP.out 1).trans rfl
  have hp_2 : w4.cell? ⟨gP, 2, none⟩ = some (.int .i64 p2) := (Qab BKgP.out 2).trans rfl
  have hp_3 : w4.cell? ⟨gP, 3, none⟩ = some (.int .i64 p3) := (Qab BKgP.out 3).trans rfl
  have hp_4 : w4.cell? ⟨gP, 4, none⟩ = some (.int .i64 p4) := (Qab BKgP.out 4).trans rfl
  have hp_5 : w4.cell? ⟨gP, 5, none⟩ = some (.int .i64 p5) := (Qab BKgP.out 5).trans rfl
  have hp_6 : w4.cell? ⟨gP, 6, none⟩ = some (.bool p6) := (Qab BKgP.out 6).trans rfl
  have hq_0 : w4.cell? ⟨gQ, 0, none⟩ = some (.slice At lt.length ct) := (Qab BKgQ.out 0).trans rfl
  have hq_1 : w4.cell? ⟨gQ, 1, none⟩ = some (.int .i64 q1) := (Qab BKgQ.out 1).trans rfl
  have hq_2 : w4.cell? ⟨gQ, 2, none⟩ = some (.int .i64 q2) := (Qab BKgQ.out 2).trans rfl
  have hq_3 : w4.cell? ⟨gQ, 3, none⟩ = some (.int .i64 q3) := (Qab BKgQ.out 3).trans rfl
  have hq_4 : w4.cell? ⟨gQ, 4, none⟩ = some (.int .i64 q4) := (Qab BKgQ.out 4).trans rfl
  have hq_5 : w4.cell? ⟨gQ, 5, none⟩ = some (.int .i64 q5) := (Qab BKgQ.out 5).trans rfl
  have hq_6 : w4.cell? ⟨gQ, 6, none⟩ = some (.int .i64 q6) := (Qab BKgQ.out 6).trans rfl
  have hq_7 : w4.cell? ⟨gQ, 7, none⟩ = some (.int .i64 q7) := (Qab BKgQ.out 7).trans rfl
  go_wp2_with (first | (go_at_call 64; go_in) | ((with_reducible refine QaJ (N := 2) rfl ?_); refine Zbx (N := 2) (cs := #[.string p0, .int .i64 p1, .int .i64 p2, .int .i64 p3, .int .i64 p4, .int .i64 p5, .bool p6]) (t := 73) ?_; intro g2 hg w5 hbox hb; have n_ := Aside0.mk (Qao HB.out hb); have GEg2 := Aside0.mk (show w.heap.size ≤ g2 by rw [hg]; exact Qaq HB.out); have NBgP_g2 := Aside0.mk (show gP ≠ g2 by rw [hg]; exact Nat.ne_of_lt (blk_lt BKgP.out)); have ogP := Aside0.mk (Qam (g := gP) (o := .cells #[.string p0, .int .i64 p1, .int .i64 p2, .int .i64 p3, .int .i64 p4, .int .i64 p5, .bool p6] 73 (0, 0)) BKgP.out hb); clear HB BKgP; have HB := n_; have BKgP := ogP; clear n_ ogP; have BKg2 := Aside0.mk hbox; clear hb hbox hg) | ((with_reducible refine QaJ (N := 3) rfl ?_); refine Zbx (N := 3) (cs := #[.slice At lt.length ct, .int .i64 q1, .int .i64 q2, .int .i64 q3, .int .i64 q4, .int .i64 q5, .int .i64 q6, .int .i64 q7]) (t := 76) ?_; intro g3 hg w6 hbox hb; have n_ := Aside0.mk (Qao HB.out hb); have GEg3 := Aside0.mk (show w.heap.size ≤ g3 by rw [hg]; exact Qaq HB.out); have NBgP_g3 := Aside0.mk (show gP ≠ g3 by rw [hg]; exact Nat.ne_of_lt (blk_lt BKgP.out)); have ogP := Aside0.mk (Qam (g := gP) (o := .cells #[.string p0, .int .i64 p1, .int .i64 p2, .int .i64 p3, .int .i64 p4, .int .i64 p5, .bool p6] 73 (0, 0)) BKgP.out hb); have NBg2_g3 := Aside0.mk (show g2 ≠ g3 by rw [hg]; exact Nat.ne_of_lt (blk_lt BKg2.out)); have og2 := Aside0.mk (Qam (g := g2) (o := .cells #[.string p0, .int .i64 p1, .int .i64 p2, .int .i64 p3, .int .i64 p4, .int .i64 p5, .bool p6] 73 (0, 0)) BKg2.out hb); clear HB BKgP BKg2; have HB := n_; have BKgP := ogP; have BKg2 := og2; clear n_ ogP og2; have BKg3 := Aside0.mk hbox; clear hb hbox hg; clear hp_0 hp_1 hp_2 hp_3 hp_4 hp_5 hp_6; clear hq_0 hq_1 hq_2 hq_3 hq_4 hq_5 hq_6 hq_7; have hr_0 : w6.cell? ⟨g3, 0, none⟩ = some (.slice At lt.length ct) := (Qab BKg3.out 0).trans rfl; have hr_1 : w6.cell? ⟨g3, 1, none⟩ = some (.int .i64 q1) := (Qab BKg3.out 1).trans rfl; have hr_2 : w6.cell? ⟨g3, 2, none⟩ = some (.int .i64 q2) := (Qab BKg3.out 2).trans rfl) | (go_at_call 85; refine (QaS.calls k At ct lt q1 q2 lw _ (Kd.C_below HR.out HB.out) HC.out AW.out).mono ?_; rintro _ w7 ⟨vw, rfl, ho, hb⟩; obtain ⟨Aw, cw, rfl⟩ := Kd.R_slice ho; have HW := Aside0.mk (Kd.R_reads' ho).2.2; have HV := Aside0.mk (Kd.R_reads' ho).2.1; have n_ := Aside0.mk (Qao HB.out hb); have ogP := Aside0.mk (Qam (g := gP) (o := .cells #[.string p0, .int .i64 p1, .int .i64 p2, .int .i64 p3, .int .i64 p4, .int .i64 p5, .bool p6] 73 (0, 0)) BKgP.out hb); clear BKgP; have BKgP := ogP; clear ogP; have og2 := Aside0.mk (Qam (g := g2) (o := .cells #[.string p0, .int .i64 p1, .int .i64 p2, .int .i64 p3, .int .i64 p4, .int .i64 p5, .bool p6] 73 (0, 0)) BKg2.out hb); clear BKg2; have BKg2 := og2; clear og2; have og3 := Aside0.mk (Qam (g := g3) (o := .cells #[.slice At lt.length ct, .int .i64 q1, .int .i64 q2, .int .i64 q3, .int .i64 q4, .int .i64 q5, .int .i64 q6, .int .i64 q7] 76 (0, 0)) BKg3.out hb); clear BKg3; have BKg3 := og3; clear og3; clear ho hb HB hr_0 hr_1 hr_2; have HB := n_; clear n_; have HX := Aside0.mk (Below.refl w7.heap.size w7)) | ((with_reducible refine QaJ (N := 5) rfl ?_); refine Zbx (N := 5) (cs := #[.slice none 0 0]) (t := 74) ?_; intro g5 hg w8 hbox hb; have n_ := Aside0.mk (Qao HX.out hb); have GEg5 := Aside0.mk (show w7.heap.size ≤ g5 by rw [hg]; exact Qaq HX.out); have NBgP_g5 := Aside0.mk (show gP ≠ g5 by rw [hg]; exact Nat.ne_of_lt (blk_lt BKgP.out)); have ogP := Aside0.mk (Qam (g := gP) (o := .cells #[.string p0, .int .i64 p1, .int .i64 p2, .int .i64 p3, .int .i64 p4, .int .i64 p5, .bool p6] 73 (0, 0)) BKgP.out hb); have NBg2_g5 := Aside0.mk (show g2 ≠ g5 by rw [hg]; exact Nat.ne_of_lt (blk_lt BKg2.out)); have og2 := Aside0.mk (Qam (g := g2) (o := .cells #[.string p0, .int .i64 p1, .int .i64 p2, .int .i64 p3, .int .i64 p4, .int .i64 p5, .bool p6] 73 (0, 0)) BKg2.out hb); have NBg3_g5 := Aside0.mk (show g3 ≠ g5 by rw [hg]; exact Nat.ne_of_lt (blk_lt BKg3.out)); have og3 := Aside0.mk (Qam (g := g3) (o := .cells #[.slice At lt.length ct, .int .i64 q1, .int .i64 q2, .int .i64 q3, .int .i64 q4, .int .i64 q5, .int .i64 q6, .int .i64 q7] 76 (0, 0)) BKg3.out hb); clear HX BKgP BKg2 BKg3; have HX := n_; have BKgP := ogP; have BKg2 := og2; have BKg3 := og3; clear n_ ogP og2 og3; have BKg5 := Aside0.mk hbox; clear hb hbox hg; have hs_0 : w8.cell? ⟨g5, 0, none⟩ = some (.slice none 0 0) := (Qab BKg5.out 0).trans rfl; have hsf := Qaa BKg5.out 0) | ((with_reducible refine QaJ (N := 21) rfl ?_); refine QdK ?hg (N := 21) ?hd (cs := #[.int .i64 1, .func (.func 86) #[] #[.pointer (some ⟨g5, 0, none⟩), .pointer (some ⟨g3, 0, none⟩), .pointer (some ⟨g2, 0, none⟩)], .int .i64 2, .func (.func 89) #[] #[.pointer (some ⟨g3, 0, none⟩), .pointer (some ⟨g2, 0, none⟩)], .int .i64 3, .func (.func 91) #[] #[.pointer (some ⟨g3, 0, none⟩)], .int .i64 4, .func (.func 93) #[] #[.pointer (some ⟨g2, 0, none⟩), .pointer (some ⟨g3, 0, none⟩)]]) (t := 103) (n := 4) ?hr ?_; (case hd => rfl); (case hg => rfl); (case hr => first | (go_simp; done) | (go_simp; rfl)); intro gr hg w9 hbox hb; have n_ := Aside0.mk (Qao (Qag (j := 0) (v := .slice Aw lw.length cw) HX.out GEg5.out) hb); have ogP := Aside0.mk (Qam (g := gP) (o := .cells #[.string p0, .int .i64 p1, .int .i64 p2, .int .i64 p3, .int .i64 p4, .int .i64 p5, .bool p6] 73 (0, 0)) (Qas BKgP.out NBgP_g5.out _) hb); clear BKgP; have BKgP := ogP; clear ogP; have og2 := Aside0.mk (Qam (g := g2) (o := .cells #[.string p0, .int .i64 p1, .int .i64 p2, .int .i64 p3, .int .i64 p4, .int .i64 p5, .bool p6] 73 (0, 0)) (Qas BKg2.out NBg2_g5.out _) hb); clear BKg2; have BKg2 := og2; clear og2; have og3 := Aside0.mk (Qam (g := g3) (o := .cells #[.slice At lt.length ct, .int .i64 q1, .int .i64 q2, .int .i64 q3, .int .i64 q4, .int .i64 q5, .int .i64 q6, .int .i64 q7] 76 (0, 0)) (Qas BKg3.out NBg3_g5.out _) hb); clear BKg3; have BKg3 := og3; clear og3; have o5 : Aside0 (w9.heap[g5]? = some (.cells #[.slice Aw lw.length cw] 74 (0, 0))) := Aside0.mk (Qam (by refine Qax (cs := #[.slice none 0 0]) ?_ 0 _ rfl; exact BKg5.out) hb); clear BKg5; have BKg5 := o5; clear o5 HX; have HX := n_; clear n_; have BKgr := Aside0.mk hbox; clear hb hbox hg hs_0 hsf))
  have HB9 := Aside0.mk (Qao HB.out HX.out)
  clear HB
  have HW9 := Aside0.mk (Kd.C_below HW.out HX.out)
  have HR9 := Aside0.mk (Kd.C_below HR.out HB9.out)
  clear HW HX HR
  have HY := Aside0.mk (Below.refl w9.heap.size w9)
  refine wp_loop_rounds 5 ?_
  have hx0 : w9.cell? ⟨gr, 0, none⟩ = some (.int .i64 1) := (Qab (Qam (g := gr) (o := .cells #[.int .i64 1, .func (.func 86) #[] #[.pointer (some ⟨g5, 0, none⟩), .pointer (some ⟨g3, 0, none⟩), .pointer (some ⟨g2, 0, none⟩)], .int .i64 2, .func (.func 89) #[] #[.pointer (some ⟨g3, 0, none⟩), .pointer (some ⟨g2, 0, none⟩)], .int .i64 3, .func (.func 91) #[] #[.pointer (some ⟨g3, 0, none⟩)], .int .i64 4, .func (.func 93) #[] #[.pointer (some ⟨g2, 0, none⟩), .pointer (some ⟨g3, 0, none⟩)]] 103 (0, 0)) BKgr.out HY.out) 0).trans rfl
  have hx1 : w9.cell? ⟨gr, 1, none⟩ = some (.func (.func 86) #[] #[.pointer (some ⟨g5, 0, none⟩), .pointer (some ⟨g3, 0, none⟩), .pointer (some ⟨g2, 0, none⟩)]) := (Qab (Qam (g := gr) (o := .cells #[.int .i64 1, .func (.func 86) #[] #[.pointer (some ⟨g5, 0, none⟩), .pointer (some ⟨g3, 0, none⟩), .pointer (some ⟨g2, 0, none⟩)], .int .i64 2, .func (.func 89) #[] #[.pointer (some ⟨g3, 0, none⟩), .pointer (some ⟨g2, 0, none⟩)], .int .i64 3, .func (.func 91) #[] #[.pointer (some ⟨g3, 0, none⟩)], .int .i64 4, .func (.func 93) #[] #[.pointer (some ⟨g2, 0, none⟩), .pointer (some ⟨g3, 0, none⟩)]] 103 (0, 0)) BKgr.out HY.out) 1).trans rfl
  rw [rounds_succ]
  go_upto_region 7 with (first | ((with_reducible refine QaJ (N := 9) rfl ?_); refine Zbx (N := 9) (cs := #[.int .i64 0, .nilFunc]) (t := 103) ?_; intro x1 hg wa1 hbox hb; have n_ := Aside0.mk (Qao HY.out hb); have GEx1 := Aside0.mk (show w9.heap.size ≤ x1 by rw [hg]; exact Qaq HY.out); clear HY; have HY := n_; clear n_; have BKx1 := Aside0.mk hbox; clear hb hbox hg hx0 hx1) | ((with_reducible refine QbR (t := 103) (p := 9) rfl ?_); refine QbN (t := 103) (p := 9) (v := ?vo) (w1 := ((wa1.setCell ⟨x1, 0, none⟩ (.int .i64 1)).setCell ⟨x1, 1, none⟩ (.func (.func 86) #[] #[.pointer (some ⟨g5, 0, none⟩), .pointer (some ⟨g3, 0, none⟩), .pointer (some ⟨g2, 0, none⟩)]))) ?hg ?ho ?hn ?hr ?_; (case ho => rfl); (case hg => rfl); (case hn => rfl); (case hr => exact QbG (cs := #[.int .i64 0, .nilFunc]) (seg := [.int .i64 1, .func (.func 86) #[] #[.pointer (some ⟨g5, 0, none⟩), .pointer (some ⟨g3, 0, none⟩), .pointer (some ⟨g2, 0, none⟩)]]) BKx1.out rfl (by first | rfl | (go_simp; done)) (by first | rfl | (go_simp; done)) (by rfl) (by first | rfl | kernel_rfl) (by simp) (by first | rfl | simp [Value.oneCell'])); intro wb1 hw; have m0_ : Aside0 (wb1.heap[x1]? = some (.cells #[.int .i64 1, .func (.func 86) #[] #[.pointer (some ⟨g5, 0, none⟩), .pointer (some ⟨g3, 0, none⟩), .pointer (some ⟨g2, 0, none⟩)]] 103 (0, 0))) := ⟨by rw [hw]; refine Qax (cs := #[.int .i64 1, .nilFunc]) ?_ 1 _ rfl; refine Qax (cs := #[.int .i64 0, .nilFunc]) ?_ 0 _ rfl; exact BKx1.out⟩; have m1_ : Aside0 (Below w9.heap.size w9 wb1) := ⟨by rw [hw]; exact Qag (Qag HY.out GEx1.out) GEx1.out⟩; clear HY BKx1 hw; have HY := m1_; have BKx1 := m0_; clear m0_ m1_))
  have hz1 : wb1.cell? ⟨x1, 1, none⟩ = some (.func (.func 86) #[] #[.pointer (some ⟨g5, 0, none⟩), .pointer (some ⟨g3, 0, none⟩), .pointer (some ⟨g2, 0, none⟩)]) := (Qab BKx1.out 1).trans rfl
  have H := H'.out
  clear H'
  replace H := Option.bind_eq_some_iff.1 H
  obtain ⟨⟨n1, b1⟩, A10, H⟩ := H
  have A1 := Aside0.mk A10
  clear A10
  have H' := Aside0.mk H
  clear H
  go_upto_if 32 with (first | (go_at_call 86; refine (Qbs.calls k Aw cw lw q3 p3 g5 g3 g2 (n1, b1) _ (Kd.C_below HW9.out HY.out) HV.out ((Qab (Qam (g := g5) (o := .cells #[.slice Aw lw.length cw] 74 (0, 0)) BKg5.out HY.out) 0).trans rfl) ((Qab (Qam (g := g3) (o := .cells #[.slice At lt.length ct, .int .i64 q1, .int .i64 q2, .int .i64 q3, .int .i64 q4, .int .i64 q5, .int .i64 q6, .int .i64 q7] 76 (0, 0)) BKg3.out HY.out) 3).trans rfl) ((Qab (Qam (g := g2) (o := .cells #[.string p0, .int .i64 p1, .int .i64 p2, .int .i64 p3, .int .i64 p4, .int .i64 p5, .bool p6] 73 (0, 0)) BKg2.out HY.out) 3).trans rfl) A1.out).mono ?_; rintro _ wc1 ⟨rfl, hb⟩; have m_ := Aside0.mk (Qao HY.out hb); have o_ := Aside0.mk (Qam BKx1.out hb); clear HY BKx1 hb hz1; have HY := m_; have BKx1 := o_; clear m_ o_))
  have H := H'.out
  clear H'
  cases b1 with
  | true =>
   (try unfold QaM.x at H)
   replace H : (QaE.f k n1 p4 p5).bind (fun c => some (c, (1 : Int), (0 : Int))) = some (r1, r2, r3) := by rw [if_pos rfl] at H; exact H
   replace H := Option.bind_eq_some_iff.1 H
   obtain ⟨c, AC0, H⟩ := H
   have AC := Aside0.mk AC0
   clear AC0
   simp only [Option.some.injEq, Prod.mk.injEq] at H
   obtain ⟨rfl, rfl, rfl⟩ := H
   go_upto_region 9 with (fail)
   refine start_ (n := 11) (S := fun w' => w'.cell? ⟨gP, 4, none⟩ = some (.int .i64 p4) ∧ w'.cell? ⟨gP, 5, none⟩ = some (.int .i64 p5) ∧ w'.cell? ⟨x1, 0, none⟩ = some (.int .i64 1)) (ds := []) #[J, J, J, J, J, J, J, J, J, J, J] (by kernel_rfl) rfl rfl ⟨(Qab (Qae (Qam (g := gP) (o := .cells #[.string p0, .int .i64 p1, .int .i64 p2, .int .i64 p3, .int .i64 p4, .int .i64 p5, .bool p6] 73 (0, 0)) BKgP.out HY.out)) 4).trans rfl, (Qab (Qae (Qam (g := gP) (o := .cells #[.string p0, .int .i64 p1, .int .i64 p2, .int .i64 p3, .int .i64 p4, .int .i64 p5, .bool p6] 73 (0, 0)) BKgP.out HY.out)) 5).trans rfl, (Qab (Qae BKx1.out) 0).trans rfl⟩ (fun hHeld => ?_); refine QbB Qa8.tab Qa8.bits (fun HT_ HW_ => ?_)
   refine pure_ (i := 0) (N := some 33) (v := ?_) (a' := ?_) #[F, J, J, J, J, J, J, J, J, J, J] rfl rfl (any_of HT_.out (by kernel_rfl)) (fun _ _ _ h => h) (Or.inl ⟨by rfl, ?_⟩) ?_ ?_
   rotate_left
   ·intro w'
    go_simp
    with_reducible rfl
   rotate_left
   ·simp only [Act.put, Zj, Zk, Zm, i64_w, i32_w]
    rfl
   refine pure_ (i := 1) (N := some 34) (v := ?_) (a' := ?_) #[F, F, J, J, J, J, J, J, J, J, J] rfl rfl (any_of HT_.out (by kernel_rfl)) (fun _ _ _ h => h) (Or.inl ⟨by rfl, ?_⟩) ?_ ?_
   rotate_left
   ·intro w'
    go_simp
    with_reducible rfl
   rotate_left
   ·simp only [Act.put, Zj, Zk, Zm, i64_w, i32_w]
    rfl
   refine pure_ (i := 3) (N := some 36) (v := ?_) (a' := ?_) #[F, F, J, F, J, J, J, J, J, J, J] rfl rfl (any_of HT_.out (by kernel_rfl)) (fun _ _ _ h => h) (Or.inl ⟨by rfl, ?_⟩) ?_ ?_
   rotate_left
   ·intro w'
    go_simp
    with_reducible rfl
   rotate_left
   ·simp only [Act.put, Zj, Zk, Zm, i64_w, i32_w]
    rfl
   refine pure_ (i := 6) (N := some 39) (v := ?_) (a' := ?_) #[F, F, J, F, J, J, F, J, J, J, J] rfl rfl (any_of HT_.out (by kernel_rfl)) (fun _ _ _ h => h) (Or.inl ⟨by rfl, ?_⟩) ?_ ?_
   rotate_left
   ·intro w'
    go_simp
    with_reducible rfl
   rotate_left
   ·simp only [Act.put, Zj, Zk, Zm, i64_w, i32_w]
    rfl
   refine take_ (i := 2) (N := some 35) (v := ?_) (a' := ?_) #[F, F, F, F, J, J, F, J, J, J, J] rfl rfl (Qa4 HT_.out HW_.out (by kernel_rfl)) (fun _ _ _ h => h) (Or.inl ⟨by rfl, ?_⟩) hHeld ?_ ?_
   rotate_left
   ·rintro w' ⟨s0, s1, s2⟩
    go_simp
    with_reducible rfl
   rotate_left
   ·simp only [Act.put, Zj, Zk, Zm, i64_w, i32_w]
    rfl
   refine take_ (i := 4) (N := some 37) (v := ?_) (a' := ?_) #[F, F, F, F, F, J, F, J, J, J, J] rfl rfl (Qa4 HT_.out HW_.out (by kernel_rfl)) (fun _ _ _ h => h) (Or.inl ⟨by rfl, ?_⟩) hHeld ?_ ?_
   rotate_left
   ·rintro w' ⟨s0, s1, s2⟩
    go_simp
    with_reducible rfl
   rotate_left
   ·simp only [Act.put, Zj, Zk, Zm, i64_w, i32_w]
    rfl
   refine take_ (i := 7) (N := some 40) (v := ?_) (a' := ?_) #[F, F, F, F, F, J, F, F, J, J, J] rfl rfl (Qa4 HT_.out HW_.out (by kernel_rfl)) (fun _ _ _ h => h) (Or.inl ⟨by rfl, ?_⟩) hHeld ?_ ?_
   rotate_left
   ·rintro w' ⟨s0, s1, s2⟩
    go_simp
    with_reducible rfl
   rotate_left
   ·simp only [Act.put, Zj, Zk, Zm, i64_w, i32_w]
    rfl
   refine one_ (i := 5) (N := some 38) #[F, F, F, F, F, F, F, F, J, J, J] rfl rfl (one_of HT_.out (by kernel_rfl)) (by decide) (fun K hK => ?_)
   refine goes_ Try.func61 (by kernel_rfl) rfl #[.int .i64 n1, .int .i64 p4, .int .i64 p5] (by rfl) rfl rfl (by (try simp only [List.map_toArray, List.map_cons, List.map_nil]); first | done | rfl) ?_
   refine (QaE.calls k n1 p4 p5 c _ AC.out).mono ?_
   rintro _ wd ⟨rfl, hd⟩
   refine ⟨_, rfl, ?_⟩
   have hb := hd.below
   have HZ := Aside0.mk (Qao HB9.out (Qao (Qai HY.out) hb))
   have hh0 := (hb.cell (World.block_lt_of_cell? _ _ (hHeld.1))).trans (hHeld.1)
   have hh1 := (hb.cell (World.block_lt_of_cell? _ _ (hHeld.2.1))).trans (hHeld.2.1)
   have hh2 := (hb.cell (World.block_lt_of_cell? _ _ (hHeld.2.2))).trans (hHeld.2.2)
   refine hK.out _ _ ⟨hh0, hh1, hh2⟩ (fun hHeld => ?_)
   clear hK K
   refine norm_ (a' := ?_) ?_ ?_
   rotate_left
   ·show Act.put _ (some 38) _ = _
    simp only [Act.put, Zj, Zk, Zm, i64_w, i32_w]
    rfl
   refine pure_ (i := 8) (N := some 4) (v := ?_) (a' := ?_) #[F, F, F, F, F, F, F, F, F, J, J] rfl rfl (any_of HT_.out (by kernel_rfl)) (fun _ _ _ h => h) (Or.inl ⟨by rfl, ?_⟩) ?_ ?_
   rotate_left
   ·intro w'
    go_simp
    with_reducible rfl
   rotate_left
   ·simp only [Act.put, Zj, Zk, Zm, i64_w, i32_w]
    rfl
   refine pure_ (i := 9) (N := some 5) (v := ?_) (a' := ?_) #[F, F, F, F, F, F, F, F, F, F, J] rfl rfl (any_of HT_.out (by kernel_rfl)) (fun _ _ _ h => h) (Or.inl ⟨by rfl, ?_⟩) ?_ ?_
   rotate_left
   ·intro w'
    go_simp
    with_reducible rfl
   rotate_left
   ·simp only [Act.put, Zj, Zk, Zm, i64_w, i32_w]
    rfl
   refine pure_ (i := 10) (N := some 6) (v := ?_) (a' := ?_) #[F, F, F, F, F, F, F, F, F, F, F] rfl rfl (any_of HT_.out (by kernel_rfl)) (fun _ _ _ h => h) (Or.inl ⟨by rfl, ?_⟩) ?_ ?_
   rotate_left
   ·intro w'
    go_simp
    with_reducible rfl
   rotate_left
   ·simp only [Act.put, Zj, Zk, Zm, i64_w, i32_w]
    rfl
   refine done_ (QbJ HT_.out (by kernel_rfl)) ?_
   go_wp2
   go_ret3
   exact ⟨rfl, HZ.out⟩
  | false =>
   (try unfold QaM.x at H)
   rw [if_neg (show ¬ (J = F) by decide)] at H
   have H' := Aside0.mk H
   clear H
   go_wp2
   have hx0 : wc1.cell? ⟨gr, 2, none⟩ = some (.int .i64 2) := (Qab (Qam (g := gr) (o := .cells #[.int .i64 1, .func (.func 86) #[] #[.pointer (some ⟨g5, 0, none⟩), .pointer (some ⟨g3, 0, none⟩), .pointer (some ⟨g2, 0, none⟩)], .int .i64 2, .func (.func 89) #[] #[.pointer (some ⟨g3, 0, none⟩), .pointer (some ⟨g2, 0, none⟩)], .int .i64 3, .func (.func 91) #[] #[.pointer (some ⟨g3, 0, none⟩)], .int .i64 4, .func (.func 93) #[] #[.pointer (some ⟨g2, 0, none⟩), .pointer (some ⟨g3, 0, none⟩)]] 103 (0, 0)) BKgr.out HY.out) 2).trans rfl
   have hx1 : wc1.cell? ⟨gr, 3, none⟩ = some (.func (.func 89) #[] #[.pointer (some ⟨g3, 0, none⟩), .pointer (some ⟨g2, 0, none⟩)]) := (Qab (Qam (g := gr) (o := .cells #[.int .i64 1, .func (.func 86) #[] #[.pointer (some ⟨g5, 0, none⟩), .pointer (some ⟨g3, 0, none⟩), .pointer (some ⟨g2, 0, none⟩)], .int .i64 2, .func (.func 89) #[] #[.pointer (some ⟨g3, 0, none⟩), .pointer (some ⟨g2, 0, none⟩)], .int .i64 3, .func (.func 91) #[] #[.pointer (some ⟨g3, 0, none⟩)], .int .i64 4, .func (.func 93) #[] #[.pointer (some ⟨g2, 0, none⟩), .pointer (some ⟨g3, 0, none⟩)]] 103 (0, 0)) BKgr.out HY.out) 3).trans rfl
   rw [rounds_succ]
   go_upto_region 7 with (first | ((with_reducible refine QaJ (N := 9) rfl ?_); refine Zbx (N := 9) (cs := #[.int .i64 0, .nilFunc]) (t := 103) ?_; intro x2 hg wa2 hbox hb; have n_ := Aside0.mk (Qao HY.out hb); have GEx2 := Aside0.mk (show w9.heap.size ≤ x2 by rw [hg]; exact Qaq HY.out); clear HY; have HY := n_; clear n_; have BKx2 := Aside0.mk hbox; clear hb hbox hg hx0 hx1) | ((with_reducible refine QbR (t := 103) (p := 9) rfl ?_); refine QbN (t := 103) (p := 9) (v := ?vo) (w1 := ((wa2.setCell ⟨x2, 0, none⟩ (.int .i64 2)).setCell ⟨x2, 1, none⟩ (.func (.func 89) #[] #[.pointer (some ⟨g3, 0, none⟩), .pointer (some ⟨g2, 0, none⟩)]))) ?hg ?ho ?hn ?hr ?_; (case ho => rfl); (case hg => rfl); (case hn => rfl); (case hr => exact QbG (cs := #[.int .i64 0, .nilFunc]) (seg := [.int .i64 2, .func (.func 89) #[] #[.pointer (some ⟨g3, 0, none⟩), .pointer (some ⟨g2, 0, none⟩)]]) BKx2.out rfl (by first | rfl | (go_simp; done)) (by first | rfl | (go_simp; done)) (by rfl) (by first | rfl | kernel_rfl) (by simp) (by first | rfl | simp [Value.oneCell'])); intro wb2 hw; have m0_ : Aside0 (wb2.heap[x2]? = some (.cells #[.int .i64 2, .func (.func 89) #[] #[.pointer (some ⟨g3, 0, none⟩), .pointer (some ⟨g2, 0, none⟩)]] 103 (0, 0))) := ⟨by rw [hw]; refine Qax (cs := #[.int .i64 2, .nilFunc]) ?_ 1 _ rfl; refine Qax (cs := #[.int .i64 0, .nilFunc]) ?_ 0 _ rfl; exact BKx2.out⟩; have m1_ : Aside0 (Below w9.heap.size w9 wb2) := ⟨by rw [hw]; exact Qag (Qag HY.out GEx2.out) GEx2.out⟩; clear HY BKx2 hw; have HY := m1_; have BKx2 := m0_; clear m0_ m1_))
   have hz1 : wb2.cell? ⟨x2, 1, none⟩ = some (.func (.func 89) #[] #[.pointer (some ⟨g3, 0, none⟩), .pointer (some ⟨g2, 0, none⟩)]) := (Qab BKx2.out 1).trans rfl
   have H := H'.out
   clear H'
   replace H := Option.bind_eq_some_iff.1 H
   obtain ⟨⟨n2, b2⟩, A20, H⟩ := H
   have A2 := Aside0.mk A20
   clear A20
   have H' := Aside0.mk H
   clear H
   go_upto_if 32 with (first | (go_at_call 89; refine (Qbt.calls k q4 q5 p3 g3 g2 (n2, b2) _ ((Qab (Qam (g := g3) (o := .cells #[.slice At lt.length ct, .int .i64 q1, .int .i64 q2, .int .i64 q3, .int .i64 q4, .int .i64 q5, .int .i64 q6, .int .i64 q7] 76 (0, 0)) BKg3.out HY.out) 4).trans rfl) ((Qab (Qam (g := g3) (o := .cells #[.slice At lt.length ct, .int .i64 q1, .int .i64 q2, .int .i64 q3, .int .i64 q4, .int .i64 q5, .int .i64 q6, .int .i64 q7] 76 (0, 0)) BKg3.out HY.out) 5).trans rfl) ((Qab (Qam (g := g2) (o := .cells #[.string p0, .int .i64 p1, .int .i64 p2, .int .i64 p3, .int .i64 p4, .int .i64 p5, .bool p6] 73 (0, 0)) BKg2.out HY.out) 3).trans rfl) A2.out).mono ?_; rintro _ wc2 ⟨rfl, hb⟩; have m_ := Aside0.mk (Qao HY.out hb); have o_ := Aside0.mk (Qam BKx2.out hb); clear HY BKx2 hb hz1; have HY := m_; have BKx2 := o_; clear m_ o_))
   have H := H'.out
   clear H'
   cases b2 with
   | true =>
    (try unfold QaM.x at H)
    replace H : (QaE.f k n2 p4 p5).bind (fun c => some (c, (2 : Int), (0 : Int))) = some (r1, r2, r3) := by rw [if_pos rfl] at H; exact H
    replace H := Option.bind_eq_some_iff.1 H
    obtain ⟨c, AC0, H⟩ := H
    have AC := Aside0.mk AC0
    clear AC0
    simp only [Option.some.injEq, Prod.mk.injEq] at H
    obtain ⟨rfl, rfl, rfl⟩ := H
    go_upto_region 9 with (fail)
    refine start_ (n := 11) (S := fun w' => w'.cell? ⟨gP, 4, none⟩ = some (.int .i64 p4) ∧ w'.cell? ⟨gP, 5, none⟩ = some (.int .i64 p5) ∧ w'.cell? ⟨x2, 0, none⟩ = some (.int .i64 2)) (ds := []) #[J, J, J, J, J, J, J, J, J, J, J] (by kernel_rfl) rfl rfl ⟨(Qab (Qae (Qam (g := gP) (o := .cells #[.string p0, .int .i64 p1, .int .i64 p2, .int .i64 p3, .int .i64 p4, .int .i64 p5, .bool p6] 73 (0, 0)) BKgP.out HY.out)) 4).trans rfl, (Qab (Qae (Qam (g := gP) (o := .cells #[.string p0, .int .i64 p1, .int .i64 p2, .int .i64 p3, .int .i64 p4, .int .i64 p5, .bool p6] 73 (0, 0)) BKgP.out HY.out)) 5).trans rfl, (Qab (Qae BKx2.out) 0).trans rfl⟩ (fun hHeld => ?_); refine QbB Qa8.tab Qa8.bits (fun HT_ HW_ => ?_)
    refine pure_ (i := 0) (N := some 33) (v := ?_) (a' := ?_) #[F, J, J, J, J, J, J, J, J, J, J] rfl rfl (any_of HT_.out (by kernel_rfl)) (fun _ _ _ h => h) (Or.inl ⟨by rfl, ?_⟩) ?_ ?_
    rotate_left
    ·intro w'
     go_simp
     with_reducible rfl
    rotate_left
    ·simp only [Act.put, Zj, Zk, Zm, i64_w, i32_w]
     rfl
    refine pure_ (i := 1) (N := some 34) (v := ?_) (a' := ?_) #[F, F, J, J, J, J, J, J, J, J, J] rfl rfl (any_of HT_.out (by kernel_rfl)) (fun _ _ _ h => h) (Or.inl ⟨by rfl, ?_⟩) ?_ ?_
    rotate_left
    ·intro w'
     go_simp
     with_reducible rfl
    rotate_left
    ·simp only [Act.put, Zj, Zk, Zm, i64_w, i32_w]
     rfl
    refine pure_ (i := 3) (N := some 36) (v := ?_) (a' := ?_) #[F, F, J, F, J, J, J, J, J, J, J] rfl rfl (any_of HT_.out (by kernel_rfl)) (fun _ _ _ h => h) (Or.inl ⟨by rfl, ?_⟩) ?_ ?_
    rotate_left
    ·intro w'
     go_simp
     with_reducible rfl
    rotate_left
    ·simp only [Act.put, Zj, Zk, Zm, i64_w, i32_w]
     rfl
    refine pure_ (i := 6) (N := some 39) (v := ?_) (a' := ?_) #[F, F, J, F, J, J, F, J, J, J, J] rfl rfl (any_of HT_.out (by kernel_rfl)) (fun _ _ _ h => h) (Or.inl ⟨by rfl, ?_⟩) ?_ ?_
    rotate_left
    ·intro w'
     go_simp
     with_reducible rfl
    rotate_left
    ·simp only [Act.put, Zj, Zk, Zm, i64_w, i32_w]
     rfl
    refine take_ (i := 2) (N := some 35) (v := ?_) (a' := ?_) #[F, F, F, F, J, J, F, J, J, J, J] rfl rfl (Qa4 HT_.out HW_.out (by kernel_rfl)) (fun _ _ _ h => h) (Or.inl ⟨by rfl, ?_⟩) hHeld ?_ ?_
    rotate_left
    ·rintro w' ⟨s0, s1, s2⟩
     go_simp
     with_reducible rfl
    rotate_left
    ·simp only [Act.put, Zj, Zk, Zm, i64_w, i32_w]
     rfl
    refine take_ (i := 4) (N := some 37) (v := ?_) (a' := ?_) #[F, F, F, F, F, J, F, J, J, J, J] rfl rfl (Qa4 HT_.out HW_.out (by kernel_rfl)) (fun _ _ _ h => h) (Or.inl ⟨by rfl, ?_⟩) hHeld ?_ ?_
    rotate_left
    ·rintro w' ⟨s0, s1, s2⟩
     go_simp
     with_reducible rfl
    rotate_left
    ·simp only [Act.put, Zj, Zk, Zm, i64_w, i32_w]
     rfl
    refine take_ (i := 7) (N := some 40) (v := ?_) (a' := ?_) #[F, F, F, F, F, J, F, F, J, J, J] rfl rfl (Qa4 HT_.out HW_.out (by kernel_rfl)) (fun _ _ _ h => h) (Or.inl ⟨by rfl, ?_⟩) hHeld ?_ ?_
    rotate_left
    ·rintro w' ⟨s0, s1, s2⟩
     go_simp
     with_reducible rfl
    rotate_left
    ·simp only [Act.put, Zj, Zk, Zm, i64_w, i32_w]
     rfl
    refine one_ (i := 5) (N := some 38) #[F, F, F, F, F, F, F, F, J, J, J] rfl rfl (one_of HT_.out (by kernel_rfl)) (by decide) (fun K hK => ?_)
    refine goes_ Try.func61 (by kernel_rfl) rfl #[.int .i64 n2, .int .i64 p4, .int .i64 p5] (by rfl) rfl rfl (by (try simp only [List.map_toArray, List.map_cons, List.map_nil]); first | done | rfl) ?_
    refine (QaE.calls k n2 p4 p5 c _ AC.out).mono ?_
    rintro _ wd ⟨rfl, hd⟩
    refine ⟨_, rfl, ?_⟩
    have hb := hd.below
    have HZ := Aside0.mk (Qao HB9.out (Qao (Qai HY.out) hb))
    have hh0 := (hb.cell (World.block_lt_of_cell? _ _ (hHeld.1))).trans (hHeld.1)
    have hh1 := (hb.cell (World.block_lt_of_cell? _ _ (hHeld.2.1))).trans (hHeld.2.1)
    have hh2 := (hb.cell (World.block_lt_of_cell? _ _ (hHeld.2.2))).trans (hHeld.2.2)
    refine hK.out _ _ ⟨hh0, hh1, hh2⟩ (fun hHeld => ?_)
    clear hK K
    refine norm_ (a' := ?_) ?_ ?_
    rotate_left
    ·show Act.put _ (some 38) _ = _
     simp only [Act.put, Zj, Zk, Zm, i64_w, i32_w]
     rfl
    refine pure_ (i := 8) (N := some 4) (v := ?_) (a' := ?_) #[F, F, F, F, F, F, F, F, F, J, J] rfl rfl (any_of HT_.out (by kernel_rfl)) (fun _ _ _ h => h) (Or.inl ⟨by rfl, ?_⟩) ?_ ?_
    rotate_left
    ·intro w'
     go_simp
     with_reducible rfl
    rotate_left
    ·simp only [Act.put, Zj, Zk, Zm, i64_w, i32_w]
     rfl
    refine pure_ (i := 9) (N := some 5) (v := ?_) (a' := ?_) #[F, F, F, F, F, F, F, F, F, F, J] rfl rfl (any_of HT_.out (by kernel_rfl)) (fun _ _ _ h => h) (Or.inl ⟨by rfl, ?_⟩) ?_ ?_
    rotate_left
    ·intro w'
     go_simp
     with_reducible rfl
    rotate_left
    ·simp only [Act.put, Zj, Zk, Zm, i64_w, i32_w]
     rfl
    refine pure_ (i := 10) (N := some 6) (v := ?_) (a' := ?_) #[F, F, F, F, F, F, F, F, F, F, F] rfl rfl (any_of HT_.out (by kernel_rfl)) (fun _ _ _ h => h) (Or.inl ⟨by rfl, ?_⟩) ?_ ?_
    rotate_left
    ·intro w'
     go_simp
     with_reducible rfl
    rotate_left
    ·simp only [Act.put, Zj, Zk, Zm, i64_w, i32_w]
     rfl
    refine done_ (QbJ HT_.out (by kernel_rfl)) ?_
    go_wp2
    go_ret3
    exact ⟨rfl, HZ.out⟩
   | false =>
    (try unfold QaM.x at H)
    rw [if_neg (show ¬ (J = F) by decide)] at H
    have H' := Aside0.mk H
    clear H
    go_wp2
    have hx0 : wc2.cell? ⟨gr, 4, none⟩ = some (.int .i64 3) := (Qab (Qam (g := gr) (o := .cells #[.int .i64 1, .func (.func 86) #[] #[.pointer (some ⟨g5, 0, none⟩), .pointer (some ⟨g3, 0, none⟩), .pointer (some ⟨g2, 0, none⟩)], .int .i64 2, .func (.func 89) #[] #[.pointer (some ⟨g3, 0, none⟩), .pointer (some ⟨g2, 0, none⟩)], .int .i64 3, .func (.func 91) #[] #[.pointer (some ⟨g3, 0, none⟩)], .int .i64 4, .func (.func 93) #[] #[.pointer (some ⟨g2, 0, none⟩), .pointer (some ⟨g3, 0, none⟩)]] 103 (0, 0)) BKgr.out HY.out) 4).trans rfl
    have hx1 : wc2.cell? ⟨gr, 5, none⟩ = some (.func (.func 91) #[] #[.pointer (some ⟨g3, 0, none⟩)]) := (Qab (Qam (g := gr) (o := .cells #[.int .i64 1, .func (.func 86) #[] #[.pointer (some ⟨g5, 0, none⟩), .pointer (some ⟨g3, 0, none⟩), .pointer (some ⟨g2, 0, none⟩)], .int .i64 2, .func (.func 89) #[] #[.pointer (some ⟨g3, 0, none⟩), .pointer (some ⟨g2, 0, none⟩)], .int .i64 3, .func (.func 91) #[] #[.pointer (some ⟨g3, 0, none⟩)], .int .i64 4, .func (.func 93) #[] #[.pointer (some ⟨g2, 0, none⟩), .pointer (some ⟨g3, 0, none⟩)]] 103 (0, 0)) BKgr.out HY.out) 5).trans rfl
    rw [rounds_succ]
    go_upto_region 7 with (first | ((with_reducible refine QaJ (N := 9) rfl ?_); refine Zbx (N := 9) (cs := #[.int .i64 0, .nilFunc]) (t := 103) ?_; intro x3 hg wa3 hbox hb; have n_ := Aside0.mk (Qao HY.out hb); have GEx3 := Aside0.mk (show w9.heap.size ≤ x3 by rw [hg]; exact Qaq HY.out); clear HY; have HY := n_; clear n_; have BKx3 := Aside0.mk hbox; clear hb hbox hg hx0 hx1) | ((with_reducible refine QbR (t := 103) (p := 9) rfl ?_); refine QbN (t := 103) (p := 9) (v := ?vo) (w1 := ((wa3.setCell ⟨x3, 0, none⟩ (.int .i64 3)).setCell ⟨x3, 1, none⟩ (.func (.func 91) #[] #[.pointer (some ⟨g3, 0, none⟩)]))) ?hg ?ho ?hn ?hr ?_; (case ho => rfl); (case hg => rfl); (case hn => rfl); (case hr => exact QbG (cs := #[.int .i64 0, .nilFunc]) (seg := [.int .i64 3, .func (.func 91) #[] #[.pointer (some ⟨g3, 0, none⟩)]]) BKx3.out rfl (by first | rfl | (go_simp; done)) (by first | rfl | (go_simp; done)) (by rfl) (by first | rfl | kernel_rfl) (by simp) (by first | rfl | simp [Value.oneCell'])); intro wb3 hw; have m0_ : Aside0 (wb3.heap[x3]? = some (.cells #[.int .i64 3, .func (.func 91) #[] #[.pointer (some ⟨g3, 0, none⟩)]] 103 (0, 0))) := ⟨by rw [hw]; refine Qax (cs := #[.int .i64 3, .nilFunc]) ?_ 1 _ rfl; refine Qax (cs := #[.int .i64 0, .nilFunc]) ?_ 0 _ rfl; exact BKx3.out⟩; have m1_ : Aside0 (Below w9.heap.size w9 wb3) := ⟨by rw [hw]; exact Qag (Qag HY.out GEx3.out) GEx3.out⟩; clear HY BKx3 hw; have HY := m1_; have BKx3 := m0_; clear m0_ m1_))
    have hz1 : wb3.cell? ⟨x3, 1, none⟩ = some (.func (.func 91) #[] #[.pointer (some ⟨g3, 0, none⟩)]) := (Qab BKx3.out 1).trans rfl
    have H := H'.out
    clear H'
    replace H := Option.bind_eq_some_iff.1 H
    obtain ⟨⟨n3, b3⟩, A30, H⟩ := H
    have A3 := Aside0.mk A30
    clear A30
    have H' := Aside0.mk H
    clear H
    go_upto_if 32 with (first | (go_at_call 91; refine (QbK.calls At ct lt q4 q5 g3 (n3, b3) _ (Kd.C_below HR9.out HY.out) HC.out ((Qab (Qam (g := g3) (o := .cells #[.slice At lt.length ct, .int .i64 q1, .int .i64 q2, .int .i64 q3, .int .i64 q4, .int .i64 q5, .int .i64 q6, .int .i64 q7] 76 (0, 0)) BKg3.out HY.out) 0).trans rfl) ((Qab (Qam (g := g3) (o := .cells #[.slice At lt.length ct, .int .i64 q1, .int .i64 q2, .int .i64 q3, .int .i64 q4, .int .i64 q5, .int .i64 q6, .int .i64 q7] 76 (0, 0)) BKg3.out HY.out) 4).trans rfl) ((Qab (Qam (g := g3) (o := .cells #[.slice At lt.length ct, .int .i64 q1, .int .i64 q2, .int .i64 q3, .int .i64 q4, .int .i64 q5, .int .i64 q6, .int .i64 q7] 76 (0, 0)) BKg3.out HY.out) 5).trans rfl) A3.out).mono ?_; rintro _ wc3 ⟨rfl, hb⟩; have m_ := Aside0.mk (Qao HY.out hb); have o_ := Aside0.mk (Qam BKx3.out hb); clear HY BKx3 hb hz1; have HY := m_; have BKx3 := o_; clear m_ o_))
    have H := H'.out
    clear H'
    cases b3 with
    | true =>
     (try unfold QaM.x at H)
     replace H : (QaE.f k n3 p4 p5).bind (fun c => some (c, (3 : Int), (0 : Int))) = some (r1, r2, r3) := by rw [if_pos rfl] at H; exact H
     replace H := Option.bind_eq_some_iff.1 H
     obtain ⟨c, AC0, H⟩ := H
     have AC := Aside0.mk AC0
     clear AC0
     simp only [Option.some.injEq, Prod.mk.injEq] at H
     obtain ⟨rfl, rfl, rfl⟩ := H
     go_upto_region 9 with (fail)
     refine start_ (n := 11) (S := fun w' => w'.cell? ⟨gP, 4, none⟩ = some (.int .i64 p4) ∧ w'.cell? ⟨gP, 5, none⟩ = some (.int .i64 p5) ∧ w'.cell? ⟨x3, 0, none⟩ = some (.int .i64 3)) (ds := []) #[J, J, J, J, J, J, J, J, J, J, J] (by kernel_rfl) rfl rfl ⟨(Qab (Qae (Qam (g := gP) (o := .cells #[.string p0, .int .i64 p1, .int .i64 p2, .int .i64 p3, .int .i64 p4, .int .i64 p5, .bool p6] 73 (0, 0)) BKgP.out HY.out)) 4).trans rfl, (Qab (Qae (Qam (g := gP) (o := .cells #[.string p0, .int .i64 p1, .int .i64 p2, .int .i64 p3, .int .i64 p4, .int .i64 p5, .bool p6] 73 (0, 0)) BKgP.out HY.out)) 5).trans rfl, (Qab (Qae BKx3.out) 0).trans rfl⟩ (fun hHeld => ?_); refine QbB Qa8.tab Qa8.bits (fun HT_ HW_ => ?_)
     refine pure_ (i := 0) (N := some 33) (v := ?_) (a' := ?_) #[F, J, J, J, J, J, J, J, J, J, J] rfl rfl (any_of HT_.out (by kernel_rfl)) (fun _ _ _ h => h) (Or.inl ⟨by rfl, ?_⟩) ?_ ?_
     rotate_left
     ·intro w'
      go_simp
      with_reducible rfl
     rotate_left
     ·simp only [Act.put, Zj, Zk, Zm, i64_w, i32_w]
      rfl
     refine pure_ (i := 1) (N := some 34) (v := ?_) (a' := ?_) #[F, F, J, J, J, J, J, J, J, J, J] rfl rfl (any_of HT_.out (by kernel_rfl)) (fun _ _ _ h => h) (Or.inl ⟨by rfl, ?_⟩) ?_ ?_
     rotate_left
     ·intro w'
      go_simp
      with_reducible rfl
     rotate_left
     ·simp only [Act.put, Zj, Zk, Zm, i64_w, i32_w]
      rfl
     refine pure_ (i := 3) (N := some 36) (v := ?_) (a' := ?_) #[F, F, J, F, J, J, J, J, J, J, J] rfl rfl (any_of HT_.out (by kernel_rfl)) (fun _ _ _ h => h) (Or.inl ⟨by rfl, ?_⟩) ?_ ?_
     rotate_left
     ·intro w'
      go_simp
      with_reducible rfl
     rotate_left
     ·simp only [Act.put, Zj, Zk, Zm, i64_w, i32_w]
      rfl
     refine pure_ (i := 6) (N := some 39) (v := ?_) (a' := ?_) #[F, F, J, F, J, J, F, J, J, J, J] rfl rfl (any_of HT_.out (by kernel_rfl)) (fun _ _ _ h => h) (Or.inl ⟨by rfl, ?_⟩) ?_ ?_
     rotate_left
     ·intro w'
      go_simp
      with_reducible rfl
     rotate_left
     ·simp only [Act.put, Zj, Zk, Zm, i64_w, i32_w]
      rfl
     refine take_ (i := 2) (N := some 35) (v := ?_) (a' := ?_) #[F, F, F, F, J, J, F, J, J, J, J] rfl rfl (Qa4 HT_.out HW_.out (by kernel_rfl)) (fun _ _ _ h => h) (Or.inl ⟨by rfl, ?_⟩) hHeld ?_ ?_
     rotate_left
     ·rintro w' ⟨s0, s1, s2⟩
      go_simp
      with_reducible rfl
     rotate_left
     ·simp only [Act.put, Zj, Zk, Zm, i64_w, i32_w]
      rfl
     refine take_ (i := 4) (N := some 37) (v := ?_) (a' := ?_) #[F, F, F, F, F, J, F, J, J, J, J] rfl rfl (Qa4 HT_.out HW_.out (by kernel_rfl)) (fun _ _ _ h => h) (Or.inl ⟨by rfl, ?_⟩) hHeld ?_ ?_
     rotate_left
     ·rintro w' ⟨s0, s1, s2⟩
      go_simp
      with_reducible rfl
     rotate_left
     ·simp only [Act.put, Zj, Zk, Zm, i64_w, i32_w]
      rfl
     refine take_ (i := 7) (N := some 40) (v := ?_) (a' := ?_) #[F, F, F, F, F, J, F, F, J, J, J] rfl rfl (Qa4 HT_.out HW_.out (by kernel_rfl)) (fun _ _ _ h => h) (Or.inl ⟨by rfl, ?_⟩) hHeld ?_ ?_
     rotate_left
     ·rintro w' ⟨s0, s1, s2⟩
      go_simp
      with_reducible rfl
     rotate_left
     ·simp only [Act.put, Zj, Zk, Zm, i64_w, i32_w]
      rfl
     refine one_ (i := 5) (N := some 38) #[F, F, F, F, F, F, F, F, J, J, J] rfl rfl (one_of HT_.out (by kernel_rfl)) (by decide) (fun K hK => ?_)
     refine goes_ Try.func61 (by kernel_rfl) rfl #[.int .i64 n3, .int .i64 p4, .int .i64 p5] (by rfl) rfl rfl (by (try simp only [List.map_toArray, List.map_cons, List.map_nil]); first | done | rfl) ?_
     refine (QaE.calls k n3 p4 p5 c _ AC.out).mono ?_
     rintro _ wd ⟨rfl, hd⟩
     refine ⟨_, rfl, ?_⟩
     have hb := hd.below
     have HZ := Aside0.mk (Qao HB9.out (Qao (Qai HY.out) hb))
     have hh0 := (hb.cell (World.block_lt_of_cell? _ _ (hHeld.1))).trans (hHeld.1)
     have hh1 := (hb.cell (World.block_lt_of_cell? _ _ (hHeld.2.1))).trans (hHeld.2.1)
     have hh2 := (hb.cell (World.block_lt_of_cell? _ _ (hHeld.2.2))).trans (hHeld.2.2)
     refine hK.out _ _ ⟨hh0, hh1, hh2⟩ (fun hHeld => ?_)
     clear hK K
     refine norm_ (a' := ?_) ?_ ?_
     rotate_left
     ·show Act.put _ (some 38) _ = _
      simp only [Act.put, Zj, Zk, Zm, i64_w, i32_w]
      rfl
     refine pure_ (i := 8) (N := some 4) (v := ?_) (a' := ?_) #[F, F, F, F, F, F, F, F, F, J, J] rfl rfl (any_of HT_.out (by kernel_rfl)) (fun _ _ _ h => h) (Or.inl ⟨by rfl, ?_⟩) ?_ ?_
     rotate_left
     ·intro w'
      go_simp
      with_reducible rfl
     rotate_left
     ·simp only [Act.put, Zj, Zk, Zm, i64_w, i32_w]
      rfl
     refine pure_ (i := 9) (N := some 5) (v := ?_) (a' := ?_) #[F, F, F, F, F, F, F, F, F, F, J] rfl rfl (any_of HT_.out (by kernel_rfl)) (fun _ _ _ h => h) (Or.inl ⟨by rfl, ?_⟩) ?_ ?_
     rotate_left
     ·intro w'
      go_simp
      with_reducible rfl
     rotate_left
     ·simp only [Act.put, Zj, Zk, Zm, i64_w, i32_w]
      rfl
     refine pure_ (i := 10) (N := some 6) (v := ?_) (a' := ?_) #[F, F, F, F, F, F, F, F, F, F, F] rfl rfl (any_of HT_.out (by kernel_rfl)) (fun _ _ _ h => h) (Or.inl ⟨by rfl, ?_⟩) ?_ ?_
     rotate_left
     ·intro w'
      go_simp
      with_reducible rfl
     rotate_left
     ·simp only [Act.put, Zj, Zk, Zm, i64_w, i32_w]
      rfl
     refine done_ (QbJ HT_.out (by kernel_rfl)) ?_
     go_wp2
     go_ret3
     exact ⟨rfl, HZ.out⟩
    | false =>
     (try unfold QaM.x at H)
     rw [if_neg (show ¬ (J = F) by decide)] at H
     have H' := Aside0.mk H
     clear H
     go_wp2
     have hx0 : wc3.cell? ⟨gr, 6, none⟩ = some (.int .i64 4) := (Qab (Qam (g := gr) (o := .cells #[.int .i64 1, .func (.func 86) #[] #[.pointer (some ⟨g5, 0, none⟩), .pointer (some ⟨g3, 0, none⟩), .pointer (some ⟨g2, 0, none⟩)], .int .i64 2, .func (.func 89) #[] #[.pointer (some ⟨g3, 0, none⟩), .pointer (some ⟨g2, 0, none⟩)], .int .i64 3, .func (.func 91) #[] #[.pointer (some ⟨g3, 0, none⟩)], .int .i64 4, .func (.func 93) #[] #[.pointer (some ⟨g2, 0, none⟩), .pointer (some ⟨g3, 0, none⟩)]] 103 (0, 0)) BKgr.out HY.out) 6).trans rfl
     have hx1 : wc3.cell? ⟨gr, 7, none⟩ = some (.func (.func 93) #[] #[.pointer (some ⟨g2, 0, none⟩), .pointer (some ⟨g3, 0, none⟩)]) := (Qab (Qam (g := gr) (o := .cells #[.int .i64 1, .func (.func 86) #[] #[.pointer (some ⟨g5, 0, none⟩), .pointer (some ⟨g3, 0, none⟩), .pointer (some ⟨g2, 0, none⟩)], .int .i64 2, .func (.func 89) #[] #[.pointer (some ⟨g3, 0, none⟩), .pointer (some ⟨g2, 0, none⟩)], .int .i64 3, .func (.func 91) #[] #[.pointer (some ⟨g3, 0, none⟩)], .int .i64 4, .func (.func 93) #[] #[.pointer (some ⟨g2, 0, none⟩), .pointer (some ⟨g3, 0, none⟩)]] 103 (0, 0)) BKgr.out HY.out) 7).trans rfl
     rw [rounds_succ]
     go_upto_region 7 with (first | ((with_reducible refine QaJ (N := 9) rfl ?_); refine Zbx (N := 9) (cs := #[.int .i64 0, .nilFunc]) (t := 103) ?_; intro x4 hg wa4 hbox hb; have n_ := Aside0.mk (Qao HY.out hb); have GEx4 := Aside0.mk (show w9.heap.size ≤ x4 by rw [hg]; exact Qaq HY.out); clear HY; have HY := n_; clear n_; have BKx4 := Aside0.mk hbox; clear hb hbox hg hx0 hx1) | ((with_reducible refine QbR (t := 103) (p := 9) rfl ?_); refine QbN (t := 103) (p := 9) (v := ?vo) (w1 := ((wa4.setCell ⟨x4, 0, none⟩ (.int .i64 4)).setCell ⟨x4, 1, none⟩ (.func (.func 93) #[] #[.pointer (some ⟨g2, 0, none⟩), .pointer (some ⟨g3, 0, none⟩)]))) ?hg ?ho ?hn ?hr ?_; (case ho => rfl); (case hg => rfl); (case hn => rfl); (case hr => exact QbG (cs := #[.int .i64 0, .nilFunc]) (seg := [.int .i64 4, .func (.func 93) #[] #[.pointer (some ⟨g2, 0, none⟩), .pointer (some ⟨g3, 0, none⟩)]]) BKx4.out rfl (by first | rfl | (go_simp; done)) (by first | rfl | (go_simp; done)) (by rfl) (by first | rfl | kernel_rfl) (by simp) (by first | rfl | simp [Value.oneCell'])); intro wb4 hw; have m0_ : Aside0 (wb4.heap[x4]? = some (.cells #[.int .i64 4, .func (.func 93) #[] #[.pointer (some ⟨g2, 0, none⟩), .pointer (some ⟨g3, 0, none⟩)]] 103 (0, 0))) := ⟨by rw [hw]; refine Qax (cs := #[.int .i64 4, .nilFunc]) ?_ 1 _ rfl; refine Qax (cs := #[.int .i64 0, .nilFunc]) ?_ 0 _ rfl; exact BKx4.out⟩; have m1_ : Aside0 (Below w9.heap.size w9 wb4) := ⟨by rw [hw]; exact Qag (Qag HY.out GEx4.out) GEx4.out⟩; clear HY BKx4 hw; have HY := m1_; have BKx4 := m0_; clear m0_ m1_))
     have hz1 : wb4.cell? ⟨x4, 1, none⟩ = some (.func (.func 93) #[] #[.pointer (some ⟨g2, 0, none⟩), .pointer (some ⟨g3, 0, none⟩)]) := (Qab BKx4.out 1).trans rfl
     have H := H'.out
     clear H'
     replace H := Option.bind_eq_some_iff.1 H
     obtain ⟨⟨n4, b4⟩, A40, H⟩ := H
     have A4 := Aside0.mk A40
     clear A40
     have H' := Aside0.mk H
     clear H
     go_upto_if 32 with (first | (go_at_call 93; refine (Qbc.calls k p0 p1 p2 p3 p4 p5 p6 q6 q7 g2 g3 (n4, b4) _ (Qam (g := g2) (o := .cells #[.string p0, .int .i64 p1, .int .i64 p2, .int .i64 p3, .int .i64 p4, .int .i64 p5, .bool p6] 73 (0, 0)) BKg2.out HY.out) ((Qab (Qam (g := g3) (o := .cells #[.slice At lt.length ct, .int .i64 q1, .int .i64 q2, .int .i64 q3, .int .i64 q4, .int .i64 q5, .int .i64 q6, .int .i64 q7] 76 (0, 0)) BKg3.out HY.out) 6).trans rfl) ((Qab (Qam (g := g3) (o := .cells #[.slice At lt.length ct, .int .i64 q1, .int .i64 q2, .int .i64 q3, .int .i64 q4, .int .i64 q5, .int .i64 q6, .int .i64 q7] 76 (0, 0)) BKg3.out HY.out) 7).trans rfl) A4.out).mono ?_; rintro _ wc4 ⟨rfl, hb⟩; have m_ := Aside0.mk (Qao HY.out hb); have o_ := Aside0.mk (Qam BKx4.out hb); clear HY BKx4 hb hz1; have HY := m_; have BKx4 := o_; clear m_ o_))
     have H := H'.out
     clear H'
     cases b4 with
     | true =>
      (try unfold QaM.x at H)
      replace H : (QaE.f k n4 p4 p5).bind (fun c => some (c, (4 : Int), (0 : Int))) = some (r1, r2, r3) := by rw [if_pos rfl] at H; exact H
      replace H := Option.bind_eq_some_iff.1 H
      obtain ⟨c, AC0, H⟩ := H
      have AC := Aside0.mk AC0
      clear AC0
      simp only [Option.some.injEq, Prod.mk.injEq] at H
      obtain ⟨rfl, rfl, rfl⟩ := H
      go_upto_region 9 with (fail)
      refine start_ (n := 11) (S := fun w' => w'.cell? ⟨gP, 4, none⟩ = some (.int .i64 p4) ∧ w'.cell? ⟨gP, 5, none⟩ = some (.int .i64 p5) ∧ w'.cell? ⟨x4, 0, none⟩ = some (.int .i64 4)) (ds := []) #[J, J, J, J, J, J, J, J, J, J, J] (by kernel_rfl) rfl rfl ⟨(Qab (Qae (Qam (g := gP) (o := .cells #[.string p0, .int .i64 p1, .int .i64 p2, .int .i64 p3, .int .i64 p4, .int .i64 p5, .bool p6] 73 (0, 0)) BKgP.out HY.out)) 4).trans rfl, (Qab (Qae (Qam (g := gP) (o := .cells #[.string p0, .int .i64 p1, .int .i64 p2, .int .i64 p3, .int .i64 p4, .int .i64 p5, .bool p6] 73 (0, 0)) BKgP.out HY.out)) 5).trans rfl, (Qab (Qae BKx4.out) 0).trans rfl⟩ (fun hHeld => ?_); refine QbB Qa8.tab Qa8.bits (fun HT_ HW_ => ?_)
      refine pure_ (i := 0) (N := some 33) (v := ?_) (a' := ?_) #[F, J, J, J, J, J, J, J, J, J, J] rfl rfl (any_of HT_.out (by kernel_rfl)) (fun _ _ _ h => h) (Or.inl ⟨by rfl, ?_⟩) ?_ ?_
      rotate_left
      ·intro w'
       go_simp
       with_reducible rfl
      rotate_left
      ·simp only [Act.put, Zj, Zk, Zm, i64_w, i32_w]
       rfl
      refine pure_ (i := 1) (N := some 34) (v := ?_) (a' := ?_) #[F, F, J, J, J, J, J, J, J, J, J] rfl rfl (any_of HT_.out (by kernel_rfl)) (fun _ _ _ h => h) (Or.inl ⟨by rfl, ?_⟩) ?_ ?_
      rotate_left
      ·intro w'
       go_simp
       with_reducible rfl
      rotate_left
      ·simp only [Act.put, Zj, Zk, Zm, i64_w, i32_w]
       rfl
      refine pure_ (i := 3) (N := some 36) (v := ?_) (a' := ?_) #[F, F, J, F, J, J, J, J, J, J, J] rfl rfl (any_of HT_.out (by kernel_rfl)) (fun _ _ _ h => h) (Or.inl ⟨by rfl, ?_⟩) ?_ ?_
      rotate_left
      ·intro w'
       go_simp
       with_reducible rfl
      rotate_left
      ·simp only [Act.put, Zj, Zk, Zm, i64_w, i32_w]
       rfl
      refine pure_ (i := 6) (N := some 39) (v := ?_) (a' := ?_) #[F, F, J, F, J, J, F, J, J, J, J] rfl rfl (any_of HT_.out (by kernel_rfl)) (fun _ _ _ h => h) (Or.inl ⟨by rfl, ?_⟩) ?_ ?_
      rotate_left
      ·intro w'
       go_simp
       with_reducible rfl
      rotate_left
      ·simp only [Act.put, Zj, Zk, Zm, i64_w, i32_w]
       rfl
      refine take_ (i := 2) (N := some 35) (v := ?_) (a' := ?_) #[F, F, F, F, J, J, F, J, J, J, J] rfl rfl (Qa4 HT_.out HW_.out (by kernel_rfl)) (fun _ _ _ h => h) (Or.inl ⟨by rfl, ?_⟩) hHeld ?_ ?_
      rotate_left
      ·rintro w' ⟨s0, s1, s2⟩
       go_simp
       with_reducible rfl
      rotate_left
      ·simp only [Act.put, Zj, Zk, Zm, i64_w, i32_w]
       rfl
      refine take_ (i := 4) (N := some 37) (v := ?_) (a' := ?_) #[F, F, F, F, F, J, F, J, J, J, J] rfl rfl (Qa4 HT_.out HW_.out (by kernel_rfl)) (fun _ _ _ h => h) (Or.inl ⟨by rfl, ?_⟩) hHeld ?_ ?_
      rotate_left
      ·rintro w' ⟨s0, s1, s2⟩
       go_simp
       with_reducible rfl
      rotate_left
      ·simp only [Act.put, Zj, Zk, Zm, i64_w, i32_w]
       rfl
      refine take_ (i := 7) (N := some 40) (v := ?_) (a' := ?_) #[F, F, F, F, F, J, F, F, J, J, J] rfl rfl (Qa4 HT_.out HW_.out (by kernel_rfl)) (fun _ _ _ h => h) (Or.inl ⟨by rfl, ?_⟩) hHeld ?_ ?_
      rotate_left
      ·rintro w' ⟨s0, s1, s2⟩
       go_simp
       with_reducible rfl
      rotate_left
      ·simp only [Act.put, Zj, Zk, Zm, i64_w, i32_w]
       rfl
      refine one_ (i := 5) (N := some 38) #[F, F, F, F, F, F, F, F, J, J, J] rfl rfl (one_of HT_.out (by kernel_rfl)) (by decide) (fun K hK => ?_)
      refine goes_ Try.func61 (by kernel_rfl) rfl #[.int .i64 n4, .int .i64 p4, .int .i64 p5] (by rfl) rfl rfl (by (try simp only [List.map_toArray, List.map_cons, List.map_nil]); first | done | rfl) ?_
      refine (QaE.calls k n4 p4 p5 c _ AC.out).mono ?_
      rintro _ wd ⟨rfl, hd⟩
      refine ⟨_, rfl, ?_⟩
      have hb := hd.below
      have HZ := Aside0.mk (Qao HB9.out (Qao (Qai HY.out) hb))
      have hh0 := (hb.cell (World.block_lt_of_cell? _ _ (hHeld.1))).trans (hHeld.1)
      have hh1 := (hb.cell (World.block_lt_of_cell? _ _ (hHeld.2.1))).trans (hHeld.2.1)
      have hh2 := (hb.cell (World.block_lt_of_cell? _ _ (hHeld.2.2))).trans (hHeld.2.2)
      refine hK.out _ _ ⟨hh0, hh1, hh2⟩ (fun hHeld => ?_)
      clear hK K
      refine norm_ (a' := ?_) ?_ ?_
      rotate_left
      ·show Act.put _ (some 38) _ = _
       simp only [Act.put, Zj, Zk, Zm, i64_w, i32_w]
       rfl
      refine pure_ (i := 8) (N := some 4) (v := ?_) (a' := ?_) #[F, F, F, F, F, F, F, F, F, J, J] rfl rfl (any_of HT_.out (by kernel_rfl)) (fun _ _ _ h => h) (Or.inl ⟨by rfl, ?_⟩) ?_ ?_
      rotate_left
      ·intro w'
       go_simp
       with_reducible rfl
      rotate_left
      ·simp only [Act.put, Zj, Zk, Zm, i64_w, i32_w]
       rfl
      refine pure_ (i := 9) (N := some 5) (v := ?_) (a' := ?_) #[F, F, F, F, F, F, F, F, F, F, J] rfl rfl (any_of HT_.out (by kernel_rfl)) (fun _ _ _ h => h) (Or.inl ⟨by rfl, ?_⟩) ?_ ?_
      rotate_left
      ·intro w'
       go_simp
       with_reducible rfl
      rotate_left
      ·simp only [Act.put, Zj, Zk, Zm, i64_w, i32_w]
       rfl
      refine pure_ (i := 10) (N := some 6) (v := ?_) (a' := ?_) #[F, F, F, F, F, F, F, F, F, F, F] rfl rfl (any_of HT_.out (by kernel_rfl)) (fun _ _ _ h => h) (Or.inl ⟨by rfl, ?_⟩) ?_ ?_
      rotate_left
      ·intro w'
       go_simp
       with_reducible rfl
      rotate_left
      ·simp only [Act.put, Zj, Zk, Zm, i64_w, i32_w]
       rfl
      refine done_ (QbJ HT_.out (by kernel_rfl)) ?_
      go_wp2
      go_ret3
      exact ⟨rfl, HZ.out⟩
     | false =>
      (try unfold QaM.x at H)
      rw [if_neg (show ¬ (J = F) by decide)] at H
      go_wp2
      rw [rounds_succ]
      simp only [Option.some.injEq, Prod.mk.injEq] at H
      obtain ⟨rfl, rfl, rfl⟩ := H
      have HZ := Aside0.mk (Qao HB9.out HY.out)
      go_wp2
      go_ret3
      exact ⟨rfl, HZ.out⟩
 rw [if_neg c0] at H
 have c0b : (e0 != 0) = F := bne_iff_ne.mpr c0
 clear c0
 simp only [Option.some.injEq, Prod.mk.injEq] at H
 obtain ⟨rfl, rfl, rfl⟩ := H
 go_wp2
 go_ret3
 exact ⟨rfl, HB.out⟩
def contangotop_TopPrices.l0 : Nat → Int → Int → ByteArray → Int → Int → Int → Int → Int → Bool → List (S56) → Int → Int → Option (Bool)
 | 0, _, _, _, _, _, _, _, _, _, _, _, _ => none
 | k + 1, x7, x10, x567000, x567001, x567002, x567003, x567004, x567005, x567006, x569000, x569001, x569002 => if x10 < (x569000.length : Int) then (if 0 ≤ x10 then (if (rd_T56 x569000 x10).f2 = F then ((Qau.f k x567000 x567001 x567002 x567003 x567004 x567005 x567006 ((rd_T56 x569000 x10).f1)).bind fun t576 => (if t576 = 0 then (contangotop_TopPrices.l0 k x7 (wrap64 (x10 + 1)) x567000 x567001 x567002 x567003 x567004 x567005 x567006 x569000 x569001 x569002) else ((Qav.f k).bind fun t577 => (some t577)))) else (contangotop_TopPrices.l0 k x7 (wrap64 (x10 + 1)) x567000 x567001 x567002 x567003 x567004 x567005 x567006 x569000 x569001 x569002)) else (none)) else ((Qbj.f k x569000 x569001 x567003).bind fun bt578 => (if bt578.2 = 0 then ((QaW.f k x567000 x567001 x567002 x567003 x567004 x567005 x567006 x569002 x7 bt578.1).bind fun bt581 => ((QaR.f k x567000 x567001 x567002 x567003 x567004 x567005 x567006 (wrap64 (bt578.1 - x7)) x569002).bind fun bt583 => ((Qau.f k x567000 x567001 x567002 x567003 x567004 x567005 x567006 bt578.1).bind fun t585 => (if t585 = 0 then (if bt581.1 = bt583.1 then (if bt581.2 = bt583.2 then (if x569002 ≥ (-1048576) then (if ((bt581.2 == 0) == (decide (x569002 ≤ 1048576))) = F then ((Qa7.f bt581.1).bind fun t586 => (if t586 = F then ((Qav.f k).bind fun t587 => (some t587)) else (none))) else (none)) else (if ((bt581.2 == 0) == J) = F then ((Qa7.f bt581.1).bind fun t588 => (if t588 = F then ((Qav.f k).bind fun t589 => (some t589)) else (none))) else (none))) else (none)) else (none)) else (none))))) else ((Qav.f k).bind fun t580 => (some t580))))
def contangotop_TopPrices.f (k : Nat) (a0_0 : ByteArray) (a0_1 : Int) (a0_2 : Int) (a0_3 : Int) (a0_4 : Int) (a0_5 : Int) (a0_6 : Bool) (l1_0 : List (S130)) (a1_1 : Int) (a1_2 : Int) (a1_3 : Int) (a1_4 : Int) (a1_5 : Int) (a1_6 : Int) (a1_7 : Int) (l2_0 : List (S56)) (a2_1 : Int) (a2_2 : Int) : Option (Bool) := (QaM.f k a0_0 a0_1 a0_2 a0_3 a0_4 a0_5 a0_6 l1_0 a1_1 a1_2 a1_3 a1_4 a1_5 a1_6 a1_7).bind fun bt569 => (if bt569.2.2 = 0 then ((Qau.f k a0_0 a0_1 a0_2 a0_3 a0_4 a0_5 a0_6 bt569.1).bind fun t573 => (if t573 = 0 then (contangotop_TopPrices.l0 k bt569.1 0 a0_0 a0_1 a0_2 a0_3 a0_4 a0_5 a0_6 l2_0 a2_1 a2_2) else (none))) else (if bt569.1 = 0 then (if bt569.2.1 = 0 then ((Qav.f k).bind fun t572 => (some t572)) else (none)) else (none)))
theorem contangotop_TopPrices.mono_l : ∀ k, (∀ y0 y1 y2 y3 y4 y5 y6 y7 y8 y9 y10 y11, LeO (contangotop_TopPrices.l0 k y0 y1 y2 y3 y4 y5 y6 y7 y8 y9 y10 y11) (contangotop_TopPrices.l0 (k + 1) y0 y1 y2 y3 y4 y5 y6 y7 y8 y9 y10 y11))
 | 0 => fun _ _ _ _ _ _ _ _ _ _ _ _ r h => by simp [contangotop_TopPrices.l0] at h
 | k + 1 => by
  have ih0 := contangotop_TopPrices.mono_l k
  intro y0 y1 y2 y3 y4 y5 y6 y7 y8 y9 y10 y11
  unfold contangotop_TopPrices.l0
  exact ZM7 ih0 Qav.mono Qbj.mono QaM.mono Qau.mono QaR.mono QaW.mono
theorem contangotop_TopPrices.mono : ∀ a0 a1 a2 a3 a4 a5 a6 a7 a8 a9 a10 a11 a12 a13 a14 a15 a16 a17 k, LeO (contangotop_TopPrices.f k a0 a1 a2 a3 a4 a5 a6 a7 a8 a9 a10 a11 a12 a13 a14 a15 a16 a17) (contangotop_TopPrices.f (k + 1) a0 a1 a2 a3 a4 a5 a6 a7 a8 a9 a10 a11 a12 a13 a14 a15 a16 a17) := by
 intro a0 a1 a2 a3 a4 a5 a6 a7 a8 a9 a10 a11 a12 a13 a14 a15 a16 a17 k
 have ih0 := contangotop_TopPrices.mono_l k
 unfold contangotop_TopPrices.f
 exact ZM7 ih0 Qav.mono Qbj.mono QaM.mono Qau.mono QaR.mono QaW.mono
def contangotop_TopPrices.T9 : Bool × List (List Nat × List Nat) := (F, [([], []), ([0], [0]), ([], []), ([1, 2], [1, 2]), ([3], [3]), ([4], [4]), ([5], [5]), ([6], [6]), ([6], [6]), ([8, 6], [6, 8]), ([6], [6]), ([9, 10, 6], [6, 9, 10]), ([11, 6], [6, 11]), ([12, 6], [6, 12]), ([7, 13, 6, 6], [6, 7, 13]), ([14, 6], [6, 14]), ([6, 15], [6, 15])])
def contangotop_TopPrices.B9 : List Nat := [0, 1, 0, 7, 15, 31, 63, 127, 127, 383, 127, 1919, 3967, 8063, 16383, 32767, 65535]
theorem contangotop_TopPrices.tab9 : rtab .any (opsOf Try.f13 9) = contangotop_TopPrices.T9 := by kernel_rfl
theorem contangotop_TopPrices.bits9 : QbL contangotop_TopPrices.T9.2 contangotop_TopPrices.B9 = F := by kernel_rfl
theorem contangotop_TopPrices.calls (k : Nat) (a0_0 : ByteArray) (a0_1 : Int) (a0_2 : Int) (a0_3 : Int) (a0_4 : Int) (a0_5 : Int) (a0_6 : Bool) (A1_0 : Option Addr) (c1_0 : Nat) (l1_0 : List (S130)) (a1_1 : Int) (a1_2 : Int) (a1_3 : Int) (a1_4 : Int) (a1_5 : Int) (a1_6 : Int) (a1_7 : Int) (A2_0 : Option Addr) (c2_0 : Nat) (l2_0 : List (S56)) (a2_1 : Int) (a2_2 : Int) (r : Bool) (w : World) (hr1_0 : Kd.C k130 w A1_0 l1_0.length l1_0) (hc1_0 : l1_0.length ≤ c1_0) (hr2_0 : Kd.C k56 w A2_0 l2_0.length l2_0) (hc2_0 : l2_0.length ≤ c2_0) (h : contangotop_TopPrices.f k a0_0 a0_1 a0_2 a0_3 a0_4 a0_5 a0_6 l1_0 a1_1 a1_2 a1_3 a1_4 a1_5 a1_6 a1_7 l2_0 a2_1 a2_2 = some r) :
  Calls Try.prog 13 #[.agg #[.string a0_0, .int .i64 a0_1, .int .i64 a0_2, .int .i64 a0_3, .int .i64 a0_4, .int .i64 a0_5, .bool a0_6], .agg #[.slice A1_0 l1_0.length c1_0, .int .i64 a1_1, .int .i64 a1_2, .int .i64 a1_3, .int .i64 a1_4, .int .i64 a1_5, .int .i64 a1_6, .int .i64 a1_7], .agg #[.slice A2_0 l2_0.length c2_0, .int .i64 a2_1, .int .i64 a2_2]] w fun e w' => e = .returned (.bool r) ∧ Below w.heap.size w w' := by
 have hu73 := Try.underlying73
 have hu76 := Try.underlying76
 have hu78 := Try.underlying78
 have HR1_0 := Aside0.mk hr1_0
 have HC1_0 := Aside0.mk hc1_0
 clear hr1_0 hc1_0
 have HR2_0 := Aside0.mk hr2_0
 have HC2_0 := Aside0.mk hc2_0
 clear hr2_0 hc2_0
 have HB := Aside0.mk (Below.refl w.heap.size w)
 have H : ((QaM.f k a0_0 a0_1 a0_2 a0_3 a0_4 a0_5 a0_6 l1_0 a1_1 a1_2 a1_3 a1_4 a1_5 a1_6 a1_7).bind fun bt569 => (if bt569.2.2 = 0 then ((Qau.f k a0_0 a0_1 a0_2 a0_3 a0_4 a0_5 a0_6 bt569.1).bind fun t573 => (if t573 = 0 then (contangotop_TopPrices.l0 k bt569.1 0 a0_0 a0_1 a0_2 a0_3 a0_4 a0_5 a0_6 l2_0 a2_1 a2_2) else (none))) else (if bt569.1 = 0 then (if bt569.2.1 = 0 then ((Qav.f k).bind fun t572 => (some t572)) else (none)) else (none)))) = some r := h
 clear h
 replace H := Option.bind_eq_some_iff.mp H
 obtain ⟨⟨t569, t570, t571⟩, A40, H⟩ := H
 replace H : (if t571 = 0 then ((Qau.f k a0_0 a0_1 a0_2 a0_3 a0_4 a0_5 a0_6 t569).bind fun t573 => (if t573 = 0 then (contangotop_TopPrices.l0 k t569 0 a0_0 a0_1 a0_2 a0_3 a0_4 a0_5 a0_6 l2_0 a2_1 a2_2) else (none))) else (if t569 = 0 then (if t570 = 0 then ((Qav.f k).bind fun t572 => (some t572)) else (none)) else (none))) = some r := H
 have A4 := Aside0.mk A40
 clear A40
 go_enter Try.func13, Try.ntmps13
 go_upto_if 25 with (first | ((with_reducible refine QaJ (N := 3) rfl ?_); refine Zbx (N := 3) (cs := #[.string a0_0, .int .i64 a0_1, .int .i64 a0_2, .int .i64 a0_3, .int .i64 a0_4, .int .i64 a0_5, .bool a0_6]) (t := 73) ?_; intro gb566 hg w5 hbox hb; have BK566 := Aside0.mk (hbox); have GW566 := Aside0.mk (Zt w hg (Zb)); have GE566 := GW566; replace HB := Aside0.mk (Qao (Zb) hb); clear hb hbox hg) | ((with_reducible refine QaJ (N := 4) rfl ?_); refine Zbx (N := 4) (cs := #[.slice A1_0 l1_0.length c1_0, .int .i64 a1_1, .int .i64 a1_2, .int .i64 a1_3, .int .i64 a1_4, .int .i64 a1_5, .int .i64 a1_6, .int .i64 a1_7]) (t := 76) ?_; intro gb567 hg w6 hbox hb; have BK567 := Aside0.mk (hbox); have GW567 := Aside0.mk (Zt w hg (Zc1 GE566.out)); have GE567 := GW567; have NB566_567 := Aside0.mk (Zn hg BK566.out); have NB567_566 := Aside0.mk NB566_567.out.symm; replace BK566 := Aside0.mk (Zi BK566.out hb); replace HB := Aside0.mk (Qao (Zc1 GE566.out) hb); clear hb hbox hg) | ((with_reducible refine QaJ (N := 5) rfl ?_); refine Zbx (N := 5) (cs := #[.slice A2_0 l2_0.length c2_0, .int .i64 a2_1, .int .i64 a2_2]) (t := 78) ?_; intro gb568 hg w7 hbox hb; have BK568 := Aside0.mk (hbox); have GW568 := Aside0.mk (Zt w hg (Zc2 GE566.out GE567.out)); have GE568 := GW568; have NB566_568 := Aside0.mk (Zn hg BK566.out); have NB568_566 := Aside0.mk NB566_568.out.symm; have NB567_568 := Aside0.mk (Zn hg BK567.out); have NB568_567 := Aside0.mk NB567_568.out.symm; replace BK566 := Aside0.mk (Zi BK566.out hb); replace BK567 := Aside0.mk (Zi BK567.out hb); replace HB := Aside0.mk (Qao (Zc2 GE566.out GE567.out) hb); clear hb hbox hg; have hnb8 := NB566_567.out; have hnc8 := NB567_566.out; have hnb9 := NB566_568.out; have hnc9 := NB568_566.out; have hcz10_0 : w7.cell? ⟨gb566, 0, none⟩ = some (.string a0_0) := (Qab BK566.out 0).trans (by first | rfl | (rw [← Nbq26.out]; rfl)); have hcz10_1 : w7.cell? ⟨gb566, 1, none⟩ = some (.int .i64 a0_1) := (Qab BK566.out 1).trans (by first | rfl | (rw [← Nbq26.out]; rfl)); have hcz10_2 : w7.cell? ⟨gb566, 2, none⟩ = some (.int .i64 a0_2) := (Qab BK566.out 2).trans (by first | rfl | (rw [← Nbq26.out]; rfl)); have hcz10_3 : w7.cell? ⟨gb566, 3, none⟩ = some (.int .i64 a0_3) := (Qab BK566.out 3).trans (by first | rfl | (rw [← Nbq26.out]; rfl)); have hcz10_4 : w7.cell? ⟨gb566, 4, none⟩ = some (.int .i64 a0_4) := (Qab BK566.out 4).trans (by first | rfl | (rw [← Nbq26.out]; rfl)); have hcz10_5 : w7.cell? ⟨gb566, 5, none⟩ = some (.int .i64 a0_5) := (Qab BK566.out 5).trans (by first | rfl | (rw [← Nbq26.out]; rfl)); have hcz10_6 : w7.cell? ⟨gb566, 6, none⟩ = some (.bool a0_6) := (Qab BK566.out 6).trans (by first | rfl | (rw [← Nbq26.out]; rfl)); have hfz10_0 := Qaa BK566.out 0; have hfz10_1 := Qaa BK566.out 1; have hfz10_2 := Qaa BK566.out 2; have hfz10_3 := Qaa BK566.out 3; have hfz10_4 := Qaa BK566.out 4; have hfz10_5 := Qaa BK566.out 5; have hfz10_6 := Qaa BK566.out 6; have hnb11 := NB567_568.out; have hnc11 := NB568_567.out; have hcz12_0 : w7.cell? ⟨gb567, 0, none⟩ = some (.slice A1_0 l1_0.length c1_0) := (Qab BK567.out 0).trans (by first | rfl | (rw [← Nbq26.out]; rfl)); have hcz12_1 : w7.cell? ⟨gb567, 1, none⟩ = some (.int .i64 a1_1) := (Qab BK567.out 1).trans (by first | rfl | (rw [← Nbq26.out]; rfl)); have hcz12_2 : w7.cell? ⟨gb567, 2, none⟩ = some (.int .i64 a1_2) := (Qab BK567.out 2).trans (by first | rfl | (rw [← Nbq26.out]; rfl)); have hcz12_3 : w7.cell? ⟨gb567, 3, none⟩ = some (.int .i64 a1_3) := (Qab BK567.out 3).trans (by first | rfl | (rw [← Nbq26.out]; rfl)); have hcz12_4 : w7.cell? ⟨gb567, 4, none⟩ = some (.int .i64 a1_4) := (Qab BK567.out 4).trans (by first | rfl | (rw [← Nbq26.out]; rfl)); have hcz12_5 : w7.cell? ⟨gb567, 5, none⟩ = some (.int .i64 a1_5) := (Qab BK567.out 5).trans (by first | rfl | (rw [← Nbq26.out]; rfl)); have hcz12_6 : w7.cell? ⟨gb567, 6, none⟩ = some (.int .i64 a1_6) := (Qab BK567.out 6).trans (by first | rfl | (rw [← Nbq26.out]; rfl)); have hcz12_7 : w7.cell? ⟨gb567, 7, none⟩ = some (.int .i64 a1_7) := (Qab BK567.out 7).trans (by first | rfl | (rw [← Nbq26.out]; rfl)); have hfz12_0 := Qaa BK567.out 0; have hfz12_1 := Qaa BK567.out 1; have hfz12_2 := Qaa BK567.out 2; have hfz12_3 := Qaa BK567.out 3; have hfz12_4 := Qaa BK567.out 4; have hfz12_5 := Qaa BK567.out 5; have hfz12_6 := Qaa BK567.out 6; have hfz12_7 := Qaa BK567.out 7) | ((with_reducible refine QaC (f := 40) rfl ?_); refine goesL_ (some 20) rfl rfl Try.func40 (by kernel_rfl) rfl #[.agg #[.string a0_0, .int .i64 a0_1, .int .i64 a0_2, .int .i64 a0_3, .int .i64 a0_4, .int .i64 a0_5, .bool a0_6], .agg #[.slice A1_0 l1_0.length c1_0, .int .i64 a1_1, .int .i64 a1_2, .int .i64 a1_3, .int .i64 a1_4, .int .i64 a1_5, .int .i64 a1_6, .int .i64 a1_7]] rfl (Zl) ?_; (with_reducible refine (QaM.calls k a0_0 a0_1 a0_2 a0_3 a0_4 a0_5 a0_6 _ _ l1_0 a1_1 a1_2 a1_3 a1_4 a1_5 a1_6 a1_7 t569 t570 t571 _ ?side1 ?side2 A4.out).mono ?_); (case side1 => exact Zv (Kd.C_below HR1_0.out HB.out)); (case side2 => exact HC1_0.out); rintro e w13 ⟨rfl, hb⟩; refine ⟨_, rfl, ?_⟩; replace BK566 := Aside0.mk (Zi BK566.out hb); replace BK567 := Aside0.mk (Zi BK567.out hb); replace BK568 := Aside0.mk (Zi BK568.out hb); replace HB := Aside0.mk (Qao (Zc3 GE566.out GE567.out GE568.out) hb); (try clear hb); (try clear hb2); (try clear hk); (try clear hi)))
 (try simp only [Act.put, Zj, Zk, Zm])
 by_cases c14 : t571 = 0
 ·rw [if_pos c14] at H
  have c14b0 : (t571 == 0) = F := beq_iff_eq.mpr c14
  have c14b1 : (t571 != 0) = J := bne_eq_false_iff_eq.mpr c14
  clear c14
  (try simp only [c14b0, c14b1])
  replace H := Option.bind_eq_some_iff.mp H
  obtain ⟨t573, A150, H⟩ := H
  replace H : (if t573 = 0 then (contangotop_TopPrices.l0 k t569 0 a0_0 a0_1 a0_2 a0_3 a0_4 a0_5 a0_6 l2_0 a2_1 a2_2) else (none)) = some r := H
  have A15 := Aside0.mk A150
  clear A150
  have hnb16 := NB566_567.out
  have hnc16 := NB567_566.out
  have hnb17 := NB566_568.out
  have hnc17 := NB568_566.out
  have hcz18_0 : w13.cell? ⟨gb566, 0, none⟩ = some (.string a0_0) := (Qab BK566.out 0).trans (by first | rfl | (rw [← Nbq26.out]; rfl))
  have hcz18_1 : w13.cell? ⟨gb566, 1, none⟩ = some (.int .i64 a0_1) := (Qab BK566.out 1).trans (by first | rfl | (rw [← Nbq26.out]; rfl))
  have hcz18_2 : w13.cell? ⟨gb566, 2, none⟩ = some (.int .i64 a0_2) := (Qab BK566.out 2).trans (by first | rfl | (rw [← Nbq26.out]; rfl))
  have hcz18_3 : w13.cell? ⟨gb566, 3, none⟩ = some (.int .i64 a0_3) := (Qab BK566.out 3).trans (by first | rfl | (rw [← Nbq26.out]; rfl))
  have hcz18_4 : w13.cell? ⟨gb566, 4, none⟩ = some (.int .i64 a0_4) := (Qab BK566.out 4).trans (by first | rfl | (rw [← Nbq26.out]; rfl))
  have hcz18_5 : w13.cell? ⟨gb566, 5, none⟩ = some (.int .i64 a0_5) := (Qab BK566.out 5).trans (by first | rfl | (rw [← Nbq26.out]; rfl))
  have hcz18_6 : w13.cell? ⟨gb566, 6, none⟩ = some (.bool a0_6) := (Qab BK566.out 6).trans (by first | rfl | (rw [← Nbq26.out]; rfl))
  have hfz18_0 := Qaa BK566.out 0
  have hfz18_1 := Qaa BK566.out 1
  have hfz18_2 := Qaa BK566.out 2
  have hfz18_3 := Qaa BK566.out 3
  have hfz18_4 := Qaa BK566.out 4
  have hfz18_5 := Qaa BK566.out 5
  have hfz18_6 := Qaa BK566.out 6
  go_upto_if 38 with (first | ((with_reducible refine QaC (f := 42) rfl ?_); refine goesL_ (some 37) rfl rfl Try.func42 (by kernel_rfl) rfl #[.agg #[.string a0_0, .int .i64 a0_1, .int .i64 a0_2, .int .i64 a0_3, .int .i64 a0_4, .int .i64 a0_5, .bool a0_6], .int .i64 t569] rfl (Zl) ?_; (with_reducible refine (Qau.calls k a0_0 a0_1 a0_2 a0_3 a0_4 a0_5 a0_6 t569 t573 _ A15.out).mono ?_); rintro e w19 ⟨rfl, hb⟩; refine ⟨_, rfl, ?_⟩; replace BK566 := Aside0.mk (Zi BK566.out hb); replace BK567 := Aside0.mk (Zi BK567.out hb); replace BK568 := Aside0.mk (Zi BK568.out hb); replace HB := Aside0.mk (Qao (Zc3 GE566.out GE567.out GE568.out) hb); (try clear hb); (try clear hb2); (try clear hk); (try clear hi)))
  (try simp only [Act.put, Zj, Zk, Zm])
  by_cases c20 : t573 = 0
  ·rw [if_pos c20] at H
   have c20b0 : (t573 == 0) = F := beq_iff_eq.mpr c20
   have c20b1 : (t573 != 0) = J := bne_eq_false_iff_eq.mpr c20
   clear c20
   (try simp only [c20b0, c20b1])
   have H' := Aside0.mk H
   clear H
   go_wp2
   go_loopg [10] k (fun kq v10 w' => ∃ (x10_1 : Int), v10 = .int .i64 x10_1 ∧ Aside0 (contangotop_TopPrices.l0 kq t569 x10_1 a0_0 a0_1 a0_2 a0_3 a0_4 a0_5 a0_6 l2_0 a2_1 a2_2 = some r) ∧ Aside0 (kq ≤ k) ∧ Aside0 (w'.heap[gb566]? = some (.cells #[.string a0_0, .int .i64 a0_1, .int .i64 a0_2, .int .i64 a0_3, .int .i64 a0_4, .int .i64 a0_5, .bool a0_6] 73 (0, 0))) ∧ Aside0 (w'.heap[gb567]? = some (.cells #[(.slice A1_0 l1_0.length c1_0), .int .i64 a1_1, .int .i64 a1_2, .int .i64 a1_3, .int .i64 a1_4, .int .i64 a1_5, .int .i64 a1_6, .int .i64 a1_7] 76 (0, 0))) ∧ Aside0 (w'.heap[gb568]? = some (.cells #[(.slice A2_0 l2_0.length c2_0), .int .i64 a2_1, .int .i64 a2_2] 78 (0, 0))) ∧ Aside0 (Below w.heap.size w w'))
   case atStart => exact ⟨(0), (Zs), H', ⟨Nat.le_refl _⟩, ⟨Zu BK566.out⟩, ⟨Zu BK567.out⟩, ⟨Zu BK568.out⟩, ⟨Zc3 GE566.out GE567.out GE568.out⟩⟩
   case round =>
    clear H'
    try clear c1
    try clear c2
    try clear p2
    try clear c4
    try clear c8
    try clear c9
    try clear c11
    try clear c13
    try clear c14
    try clear c14b0
    try clear c14b1
    try clear c16
    try clear c17
    try clear c20
    try clear c20b0
    try clear c20b1
    try clear hcz10_0
    try clear hcz10_1
    try clear hcz10_2
    try clear hcz10_3
    try clear hcz10_4
    try clear hcz10_5
    try clear hcz10_6
    try clear hcz12_0
    try clear hcz12_1
    try clear hcz12_2
    try clear hcz12_3
    try clear hcz12_4
    try clear hcz12_5
    try clear hcz12_6
    try clear hcz12_7
    try clear hcz18_0
    try clear hcz18_1
    try clear hcz18_2
    try clear hcz18_3
    try clear hcz18_4
    try clear hcz18_5
    try clear hcz18_6
    try clear hfz10_0
    try clear hfz10_1
    try clear hfz10_2
    try clear hfz10_3
    try clear hfz10_4
    try clear hfz10_5
    try clear hfz10_6
    try clear hfz12_0
    try clear hfz12_1
    try clear hfz12_2
    try clear hfz12_3
    try clear hfz12_4
    try clear hfz12_5
    try clear hfz12_6
    try clear hfz12_7
    try clear hfz18_0
    try clear hfz18_1
    try clear hfz18_2
    try clear hfz18_3
    try clear hfz18_4
    try clear hfz18_5
    try clear hfz18_6
    obtain ⟨x10_1, rfl, HA, HK1, BK566, BK567, BK568, HB⟩ := hrel
    cases gk with
    | zero => exact absurd HA.out (by simp [contangotop_TopPrices.l0])
    | succ k1 =>
     have H := HA.out
     clear HA
     simp only [contangotop_TopPrices.l0] at H
     have hnb21 := NB568_566.out
     have hnc21 := NB566_568.out
     have hnb22 := NB568_567.out
     have hnc22 := NB567_568.out
     have hcz23_0 : wr.cell? ⟨gb568, 0, none⟩ = some (.slice A2_0 l2_0.length c2_0) := (Qab BK568.out 0).trans (by first | rfl | (rw [← Nbq26.out]; rfl))
     have hcz23_1 : wr.cell? ⟨gb568, 1, none⟩ = some (.int .i64 a2_1) := (Qab BK568.out 1).trans (by first | rfl | (rw [← Nbq26.out]; rfl))
     have hcz23_2 : wr.cell? ⟨gb568, 2, none⟩ = some (.int .i64 a2_2) := (Qab BK568.out 2).trans (by first | rfl | (rw [← Nbq26.out]; rfl))
     have hfz23_0 := Qaa BK568.out 0
     have hfz23_1 := Qaa BK568.out 1
     have hfz23_2 := Qaa BK568.out 2
     go_upto_if 43 with (fail)
     by_cases c24 : x10_1 < (l2_0.length : Int)
     ·rw [if_pos c24] at H
      have c24b0 : decide (x10_1 < (l2_0.length : Int)) = F := decide_eq_true c24
      clear c24
      (try simp only [c24b0])
      by_cases c25 : 0 ≤ x10_1
      ·rw [if_pos c25] at H
       have c25b0 : decide (0 ≤ x10_1) = F := decide_eq_true c25
       clear c25
       obtain ⟨bq26, hbq26⟩ : ∃ b_ : Bool, b_ = ((rd_T56 l2_0 x10_1).f2) := ⟨_, rfl⟩
       replace H : (if bq26 = F then ((Qau.f k1 a0_0 a0_1 a0_2 a0_3 a0_4 a0_5 a0_6 ((rd_T56 l2_0 x10_1).f1)).bind fun t576 => (if t576 = 0 then (contangotop_TopPrices.l0 k1 t569 (wrap64 (x10_1 + 1)) a0_0 a0_1 a0_2 a0_3 a0_4 a0_5 a0_6 l2_0 a2_1 a2_2) else ((Qav.f k1).bind fun t577 => (some t577)))) else (contangotop_TopPrices.l0 k1 t569 (wrap64 (x10_1 + 1)) a0_0 a0_1 a0_2 a0_3 a0_4 a0_5 a0_6 l2_0 a2_1 a2_2)) = some r := by rw [← hbq26] at H; exact H
       have Nbq26 := Aside0.mk hbq26
       clear hbq26
       by_cases c27 : bq26 = F
       ·subst c27
        have H1 : ((Qau.f k1 a0_0 a0_1 a0_2 a0_3 a0_4 a0_5 a0_6 ((rd_T56 l2_0 x10_1).f1)).bind fun t576 => (if t576 = 0 then (contangotop_TopPrices.l0 k1 t569 (wrap64 (x10_1 + 1)) a0_0 a0_1 a0_2 a0_3 a0_4 a0_5 a0_6 l2_0 a2_1 a2_2) else ((Qav.f k1).bind fun t577 => (some t577)))) = some r := by rw [if_pos rfl] at H; exact H
        clear H
        have H := H1
        clear H1
        replace H := Option.bind_eq_some_iff.mp H
        obtain ⟨t576, A280, H⟩ := H
        replace H : (if t576 = 0 then (contangotop_TopPrices.l0 k1 t569 (wrap64 (x10_1 + 1)) a0_0 a0_1 a0_2 a0_3 a0_4 a0_5 a0_6 l2_0 a2_1 a2_2) else ((Qav.f k1).bind fun t577 => (some t577))) = some r := H
        have A28 := Aside0.mk A280
        clear A280
        try go_wp2
        replace BK566 := Aside0.mk (Qae BK566.out)
        replace BK567 := Aside0.mk (Qae BK567.out)
        replace BK568 := Aside0.mk (Qae BK568.out)
        replace HB := Aside0.mk (Qai HB.out)
        have p574 : 0 ≤ (x10_1 : Int) := Ze
        have q574 : x10_1 < (l2_0.length : Int) := Ze
        obtain ⟨ad574, e574, hx574_0, hx574_1, hx574_2⟩ := at_T56 HR2_0.out x10_1 p574 q574
        have hw574_2 := hx574_2
        have hw574_1 := hx574_1
        have hw574_0 := hx574_0
        (try rw [← Nbq26.out] at hx574_2); (try rw [← Nbq26.out] at hw574_2)
        cases e574
        replace hx574_0 := Zx HB.out hx574_0
        replace hx574_1 := Zx HB.out hx574_1
        replace hx574_2 := Zx HB.out hx574_2
        replace p574 := eq_true p574
        replace q574 := eq_true q574
        have p575 : 0 ≤ (x10_1 : Int) := Ze
        have q575 : x10_1 < (l2_0.length : Int) := Ze
        obtain ⟨ad575, e575, hx575_0, hx575_1, hx575_2⟩ := at_T56 HR2_0.out x10_1 p575 q575
        have hw575_2 := hx575_2
        have hw575_1 := hx575_1
        have hw575_0 := hx575_0
        (try rw [← Nbq26.out] at hx575_2); (try rw [← Nbq26.out] at hw575_2)
        obtain rfl : ad574 = ad575 := (by injection e575)
        replace hx575_0 := Zx HB.out hx575_0
        replace hx575_1 := Zx HB.out hx575_1
        replace hx575_2 := Zx HB.out hx575_2
        replace p575 := eq_true p575
        replace q575 := eq_true q575
        refine start_ (n := 17) (S := fun w' => w'.cell? ⟨gb568, 0, none⟩ = some (.slice (some ad574) l2_0.length c2_0) ∧ w'.cell? ⟨gb568, 1, none⟩ = some (.int .i64 a2_1) ∧ w'.cell? ⟨gb568, 2, none⟩ = some (.int .i64 a2_2) ∧ w'.cell? ⟨gb566, 0, none⟩ = some (.string a0_0) ∧ w'.cell? ⟨gb566, 1, none⟩ = some (.int .i64 a0_1) ∧ w'.cell? ⟨gb566, 2, none⟩ = some (.int .i64 a0_2) ∧ w'.cell? ⟨gb566, 3, none⟩ = some (.int .i64 a0_3) ∧ w'.cell? ⟨gb566, 4, none⟩ = some (.int .i64 a0_4) ∧ w'.cell? ⟨gb566, 5, none⟩ = some (.int .i64 a0_5) ∧ w'.cell? ⟨gb566, 6, none⟩ = some (.bool a0_6) ∧ w'.cell? (ad574.add ((x10_1).toNat * 3)) = some (.int .i64 ((rd_T56 l2_0 x10_1).f0)) ∧ w'.cell? ⟨(ad574.add ((x10_1).toNat * 3)).block, (ad574.add ((x10_1).toNat * 3)).off + 1, none⟩ = some (.int .i64 ((rd_T56 l2_0 x10_1).f1)) ∧ w'.cell? ⟨(ad574.add ((x10_1).toNat * 3)).block, (ad574.add ((x10_1).toNat * 3)).off + 2, none⟩ = some (.bool F) ∧ w'.cell? (ad574.add ((x10_1).toNat * 3)) = some (.int .i64 ((rd_T56 l2_0 x10_1).f0)) ∧ w'.cell? ⟨(ad574.add ((x10_1).toNat * 3)).block, (ad574.add ((x10_1).toNat * 3)).off + 1, none⟩ = some (.int .i64 ((rd_T56 l2_0 x10_1).f1)) ∧ w'.cell? ⟨(ad574.add ((x10_1).toNat * 3)).block, (ad574.add ((x10_1).toNat * 3)).off + 2, none⟩ = some (.bool (F))) (ds := []) #[J, J, J, J, J, J, J, J, J, J, J, J, J, J, J, J, J] (by kernel_rfl) rfl rfl ⟨(Qab BK568.out 0).trans (by first | rfl | (rw [← Nbq26.out]; rfl)), (Qab BK568.out 1).trans (by first | rfl | (rw [← Nbq26.out]; rfl)), (Qab BK568.out 2).trans (by first | rfl | (rw [← Nbq26.out]; rfl)), (Qab BK566.out 0).trans (by first | rfl | (rw [← Nbq26.out]; rfl)), (Qab BK566.out 1).trans (by first | rfl | (rw [← Nbq26.out]; rfl)), (Qab BK566.out 2).trans (by first | rfl | (rw [← Nbq26.out]; rfl)), (Qab BK566.out 3).trans (by first | rfl | (rw [← Nbq26.out]; rfl)), (Qab BK566.out 4).trans (by first | rfl | (rw [← Nbq26.out]; rfl)), (Qab BK566.out 5).trans (by first | rfl | (rw [← Nbq26.out]; rfl)), (Qab BK566.out 6).trans (by first | rfl | (rw [← Nbq26.out]; rfl)), ((HB.out.cell (World.block_lt_of_cell? w _ hw574_0)).trans hw574_0), ((HB.out.cell (World.block_lt_of_cell? w _ hw574_1)).trans hw574_1), ((HB.out.cell (World.block_lt_of_cell? w _ hw574_2)).trans hw574_2), ((HB.out.cell (World.block_lt_of_cell? w _ hw575_0)).trans hw575_0), ((HB.out.cell (World.block_lt_of_cell? w _ hw575_1)).trans hw575_1), ((HB.out.cell (World.block_lt_of_cell? w _ hw575_2)).trans hw575_2)⟩ (fun hHeld => ?_); refine QbB contangotop_TopPrices.tab9 contangotop_TopPrices.bits9 (fun HT_ HW_ => ?_)
        generalize wr.drew = w29 at BK566 BK567 BK568 HB hx574_0 hx574_1 hx574_2 hx575_0 hx575_1 hx575_2 hHeld ⊢
        refine pure_ (i := 0) (N := some 46) (v := ?_) (a' := ?_) #[F, J, J, J, J, J, J, J, J, J, J, J, J, J, J, J, J] rfl rfl (any_of HT_.out (by kernel_rfl)) (fun _ _ _ h => h) (Or.inl ⟨by rfl, ?_⟩) ?_ ?_
        rotate_left
        ·intro w'
         go_simp
         with_reducible rfl
        rotate_left
        ·simp only [Act.put, Zj, Zk, Zm, i64_w, i32_w]
         rfl
        refine pure_ (i := 2) (N := some 48) (v := ?_) (a' := ?_) #[F, J, F, J, J, J, J, J, J, J, J, J, J, J, J, J, J] rfl rfl (any_of HT_.out (by kernel_rfl)) (fun _ _ _ h => h) (Or.inl ⟨by rfl, ?_⟩) ?_ ?_
        rotate_left
        ·intro w'
         go_simp
         with_reducible rfl
        rotate_left
        ·simp only [Act.put, Zj, Zk, Zm, i64_w, i32_w]
         rfl
        refine take_ (i := 1) (N := some 47) (v := ?_) (a' := ?_) #[F, F, F, J, J, J, J, J, J, J, J, J, J, J, J, J, J] rfl rfl (Qa4 HT_.out HW_.out (by kernel_rfl)) (fun _ _ _ h => h) (Or.inl ⟨by rfl, ?_⟩) hHeld ?_ ?_
        rotate_left
        ·rintro w' ⟨s0, s1, s2, s3, s4, s5, s6, s7, s8, s9, s10, s11, s12, s13, s14, s15⟩
         go_simp
         with_reducible rfl
        rotate_left
        ·simp only [Act.put, Zj, Zk, Zm, i64_w, i32_w]
         rfl
        refine pure_ (i := 3) (N := some 49) (v := ?_) (a' := ?_) #[F, F, F, F, J, J, J, J, J, J, J, J, J, J, J, J, J] rfl rfl (any_of HT_.out (by kernel_rfl)) (fun _ _ _ h => h) (Or.inl ⟨by rfl, ?_⟩) ?_ ?_
        rotate_left
        ·intro w'
         go_simp
         with_reducible rfl
        rotate_left
        ·simp only [Act.put, Zj, Zk, Zm, i64_w, i32_w]
         rfl
        refine pure_ (i := 4) (N := some 50) (v := ?_) (a' := ?_) #[F, F, F, F, F, J, J, J, J, J, J, J, J, J, J, J, J] rfl rfl (any_of HT_.out (by kernel_rfl)) (fun _ _ _ h => h) (Or.inl ⟨by rfl, ?_⟩) ?_ ?_
        rotate_left
        ·intro w'
         go_simp
         with_reducible rfl
        rotate_left
        ·simp only [Act.put, Zj, Zk, Zm, i64_w, i32_w]
         rfl
        refine take_ (i := 5) (N := some 51) (v := ?_) (a' := ?_) #[F, F, F, F, F, F, J, J, J, J, J, J, J, J, J, J, J] rfl rfl (Qa4 HT_.out HW_.out (by kernel_rfl)) (fun _ _ _ h => h) (Or.inl ⟨by rfl, ?_⟩) hHeld ?_ ?_
        rotate_left
        ·rintro w' ⟨s0, s1, s2, s3, s4, s5, s6, s7, s8, s9, s10, s11, s12, s13, s14, s15⟩
         go_simp
         with_reducible rfl
        rotate_left
        ·simp only [Act.put, Zj, Zk, Zm, i64_w, i32_w]
         rfl
        refine pure_ (i := 6) (N := some 52) (v := ?_) (a' := ?_) #[F, F, F, F, F, F, F, J, J, J, J, J, J, J, J, J, J] rfl rfl (any_of HT_.out (by kernel_rfl)) (fun _ _ _ h => h) (Or.inl ⟨by rfl, ?_⟩) ?_ ?_
        rotate_left
        ·intro w'
         go_simp
         with_reducible rfl
        rotate_left
        ·simp only [Act.put, Zj, Zk, Zm, i64_w, i32_w]
         rfl
        refine pure_ (i := 8) (N := some 54) (v := ?_) (a' := ?_) #[F, F, F, F, F, F, F, J, F, J, J, J, J, J, J, J, J] rfl rfl (any_of HT_.out (by kernel_rfl)) (fun _ _ _ h => h) (Or.inl ⟨by rfl, ?_⟩) ?_ ?_
        rotate_left
        ·intro w'
         go_simp
         with_reducible rfl
        rotate_left
        ·simp only [Act.put, Zj, Zk, Zm, i64_w, i32_w]
         rfl
        refine pure_ (i := 10) (N := some 56) (v := ?_) (a' := ?_) #[F, F, F, F, F, F, F, J, F, J, F, J, J, J, J, J, J] rfl rfl (any_of HT_.out (by kernel_rfl)) (fun _ _ _ h => h) (Or.inl ⟨by rfl, ?_⟩) ?_ ?_
        rotate_left
        ·intro w'
         go_simp
         with_reducible rfl
        rotate_left
        ·simp only [Act.put, Zj, Zk, Zm, i64_w, i32_w]
         rfl
        refine take_ (i := 7) (N := some 53) (v := ?_) (a' := ?_) #[F, F, F, F, F, F, F, F, F, J, F, J, J, J, J, J, J] rfl rfl (Qa4 HT_.out HW_.out (by kernel_rfl)) (fun _ _ _ h => h) (Or.inl ⟨by rfl, ?_⟩) hHeld ?_ ?_
        rotate_left
        ·rintro w' ⟨s0, s1, s2, s3, s4, s5, s6, s7, s8, s9, s10, s11, s12, s13, s14, s15⟩
         go_simp
         with_reducible rfl
        rotate_left
        ·simp only [Act.put, Zj, Zk, Zm, i64_w, i32_w]
         rfl
        refine take_ (i := 9) (N := some 55) (v := ?_) (a' := ?_) #[F, F, F, F, F, F, F, F, F, F, F, J, J, J, J, J, J] rfl rfl (Qa4 HT_.out HW_.out (by kernel_rfl)) (fun _ _ _ h => h) (Or.inl ⟨by rfl, ?_⟩) hHeld ?_ ?_
        rotate_left
        ·rintro w' ⟨s0, s1, s2, s3, s4, s5, s6, s7, s8, s9, s10, s11, s12, s13, s14, s15⟩
         go_simp
         with_reducible rfl
        rotate_left
        ·simp only [Act.put, Zj, Zk, Zm, i64_w, i32_w]
         rfl
        refine pure_ (i := 11) (N := some 57) (v := ?_) (a' := ?_) #[F, F, F, F, F, F, F, F, F, F, F, F, J, J, J, J, J] rfl rfl (any_of HT_.out (by kernel_rfl)) (fun _ _ _ h => h) (Or.inl ⟨by rfl, ?_⟩) ?_ ?_
        rotate_left
        ·intro w'
         go_simp
         with_reducible rfl
        rotate_left
        ·simp only [Act.put, Zj, Zk, Zm, i64_w, i32_w]
         rfl
        refine pure_ (i := 12) (N := some 58) (v := ?_) (a' := ?_) #[F, F, F, F, F, F, F, F, F, F, F, F, F, J, J, J, J] rfl rfl (any_of HT_.out (by kernel_rfl)) (fun _ _ _ h => h) (Or.inl ⟨by rfl, ?_⟩) ?_ ?_
        rotate_left
        ·intro w'
         go_simp
         with_reducible rfl
        rotate_left
        ·simp only [Act.put, Zj, Zk, Zm, i64_w, i32_w]
         rfl
        refine take_ (i := 13) (N := some 59) (v := ?_) (a' := ?_) #[F, F, F, F, F, F, F, F, F, F, F, F, F, F, J, J, J] rfl rfl (Qa4 HT_.out HW_.out (by kernel_rfl)) (fun _ _ _ h => h) (Or.inl ⟨by rfl, ?_⟩) hHeld ?_ ?_
        rotate_left
        ·rintro w' ⟨s0, s1, s2, s3, s4, s5, s6, s7, s8, s9, s10, s11, s12, s13, s14, s15⟩
         go_simp
         with_reducible rfl
        rotate_left
        ·simp only [Act.put, Zj, Zk, Zm, i64_w, i32_w]
         rfl
        refine one_ (i := 14) (N := some 60) #[F, F, F, F, F, F, F, F, F, F, F, F, F, F, F, J, J] rfl rfl (one_of HT_.out (by kernel_rfl)) (by decide) (fun K hK => ?_)
        refine goes_ Try.func42 (by kernel_rfl) rfl #[.agg #[.string a0_0, .int .i64 a0_1, .int .i64 a0_2, .int .i64 a0_3, .int .i64 a0_4, .int .i64 a0_5, .bool a0_6], .int .i64 ((rd_T56 l2_0 x10_1).f1)] (by rfl) rfl rfl (Zl) ?_
        with_reducible refine (Qau.calls k1 a0_0 a0_1 a0_2 a0_3 a0_4 a0_5 a0_6 ((rd_T56 l2_0 x10_1).f1) t576 _ A28.out).mono ?_
        rintro e w30 ⟨rfl, hb⟩
        refine ⟨_, rfl, ?_⟩
        replace BK566 := Aside0.mk (Zi BK566.out hb)
        replace BK567 := Aside0.mk (Zi BK567.out hb)
        replace BK568 := Aside0.mk (Zi BK568.out hb)
        replace HB := Aside0.mk (Qao (Zc3 GE566.out GE567.out GE568.out) hb)
        (try clear hb)
        (try clear hb2)
        (try clear hk)
        (try clear hi)
        refine hK.out _ _ ⟨(Qab BK568.out 0).trans (by first | rfl | (rw [← Nbq26.out]; rfl)), (Qab BK568.out 1).trans (by first | rfl | (rw [← Nbq26.out]; rfl)), (Qab BK568.out 2).trans (by first | rfl | (rw [← Nbq26.out]; rfl)), (Qab BK566.out 0).trans (by first | rfl | (rw [← Nbq26.out]; rfl)), (Qab BK566.out 1).trans (by first | rfl | (rw [← Nbq26.out]; rfl)), (Qab BK566.out 2).trans (by first | rfl | (rw [← Nbq26.out]; rfl)), (Qab BK566.out 3).trans (by first | rfl | (rw [← Nbq26.out]; rfl)), (Qab BK566.out 4).trans (by first | rfl | (rw [← Nbq26.out]; rfl)), (Qab BK566.out 5).trans (by first | rfl | (rw [← Nbq26.out]; rfl)), (Qab BK566.out 6).trans (by first | rfl | (rw [← Nbq26.out]; rfl)), ((HB.out.cell (World.block_lt_of_cell? w _ hw574_0)).trans hw574_0), ((HB.out.cell (World.block_lt_of_cell? w _ hw574_1)).trans hw574_1), ((HB.out.cell (World.block_lt_of_cell? w _ hw574_2)).trans hw574_2), ((HB.out.cell (World.block_lt_of_cell? w _ hw575_0)).trans hw575_0), ((HB.out.cell (World.block_lt_of_cell? w _ hw575_1)).trans hw575_1), ((HB.out.cell (World.block_lt_of_cell? w _ hw575_2)).trans hw575_2)⟩ (fun hHeld => ?_)
        clear hK K
        refine norm_ (a' := ?_) ?_ ?_
        rotate_left
        ·show Act.put _ (some 60) _ = _
         simp only [Act.put, Zj, Zk, Zm, i64_w, i32_w]
         rfl
        refine pure_ (i := 15) (N := some 61) (v := ?_) (a' := ?_) #[F, F, F, F, F, F, F, F, F, F, F, F, F, F, F, F, J] rfl rfl (any_of HT_.out (by kernel_rfl)) (fun _ _ _ h => h) (Or.inl ⟨by rfl, ?_⟩) ?_ ?_
        rotate_left
        ·intro w'
         go_simp
         with_reducible rfl
        rotate_left
        ·simp only [Act.put, Zj, Zk, Zm, i64_w, i32_w]
         rfl
        refine pure_ (i := 16) (N := some 62) (v := ?_) (a' := ?_) #[F, F, F, F, F, F, F, F, F, F, F, F, F, F, F, F, F] rfl rfl (any_of HT_.out (by kernel_rfl)) (fun _ _ _ h => h) (Or.inl ⟨by rfl, ?_⟩) ?_ ?_
        rotate_left
        ·intro w'
         go_simp
         with_reducible rfl
        rotate_left
        ·simp only [Act.put, Zj, Zk, Zm, i64_w, i32_w]
         rfl
        refine done_ (QbJ HT_.out (by kernel_rfl)) ?_
        go_upto_if 62 with (fail)
        (try rw [← Nbq26.out])
        by_cases c31 : t576 = 0
        ·rw [if_pos c31] at H
         have c31b0 : (t576 == 0) = F := beq_iff_eq.mpr c31
         have c31b1 : (t576 != 0) = J := bne_eq_false_iff_eq.mpr c31
         clear c31
         (try simp only [c31b0, c31b1])
         have H' := Aside0.mk H
         clear H
         go_wp2
         go_roundg k1
         case measure => have := HK1.out; omega
         case rel => exact ⟨(wrap64 (x10_1 + 1)), (Zs), H', ⟨by have := HK1.out; omega⟩, ⟨Zu BK566.out⟩, ⟨Zu BK567.out⟩, ⟨Zu BK568.out⟩, ⟨Zc3 GE566.out GE567.out GE568.out⟩⟩
        rw [if_neg c31] at H
        have c31b0 : (t576 == 0) = J := beq_eq_false_iff_ne.mpr c31
        have c31b1 : (t576 != 0) = F := bne_iff_ne.mpr c31
        (try simp only [c31b0, c31b1])
        replace H := Option.bind_eq_some_iff.mp H
        obtain ⟨t577, A320, H⟩ := H
        replace H : (some t577) = some r := H
        have A32 := Aside0.mk A320
        clear A320
        obtain rfl := Option.some.inj H
        go_wp2_with (first | ((with_reducible refine QaC (f := 41) rfl ?_); refine goesL_ (some 63) rfl rfl Try.func41 (by kernel_rfl) rfl #[] rfl (Zl) ?_; (with_reducible refine (Qav.calls k1  t577 _ A32.out).mono ?_); rintro e w33 ⟨rfl, hb⟩; refine ⟨_, rfl, ?_⟩; replace BK566 := Aside0.mk (Zi BK566.out hb); replace BK567 := Aside0.mk (Zi BK567.out hb); replace BK568 := Aside0.mk (Zi BK568.out hb); replace HB := Aside0.mk (Qao (Zc3 GE566.out GE567.out GE568.out) hb); (try clear hb); (try clear hb2); (try clear hk); (try clear hi)))
        go_ret
        exact ⟨Zq, Zc3 GE566.out GE567.out GE568.out⟩
       replace c27 := Bool.eq_false_iff.mpr c27
       subst c27
       have H1 : (contangotop_TopPrices.l0 k1 t569 (wrap64 (x10_1 + 1)) a0_0 a0_1 a0_2 a0_3 a0_4 a0_5 a0_6 l2_0 a2_1 a2_2) = some r := by rw [if_neg (show ¬ (J = F) by decide)] at H; exact H
       clear H
       have H := H1
       clear H1
       have H' := Aside0.mk H
       clear H
       try go_wp2
       replace BK566 := Aside0.mk (Qae BK566.out)
       replace BK567 := Aside0.mk (Qae BK567.out)
       replace BK568 := Aside0.mk (Qae BK568.out)
       replace HB := Aside0.mk (Qai HB.out)
       have p574 : 0 ≤ (x10_1 : Int) := Ze
       have q574 : x10_1 < (l2_0.length : Int) := Ze
       obtain ⟨ad574, e574, hx574_0, hx574_1, hx574_2⟩ := at_T56 HR2_0.out x10_1 p574 q574
       have hw574_2 := hx574_2
       have hw574_1 := hx574_1
       have hw574_0 := hx574_0
       (try rw [← Nbq26.out] at hx574_2); (try rw [← Nbq26.out] at hw574_2)
       cases e574
       replace hx574_0 := Zx HB.out hx574_0
       replace hx574_1 := Zx HB.out hx574_1
       replace hx574_2 := Zx HB.out hx574_2
       replace p574 := eq_true p574
       replace q574 := eq_true q574
       refine start_ (n := 17) (S := fun w' => w'.cell? ⟨gb568, 0, none⟩ = some (.slice (some ad574) l2_0.length c2_0) ∧ w'.cell? ⟨gb568, 1, none⟩ = some (.int .i64 a2_1) ∧ w'.cell? ⟨gb568, 2, none⟩ = some (.int .i64 a2_2) ∧ w'.cell? (ad574.add ((x10_1).toNat * 3)) = some (.int .i64 ((rd_T56 l2_0 x10_1).f0)) ∧ w'.cell? ⟨(ad574.add ((x10_1).toNat * 3)).block, (ad574.add ((x10_1).toNat * 3)).off + 1, none⟩ = some (.int .i64 ((rd_T56 l2_0 x10_1).f1)) ∧ w'.cell? ⟨(ad574.add ((x10_1).toNat * 3)).block, (ad574.add ((x10_1).toNat * 3)).off + 2, none⟩ = some (.bool J)) (ds := []) #[J, J, J, J, J, J, J, J, J, J, J, J, J, J, J, J, J] (by kernel_rfl) rfl rfl ⟨(Qab BK568.out 0).trans (by first | rfl | (rw [← Nbq26.out]; rfl)), (Qab BK568.out 1).trans (by first | rfl | (rw [← Nbq26.out]; rfl)), (Qab BK568.out 2).trans (by first | rfl | (rw [← Nbq26.out]; rfl)), ((HB.out.cell (World.block_lt_of_cell? w _ hw574_0)).trans hw574_0), ((HB.out.cell (World.block_lt_of_cell? w _ hw574_1)).trans hw574_1), ((HB.out.cell (World.block_lt_of_cell? w _ hw574_2)).trans hw574_2)⟩ (fun hHeld => ?_); refine QbB contangotop_TopPrices.tab9 contangotop_TopPrices.bits9 (fun HT_ HW_ => ?_)
       generalize wr.drew = w34 at BK566 BK567 BK568 HB hx574_0 hx574_1 hx574_2 hHeld ⊢
       refine pure_ (i := 0) (N := some 46) (v := ?_) (a' := ?_) #[F, J, J, J, J, J, J, J, J, J, J, J, J, J, J, J, J] rfl rfl (any_of HT_.out (by kernel_rfl)) (fun _ _ _ h => h) (Or.inl ⟨by rfl, ?_⟩) ?_ ?_
       rotate_left
       ·intro w'
        go_simp
        with_reducible rfl
       rotate_left
       ·simp only [Act.put, Zj, Zk, Zm, i64_w, i32_w]
        rfl
       refine pure_ (i := 2) (N := some 48) (v := ?_) (a' := ?_) #[F, J, F, J, J, J, J, J, J, J, J, J, J, J, J, J, J] rfl rfl (any_of HT_.out (by kernel_rfl)) (fun _ _ _ h => h) (Or.inl ⟨by rfl, ?_⟩) ?_ ?_
       rotate_left
       ·intro w'
        go_simp
        with_reducible rfl
       rotate_left
       ·simp only [Act.put, Zj, Zk, Zm, i64_w, i32_w]
        rfl
       refine take_ (i := 1) (N := some 47) (v := ?_) (a' := ?_) #[F, F, F, J, J, J, J, J, J, J, J, J, J, J, J, J, J] rfl rfl (Qa4 HT_.out HW_.out (by kernel_rfl)) (fun _ _ _ h => h) (Or.inl ⟨by rfl, ?_⟩) hHeld ?_ ?_
       rotate_left
       ·rintro w' ⟨s0, s1, s2, s3, s4, s5⟩
        go_simp
        with_reducible rfl
       rotate_left
       ·simp only [Act.put, Zj, Zk, Zm, i64_w, i32_w]
        rfl
       refine pure_ (i := 3) (N := some 49) (v := ?_) (a' := ?_) #[F, F, F, F, J, J, J, J, J, J, J, J, J, J, J, J, J] rfl rfl (any_of HT_.out (by kernel_rfl)) (fun _ _ _ h => h) (Or.inl ⟨by rfl, ?_⟩) ?_ ?_
       rotate_left
       ·intro w'
        go_simp
        with_reducible rfl
       rotate_left
       ·simp only [Act.put, Zj, Zk, Zm, i64_w, i32_w]
        rfl
       refine pure_ (i := 4) (N := some 50) (v := ?_) (a' := ?_) #[F, F, F, F, F, J, J, J, J, J, J, J, J, J, J, J, J] rfl rfl (any_of HT_.out (by kernel_rfl)) (fun _ _ _ h => h) (Or.inl ⟨by rfl, ?_⟩) ?_ ?_
       rotate_left
       ·intro w'
        go_simp
        with_reducible rfl
       rotate_left
       ·simp only [Act.put, Zj, Zk, Zm, i64_w, i32_w]
        rfl
       refine take_ (i := 5) (N := some 51) (v := ?_) (a' := ?_) #[F, F, F, F, F, F, J, J, J, J, J, J, J, J, J, J, J] rfl rfl (Qa4 HT_.out HW_.out (by kernel_rfl)) (fun _ _ _ h => h) (Or.inl ⟨by rfl, ?_⟩) hHeld ?_ ?_
       rotate_left
       ·rintro w' ⟨s0, s1, s2, s3, s4, s5⟩
        go_simp
        with_reducible rfl
       rotate_left
       ·simp only [Act.put, Zj, Zk, Zm, i64_w, i32_w]
        rfl
       refine pure_ (i := 6) (N := some 52) (v := ?_) (a' := ?_) #[F, F, F, F, F, F, F, J, J, J, J, J, J, J, J, J, J] rfl rfl (any_of HT_.out (by kernel_rfl)) (fun _ _ _ h => h) (Or.inl ⟨by rfl, ?_⟩) ?_ ?_
       rotate_left
       ·intro w'
        go_simp
        with_reducible rfl
       rotate_left
       ·simp only [Act.put, Zj, Zk, Zm, i64_w, i32_w]
        rfl
       refine pure_ (i := 7) (N := some 53) (v := undef) (a' := ?_) #[F, F, F, F, F, F, F, F, J, J, J, J, J, J, J, J, J] rfl rfl (any_of HT_.out (by kernel_rfl)) (fun _ _ _ h => h) (Or.inr ⟨by rfl, rfl⟩) ?_ ?_
       rotate_left
       ·simp only [Act.put, Zj, Zk, Zm, i64_w, i32_w]
        rfl
       refine pure_ (i := 8) (N := some 54) (v := undef) (a' := ?_) #[F, F, F, F, F, F, F, F, F, J, J, J, J, J, J, J, J] rfl rfl (any_of HT_.out (by kernel_rfl)) (fun _ _ _ h => h) (Or.inr ⟨by rfl, rfl⟩) ?_ ?_
       rotate_left
       ·simp only [Act.put, Zj, Zk, Zm, i64_w, i32_w]
        rfl
       refine pure_ (i := 9) (N := some 55) (v := undef) (a' := ?_) #[F, F, F, F, F, F, F, F, F, F, J, J, J, J, J, J, J] rfl rfl (any_of HT_.out (by kernel_rfl)) (fun _ _ _ h => h) (Or.inr ⟨by rfl, rfl⟩) ?_ ?_
       rotate_left
       ·simp only [Act.put, Zj, Zk, Zm, i64_w, i32_w]
        rfl
       refine pure_ (i := 10) (N := some 56) (v := undef) (a' := ?_) #[F, F, F, F, F, F, F, F, F, F, F, J, J, J, J, J, J] rfl rfl (any_of HT_.out (by kernel_rfl)) (fun _ _ _ h => h) (Or.inr ⟨by rfl, rfl⟩) ?_ ?_
       rotate_left
       ·simp only [Act.put, Zj, Zk, Zm, i64_w, i32_w]
        rfl
       refine pure_ (i := 11) (N := some 57) (v := undef) (a' := ?_) #[F, F, F, F, F, F, F, F, F, F, F, F, J, J, J, J, J] rfl rfl (any_of HT_.out (by kernel_rfl)) (fun _ _ _ h => h) (Or.inr ⟨by rfl, rfl⟩) ?_ ?_
       rotate_left
       ·simp only [Act.put, Zj, Zk, Zm, i64_w, i32_w]
        rfl
       refine pure_ (i := 12) (N := some 58) (v := undef) (a' := ?_) #[F, F, F, F, F, F, F, F, F, F, F, F, F, J, J, J, J] rfl rfl (any_of HT_.out (by kernel_rfl)) (fun _ _ _ h => h) (Or.inr ⟨by rfl, rfl⟩) ?_ ?_
       rotate_left
       ·simp only [Act.put, Zj, Zk, Zm, i64_w, i32_w]
        rfl
       refine pure_ (i := 13) (N := some 59) (v := undef) (a' := ?_) #[F, F, F, F, F, F, F, F, F, F, F, F, F, F, J, J, J] rfl rfl (any_of HT_.out (by kernel_rfl)) (fun _ _ _ h => h) (Or.inr ⟨by rfl, rfl⟩) ?_ ?_
       rotate_left
       ·simp only [Act.put, Zj, Zk, Zm, i64_w, i32_w]
        rfl
       refine pure_ (i := 14) (N := some 60) (v := undef) (a' := ?_) #[F, F, F, F, F, F, F, F, F, F, F, F, F, F, F, J, J] rfl rfl (any_of HT_.out (by kernel_rfl)) (fun _ _ _ h => h) (Or.inr ⟨by rfl, rfl⟩) ?_ ?_
       rotate_left
       ·simp only [Act.put, Zj, Zk, Zm, i64_w, i32_w]
        rfl
       refine pure_ (i := 15) (N := some 61) (v := undef) (a' := ?_) #[F, F, F, F, F, F, F, F, F, F, F, F, F, F, F, F, J] rfl rfl (any_of HT_.out (by kernel_rfl)) (fun _ _ _ h => h) (Or.inr ⟨by rfl, rfl⟩) ?_ ?_
       rotate_left
       ·simp only [Act.put, Zj, Zk, Zm, i64_w, i32_w]
        rfl
       refine pure_ (i := 16) (N := some 62) (v := ?_) (a' := ?_) #[F, F, F, F, F, F, F, F, F, F, F, F, F, F, F, F, F] rfl rfl (any_of HT_.out (by kernel_rfl)) (fun _ _ _ h => h) (Or.inl ⟨by rfl, ?_⟩) ?_ ?_
       rotate_left
       ·intro w'
        go_simp
        with_reducible rfl
       rotate_left
       ·simp only [Act.put, Zj, Zk, Zm, i64_w, i32_w]
        rfl
       refine done_ (QbJ HT_.out (by kernel_rfl)) ?_
       try go_wp2
       go_roundg k1
       case measure => have := HK1.out; omega
       case rel => exact ⟨(wrap64 (x10_1 + 1)), (Zs), H', ⟨by have := HK1.out; omega⟩, ⟨Zu BK566.out⟩, ⟨Zu BK567.out⟩, ⟨Zu BK568.out⟩, ⟨Zc3 GE566.out GE567.out GE568.out⟩⟩
      rw [if_neg c25] at H
      exact absurd H (by simp)
     rw [if_neg c24] at H
     have c24b0 : decide (x10_1 < (l2_0.length : Int)) = J := decide_eq_false c24
     clear c24
     (try simp only [c24b0])
     replace H := Option.bind_eq_some_iff.mp H
     obtain ⟨⟨t578, t579⟩, A350, H⟩ := H
     replace H : (if t579 = 0 then ((QaW.f k1 a0_0 a0_1 a0_2 a0_3 a0_4 a0_5 a0_6 a2_2 t569 t578).bind fun bt581 => ((QaR.f k1 a0_0 a0_1 a0_2 a0_3 a0_4 a0_5 a0_6 (wrap64 (t578 - t569)) a2_2).bind fun bt583 => ((Qau.f k1 a0_0 a0_1 a0_2 a0_3 a0_4 a0_5 a0_6 t578).bind fun t585 => (if t585 = 0 then (if bt581.1 = bt583.1 then (if bt581.2 = bt583.2 then (if a2_2 ≥ (-1048576) then (if ((bt581.2 == 0) == (decide (a2_2 ≤ 1048576))) = F then ((Qa7.f bt581.1).bind fun t586 => (if t586 = F then ((Qav.f k1).bind fun t587 => (some t587)) else (none))) else (none)) else (if ((bt581.2 == 0) == J) = F then ((Qa7.f bt581.1).bind fun t588 => (if t588 = F then ((Qav.f k1).bind fun t589 => (some t589)) else (none))) else (none))) else (none)) else (none)) else (none))))) else ((Qav.f k1).bind fun t580 => (some t580))) = some r := H
     have A35 := Aside0.mk A350
     clear A350
     have hnb36 := NB568_566.out
     have hnc36 := NB566_568.out
     have hnb37 := NB568_567.out
     have hnc37 := NB567_568.out
     have hcz38_0 : wr.cell? ⟨gb568, 0, none⟩ = some (.slice A2_0 l2_0.length c2_0) := (Qab BK568.out 0).trans (by first | rfl | (rw [← Nbq26.out]; rfl))
     have hcz38_1 : wr.cell? ⟨gb568, 1, none⟩ = some (.int .i64 a2_1) := (Qab BK568.out 1).trans (by first | rfl | (rw [← Nbq26.out]; rfl))
     have hcz38_2 : wr.cell? ⟨gb568, 2, none⟩ = some (.int .i64 a2_2) := (Qab BK568.out 2).trans (by first | rfl | (rw [← Nbq26.out]; rfl))
     have hfz38_0 := Qaa BK568.out 0
     have hfz38_1 := Qaa BK568.out 1
     have hfz38_2 := Qaa BK568.out 2
     have hnb39 := NB566_567.out
     have hnc39 := NB567_566.out
     have hcz40_0 : wr.cell? ⟨gb566, 0, none⟩ = some (.string a0_0) := (Qab BK566.out 0).trans (by first | rfl | (rw [← Nbq26.out]; rfl))
     have hcz40_1 : wr.cell? ⟨gb566, 1, none⟩ = some (.int .i64 a0_1) := (Qab BK566.out 1).trans (by first | rfl | (rw [← Nbq26.out]; rfl))
     have hcz40_2 : wr.cell? ⟨gb566, 2, none⟩ = some (.int .i64 a0_2) := (Qab BK566.out 2).trans (by first | rfl | (rw [← Nbq26.out]; rfl))
     have hcz40_3 : wr.cell? ⟨gb566, 3, none⟩ = some (.int .i64 a0_3) := (Qab BK566.out 3).trans (by first | rfl | (rw [← Nbq26.out]; rfl))
     have hcz40_4 : wr.cell? ⟨gb566, 4, none⟩ = some (.int .i64 a0_4) := (Qab BK566.out 4).trans (by first | rfl | (rw [← Nbq26.out]; rfl))
     have hcz40_5 : wr.cell? ⟨gb566, 5, none⟩ = some (.int .i64 a0_5) := (Qab BK566.out 5).trans (by first | rfl | (rw [← Nbq26.out]; rfl))
     have hcz40_6 : wr.cell? ⟨gb566, 6, none⟩ = some (.bool a0_6) := (Qab BK566.out 6).trans (by first | rfl | (rw [← Nbq26.out]; rfl))
     have hfz40_0 := Qaa BK566.out 0
     have hfz40_1 := Qaa BK566.out 1
     have hfz40_2 := Qaa BK566.out 2
     have hfz40_3 := Qaa BK566.out 3
     have hfz40_4 := Qaa BK566.out 4
     have hfz40_5 := Qaa BK566.out 5
     have hfz40_6 := Qaa BK566.out 6
     go_upto_if 75 with (first | ((with_reducible refine QaC (f := 29) rfl ?_); refine goesL_ (some 71) rfl rfl Try.func29 (by kernel_rfl) rfl #[.slice A2_0 l2_0.length c2_0, .int .i64 a2_1, .int .i64 a0_3] rfl (Zl) ?_; (with_reducible refine (Qbj.calls k1 _ _ l2_0 a2_1 a0_3 t578 t579 _ ?side1 ?side2 A35.out).mono ?_); (case side1 => exact Zv (Kd.C_below HR2_0.out HB.out)); (case side2 => exact HC2_0.out); rintro e w41 ⟨rfl, hb⟩; refine ⟨_, rfl, ?_⟩; replace BK566 := Aside0.mk (Zi BK566.out hb); replace BK567 := Aside0.mk (Zi BK567.out hb); replace BK568 := Aside0.mk (Zi BK568.out hb); replace HB := Aside0.mk (Qao (Zc3 GE566.out GE567.out GE568.out) hb); (try clear hb); (try clear hb2); (try clear hk); (try clear hi)))
     (try simp only [Act.put, Zj, Zk, Zm])
     by_cases c42 : t579 = 0
     ·rw [if_pos c42] at H
      have c42b0 : (t579 == 0) = F := beq_iff_eq.mpr c42
      have c42b1 : (t579 != 0) = J := bne_eq_false_iff_eq.mpr c42
      clear c42
      (try simp only [c42b0, c42b1])
      replace H := Option.bind_eq_some_iff.mp H
      obtain ⟨⟨t581, t582⟩, A430, H⟩ := H
      replace H : ((QaR.f k1 a0_0 a0_1 a0_2 a0_3 a0_4 a0_5 a0_6 (wrap64 (t578 - t569)) a2_2).bind fun bt583 => ((Qau.f k1 a0_0 a0_1 a0_2 a0_3 a0_4 a0_5 a0_6 t578).bind fun t585 => (if t585 = 0 then (if t581 = bt583.1 then (if t582 = bt583.2 then (if a2_2 ≥ (-1048576) then (if ((t582 == 0) == (decide (a2_2 ≤ 1048576))) = F then ((Qa7.f t581).bind fun t586 => (if t586 = F then ((Qav.f k1).bind fun t587 => (some t587)) else (none))) else (none)) else (if ((t582 == 0) == J) = F then ((Qa7.f t581).bind fun t588 => (if t588 = F then ((Qav.f k1).bind fun t589 => (some t589)) else (none))) else (none))) else (none)) else (none)) else (none)))) = some r := H
      have A43 := Aside0.mk A430
      clear A430
      replace H := Option.bind_eq_some_iff.mp H
      obtain ⟨⟨t583, t584⟩, A440, H⟩ := H
      replace H : ((Qau.f k1 a0_0 a0_1 a0_2 a0_3 a0_4 a0_5 a0_6 t578).bind fun t585 => (if t585 = 0 then (if t581 = t583 then (if t582 = t584 then (if a2_2 ≥ (-1048576) then (if ((t582 == 0) == (decide (a2_2 ≤ 1048576))) = F then ((Qa7.f t581).bind fun t586 => (if t586 = F then ((Qav.f k1).bind fun t587 => (some t587)) else (none))) else (none)) else (if ((t582 == 0) == J) = F then ((Qa7.f t581).bind fun t588 => (if t588 = F then ((Qav.f k1).bind fun t589 => (some t589)) else (none))) else (none))) else (none)) else (none)) else (none))) = some r := H
      have A44 := Aside0.mk A440
      clear A440
      have hnb45 := NB566_567.out
      have hnc45 := NB567_566.out
      have hnb46 := NB566_568.out
      have hnc46 := NB568_566.out
      have hcz47_0 : w41.cell? ⟨gb566, 0, none⟩ = some (.string a0_0) := (Qab BK566.out 0).trans (by first | rfl | (rw [← Nbq26.out]; rfl))
      have hcz47_1 : w41.cell? ⟨gb566, 1, none⟩ = some (.int .i64 a0_1) := (Qab BK566.out 1).trans (by first | rfl | (rw [← Nbq26.out]; rfl))
      have hcz47_2 : w41.cell? ⟨gb566, 2, none⟩ = some (.int .i64 a0_2) := (Qab BK566.out 2).trans (by first | rfl | (rw [← Nbq26.out]; rfl))
      have hcz47_3 : w41.cell? ⟨gb566, 3, none⟩ = some (.int .i64 a0_3) := (Qab BK566.out 3).trans (by first | rfl | (rw [← Nbq26.out]; rfl))
      have hcz47_4 : w41.cell? ⟨gb566, 4, none⟩ = some (.int .i64 a0_4) := (Qab BK566.out 4).trans (by first | rfl | (rw [← Nbq26.out]; rfl))
      have hcz47_5 : w41.cell? ⟨gb566, 5, none⟩ = some (.int .i64 a0_5) := (Qab BK566.out 5).trans (by first | rfl | (rw [← Nbq26.out]; rfl))
      have hcz47_6 : w41.cell? ⟨gb566, 6, none⟩ = some (.bool a0_6) := (Qab BK566.out 6).trans (by first | rfl | (rw [← Nbq26.out]; rfl))
      have hfz47_0 := Qaa BK566.out 0
      have hfz47_1 := Qaa BK566.out 1
      have hfz47_2 := Qaa BK566.out 2
      have hfz47_3 := Qaa BK566.out 3
      have hfz47_4 := Qaa BK566.out 4
      have hfz47_5 := Qaa BK566.out 5
      have hfz47_6 := Qaa BK566.out 6
      have hnb48 := NB568_567.out
      have hnc48 := NB567_568.out
      have hcz49_0 : w41.cell? ⟨gb568, 0, none⟩ = some (.slice A2_0 l2_0.length c2_0) := (Qab BK568.out 0).trans (by first | rfl | (rw [← Nbq26.out]; rfl))
      have hcz49_1 : w41.cell? ⟨gb568, 1, none⟩ = some (.int .i64 a2_1) := (Qab BK568.out 1).trans (by first | rfl | (rw [← Nbq26.out]; rfl))
      have hcz49_2 : w41.cell? ⟨gb568, 2, none⟩ = some (.int .i64 a2_2) := (Qab BK568.out 2).trans (by first | rfl | (rw [← Nbq26.out]; rfl))
      have hfz49_0 := Qaa BK568.out 0
      have hfz49_1 := Qaa BK568.out 1
      have hfz49_2 := Qaa BK568.out 2
      go_upto_region 16 with (first | ((with_reducible refine QaC (f := 43) rfl ?_); refine goesL_ (some 83) rfl rfl Try.func43 (by kernel_rfl) rfl #[.agg #[.string a0_0, .int .i64 a0_1, .int .i64 a0_2, .int .i64 a0_3, .int .i64 a0_4, .int .i64 a0_5, .bool a0_6], .int .i64 a2_2, .int .i64 t569, .int .i64 t578] rfl (Zl) ?_; (with_reducible refine (QaW.calls k1 a0_0 a0_1 a0_2 a0_3 a0_4 a0_5 a0_6 a2_2 t569 t578 t581 t582 _ A43.out).mono ?_); rintro e w50 ⟨rfl, hb⟩; refine ⟨_, rfl, ?_⟩; replace BK566 := Aside0.mk (Zi BK566.out hb); replace BK567 := Aside0.mk (Zi BK567.out hb); replace BK568 := Aside0.mk (Zi BK568.out hb); replace HB := Aside0.mk (Qao (Zc3 GE566.out GE567.out GE568.out) hb); (try clear hb); (try clear hb2); (try clear hk); (try clear hi); have hcz51_0 : w50.cell? ⟨gb566, 0, none⟩ = some (.string a0_0) := (Qab BK566.out 0).trans (by first | rfl | (rw [← Nbq26.out]; rfl)); have hcz51_1 : w50.cell? ⟨gb566, 1, none⟩ = some (.int .i64 a0_1) := (Qab BK566.out 1).trans (by first | rfl | (rw [← Nbq26.out]; rfl)); have hcz51_2 : w50.cell? ⟨gb566, 2, none⟩ = some (.int .i64 a0_2) := (Qab BK566.out 2).trans (by first | rfl | (rw [← Nbq26.out]; rfl)); have hcz51_3 : w50.cell? ⟨gb566, 3, none⟩ = some (.int .i64 a0_3) := (Qab BK566.out 3).trans (by first | rfl | (rw [← Nbq26.out]; rfl)); have hcz51_4 : w50.cell? ⟨gb566, 4, none⟩ = some (.int .i64 a0_4) := (Qab BK566.out 4).trans (by first | rfl | (rw [← Nbq26.out]; rfl)); have hcz51_5 : w50.cell? ⟨gb566, 5, none⟩ = some (.int .i64 a0_5) := (Qab BK566.out 5).trans (by first | rfl | (rw [← Nbq26.out]; rfl)); have hcz51_6 : w50.cell? ⟨gb566, 6, none⟩ = some (.bool a0_6) := (Qab BK566.out 6).trans (by first | rfl | (rw [← Nbq26.out]; rfl)); have hfz51_0 := Qaa BK566.out 0; have hfz51_1 := Qaa BK566.out 1; have hfz51_2 := Qaa BK566.out 2; have hfz51_3 := Qaa BK566.out 3; have hfz51_4 := Qaa BK566.out 4; have hfz51_5 := Qaa BK566.out 5; have hfz51_6 := Qaa BK566.out 6; have hcz52_0 : w50.cell? ⟨gb568, 0, none⟩ = some (.slice A2_0 l2_0.length c2_0) := (Qab BK568.out 0).trans (by first | rfl | (rw [← Nbq26.out]; rfl)); have hcz52_1 : w50.cell? ⟨gb568, 1, none⟩ = some (.int .i64 a2_1) := (Qab BK568.out 1).trans (by first | rfl | (rw [← Nbq26.out]; rfl)); have hcz52_2 : w50.cell? ⟨gb568, 2, none⟩ = some (.int .i64 a2_2) := (Qab BK568.out 2).trans (by first | rfl | (rw [← Nbq26.out]; rfl)); have hfz52_0 := Qaa BK568.out 0; have hfz52_1 := Qaa BK568.out 1; have hfz52_2 := Qaa BK568.out 2) | ((with_reducible refine QaC (f := 44) rfl ?_); refine goesL_ (some 93) rfl rfl Try.func44 (by kernel_rfl) rfl #[.agg #[.string a0_0, .int .i64 a0_1, .int .i64 a0_2, .int .i64 a0_3, .int .i64 a0_4, .int .i64 a0_5, .bool a0_6], .int .i64 (wrap64 (t578 - t569)), .int .i64 a2_2] rfl (Zl) ?_; (with_reducible refine (QaR.calls k1 a0_0 a0_1 a0_2 a0_3 a0_4 a0_5 a0_6 (wrap64 (t578 - t569)) a2_2 t583 t584 _ A44.out).mono ?_); rintro e w53 ⟨rfl, hb⟩; refine ⟨_, rfl, ?_⟩; replace BK566 := Aside0.mk (Zi BK566.out hb); replace BK567 := Aside0.mk (Zi BK567.out hb); replace BK568 := Aside0.mk (Zi BK568.out hb); replace HB := Aside0.mk (Qao (Zc3 GE566.out GE567.out GE568.out) hb); (try clear hb); (try clear hb2); (try clear hk); (try clear hi)))
      (try simp only [Act.put, Zj, Zk, Zm])
      replace H := Option.bind_eq_some_iff.mp H
      obtain ⟨t585, A540, H⟩ := H
      replace H : (if t585 = 0 then (if t581 = t583 then (if t582 = t584 then (if a2_2 ≥ (-1048576) then (if ((t582 == 0) == (decide (a2_2 ≤ 1048576))) = F then ((Qa7.f t581).bind fun t586 => (if t586 = F then ((Qav.f k1).bind fun t587 => (some t587)) else (none))) else (none)) else (if ((t582 == 0) == J) = F then ((Qa7.f t581).bind fun t588 => (if t588 = F then ((Qav.f k1).bind fun t589 => (some t589)) else (none))) else (none))) else (none)) else (none)) else (none)) = some r := H
      have A54 := Aside0.mk A540
      clear A540
      by_cases c55 : t585 = 0
      ·rw [if_pos c55] at H
       have c55b0 : (t585 == 0) = F := beq_iff_eq.mpr c55
       have c55b1 : (t585 != 0) = J := bne_eq_false_iff_eq.mpr c55
       clear c55
       (try simp only [c55b0, c55b1])
       by_cases c56 : t581 = t583
       ·rw [if_pos c56] at H
        have c56b0 : (t581 == t583) = F := beq_iff_eq.mpr c56
        have c56b1 : (t581 != t583) = J := bne_eq_false_iff_eq.mpr c56
        clear c56
        by_cases c57 : t582 = t584
        ·rw [if_pos c57] at H
         have c57b0 : (t582 == t584) = F := beq_iff_eq.mpr c57
         have c57b1 : (t582 != t584) = J := bne_eq_false_iff_eq.mpr c57
         clear c57
         by_cases c58 : a2_2 ≥ (-1048576)
         ·rw [if_pos c58] at H
          have c58b0 : decide ((-1048576) ≤ a2_2) = F := decide_eq_true c58
          clear c58
          by_cases c59 : ((t582 == 0) == (decide (a2_2 ≤ 1048576))) = F
          ·rw [if_pos c59] at H
           have c59b0 : ((t582 == 0) == (decide (a2_2 ≤ 1048576))) = F := c59
           (try (have c59b1 : decide ((t582 == 0) = (decide (a2_2 ≤ 1048576))) = F := by simpa using c59))
           (try (have c59b2 : ((t582 == 0) == (decide (a2_2 ≤ 1048576))) = F := by simpa using c59))
           clear c59
           replace H := Option.bind_eq_some_iff.mp H
           obtain ⟨t586, A600, H⟩ := H
           replace H : (if t586 = F then ((Qav.f k1).bind fun t587 => (some t587)) else (none)) = some r := H
           have A60 := Aside0.mk A600
           clear A600
           by_cases c61 : t586 = F
           ·subst c61
            have H1 : ((Qav.f k1).bind fun t587 => (some t587)) = some r := by rw [if_pos rfl] at H; exact H
            clear H
            have H := H1
            clear H1
            replace H := Option.bind_eq_some_iff.mp H
            obtain ⟨t587, A620, H⟩ := H
            replace H : (some t587) = some r := H
            have A62 := Aside0.mk A620
            clear A620
            obtain rfl := Option.some.inj H
            have hnb63 := NB566_567.out
            have hnc63 := NB567_566.out
            have hnb64 := NB566_568.out
            have hnc64 := NB568_566.out
            have hcz65_0 : w53.cell? ⟨gb566, 0, none⟩ = some (.string a0_0) := (Qab BK566.out 0).trans (by first | rfl | (rw [← Nbq26.out]; rfl))
            have hcz65_1 : w53.cell? ⟨gb566, 1, none⟩ = some (.int .i64 a0_1) := (Qab BK566.out 1).trans (by first | rfl | (rw [← Nbq26.out]; rfl))
            have hcz65_2 : w53.cell? ⟨gb566, 2, none⟩ = some (.int .i64 a0_2) := (Qab BK566.out 2).trans (by first | rfl | (rw [← Nbq26.out]; rfl))
            have hcz65_3 : w53.cell? ⟨gb566, 3, none⟩ = some (.int .i64 a0_3) := (Qab BK566.out 3).trans (by first | rfl | (rw [← Nbq26.out]; rfl))
            have hcz65_4 : w53.cell? ⟨gb566, 4, none⟩ = some (.int .i64 a0_4) := (Qab BK566.out 4).trans (by first | rfl | (rw [← Nbq26.out]; rfl))
            have hcz65_5 : w53.cell? ⟨gb566, 5, none⟩ = some (.int .i64 a0_5) := (Qab BK566.out 5).trans (by first | rfl | (rw [← Nbq26.out]; rfl))
            have hcz65_6 : w53.cell? ⟨gb566, 6, none⟩ = some (.bool a0_6) := (Qab BK566.out 6).trans (by first | rfl | (rw [← Nbq26.out]; rfl))
            have hfz65_0 := Qaa BK566.out 0
            have hfz65_1 := Qaa BK566.out 1
            have hfz65_2 := Qaa BK566.out 2
            have hfz65_3 := Qaa BK566.out 3
            have hfz65_4 := Qaa BK566.out 4
            have hfz65_5 := Qaa BK566.out 5
            have hfz65_6 := Qaa BK566.out 6
            go_wp2_with (first | ((with_reducible refine QaC (f := 42) rfl ?_); refine goesL_ (some 98) rfl rfl Try.func42 (by kernel_rfl) rfl #[.agg #[.string a0_0, .int .i64 a0_1, .int .i64 a0_2, .int .i64 a0_3, .int .i64 a0_4, .int .i64 a0_5, .bool a0_6], .int .i64 t578] rfl (Zl) ?_; (with_reducible refine (Qau.calls k1 a0_0 a0_1 a0_2 a0_3 a0_4 a0_5 a0_6 t578 t585 _ A54.out).mono ?_); rintro e w66 ⟨rfl, hb⟩; refine ⟨_, rfl, ?_⟩; replace BK566 := Aside0.mk (Zi BK566.out hb); replace BK567 := Aside0.mk (Zi BK567.out hb); replace BK568 := Aside0.mk (Zi BK568.out hb); replace HB := Aside0.mk (Qao (Zc3 GE566.out GE567.out GE568.out) hb); (try clear hb); (try clear hb2); (try clear hk); (try clear hi); have hnb67 := NB568_567.out; have hnc67 := NB567_568.out; have hcz68_0 : w66.cell? ⟨gb568, 0, none⟩ = some (.slice A2_0 l2_0.length c2_0) := (Qab BK568.out 0).trans (by first | rfl | (rw [← Nbq26.out]; rfl)); have hcz68_1 : w66.cell? ⟨gb568, 1, none⟩ = some (.int .i64 a2_1) := (Qab BK568.out 1).trans (by first | rfl | (rw [← Nbq26.out]; rfl)); have hcz68_2 : w66.cell? ⟨gb568, 2, none⟩ = some (.int .i64 a2_2) := (Qab BK568.out 2).trans (by first | rfl | (rw [← Nbq26.out]; rfl)); have hfz68_0 := Qaa BK568.out 0; have hfz68_1 := Qaa BK568.out 1; have hfz68_2 := Qaa BK568.out 2) | (go_at_call 45; (with_reducible refine (Qa7.calls t581 F _ A60.out).mono ?_); rintro e w' ⟨rfl, ⟨nd, rfl⟩⟩) | (go_at_call 41; (with_reducible refine (Qav.calls k1  t587 _ A62.out).mono ?_); rintro e w69 ⟨rfl, hb⟩; replace BK566 := Aside0.mk (Zi BK566.out hb); replace BK567 := Aside0.mk (Zi BK567.out hb); replace BK568 := Aside0.mk (Zi BK568.out hb); replace HB := Aside0.mk (Qao (Zc3 GE566.out GE567.out GE568.out) hb); (try clear hb); (try clear hb2); (try clear hk); (try clear hi)))
            go_ret
            exact ⟨Zq, Zc3 GE566.out GE567.out GE568.out⟩
           replace c61 := Bool.eq_false_iff.mpr c61
           subst c61
           have H1 : (none) = some r := by rw [if_neg (show ¬ (J = F) by decide)] at H; exact H
           clear H
           have H := H1
           clear H1
           exact absurd H (by simp)
          rw [if_neg c59] at H
          exact absurd H (by simp)
         rw [if_neg c58] at H
         have c58b0 : decide ((-1048576) ≤ a2_2) = J := decide_eq_false c58
         clear c58
         by_cases c70 : ((t582 == 0) == J) = F
         ·rw [if_pos c70] at H
          have c70b0 : ((t582 == 0) == J) = F := c70
          (try (have c70b1 : decide ((t582 == 0) = J) = F := by simpa using c70))
          (try (have c70b2 : ((t582 == 0) == J) = F := by simpa using c70))
          clear c70
          replace H := Option.bind_eq_some_iff.mp H
          obtain ⟨t588, A710, H⟩ := H
          replace H : (if t588 = F then ((Qav.f k1).bind fun t589 => (some t589)) else (none)) = some r := H
          have A71 := Aside0.mk A710
          clear A710
          by_cases c72 : t588 = F
          ·subst c72
           have H1 : ((Qav.f k1).bind fun t589 => (some t589)) = some r := by rw [if_pos rfl] at H; exact H
           clear H
           have H := H1
           clear H1
           replace H := Option.bind_eq_some_iff.mp H
           obtain ⟨t589, A730, H⟩ := H
           replace H : (some t589) = some r := H
           have A73 := Aside0.mk A730
           clear A730
           obtain rfl := Option.some.inj H
           have hnb74 := NB566_567.out
           have hnc74 := NB567_566.out
           have hnb75 := NB566_568.out
           have hnc75 := NB568_566.out
           have hcz76_0 : w53.cell? ⟨gb566, 0, none⟩ = some (.string a0_0) := (Qab BK566.out 0).trans (by first | rfl | (rw [← Nbq26.out]; rfl))
           have hcz76_1 : w53.cell? ⟨gb566, 1, none⟩ = some (.int .i64 a0_1) := (Qab BK566.out 1).trans (by first | rfl | (rw [← Nbq26.out]; rfl))
           have hcz76_2 : w53.cell? ⟨gb566, 2, none⟩ = some (.int .i64 a0_2) := (Qab BK566.out 2).trans (by first | rfl | (rw [← Nbq26.out]; rfl))
           have hcz76_3 : w53.cell? ⟨gb566, 3, none⟩ = some (.int .i64 a0_3) := (Qab BK566.out 3).trans (by first | rfl | (rw [← Nbq26.out]; rfl))
           have hcz76_4 : w53.cell? ⟨gb566, 4, none⟩ = some (.int .i64 a0_4) := (Qab BK566.out 4).trans (by first | rfl | (rw [← Nbq26.out]; rfl))
           have hcz76_5 : w53.cell? ⟨gb566, 5, none⟩ = some (.int .i64 a0_5) := (Qab BK566.out 5).trans (by first | rfl | (rw [← Nbq26.out]; rfl))
           have hcz76_6 : w53.cell? ⟨gb566, 6, none⟩ = some (.bool a0_6) := (Qab BK566.out 6).trans (by first | rfl | (rw [← Nbq26.out]; rfl))
           have hfz76_0 := Qaa BK566.out 0
           have hfz76_1 := Qaa BK566.out 1
           have hfz76_2 := Qaa BK566.out 2
           have hfz76_3 := Qaa BK566.out 3
           have hfz76_4 := Qaa BK566.out 4
           have hfz76_5 := Qaa BK566.out 5
           have hfz76_6 := Qaa BK566.out 6
           go_wp2_with (first | ((with_reducible refine QaC (f := 42) rfl ?_); refine goesL_ (some 98) rfl rfl Try.func42 (by kernel_rfl) rfl #[.agg #[.string a0_0, .int .i64 a0_1, .int .i64 a0_2, .int .i64 a0_3, .int .i64 a0_4, .int .i64 a0_5, .bool a0_6], .int .i64 t578] rfl (Zl) ?_; (with_reducible refine (Qau.calls k1 a0_0 a0_1 a0_2 a0_3 a0_4 a0_5 a0_6 t578 t585 _ A54.out).mono ?_); rintro e w77 ⟨rfl, hb⟩; refine ⟨_, rfl, ?_⟩; replace BK566 := Aside0.mk (Zi BK566.out hb); replace BK567 := Aside0.mk (Zi BK567.out hb); replace BK568 := Aside0.mk (Zi BK568.out hb); replace HB := Aside0.mk (Qao (Zc3 GE566.out GE567.out GE568.out) hb); (try clear hb); (try clear hb2); (try clear hk); (try clear hi); have hnb78 := NB568_567.out; have hnc78 := NB567_568.out; have hcz79_0 : w77.cell? ⟨gb568, 0, none⟩ = some (.slice A2_0 l2_0.length c2_0) := (Qab BK568.out 0).trans (by first | rfl | (rw [← Nbq26.out]; rfl)); have hcz79_1 : w77.cell? ⟨gb568, 1, none⟩ = some (.int .i64 a2_1) := (Qab BK568.out 1).trans (by first | rfl | (rw [← Nbq26.out]; rfl)); have hcz79_2 : w77.cell? ⟨gb568, 2, none⟩ = some (.int .i64 a2_2) := (Qab BK568.out 2).trans (by first | rfl | (rw [← Nbq26.out]; rfl)); have hfz79_0 := Qaa BK568.out 0; have hfz79_1 := Qaa BK568.out 1; have hfz79_2 := Qaa BK568.out 2) | (go_at_call 45; (with_reducible refine (Qa7.calls t581 F _ A71.out).mono ?_); rintro e w' ⟨rfl, ⟨nd, rfl⟩⟩) | (go_at_call 41; (with_reducible refine (Qav.calls k1  t589 _ A73.out).mono ?_); rintro e w80 ⟨rfl, hb⟩; replace BK566 := Aside0.mk (Zi BK566.out hb); replace BK567 := Aside0.mk (Zi BK567.out hb); replace BK568 := Aside0.mk (Zi BK568.out hb); replace HB := Aside0.mk (Qao (Zc3 GE566.out GE567.out GE568.out) hb); (try clear hb); (try clear hb2); (try clear hk); (try clear hi)))
           go_ret
           exact ⟨Zq, Zc3 GE566.out GE567.out GE568.out⟩
          replace c72 := Bool.eq_false_iff.mpr c72
          subst c72
          have H1 : (none) = some r := by rw [if_neg (show ¬ (J = F) by decide)] at H; exact H
          clear H
          have H := H1
          clear H1
          exact absurd H (by simp)
         rw [if_neg c70] at H
         exact absurd H (by simp)
        rw [if_neg c57] at H
        exact absurd H (by simp)
       rw [if_neg c56] at H
       exact absurd H (by simp)
      rw [if_neg c55] at H
      exact absurd H (by simp)
     rw [if_neg c42] at H
     have c42b0 : (t579 == 0) = J := beq_eq_false_iff_ne.mpr c42
     have c42b1 : (t579 != 0) = F := bne_iff_ne.mpr c42
     (try simp only [c42b0, c42b1])
     replace H := Option.bind_eq_some_iff.mp H
     obtain ⟨t580, A810, H⟩ := H
     replace H : (some t580) = some r := H
     have A81 := Aside0.mk A810
     clear A810
     obtain rfl := Option.some.inj H
     go_wp2_with (first | ((with_reducible refine QaC (f := 41) rfl ?_); refine goesL_ (some 76) rfl rfl Try.func41 (by kernel_rfl) rfl #[] rfl (Zl) ?_; (with_reducible refine (Qav.calls k1  t580 _ A81.out).mono ?_); rintro e w82 ⟨rfl, hb⟩; refine ⟨_, rfl, ?_⟩; replace BK566 := Aside0.mk (Zi BK566.out hb); replace BK567 := Aside0.mk (Zi BK567.out hb); replace BK568 := Aside0.mk (Zi BK568.out hb); replace HB := Aside0.mk (Qao (Zc3 GE566.out GE567.out GE568.out) hb); (try clear hb); (try clear hb2); (try clear hk); (try clear hi)))
     go_ret
     exact ⟨Zq, Zc3 GE566.out GE567.out GE568.out⟩
  rw [if_neg c20] at H
  exact absurd H (by simp)
 rw [if_neg c14] at H
 have c14b0 : (t571 == 0) = J := beq_eq_false_iff_ne.mpr c14
 have c14b1 : (t571 != 0) = F := bne_iff_ne.mpr c14
 (try simp only [c14b0, c14b1])
 by_cases c83 : t569 = 0
 ·rw [if_pos c83] at H
  have c83b0 : (t569 == 0) = F := beq_iff_eq.mpr c83
  have c83b1 : (t569 != 0) = J := bne_eq_false_iff_eq.mpr c83
  clear c83
  by_cases c84 : t570 = 0
  ·rw [if_pos c84] at H
   have c84b0 : (t570 == 0) = F := beq_iff_eq.mpr c84
   have c84b1 : (t570 != 0) = J := bne_eq_false_iff_eq.mpr c84
   clear c84
   replace H := Option.bind_eq_some_iff.mp H
   obtain ⟨t572, A850, H⟩ := H
   replace H : (some t572) = some r := H
   have A85 := Aside0.mk A850
   clear A850
   obtain rfl := Option.some.inj H
   go_wp2_with (first | (go_at_call 41; (with_reducible refine (Qav.calls k  t572 _ A85.out).mono ?_); rintro e w86 ⟨rfl, hb⟩; replace BK566 := Aside0.mk (Zi BK566.out hb); replace BK567 := Aside0.mk (Zi BK567.out hb); replace BK568 := Aside0.mk (Zi BK568.out hb); replace HB := Aside0.mk (Qao (Zc3 GE566.out GE567.out GE568.out) hb); (try clear hb); (try clear hb2); (try clear hk); (try clear hi)))
   go_ret
   exact ⟨Zq, Zc3 GE566.out GE567.out GE568.out⟩
  rw [if_neg c84] at H
  exact absurd H (by simp)
 rw [if_neg c83] at H
 exact absurd H (by simp)
end Go.Proofs.Ytaembbndjpebhaa.Pr
