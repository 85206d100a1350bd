/- Functions' values and contracts, as the print wrote them. -/
import Derived.Test.YtgnmhfjfefgbfaaQ5C0P0
import Derived.Test.YtgnmhfjfefgbfaaQ5C0P3
import Derived.Test.YtgnmhfjfefgbfaaQ5C0P4
import Derived.Test.YtgnmhfjfefgbfaaQ5C0P2
import Derived.Test.YtgnmhfjfefgbfaaQ5C0P5
namespace Go.Proofs.Ytgnmhfjfefgbfaa.Pr
open Bool renaming true → J
open Bool renaming false → V
open Go.RowKit Go.Proofs.YtgnmhfjfefgbfaaW.PrintWords Go.Proofs.YtgnmhfjfefgbfaaW.PrintLast Go.Proofs.YtgnmhfjfefgbfaaW.PrintMore
attribute [local go_sem] QaR QaT QaY QaZ QaN QaO QaS QaU   -- for this text's walks alone
set_option linter.unusedVariables false
set_option linter.unusedSimpArgs false
set_option maxRecDepth 100000
set_option maxHeartbeats 8000000
def Qbt.f (x d t th : Int) : Option Int := (Qbo.f d).bind fun s => (QbA.f x t s).bind fun p => QbA.f p th 1000
def QaM.r0.T : Bool × List (List Nat × List Nat) := (J, [([], []), ([0], [0]), ([1], [1]), ([], []), ([3], [3]), ([], []), ([5], [5]), ([6], [6]), ([4, 7], [4, 7]), ([2, 0, 1, 2], [2]), ([8, 9, 0, 1, 2, 3, 4, 5, 6, 7, 8, 9], [8])])
def QaM.r0.B : List Nat := [0, 1, 3, 0, 8, 0, 32, 96, 248, 7, 1023]
theorem QaM.r0.tab : rtab .any (opsOf Try.f68 0) = QaM.r0.T := by kernel_rfl
theorem QaM.r0.bits : Qbb QaM.r0.T.2 QaM.r0.B = J := by kernel_rfl
def QaM.r1.T : Bool × List (List Nat × List Nat) := (J, [([], []), ([], []), ([0, 1], [0, 1]), ([2], [2]), ([], []), ([], []), ([], []), ([5, 6], [5, 6]), ([7], [7]), ([8], [8]), ([3, 4, 9, 9], [3, 4, 9]), ([], []), ([11], [11]), ([10, 12, 10], [10, 12]), ([13, 13, 0, 1, 2, 3, 4, 5, 6, 7, 8, 9, 10, 11, 12, 13], [13])])
def QaM.r1.B : List Nat := [0, 0, 3, 7, 0, 0, 0, 96, 224, 480, 1023, 0, 2048, 8191, 16383]
theorem QaM.r1.tab : rtab .any (opsOf Try.f68 1) = QaM.r1.T := by kernel_rfl
theorem QaM.r1.bits : Qbb QaM.r1.T.2 QaM.r1.B = J := by kernel_rfl
def QaM.r2.T : Bool × List (List Nat × List Nat) := (J, [([], []), ([], []), ([], []), ([], []), ([2, 3], [2, 3]), ([4], [4]), ([], []), ([5, 6], [5, 6]), ([], []), ([], []), ([8, 9], [8, 9]), ([10], [10]), ([7, 11], [7, 11]), ([0, 1, 0, 1, 2, 3, 4, 5, 6, 7, 8, 9, 10, 11, 12], [0, 1]), ([13, 12, 0, 1, 2, 3, 4, 5, 6, 7, 8, 9, 10, 11, 12], [12, 13])])
def QaM.r2.B : List Nat := [0, 0, 0, 0, 12, 28, 0, 124, 0, 0, 768, 1792, 4092, 8191, 16383]
theorem QaM.r2.tab : rtab .any (opsOf Try.f68 2) = QaM.r2.T := by kernel_rfl
theorem QaM.r2.bits : Qbb QaM.r2.T.2 QaM.r2.B = J := by kernel_rfl
def Qam.r19.T : Bool × List (List Nat × List Nat) := (J, [([], []), ([0], [0]), ([1], [1]), ([2], [2]), ([3, 2], [2, 3]), ([2, 4], [2, 4]), ([5, 2], [5]), ([6], [6]), ([6], [6]), ([7, 8, 6], [6, 7, 8]), ([9, 6], [6, 9]), ([10, 6], [6, 10]), ([6, 11], [6, 11]), ([12, 6], [12]), ([13], [13]), ([13], [13]), ([14, 15, 13], [13, 14, 15]), ([16, 13], [13, 16]), ([17, 13], [13, 17]), ([13, 18], [13, 18]), ([19, 13], [19]), ([20], [20]), ([20], [20]), ([21, 22, 20], [20, 21, 22]), ([23, 20], [20, 23]), ([24, 20], [20, 24]), ([20], [20]), ([20], [20]), ([26, 27, 20], [20, 26, 27]), ([28, 20], [20, 28]), ([29, 20], [20, 29]), ([25, 30, 20], [20, 25, 30]), ([20, 31], [20, 31])])
def Qam.r19.B : List Nat := [0, 1, 3, 7, 15, 31, 63, 127, 127, 511, 1023, 2047, 4095, 8191, 16383, 16383, 65535, 131071, 262143, 524287, 1048575, 2097151, 2097151, 8388607, 16777215, 33554431, 2097151, 2097151, 203423743, 471859199, 1008730111, 2147483647, 4294967295]
theorem Qam.r19.tab : rtab .any (opsOf Try.f20 19) = Qam.r19.T := by kernel_rfl
theorem Qam.r19.bits : Qbb Qam.r19.T.2 Qam.r19.B = J := by kernel_rfl
def Qam.r20.T : Bool × List (List Nat × List Nat) := (J, [([], []), ([], []), ([0, 1], [0, 1]), ([], []), ([3], [3]), ([], []), ([5], [5]), ([4, 6], [4, 6]), ([], []), ([], []), ([8, 2, 0, 1, 2, 8, 9], [2, 8]), ([9, 7, 10, 0, 1, 2, 3, 4, 5, 6, 7, 8, 9, 10], [7, 9])])
def Qam.r20.B : List Nat := [0, 0, 3, 0, 8, 0, 32, 120, 0, 0, 775, 2047]
theorem Qam.r20.tab : rtab .any (opsOf Try.f20 20) = Qam.r20.T := by kernel_rfl
theorem Qam.r20.bits : Qbb Qam.r20.T.2 Qam.r20.B = J := by kernel_rfl
def Qam.r21.T : Bool × List (List Nat × List Nat) := (J, [([], []), ([], []), ([0, 1], [0, 1]), ([2], [2]), ([3], [3]), ([], []), ([5], [5]), ([6], [6]), ([4, 7], [4, 7]), ([], []), ([], []), ([9, 10], [9, 10]), ([11], [11]), ([12, 4], [12]), ([], []), ([14], [14]), ([15], [15]), ([13, 16], [13, 16]), ([8, 17], [8, 17]), ([], []), ([19, 18, 13, 0, 1, 2, 3, 4, 5, 6, 7, 8, 9, 10, 11, 12, 13, 14, 15, 16, 17, 18, 19], [18, 19])])
def Qam.r21.B : List Nat := [0, 0, 3, 7, 15, 0, 32, 96, 255, 0, 0, 1536, 3584, 7711, 0, 16384, 49152, 130591, 262143, 0, 1048575]
theorem Qam.r21.tab : rtab .any (opsOf Try.f20 21) = Qam.r21.T := by kernel_rfl
theorem Qam.r21.bits : Qbb Qam.r21.T.2 Qam.r21.B = J := by kernel_rfl
def Qam.r26.T : Bool × List (List Nat × List Nat) := (J, [([], []), ([], []), ([0, 0], [0]), ([1, 2, 0, 1, 2], [1]), ([3, 0, 1, 2, 3], [])])
def Qam.r26.B : List Nat := [0, 0, 1, 7, 15]
theorem Qam.r26.tab : rtab .any (opsOf Try.f20 26) = Qam.r26.T := by kernel_rfl
theorem Qam.r26.bits : Qbb Qam.r26.T.2 Qam.r26.B = J := by kernel_rfl
theorem QaM.calls0 (gs gn gc gr gd gm gv gl bv bl : Nat) (a n c th x d sv lv own : Int) (ar ad : Addr) (mr md mv ml cr cd cv cl : Nat) (w : World)
  (hs : w.cell? ⟨gs, 0, none⟩ = some (.int .i64 a)) (hn : w.cell? ⟨gn, 0, none⟩ = some (.int .i64 n)) (hc : w.cell? ⟨gc, 0, none⟩ = some (.int .i64 c))
  (hR : w.cell? ⟨gr, 0, none⟩ = some (.slice (some ar) mr cr)) (hD : w.cell? ⟨gd, 0, none⟩ = some (.slice (some ad) md cd)) (hm : w.cell? ⟨gm, 4, none⟩ = some (.int .i64 th))
  (hV : w.cell? ⟨gv, 0, none⟩ = some (.slice (some ⟨bv, 0, none⟩) mv cv)) (hL : w.cell? ⟨gl, 0, none⟩ = some (.slice (some ⟨bl, 0, none⟩) ml cl))
  (hr : w.cell? (ar.add a.toNat) = some (.int .i64 x)) (hd : w.cell? (ad.add a.toNat) = some (.int .i64 d)) (hv : w.cell? ⟨bv, a.toNat, none⟩ = some (.int .i64 sv)) (hl : w.cell? ⟨bl, a.toNat, none⟩ = some (.int .i64 lv))
  (hfv : ∀ w', Below w.heap.size w w' → w'.frozen? ⟨bv, a.toNat, none⟩ = V) (hfl : ∀ w', Below w.heap.size w w' → ∀ u, (w'.setCell ⟨bv, a.toNat, none⟩ u).frozen? ⟨bl, a.toNat, none⟩ = V)
  (p0 : 0 ≤ a) (q0 : a < (mr : Int)) (q2 : a < (md : Int)) (q3 : a < (mv : Int)) (q4 : a < (ml : Int)) (n1 : gl ≠ bv) (n2 : bl ≠ bv) (h : Qbt.f x d (wrap64 (wrap64 (n * 1000) * c)) th = some own) :
  Calls Try.prog 68 #[.int .i64 0, .pointer (some ⟨gs, 0, none⟩), .pointer (some ⟨gn, 0, none⟩), .pointer (some ⟨gc, 0, none⟩), .pointer (some ⟨gr, 0, none⟩), .pointer (some ⟨gd, 0, none⟩), .pointer (some ⟨gm, 0, none⟩), .pointer (some ⟨gv, 0, none⟩), .pointer (some ⟨gl, 0, none⟩)] w
   fun e w' => e = .returned (.tuple #[]) ∧ ∃ w1, Below w.heap.size w w1 ∧ w' = (w1.setCell ⟨bv, a.toNat, none⟩ (.int .i64 (mn (wrap64 (sv + own)) x))).setCell ⟨bl, a.toNat, none⟩ (.int .i64 (wrap64 (lv + if 0 < lv then wrap64 (-(wrap64 (wrap64 (n * 1000) * c))) else wrap64 (wrap64 (n * 1000) * c)))) := by
 unfold Qbt.f at h
 replace h := Option.bind_eq_some_iff.1 h
 obtain ⟨sz, A10, H⟩ := h
 have A1 := Aside0.mk A10
 clear A10
 replace H := Option.bind_eq_some_iff.1 H
 obtain ⟨pt, A20, H⟩ := H
 have A2 := Aside0.mk A20
 have A3 := Aside0.mk H
 clear A20 H
 obtain ⟨v', hv'⟩ : ∃ z, z = mn (wrap64 (sv + own)) x := ⟨_, rfl⟩
 obtain ⟨l', hl'⟩ : ∃ z, z = wrap64 (lv + if 0 < lv then wrap64 (-(wrap64 (wrap64 (n * 1000) * c))) else wrap64 (wrap64 (n * 1000) * c)) := ⟨_, rfl⟩
 rw [← hv', ← hl']
 have V' := Aside0.mk hv'
 have L' := Aside0.mk hl'
 clear hv' hl'
 have b0 := decide_eq_true p0
 have b1 := decide_eq_true q0
 have b2 := decide_eq_true q2
 have b3 := decide_eq_true q3
 have b4 := decide_eq_true q4
 have p1 := eq_true p0
 have q1 := eq_true q0
 have t2 := eq_true q2
 have t3 := eq_true q3
 have t4 := eq_true q4
 have HFV := Aside0.mk hfv
 have HFL := Aside0.mk hfl
 have KR := Aside0.mk hr
 have KD := Aside0.mk hd
 have KV := Aside0.mk hv
 have KL := Aside0.mk hl
 have KBR := Aside0.mk hR
 have KBD := Aside0.mk hD
 have KBV := Aside0.mk hV
 have KBL := Aside0.mk hL
 have KM := Aside0.mk hm
 clear hr hd hv hl hfv hfl hR hD hV hL hm
 have HB := Aside0.mk (Below.refl w.heap.size w)
 go_enter Try.func68, Try.ntmps68
 go_upto_region 0 with (fail)
 refine start_ (n := 11) (S := fun w' => w'.cell? ⟨gs, 0, none⟩ = some (.int .i64 a) ∧ w'.cell? ⟨gn, 0, none⟩ = some (.int .i64 n) ∧ w'.cell? ⟨gc, 0, none⟩ = some (.int .i64 c)) (ds := []) #[V, V, V, V, V, V, V, V, V, V, V] (by kernel_rfl) rfl rfl ⟨hs, hn, hc⟩ (fun hHeld => ?_); refine QaP QaM.r0.tab QaM.r0.bits (fun HT_ HW_ => ?_)
 refine Zsp (i := 0) (N := some 13) (pm 11 1) HT_ ?_
 refine Zsp (i := 1) (N := some 14) (pm 11 2) HT_ ?_
 refine Zst (i := 2) (N := some 15) (pm 11 3) HT_ HW_ hHeld ?_ (hy := by (refine Or.inl ⟨by rfl, ?_⟩; rintro w' ⟨s0, s1, s2⟩; go_simp; with_reducible rfl))
 refine Zst (i := 3) (N := some 16) (pm 11 4) HT_ HW_ hHeld ?_ (hy := by (refine Or.inl ⟨by rfl, ?_⟩; rintro w' ⟨s0, s1, s2⟩; go_simp; with_reducible rfl))
 refine Zsp (i := 4) (N := some 17) (pm 11 5) HT_ ?_
 refine Zsp (i := 5) (N := some 18) (pm 11 6) HT_ ?_
 refine Zsp (i := 6) (N := some 19) (pm 11 7) HT_ ?_
 refine Zst (i := 7) (N := some 20) (pm 11 8) HT_ HW_ hHeld ?_ (hy := by (refine Or.inl ⟨by rfl, ?_⟩; rintro w' ⟨s0, s1, s2⟩; go_simp; with_reducible rfl))
 refine Zsp (i := 8) (N := some 21) (pm 11 9) HT_ ?_
 refine Zsp (i := 9) (N := some 10) (pm 11 10) HT_ ?_
 refine Zsp (i := 10) (N := some 11) (pm 11 11) HT_ ?_
 refine done_ (QaX HT_.out (by kernel_rfl)) ?_
 have HB1 := Aside0.mk (Qac HB.out)
 clear HB hs hn hc
 go_upto_region 1 with (fail)
 refine start_ (n := 15) (S := fun w' => w'.cell? ⟨gr, 0, none⟩ = some (.slice (some ar) mr cr) ∧ w'.cell? (ar.add a.toNat) = some (.int .i64 x) ∧ w'.cell? ⟨gd, 0, none⟩ = some (.slice (some ad) md cd) ∧ w'.cell? (ad.add a.toNat) = some (.int .i64 d) ∧ w'.cell? ⟨gm, 4, none⟩ = some (.int .i64 th)) (ds := []) #[V, V, V, V, V, V, V, V, V, V, V, V, V, V, V] (by kernel_rfl) rfl rfl ⟨((Qac HB1.out).cell (World.block_lt_of_cell? _ _ KBR.out)).trans KBR.out, ((Qac HB1.out).cell (World.block_lt_of_cell? _ _ KR.out)).trans KR.out, ((Qac HB1.out).cell (World.block_lt_of_cell? _ _ KBD.out)).trans KBD.out, ((Qac HB1.out).cell (World.block_lt_of_cell? _ _ KD.out)).trans KD.out, ((Qac HB1.out).cell (World.block_lt_of_cell? _ _ KM.out)).trans KM.out⟩ (fun hHeld => ?_); refine QaP QaM.r1.tab QaM.r1.bits (fun HT_ HW_ => ?_)
 refine Zst (i := 0) (N := some 22) (pm 15 1) HT_ HW_ hHeld ?_ (hy := by (refine Or.inl ⟨by rfl, ?_⟩; rintro w' ⟨s0, s1, s2, s3, s4⟩; go_simp; with_reducible rfl))
 refine Zsp (i := 1) (N := some 23) (pm 15 2) HT_ ?_
 refine Zsp (i := 2) (N := some 24) (pm 15 3) HT_ ?_
 refine Zst (i := 3) (N := some 25) (pm 15 4) HT_ HW_ hHeld ?_ (hy := by (refine Or.inl ⟨by rfl, ?_⟩; rintro w' ⟨s0, s1, s2, s3, s4⟩; go_simp; with_reducible rfl))
 refine Zsp (i := 4) (N := some 26) (pm 15 5) HT_ ?_
 refine Zst (i := 5) (N := some 27) (pm 15 6) HT_ HW_ hHeld ?_ (hy := by (refine Or.inl ⟨by rfl, ?_⟩; rintro w' ⟨s0, s1, s2, s3, s4⟩; go_simp; with_reducible rfl))
 refine Zsp (i := 6) (N := some 28) (pm 15 7) HT_ ?_
 refine Zsp (i := 7) (N := some 29) (pm 15 8) HT_ ?_
 refine Zst (i := 8) (N := some 30) (pm 15 9) HT_ HW_ hHeld ?_ (hy := by (refine Or.inl ⟨by rfl, ?_⟩; rintro w' ⟨s0, s1, s2, s3, s4⟩; go_simp; with_reducible rfl))
 refine Zsp (i := 11) (N := some 33) #[J, J, J, J, J, J, J, J, J, V, V, J, V, V, V] HT_ ?_
 refine Zst (i := 12) (N := some 34) #[J, J, J, J, J, J, J, J, J, V, V, J, J, V, V] HT_ HW_ hHeld ?_ (hy := by (refine Or.inl ⟨by rfl, ?_⟩; rintro w' ⟨s0, s1, s2, s3, s4⟩; go_simp; with_reducible rfl))
 refine one_ (i := 9) (N := some 31) #[J, J, J, J, J, J, J, J, J, J, V, J, J, V, V] rfl rfl (one_of HT_.out (by kernel_rfl)) (by decide) (fun K hK => ?_)
 refine goes_ Try.func67 (by kernel_rfl) rfl #[.int .i64 d] (by rfl) rfl rfl (by (try simp only [List.map_toArray, List.map_cons, List.map_nil]); first | done | rfl) ?_
 refine (Qbo.calls d sz _ A1.out).mono ?_
 rintro _ w2 ⟨rfl, hb⟩
 refine ⟨_, rfl, ?_⟩
 have HB2 := Aside0.mk (Qav (Qac HB1.out) hb)
 clear hb
 refine hK.out _ _ ⟨(HB2.out.cell (World.block_lt_of_cell? _ _ KBR.out)).trans KBR.out, (HB2.out.cell (World.block_lt_of_cell? _ _ KR.out)).trans KR.out, (HB2.out.cell (World.block_lt_of_cell? _ _ KBD.out)).trans KBD.out, (HB2.out.cell (World.block_lt_of_cell? _ _ KD.out)).trans KD.out, (HB2.out.cell (World.block_lt_of_cell? _ _ KM.out)).trans KM.out⟩ (fun hHeld => ?_)
 clear hK K
 refine norm_ (a' := ?_) ?_ ?_
 rotate_left
 ·show Act.put _ (some 31) _ = _
  simp only [Act.put, Zj, Zk, Zm, i64_w, i32_w]
  rfl
 refine one_ (i := 10) (N := some 32) #[J, J, J, J, J, J, J, J, J, J, J, J, J, V, V] rfl rfl (one_of HT_.out (by kernel_rfl)) (by decide) (fun K hK => ?_)
 refine goes_ Try.func69 (by kernel_rfl) rfl #[.int .i64 x, .int .i64 (wrap64 (wrap64 (n * 1000) * c)), .int .i64 sz] (by rfl) rfl rfl (by (try simp only [List.map_toArray, List.map_cons, List.map_nil]); first | done | rfl) ?_
 refine (QbA.calls x (wrap64 (wrap64 (n * 1000) * c)) sz pt _ A2.out).mono ?_
 rintro _ w3 ⟨rfl, hb⟩
 refine ⟨_, rfl, ?_⟩
 have HB3 := Aside0.mk (Qav HB2.out hb)
 clear hb
 refine hK.out _ _ ⟨(HB3.out.cell (World.block_lt_of_cell? _ _ KBR.out)).trans KBR.out, (HB3.out.cell (World.block_lt_of_cell? _ _ KR.out)).trans KR.out, (HB3.out.cell (World.block_lt_of_cell? _ _ KBD.out)).trans KBD.out, (HB3.out.cell (World.block_lt_of_cell? _ _ KD.out)).trans KD.out, (HB3.out.cell (World.block_lt_of_cell? _ _ KM.out)).trans KM.out⟩ (fun hHeld => ?_)
 clear hK K
 refine norm_ (a' := ?_) ?_ ?_
 rotate_left
 ·show Act.put _ (some 32) _ = _
  simp only [Act.put, Zj, Zk, Zm, i64_w, i32_w]
  rfl
 refine one_ (i := 13) (N := some 35) #[J, J, J, J, J, J, J, J, J, J, J, J, J, J, V] rfl rfl (one_of HT_.out (by kernel_rfl)) (by decide) (fun K hK => ?_)
 refine goes_ Try.func69 (by kernel_rfl) rfl #[.int .i64 pt, .int .i64 th, .int .i64 1000] (by rfl) rfl rfl (by (try simp only [List.map_toArray, List.map_cons, List.map_nil]); first | done | rfl) ?_
 refine (QbA.calls pt th 1000 own _ A3.out).mono ?_
 rintro _ w4 ⟨rfl, hb⟩
 refine ⟨_, rfl, ?_⟩
 have HB4 := Aside0.mk (Qav HB3.out hb)
 clear hb
 refine hK.out _ _ ⟨(HB4.out.cell (World.block_lt_of_cell? _ _ KBR.out)).trans KBR.out, (HB4.out.cell (World.block_lt_of_cell? _ _ KR.out)).trans KR.out, (HB4.out.cell (World.block_lt_of_cell? _ _ KBD.out)).trans KBD.out, (HB4.out.cell (World.block_lt_of_cell? _ _ KD.out)).trans KD.out, (HB4.out.cell (World.block_lt_of_cell? _ _ KM.out)).trans KM.out⟩ (fun hHeld => ?_)
 clear hK K
 refine norm_ (a' := ?_) ?_ ?_
 rotate_left
 ·show Act.put _ (some 35) _ = _
  simp only [Act.put, Zj, Zk, Zm, i64_w, i32_w]
  rfl
 refine Zsp (i := 14) (N := some 12) (pm 15 15) HT_ ?_
 refine done_ (QaX HT_.out (by kernel_rfl)) ?_
 go_upto_region 2 with (fail)
 have HB5 := Aside0.mk (Qac HB4.out)
 have hf5 := HFV.out _ HB5.out
 have hx0 := (HB5.out.cell (World.block_lt_of_cell? _ _ KBR.out)).trans KBR.out
 have hx1 := (HB5.out.cell (World.block_lt_of_cell? _ _ KR.out)).trans KR.out
 have hx2 := (HB5.out.cell (World.block_lt_of_cell? _ _ KBV.out)).trans KBV.out
 have hx3 := (HB5.out.cell (World.block_lt_of_cell? _ _ KV.out)).trans KV.out
 refine start_ (n := 15) (S := fun w' => w'.cell? ⟨gr, 0, none⟩ = some (.slice (some ar) mr cr) ∧ w'.cell? (ar.add a.toNat) = some (.int .i64 x) ∧ w'.cell? ⟨gv, 0, none⟩ = some (.slice (some ⟨bv, 0, none⟩) mv cv) ∧ w'.cell? ⟨bv, a.toNat, none⟩ = some (.int .i64 sv)) (ds := [14]) #[V, V, V, V, V, V, V, V, V, V, V, V, V, V, V] (by kernel_rfl) rfl rfl ⟨hx0, hx1, hx2, hx3⟩ (fun hHeld => ?_); refine QaP QaM.r2.tab QaM.r2.bits (fun HT_ HW_ => ?_)
 refine Zst (i := 0) (N := some 36) (pm 15 1) HT_ HW_ hHeld ?_ (hy := by (refine Or.inl ⟨by rfl, ?_⟩; rintro w' ⟨s0, s1, s2, s3⟩; go_simp; with_reducible rfl))
 refine Zsp (i := 1) (N := some 37) (pm 15 2) HT_ ?_
 refine Zst (i := 2) (N := some 38) (pm 15 3) HT_ HW_ hHeld ?_ (hy := by (refine Or.inl ⟨by rfl, ?_⟩; rintro w' ⟨s0, s1, s2, s3⟩; go_simp; with_reducible rfl))
 refine Zsp (i := 3) (N := some 39) (pm 15 4) HT_ ?_
 refine Zsp (i := 4) (N := some 40) (pm 15 5) HT_ ?_
 refine Zst (i := 5) (N := some 41) (pm 15 6) HT_ HW_ hHeld ?_ (hy := by (refine Or.inl ⟨by rfl, ?_⟩; rintro w' ⟨s0, s1, s2, s3⟩; go_simp; with_reducible rfl))
 refine Zsp (i := 6) (N := some 42) (pm 15 7) HT_ ?_
 refine Zsp (i := 7) (N := some 43) (pm 15 8) HT_ ?_
 refine Zst (i := 8) (N := some 44) (pm 15 9) HT_ HW_ hHeld ?_ (hy := by (refine Or.inl ⟨by rfl, ?_⟩; rintro w' ⟨s0, s1, s2, s3⟩; go_simp; with_reducible rfl))
 refine Zsp (i := 9) (N := some 45) (pm 15 10) HT_ ?_
 refine Zsp (i := 10) (N := some 46) (pm 15 11) HT_ ?_
 refine Zst (i := 11) (N := some 47) (pm 15 12) HT_ HW_ hHeld ?_ (hy := by (refine Or.inl ⟨by rfl, ?_⟩; rintro w' ⟨s0, s1, s2, s3⟩; go_simp; with_reducible rfl))
 refine Zsp (i := 12) (N := some 48) (pm 15 13) HT_ ?_
 refine Zsp (i := 13) (N := some 49) (pm 15 14) HT_ ?_
 refine last_ (i := 14) (N := none) #[J, J, J, J, J, J, J, J, J, J, J, J, J, J, J] rfl rfl (one_of HT_.out (by kernel_rfl)) (by decide) (fun K hK => ?_)
 refine skip_ (w1 := ?_) (by rfl) rfl ?_ ?_
 rotate_left
 ·go_simp
  rfl
 refine hK.out _ _ ?_
 clear hK K
 refine done_ (QaX HT_.out (by kernel_rfl)) ?_
 rw [show (if x < wrap64 (sv + own) then x else wrap64 (sv + own)) = v' from V'.out.symm]
 rw [show (w4.setCell ⟨bv, a.toNat, none⟩ (.int .i64 v')).drew = w4.drew.setCell ⟨bv, a.toNat, none⟩ (.int .i64 v') from rfl]
 have hy0 := (Qcw (p := ⟨bv, a.toNat, none⟩) n1 (.int .i64 v')).trans ((HB5.out.cell (World.block_lt_of_cell? _ _ KBL.out)).trans KBL.out)
 have hy1 := (Qcw (p := ⟨bv, a.toNat, none⟩) n2 (.int .i64 v')).trans ((HB5.out.cell (World.block_lt_of_cell? _ _ KL.out)).trans KL.out)
 have hy2 := HFL.out _ HB5.out (.int .i64 v')
 have E : ∃ w1, Below w.heap.size w w1 ∧ w4.drew.setCell ⟨bv, a.toNat, none⟩ (.int .i64 v') = w1.setCell ⟨bv, a.toNat, none⟩ (.int .i64 v') := ⟨_, HB5.out, rfl⟩
 clear HB1 HB2 HB3 HB4 HB5 hx0 hx1 hx2 hx3 hf5 hHeld
 generalize w4.drew.setCell ⟨bv, a.toNat, none⟩ (.int .i64 v') = w5 at hy0 hy1 hy2 E ⊢
 have E' := Aside0.mk E
 clear E
 by_cases cl : 0 < lv
 ·have e : l' = wrap64 (lv + wrap64 (-(wrap64 (wrap64 (n * 1000) * c)))) := by rw [L'.out, if_pos cl]
  have cb : decide (0 < lv) = J := decide_eq_true cl
  have E1 := Aside0.mk e
  clear e cl L' V'
  go_wp2
  go_end0
  obtain ⟨w1, hb, rfl⟩ := E'.out
  exact ⟨rfl, w1, hb, by rw [E1.out]⟩
 have e : l' = wrap64 (lv + wrap64 (wrap64 (n * 1000) * c)) := by rw [L'.out, if_neg cl]
 have cb : decide (0 < lv) = V := decide_eq_false cl
 have E1 := Aside0.mk e
 clear e cl L' V'
 go_wp2
 go_end0
 obtain ⟨w1, hb, rfl⟩ := E'.out
 exact ⟨rfl, w1, hb, by rw [E1.out]⟩
theorem QaM.calls1 (gs gn gc gr gd gm gv gl bv bl : Nat) (a n c th x d sv lv own : Int) (ar ad : Addr) (mr md mv ml cr cd cv cl : Nat) (w : World)
  (hs : w.cell? ⟨gs, 1, none⟩ = some (.int .i64 a)) (hn : w.cell? ⟨gn, 0, none⟩ = some (.int .i64 n)) (hc : w.cell? ⟨gc, 1, none⟩ = some (.int .i64 c))
  (hR : w.cell? ⟨gr, 0, none⟩ = some (.slice (some ar) mr cr)) (hD : w.cell? ⟨gd, 0, none⟩ = some (.slice (some ad) md cd)) (hm : w.cell? ⟨gm, 4, none⟩ = some (.int .i64 th))
  (hV : w.cell? ⟨gv, 0, none⟩ = some (.slice (some ⟨bv, 0, none⟩) mv cv)) (hL : w.cell? ⟨gl, 0, none⟩ = some (.slice (some ⟨bl, 0, none⟩) ml cl))
  (hr : w.cell? (ar.add a.toNat) = some (.int .i64 x)) (hd : w.cell? (ad.add a.toNat) = some (.int .i64 d)) (hv : w.cell? ⟨bv, a.toNat, none⟩ = some (.int .i64 sv)) (hl : w.cell? ⟨bl, a.toNat, none⟩ = some (.int .i64 lv))
  (hfv : ∀ w', Below w.heap.size w w' → w'.frozen? ⟨bv, a.toNat, none⟩ = V) (hfl : ∀ w', Below w.heap.size w w' → ∀ u, (w'.setCell ⟨bv, a.toNat, none⟩ u).frozen? ⟨bl, a.toNat, none⟩ = V)
  (p0 : 0 ≤ a) (q0 : a < (mr : Int)) (q2 : a < (md : Int)) (q3 : a < (mv : Int)) (q4 : a < (ml : Int)) (n1 : gl ≠ bv) (n2 : bl ≠ bv) (h : Qbt.f x d (wrap64 (wrap64 (n * 1000) * c)) th = some own) :
  Calls Try.prog 68 #[.int .i64 1, .pointer (some ⟨gs, 0, none⟩), .pointer (some ⟨gn, 0, none⟩), .pointer (some ⟨gc, 0, none⟩), .pointer (some ⟨gr, 0, none⟩), .pointer (some ⟨gd, 0, none⟩), .pointer (some ⟨gm, 0, none⟩), .pointer (some ⟨gv, 0, none⟩), .pointer (some ⟨gl, 0, none⟩)] w
   fun e w' => e = .returned (.tuple #[]) ∧ ∃ w1, Below w.heap.size w w1 ∧ w' = (w1.setCell ⟨bv, a.toNat, none⟩ (.int .i64 (mn (wrap64 (sv + own)) x))).setCell ⟨bl, a.toNat, none⟩ (.int .i64 (wrap64 (lv + if 0 < lv then wrap64 (-(wrap64 (wrap64 (n * 1000) * c))) else wrap64 (wrap64 (n * 1000) * c)))) := by
 unfold Qbt.f at h
 replace h := Option.bind_eq_some_iff.1 h
 obtain ⟨sz, A10, H⟩ := h
 have A1 := Aside0.mk A10
 clear A10
 replace H := Option.bind_eq_some_iff.1 H
 obtain ⟨pt, A20, H⟩ := H
 have A2 := Aside0.mk A20
 have A3 := Aside0.mk H
 clear A20 H
 obtain ⟨v', hv'⟩ : ∃ z, z = mn (wrap64 (sv + own)) x := ⟨_, rfl⟩
 obtain ⟨l', hl'⟩ : ∃ z, z = wrap64 (lv + if 0 < lv then wrap64 (-(wrap64 (wrap64 (n * 1000) * c))) else wrap64 (wrap64 (n * 1000) * c)) := ⟨_, rfl⟩
 rw [← hv', ← hl']
 have V' := Aside0.mk hv'
 have L' := Aside0.mk hl'
 clear hv' hl'
 have b0 := decide_eq_true p0
 have b1 := decide_eq_true q0
 have b2 := decide_eq_true q2
 have b3 := decide_eq_true q3
 have b4 := decide_eq_true q4
 have p1 := eq_true p0
 have q1 := eq_true q0
 have t2 := eq_true q2
 have t3 := eq_true q3
 have t4 := eq_true q4
 have HFV := Aside0.mk hfv
 have HFL := Aside0.mk hfl
 have KR := Aside0.mk hr
 have KD := Aside0.mk hd
 have KV := Aside0.mk hv
 have KL := Aside0.mk hl
 have KBR := Aside0.mk hR
 have KBD := Aside0.mk hD
 have KBV := Aside0.mk hV
 have KBL := Aside0.mk hL
 have KM := Aside0.mk hm
 clear hr hd hv hl hfv hfl hR hD hV hL hm
 have HB := Aside0.mk (Below.refl w.heap.size w)
 go_enter Try.func68, Try.ntmps68
 go_upto_region 0 with (fail)
 refine start_ (n := 11) (S := fun w' => w'.cell? ⟨gs, 1, none⟩ = some (.int .i64 a) ∧ w'.cell? ⟨gn, 0, none⟩ = some (.int .i64 n) ∧ w'.cell? ⟨gc, 1, none⟩ = some (.int .i64 c)) (ds := []) #[V, V, V, V, V, V, V, V, V, V, V] (by kernel_rfl) rfl rfl ⟨hs, hn, hc⟩ (fun hHeld => ?_); refine QaP QaM.r0.tab QaM.r0.bits (fun HT_ HW_ => ?_)
 refine Zsp (i := 0) (N := some 13) (pm 11 1) HT_ ?_
 refine Zsp (i := 1) (N := some 14) (pm 11 2) HT_ ?_
 refine Zst (i := 2) (N := some 15) (pm 11 3) HT_ HW_ hHeld ?_ (hy := by (refine Or.inl ⟨by rfl, ?_⟩; rintro w' ⟨s0, s1, s2⟩; go_simp; with_reducible rfl))
 refine Zst (i := 3) (N := some 16) (pm 11 4) HT_ HW_ hHeld ?_ (hy := by (refine Or.inl ⟨by rfl, ?_⟩; rintro w' ⟨s0, s1, s2⟩; go_simp; with_reducible rfl))
 refine Zsp (i := 4) (N := some 17) (pm 11 5) HT_ ?_
 refine Zsp (i := 5) (N := some 18) (pm 11 6) HT_ ?_
 refine Zsp (i := 6) (N := some 19) (pm 11 7) HT_ ?_
 refine Zst (i := 7) (N := some 20) (pm 11 8) HT_ HW_ hHeld ?_ (hy := by (refine Or.inl ⟨by rfl, ?_⟩; rintro w' ⟨s0, s1, s2⟩; go_simp; with_reducible rfl))
 refine Zsp (i := 8) (N := some 21) (pm 11 9) HT_ ?_
 refine Zsp (i := 9) (N := some 10) (pm 11 10) HT_ ?_
 refine Zsp (i := 10) (N := some 11) (pm 11 11) HT_ ?_
 refine done_ (QaX HT_.out (by kernel_rfl)) ?_
 have HB1 := Aside0.mk (Qac HB.out)
 clear HB hs hn hc
 go_upto_region 1 with (fail)
 refine start_ (n := 15) (S := fun w' => w'.cell? ⟨gr, 0, none⟩ = some (.slice (some ar) mr cr) ∧ w'.cell? (ar.add a.toNat) = some (.int .i64 x) ∧ w'.cell? ⟨gd, 0, none⟩ = some (.slice (some ad) md cd) ∧ w'.cell? (ad.add a.toNat) = some (.int .i64 d) ∧ w'.cell? ⟨gm, 4, none⟩ = some (.int .i64 th)) (ds := []) #[V, V, V, V, V, V, V, V, V, V, V, V, V, V, V] (by kernel_rfl) rfl rfl ⟨((Qac HB1.out).cell (World.block_lt_of_cell? _ _ KBR.out)).trans KBR.out, ((Qac HB1.out).cell (World.block_lt_of_cell? _ _ KR.out)).trans KR.out, ((Qac HB1.out).cell (World.block_lt_of_cell? _ _ KBD.out)).trans KBD.out, ((Qac HB1.out).cell (World.block_lt_of_cell? _ _ KD.out)).trans KD.out, ((Qac HB1.out).cell (World.block_lt_of_cell? _ _ KM.out)).trans KM.out⟩ (fun hHeld => ?_); refine QaP QaM.r1.tab QaM.r1.bits (fun HT_ HW_ => ?_)
 refine Zst (i := 0) (N := some 22) (pm 15 1) HT_ HW_ hHeld ?_ (hy := by (refine Or.inl ⟨by rfl, ?_⟩; rintro w' ⟨s0, s1, s2, s3, s4⟩; go_simp; with_reducible rfl))
 refine Zsp (i := 1) (N := some 23) (pm 15 2) HT_ ?_
 refine Zsp (i := 2) (N := some 24) (pm 15 3) HT_ ?_
 refine Zst (i := 3) (N := some 25) (pm 15 4) HT_ HW_ hHeld ?_ (hy := by (refine Or.inl ⟨by rfl, ?_⟩; rintro w' ⟨s0, s1, s2, s3, s4⟩; go_simp; with_reducible rfl))
 refine Zsp (i := 4) (N := some 26) (pm 15 5) HT_ ?_
 refine Zst (i := 5) (N := some 27) (pm 15 6) HT_ HW_ hHeld ?_ (hy := by (refine Or.inl ⟨by rfl, ?_⟩; rintro w' ⟨s0, s1, s2, s3, s4⟩; go_simp; with_reducible rfl))
 refine Zsp (i := 6) (N := some 28) (pm 15 7) HT_ ?_
 refine Zsp (i := 7) (N := some 29) (pm 15 8) HT_ ?_
 refine Zst (i := 8) (N := some 30) (pm 15 9) HT_ HW_ hHeld ?_ (hy := by (refine Or.inl ⟨by rfl, ?_⟩; rintro w' ⟨s0, s1, s2, s3, s4⟩; go_simp; with_reducible rfl))
 refine Zsp (i := 11) (N := some 33) #[J, J, J, J, J, J, J, J, J, V, V, J, V, V, V] HT_ ?_
 refine Zst (i := 12) (N := some 34) #[J, J, J, J, J, J, J, J, J, V, V, J, J, V, V] HT_ HW_ hHeld ?_ (hy := by (refine Or.inl ⟨by rfl, ?_⟩; rintro w' ⟨s0, s1, s2, s3, s4⟩; go_simp; with_reducible rfl))
 refine one_ (i := 9) (N := some 31) #[J, J, J, J, J, J, J, J, J, J, V, J, J, V, V] rfl rfl (one_of HT_.out (by kernel_rfl)) (by decide) (fun K hK => ?_)
 refine goes_ Try.func67 (by kernel_rfl) rfl #[.int .i64 d] (by rfl) rfl rfl (by (try simp only [List.map_toArray, List.map_cons, List.map_nil]); first | done | rfl) ?_
 refine (Qbo.calls d sz _ A1.out).mono ?_
 rintro _ w2 ⟨rfl, hb⟩
 refine ⟨_, rfl, ?_⟩
 have HB2 := Aside0.mk (Qav (Qac HB1.out) hb)
 clear hb
 refine hK.out _ _ ⟨(HB2.out.cell (World.block_lt_of_cell? _ _ KBR.out)).trans KBR.out, (HB2.out.cell (World.block_lt_of_cell? _ _ KR.out)).trans KR.out, (HB2.out.cell (World.block_lt_of_cell? _ _ KBD.out)).trans KBD.out, (HB2.out.cell (World.block_lt_of_cell? _ _ KD.out)).trans KD.out, (HB2.out.cell (World.block_lt_of_cell? _ _ KM.out)).trans KM.out⟩ (fun hHeld => ?_)
 clear hK K
 refine norm_ (a' := ?_) ?_ ?_
 rotate_left
 ·show Act.put _ (some 31) _ = _
  simp only [Act.put, Zj, Zk, Zm, i64_w, i32_w]
  rfl
 refine one_ (i := 10) (N := some 32) #[J, J, J, J, J, J, J, J, J, J, J, J, J, V, V] rfl rfl (one_of HT_.out (by kernel_rfl)) (by decide) (fun K hK => ?_)
 refine goes_ Try.func69 (by kernel_rfl) rfl #[.int .i64 x, .int .i64 (wrap64 (wrap64 (n * 1000) * c)), .int .i64 sz] (by rfl) rfl rfl (by (try simp only [List.map_toArray, List.map_cons, List.map_nil]); first | done | rfl) ?_
 refine (QbA.calls x (wrap64 (wrap64 (n * 1000) * c)) sz pt _ A2.out).mono ?_
 rintro _ w3 ⟨rfl, hb⟩
 refine ⟨_, rfl, ?_⟩
 have HB3 := Aside0.mk (Qav HB2.out hb)
 clear hb
 refine hK.out _ _ ⟨(HB3.out.cell (World.block_lt_of_cell? _ _ KBR.out)).trans KBR.out, (HB3.out.cell (World.block_lt_of_cell? _ _ KR.out)).trans KR.out, (HB3.out.cell (World.block_lt_of_cell? _ _ KBD.out)).trans KBD.out, (HB3.out.cell (World.block_lt_of_cell? _ _ KD.out)).trans KD.out, (HB3.out.cell (World.block_lt_of_cell? _ _ KM.out)).trans KM.out⟩ (fun hHeld => ?_)
 clear hK K
 refine norm_ (a' := ?_) ?_ ?_
 rotate_left
 ·show Act.put _ (some 32) _ = _
  simp only [Act.put, Zj, Zk, Zm, i64_w, i32_w]
  rfl
 refine one_ (i := 13) (N := some 35) #[J, J, J, J, J, J, J, J, J, J, J, J, J, J, V] rfl rfl (one_of HT_.out (by kernel_rfl)) (by decide) (fun K hK => ?_)
 refine goes_ Try.func69 (by kernel_rfl) rfl #[.int .i64 pt, .int .i64 th, .int .i64 1000] (by rfl) rfl rfl (by (try simp only [List.map_toArray, List.map_cons, List.map_nil]); first | done | rfl) ?_
 refine (QbA.calls pt th 1000 own _ A3.out).mono ?_
 rintro _ w4 ⟨rfl, hb⟩
 refine ⟨_, rfl, ?_⟩
 have HB4 := Aside0.mk (Qav HB3.out hb)
 clear hb
 refine hK.out _ _ ⟨(HB4.out.cell (World.block_lt_of_cell? _ _ KBR.out)).trans KBR.out, (HB4.out.cell (World.block_lt_of_cell? _ _ KR.out)).trans KR.out, (HB4.out.cell (World.block_lt_of_cell? _ _ KBD.out)).trans KBD.out, (HB4.out.cell (World.block_lt_of_cell? _ _ KD.out)).trans KD.out, (HB4.out.cell (World.block_lt_of_cell? _ _ KM.out)).trans KM.out⟩ (fun hHeld => ?_)
 clear hK K
 refine norm_ (a' := ?_) ?_ ?_
 rotate_left
 ·show Act.put _ (some 35) _ = _
  simp only [Act.put, Zj, Zk, Zm, i64_w, i32_w]
  rfl
 refine Zsp (i := 14) (N := some 12) (pm 15 15) HT_ ?_
 refine done_ (QaX HT_.out (by kernel_rfl)) ?_
 go_upto_region 2 with (fail)
 have HB5 := Aside0.mk (Qac HB4.out)
 have hf5 := HFV.out _ HB5.out
 have hx0 := (HB5.out.cell (World.block_lt_of_cell? _ _ KBR.out)).trans KBR.out
 have hx1 := (HB5.out.cell (World.block_lt_of_cell? _ _ KR.out)).trans KR.out
 have hx2 := (HB5.out.cell (World.block_lt_of_cell? _ _ KBV.out)).trans KBV.out
 have hx3 := (HB5.out.cell (World.block_lt_of_cell? _ _ KV.out)).trans KV.out
 refine start_ (n := 15) (S := fun w' => w'.cell? ⟨gr, 0, none⟩ = some (.slice (some ar) mr cr) ∧ w'.cell? (ar.add a.toNat) = some (.int .i64 x) ∧ w'.cell? ⟨gv, 0, none⟩ = some (.slice (some ⟨bv, 0, none⟩) mv cv) ∧ w'.cell? ⟨bv, a.toNat, none⟩ = some (.int .i64 sv)) (ds := [14]) #[V, V, V, V, V, V, V, V, V, V, V, V, V, V, V] (by kernel_rfl) rfl rfl ⟨hx0, hx1, hx2, hx3⟩ (fun hHeld => ?_); refine QaP QaM.r2.tab QaM.r2.bits (fun HT_ HW_ => ?_)
 refine Zst (i := 0) (N := some 36) (pm 15 1) HT_ HW_ hHeld ?_ (hy := by (refine Or.inl ⟨by rfl, ?_⟩; rintro w' ⟨s0, s1, s2, s3⟩; go_simp; with_reducible rfl))
 refine Zsp (i := 1) (N := some 37) (pm 15 2) HT_ ?_
 refine Zst (i := 2) (N := some 38) (pm 15 3) HT_ HW_ hHeld ?_ (hy := by (refine Or.inl ⟨by rfl, ?_⟩; rintro w' ⟨s0, s1, s2, s3⟩; go_simp; with_reducible rfl))
 refine Zsp (i := 3) (N := some 39) (pm 15 4) HT_ ?_
 refine Zsp (i := 4) (N := some 40) (pm 15 5) HT_ ?_
 refine Zst (i := 5) (N := some 41) (pm 15 6) HT_ HW_ hHeld ?_ (hy := by (refine Or.inl ⟨by rfl, ?_⟩; rintro w' ⟨s0, s1, s2, s3⟩; go_simp; with_reducible rfl))
 refine Zsp (i := 6) (N := some 42) (pm 15 7) HT_ ?_
 refine Zsp (i := 7) (N := some 43) (pm 15 8) HT_ ?_
 refine Zst (i := 8) (N := some 44) (pm 15 9) HT_ HW_ hHeld ?_ (hy := by (refine Or.inl ⟨by rfl, ?_⟩; rintro w' ⟨s0, s1, s2, s3⟩; go_simp; with_reducible rfl))
 refine Zsp (i := 9) (N := some 45) (pm 15 10) HT_ ?_
 refine Zsp (i := 10) (N := some 46) (pm 15 11) HT_ ?_
 refine Zst (i := 11) (N := some 47) (pm 15 12) HT_ HW_ hHeld ?_ (hy := by (refine Or.inl ⟨by rfl, ?_⟩; rintro w' ⟨s0, s1, s2, s3⟩; go_simp; with_reducible rfl))
 refine Zsp (i := 12) (N := some 48) (pm 15 13) HT_ ?_
 refine Zsp (i := 13) (N := some 49) (pm 15 14) HT_ ?_
 refine last_ (i := 14) (N := none) #[J, J, J, J, J, J, J, J, J, J, J, J, J, J, J] rfl rfl (one_of HT_.out (by kernel_rfl)) (by decide) (fun K hK => ?_)
 refine skip_ (w1 := ?_) (by rfl) rfl ?_ ?_
 rotate_left
 ·go_simp
  rfl
 refine hK.out _ _ ?_
 clear hK K
 refine done_ (QaX HT_.out (by kernel_rfl)) ?_
 rw [show (if x < wrap64 (sv + own) then x else wrap64 (sv + own)) = v' from V'.out.symm]
 rw [show (w4.setCell ⟨bv, a.toNat, none⟩ (.int .i64 v')).drew = w4.drew.setCell ⟨bv, a.toNat, none⟩ (.int .i64 v') from rfl]
 have hy0 := (Qcw (p := ⟨bv, a.toNat, none⟩) n1 (.int .i64 v')).trans ((HB5.out.cell (World.block_lt_of_cell? _ _ KBL.out)).trans KBL.out)
 have hy1 := (Qcw (p := ⟨bv, a.toNat, none⟩) n2 (.int .i64 v')).trans ((HB5.out.cell (World.block_lt_of_cell? _ _ KL.out)).trans KL.out)
 have hy2 := HFL.out _ HB5.out (.int .i64 v')
 have E : ∃ w1, Below w.heap.size w w1 ∧ w4.drew.setCell ⟨bv, a.toNat, none⟩ (.int .i64 v') = w1.setCell ⟨bv, a.toNat, none⟩ (.int .i64 v') := ⟨_, HB5.out, rfl⟩
 clear HB1 HB2 HB3 HB4 HB5 hx0 hx1 hx2 hx3 hf5 hHeld
 generalize w4.drew.setCell ⟨bv, a.toNat, none⟩ (.int .i64 v') = w5 at hy0 hy1 hy2 E ⊢
 have E' := Aside0.mk E
 clear E
 by_cases cl : 0 < lv
 ·have e : l' = wrap64 (lv + wrap64 (-(wrap64 (wrap64 (n * 1000) * c)))) := by rw [L'.out, if_pos cl]
  have cb : decide (0 < lv) = J := decide_eq_true cl
  have E1 := Aside0.mk e
  clear e cl L' V'
  go_wp2
  go_end0
  obtain ⟨w1, hb, rfl⟩ := E'.out
  exact ⟨rfl, w1, hb, by rw [E1.out]⟩
 have e : l' = wrap64 (lv + wrap64 (wrap64 (n * 1000) * c)) := by rw [L'.out, if_neg cl]
 have cb : decide (0 < lv) = V := decide_eq_false cl
 have E1 := Aside0.mk e
 clear e cl L' V'
 go_wp2
 go_end0
 obtain ⟨w1, hb, rfl⟩ := E'.out
 exact ⟨rfl, w1, hb, by rw [E1.out]⟩
def MapS (P : Program) (K E : TypeId) (w : World) (B n : Nat) (f : ByteArray → Option Int) : Prop :=
 ∃ D : DataW Unit, w.ownsMap P K (plainElem P E) B n D ∧ ∀ x : ByteArray, Maps.has D (.string x.data.toList) = (f x).isSome ∧ D.atKey (.string x.data.toList) (.lit (.int .i64 0)) = .lit (.int .i64 ((f x).getD 0))
theorem MapS.made (P : Program) (K E : TypeId) (w : World) : MapS P K E (w.alloc (.map #[] 0)) w.heap.size 0 (fun _ => none) := ⟨.map [], World.ownsMap_made _ _ _ _, fun _ => ⟨rfl, rfl⟩⟩
theorem MapS.blk {P : Program} {K E : TypeId} {w : World} {B n : Nat} {f : ByteArray → Option Int} (h : MapS P K E w B n f) : ∃ es c, w.heap[B]? = some (.map es c) := by
 obtain ⟨D, ⟨es, c, hb, _⟩, _⟩ := h
 exact ⟨es, c, hb⟩
theorem MapS.move {P : Program} {K E : TypeId} {w w' : World} {B n : Nat} {f : ByteArray → Option Int} (h : MapS P K E w B n f) (hm : B < w.heap.size → w'.heap[B]? = w.heap[B]?) : MapS P K E w' B n f := by
 obtain ⟨D, ⟨es, c, hb, r⟩, hf⟩ := h
 exact ⟨D, ⟨es, c, (hm (blk_lt hb)).trans hb, r⟩, hf⟩
theorem MapS.below {P : Program} {K E : TypeId} {w w' : World} {B n : Nat} {f : ByteArray → Option Int} (h : MapS P K E w B n f) (hb : Below w.heap.size w w') : MapS P K E w' B n f := h.move (fun hl => hb.block B hl)
theorem MapS.set {P : Program} {K E : TypeId} {w : World} {B n : Nat} {f : ByteArray → Option Int} (h : MapS P K E w B n f) {p : Addr} (hp : B ≠ p.block) (u : Value) : MapS P K E (w.setCell p u) B n f := h.move (fun _ => Below.heap_setCell w p u B hp)
theorem MapS.grown {P : Program} {K E : TypeId} {w w' : World} {B n : Nat} {f : ByteArray → Option Int} (h : MapS P K E w B n f) {row : Option Nat} (hg : w.grownBy w' row) (hne : some B ≠ row) : MapS P K E w' B n f := h.move (fun hl => hg.block B hl hne)
theorem Qeb {α : Type} {P : Program} {ops : Array Oper} {rest : List Oper} {o : Oper} {a : Act} {Q : Exit → Act → World → Prop} {W : World} (d : Kd α) (hgd : o.guard = none) {N : Tmp} (_hd : o.dst = some N) (e base : Nat) (hrun : (execOp a.eval o).run P W = .ok (.value (.slice (some ⟨W.heap.size, 0, none⟩) 0 0)) (W.alloc (.cells #[] e (0, 0)))) {ok : Nat → Prop} (hfresh : ok W.heap.size) (hbase : base ≤ W.heap.size)
  (h : ∀ g, g = W.heap.size → ∀ w1, d.R e w1 base ok (.slice (some ⟨g, 0, none⟩) 0 0) [] → Below W.heap.size W w1 → wpList P ops Q rest (a.put o.dst (.slice (some ⟨g, 0, none⟩) 0 0)) w1) : wpList P ops Q (o :: rest) a W :=
 Kd.event_run hgd hrun (h _ rfl _ (by
  refine ⟨fun k hk => ?_, [], ?_, Reps.none _ _⟩
  ·have : W.heap.size = k := by simpa [Value.ownBlock] using hk
   subst this
   exact hfresh
  exact ⟨by simp, .inr ⟨W.heap.size, 0, #[], rfl, hbase, heap_alloc_new W _, Nat.zero_le _, by simp [maxLen], by simp, by simp⟩⟩) (Qae (Below.refl _ _) _))
theorem MapS.ne_blk {P : Program} {K E : TypeId} {w : World} {B n : Nat} {f : ByteArray → Option Int} (h : MapS P K E w B n f) {g t : Nat} {cs : Array Value} (hg : w.heap[g]? = some (.cells cs t (0, 0))) : B ≠ g := by
 obtain ⟨es, c, hb⟩ := h.blk
 rintro rfl
 rw [hb] at hg
 cases hg
theorem Qei {x y : ByteArray} (h : x.data.toList = y.data.toList) : x = y := by
 cases x; cases y; congr 1; exact Array.toList_inj.mp h
section
variable {P : Program} {ops : Array Oper} {rest : List Oper} {o : Oper} {a : Act} {Q : Exit → Act → World → Prop} {W : World}
theorem QcR {K E : TypeId} {B n : Nat} {f : ByteArray → Option Int} (h : MapS P K E W B n f) (hgd : o.guard = none) (m x : Operand) (t : TypeId) (hop : o.op = .lookup t m x J) (hk : P.underlying K = some .string) (he : P.underlying E = some (.int .i64)) (ht : P.underlying t = some (.map K E))
  (hz : (zeroValue E).run P W = .ok (.int .i64 0) W) (hm : a.eval m = .map (some B)) (k0 : ByteArray) (hx : a.eval x = .string k0) (wk : k0.size ≤ maxLen)
  (hK : wpList P ops Q rest (a.put o.dst (.tuple #[.int .i64 ((f k0).getD 0), .bool (f k0).isSome])) W) : wpList P ops Q (o :: rest) a W := by
 obtain ⟨D, ho, hf⟩ := h
 refine wpList_lookup_own_ok_int _ hgd m x t hop K E .i64 (Maps.string_keyed hk) ht he hz B n D hm ho _ _ hx (WideMaps.keyOf_string_mk hk wk) (fun c hat _ => ?_)
 have e := (hf k0).2.symm.trans hat
 injection e with e
 injection e with _ e
 rw [← e, (hf k0).1]
 exact hK
theorem Qej {K E : TypeId} {B n : Nat} {f : ByteArray → Option Int} (h : MapS P K E W B n f) (hgd : o.guard = none) (m x y : Operand) (t : TypeId) (hop : o.op = .mapUpdate t m x y) (hk : P.underlying K = some .string) (he : P.underlying E = some (.int .i64)) (ht : P.underlying t = some (.map K E))
  (hm : a.eval m = .map (some B)) (hn : n < maxLen) (k0 : ByteArray) (v0 : Int) (hx : a.eval x = .string k0) (hv : a.eval y = .int .i64 v0) (wk : k0.size ≤ maxLen) (wv : (Lit.int .i64 v0).wf = J)
  (hK : ∀ w', MapS P K E w' B (n + 1) (fun z => if z = k0 then some v0 else f z) → W.grownBy w' (some B) → wpList P ops Q rest (a.put o.dst undef) w') : wpList P ops Q (o :: rest) a W := by
 obtain ⟨D, ho, hf⟩ := h
 refine wpList_mapUpdate_own _ hgd m x y t hop K E (Maps.string_keyed hk) ht (plainElem P E) B n D hm ho hn _ _ _ hx hv (WideMaps.keyOf_string_mk hk wk) _ [] (plainElem_int he wv) (fun w' h1 hg => hK w' ⟨_, h1, fun z => ?_⟩ hg)
 have hkl : WideAt.IsKeyLit (.string k0.data.toList) := trivial
 by_cases hzk : z = k0
 ·subst hzk
  simp only [if_true]
  exact ⟨Maps.has_put_same ho.isMap hkl _, Maps.atKey_put_same ho.isMap hkl _ _⟩
 simp only [if_neg hzk]
 have hne : (Lit.string z.data.toList) ≠ .string k0.data.toList := by intro e; injection e with e; exact hzk (Qei e)
 rw [Maps.has_put_other hne, Maps.atKey_put_other hne]
 exact hf z
theorem Qec (K E : TypeId) (hgd : o.guard = none) (t : TypeId) {N : Tmp} (_hd : o.dst = some N) (hop : o.op = .makeMap t none)
  (h : ∀ B, B = W.heap.size → ∀ w1, MapS P K E w1 B 0 (fun _ => none) → Below W.heap.size W w1 → wpList P ops Q rest (a.put o.dst (.map (some B))) w1) : wpList P ops Q (o :: rest) a W :=
 Kd.event_run hgd (by unfold execOp; simp only [hop, Sem.run_bind, run_makeMap, Result.andThen_ok]; rfl) (h _ rfl _ (MapS.made P K E W) (Qae (Below.refl _ _) _))
end
theorem Qco {P : Program} {fn : Func} {p p' u : Tmp} {ty ty' : TypeId} (h : fn.results = #[.cell p ty, .cell p' ty', .tmp u]) (tmps : Array Value) (w : World) (g g' : Nat) (t t' : TypeId) (v v' : Value) (fr fr' : Nat × Nat) (d d' : TypeDesc)
  (hp : tmps.getD p undef = .pointer (some ⟨g, 0, none⟩)) (hg : w.heap[g]? = some (.cells #[v] t fr))
  (hu : P.underlying ty = some d) (hd : (match d with | .struct _ | .array _ _ => J | _ => V) = V) (hi : (P.info? ty).map (·.size) = some 1)
  (hp' : tmps.getD p' undef = .pointer (some ⟨g', 0, none⟩)) (hg' : w.heap[g']? = some (.cells #[v'] t' fr'))
  (hu' : P.underlying ty' = some d') (hd' : (match d' with | .struct _ | .array _ _ => J | _ => V) = V) (hi' : (P.info? ty').map (·.size) = some 1) :
  (results fn tmps).run P w = .ok (.tuple #[v, v', tmps.getD u undef]) w := by
 have h1 : tmps[p]?.getD undef = .pointer (some ⟨g, 0, none⟩) := by simpa using hp
 have h2 : tmps[p']?.getD undef = .pointer (some ⟨g', 0, none⟩) := by simpa using hp'
 simp [results, h, h1, h2, asAddr, Qck w g t ty v fr d hg hu hd hi, Qck w g' t' ty' v' fr' d' hg' hu' hd' hi']
theorem QbC {w : World} {g h t t' : Nat} {cs cs' : Array Value} {f f' : Nat × Nat} (hg : w.heap[g]? = some (.cells cs t f)) (hh : w.heap[h]? = some (.cells cs' t' f')) (ne : t ≠ t') : g ≠ h := by
 rintro rfl
 rw [hg] at hh
 injection hh with hh
 injection hh with _ hh
 exact ne hh
theorem QdJ {w w1 : World} {base bv bl n m cv cl : Nat} {sv lf : List Int} (HV : Kd.R (Kd.int .i64) 3 w base (fun k => some k ≠ (Value.slice (some ⟨bl, 0, none⟩) m cl).ownBlock) (.slice (some ⟨bv, 0, none⟩) n cv) sv) (HL : Kd.R (Kd.int .i64) 3 w base (fun k => some k ≠ (Value.slice (some ⟨bv, 0, none⟩) n cv).ownBlock) (.slice (some ⟨bl, 0, none⟩) m cl) lf) (hb : Below w.heap.size w w1) (i x y : Int) :
  Kd.R (Kd.int .i64) 3 ((w1.setCell ⟨bv, i.toNat, none⟩ (.int .i64 x)).setCell ⟨bl, i.toNat, none⟩ (.int .i64 y)) base (fun k => some k ≠ (Value.slice (some ⟨bl, 0, none⟩) m cl).ownBlock) (.slice (some ⟨bv, 0, none⟩) n cv) (sv.set i.toNat x) ∧
  Kd.R (Kd.int .i64) 3 ((w1.setCell ⟨bv, i.toNat, none⟩ (.int .i64 x)).setCell ⟨bl, i.toNat, none⟩ (.int .i64 y)) base (fun k => some k ≠ (Value.slice (some ⟨bv, 0, none⟩) n cv).ownBlock) (.slice (some ⟨bl, 0, none⟩) m cl) (lf.set i.toNat y) :=
 ⟨Kd.R_far (p := ⟨bl, i.toNat, none⟩) (Kd.R_putn (Kd.R_below HV hb) i x) (fun k hk e => hk (by rw [e]; rfl)) _, Kd.R_putn (Kd.R_far (p := ⟨bv, i.toNat, none⟩) (Kd.R_below HL hb) (fun k hk e => hk (by rw [e]; rfl)) _) i y⟩
theorem Qbq {w w1 : World} {g bv bl : Nat} {t : TypeId} {cs : Array Value} (h : w.heap[g]? = some (.cells cs t (0, 0))) (hb : Below w.heap.size w w1) (n1 : g ≠ bv) (n2 : g ≠ bl) (i x y : Int) : ((w1.setCell ⟨bv, i.toNat, none⟩ (.int .i64 x)).setCell ⟨bl, i.toNat, none⟩ (.int .i64 y)).heap[g]? = some (.cells cs t (0, 0)) :=
 Qa1 (p := ⟨bl, i.toNat, none⟩) (Qa1 (p := ⟨bv, i.toNat, none⟩) (Qaq h hb) n1 _) n2 _
def Qam.m : Nat → List ByteArray → (ByteArray → Option Int) → Nat → Int → Option (ByteArray → Option Int)
 | 0, _, _, _, _ => none
 | k + 1, l0, f, n, x => if x < (l0.length : Int) then (if 0 ≤ x then (if n < 9223372036854775807 ∧ (rdOf ByteArray.empty l0 x).size ≤ 9223372036854775807 ∧ -9223372036854775808 ≤ x ∧ x ≤ 9223372036854775807 then Qam.m k l0 (fun z => if z = rdOf ByteArray.empty l0 x then some x else f z) (n + 1) (wrap64 (x + 1)) else none) else none) else some f
def Qam.new (sv rs lf : List Int) (i t own : Int) : List Int × List Int := (sv.set i.toNat (mn (wrap64 (rd sv i + own)) (rd rs i)), lf.set i.toNat (wrap64 (rd lf i + if 0 < rd lf i then wrap64 (-t) else t)))
def Qam.s (F : ByteArray → Option Int) (ds rs : List Int) (c : S152) (sv lf : List Int) : Option (List Int × List Int) :=
 if c.f0.size ≤ 9223372036854775807 ∧ c.f1.size ≤ 9223372036854775807 then
  if (F c.f0).isSome = J then
   if (F c.f1).isSome = J then
    if (0 ≤ (F c.f0).getD 0 ∧ (F c.f0).getD 0 < (lf.length : Int) ∧ (F c.f0).getD 0 < (sv.length : Int) ∧ (F c.f0).getD 0 < (ds.length : Int) ∧ (F c.f0).getD 0 < (rs.length : Int)) ∧ 0 ≤ (F c.f1).getD 0 ∧ (F c.f1).getD 0 < (lf.length : Int) ∧ (F c.f1).getD 0 < (sv.length : Int) ∧ (F c.f1).getD 0 < (ds.length : Int) ∧ (F c.f1).getD 0 < (rs.length : Int) then
     if rd lf ((F c.f0).getD 0) = 0 then some (sv, lf)
     else if rd lf ((F c.f1).getD 0) = 0 then some (sv, lf)
     else if decide (0 < rd lf ((F c.f0).getD 0)) = decide (0 < rd lf ((F c.f1).getD 0)) then some (sv, lf)
     else if wrap64 (1000 * c.f2) = 0 then none
     else if wrap64 (1000 * c.f3) = 0 then none
     else (Qbo.f (rd lf ((F c.f0).getD 0))).bind fun za => (Qbo.f (rd lf ((F c.f1).getD 0))).bind fun zb =>
      (Qbt.f (rd rs ((F c.f0).getD 0)) (rd ds ((F c.f0).getD 0)) (wrap64 (wrap64 (mn (wrap64 (Int.tdiv za (wrap64 (1000 * c.f2)))) (wrap64 (Int.tdiv zb (wrap64 (1000 * c.f3)))) * 1000) * c.f2)) c.f4).bind fun o1 =>
      (Qbt.f (rd rs ((F c.f1).getD 0)) (rd ds ((F c.f1).getD 0)) (wrap64 (wrap64 (mn (wrap64 (Int.tdiv za (wrap64 (1000 * c.f2)))) (wrap64 (Int.tdiv zb (wrap64 (1000 * c.f3)))) * 1000) * c.f3)) c.f4).bind fun o2 =>
      some (Qam.new (Qam.new sv rs lf ((F c.f0).getD 0) (wrap64 (wrap64 (mn (wrap64 (Int.tdiv za (wrap64 (1000 * c.f2)))) (wrap64 (Int.tdiv zb (wrap64 (1000 * c.f3)))) * 1000) * c.f2)) o1).1 rs (Qam.new sv rs lf ((F c.f0).getD 0) (wrap64 (wrap64 (mn (wrap64 (Int.tdiv za (wrap64 (1000 * c.f2)))) (wrap64 (Int.tdiv zb (wrap64 (1000 * c.f3)))) * 1000) * c.f2)) o1).2 ((F c.f1).getD 0) (wrap64 (wrap64 (mn (wrap64 (Int.tdiv za (wrap64 (1000 * c.f2)))) (wrap64 (Int.tdiv zb (wrap64 (1000 * c.f3)))) * 1000) * c.f3)) o2)
    else none
   else some (sv, lf)
  else some (sv, lf)
 else none
def Qam.l (F : ByteArray → Option Int) (ds rs : List Int) (l3 : List S152) : Nat → Int → List Int → List Int → Option (List Int × List Int)
 | 0, _, _, _ => none
 | k + 1, x, sv, lf => if x < (l3.length : Int) then (if 0 ≤ x then (Qam.s F ds rs (Qan l3 x) sv lf).bind fun p => Qam.l F ds rs l3 k (wrap64 (x + 1)) p.1 p.2 else none) else some (sv, lf)
def Qam.f (k : Nat) (l0 : List ByteArray) (l1 l2 : List Int) (l3 : List S152) : Option (List Int × List Int × Int) :=
 (QaG.f k l3).bind fun e => if e = 0 then ((QaL.f k l0 l1 l2).bind fun b => if b = J then (if l0.length < 17592186044416 ∧ l1.length < 17592186044416 then ((Qam.m k l0 (fun _ => none) 0 0).bind fun F => (Qam.l F l1 l2 l3 k 0 (List.replicate l0.length 0) l1).bind fun p => some (p.1, p.2, 0)) else none) else some ([], [], 2)) else some ([], [], e)
theorem Qam.mono_m : ∀ k l0 f n x, LeO (Qam.m k l0 f n x) (Qam.m (k + 1) l0 f n x)
 | 0 => fun _ _ _ _ r h => by simp [Qam.m] at h
 | k + 1 => by
  intro l0 f n x
  unfold Qam.m
  exact LeO.ite (LeO.ite (LeO.ite (Qam.mono_m k _ _ _ _) (LeO.none _)) (LeO.none _)) (LeO.refl _)
theorem Qam.mono_l (F : ByteArray → Option Int) (ds rs : List Int) (l3 : List S152) : ∀ k x sv lf, LeO (Qam.l F ds rs l3 k x sv lf) (Qam.l F ds rs l3 (k + 1) x sv lf)
 | 0 => fun _ _ _ r h => by simp [Qam.l] at h
 | k + 1 => by
  intro x sv lf
  unfold Qam.l
  exact LeO.ite (LeO.ite (LeO.bind (LeO.refl _) (fun _ => Qam.mono_l F ds rs l3 k _ _ _)) (LeO.none _)) (LeO.refl _)
theorem Qam.mono : ∀ a0 a1 a2 a3 k, LeO (Qam.f k a0 a1 a2 a3) (Qam.f (k + 1) a0 a1 a2 a3) := by
 intro a0 a1 a2 a3 k
 unfold Qam.f
 exact LeO.bind (QaG.mono _ _) (fun _ => LeO.ite (LeO.bind (QaL.mono _ _ _ _) (fun _ => LeO.ite (LeO.ite (LeO.bind (Qam.mono_m _ _ _ _ _) (fun _ => LeO.bind (Qam.mono_l _ _ _ _ _ _ _ _) (fun _ => LeO.refl _))) (LeO.none _)) (LeO.refl _))) (LeO.refl _))
def Qam.St (w : World) (mb n : Nat) (f : ByteArray → Option Int) (g5 g6 g8 g9 g16 ga gb gn bv bl n0 n1 n2 cv cw c1 c2 : Nat) (ad ar : Addr) (nA nB : ByteArray) (la lb th a b nn : Int) (w' : World) (sv lf : List Int) : Prop :=
 MapS Try.prog 9 3 w' mb n f ∧ Kd.R (Kd.int .i64) 3 w' w.heap.size (fun k_ => some k_ ≠ (Value.slice (some ⟨bl, 0, none⟩) n1 cw).ownBlock) (.slice (some ⟨bv, 0, none⟩) n0 cv) sv ∧ Kd.R (Kd.int .i64) 3 w' w.heap.size (fun k_ => some k_ ≠ (Value.slice (some ⟨bv, 0, none⟩) n0 cv).ownBlock) (.slice (some ⟨bl, 0, none⟩) n1 cw) lf ∧ Below w.heap.size w w' ∧ w'.heap[g5]? = some (.cells #[.slice (some ad) n1 c1] 32 (0, 0)) ∧ w'.heap[g6]? = some (.cells #[.slice (some ar) n2 c2] 32 (0, 0)) ∧ w'.heap[g8]? = some (.cells #[.slice (some ⟨bv, 0, none⟩) n0 cv] 32 (0, 0)) ∧ w'.heap[g9]? = some (.cells #[.slice (some ⟨bl, 0, none⟩) n1 cw] 32 (0, 0)) ∧ w'.heap[g16]? = some (.cells #[.string nA, .string nB, .int .i64 la, .int .i64 lb, .int .i64 th] 152 (0, 0)) ∧ w'.heap[ga]? = some (.cells #[.int .i64 a, .int .i64 b] 144 (0, 0)) ∧ w'.heap[gb]? = some (.cells #[.int .i64 la, .int .i64 lb] 144 (0, 0)) ∧ w'.heap[gn]? = some (.cells #[.int .i64 nn] 3 (0, 0))
def Qam.Ap (w : World) (mb g5 g6 g8 g9 g16 ga gb gn bv bl : Nat) : Prop :=
 w.heap.size ≤ bv ∧ w.heap.size ≤ bl ∧ bv ≠ bl ∧ mb ≠ bv ∧ mb ≠ bl ∧ g5 ≠ bv ∧ g6 ≠ bv ∧ g8 ≠ bv ∧ g9 ≠ bv ∧ g16 ≠ bv ∧ ga ≠ bv ∧ gb ≠ bv ∧ gn ≠ bv ∧ g5 ≠ bl ∧ g6 ≠ bl ∧ g8 ≠ bl ∧ g9 ≠ bl ∧ g16 ≠ bl ∧ ga ≠ bl ∧ gb ≠ bl ∧ gn ≠ bl
theorem Qam.call0 {w w1 : World} {mb n : Nat} {f : ByteArray → Option Int} {g5 g6 g8 g9 g16 ga gb gn bv bl n0 cv cw c1 c2 : Nat} {ad ar : Addr} {nA nB : ByteArray} {la lb th a b nn o : Int} {l1 l2 sv lf : List Int}
  (A : Qam.Ap w mb g5 g6 g8 g9 g16 ga gb gn bv bl) (H : Qam.St w mb n f g5 g6 g8 g9 g16 ga gb gn bv bl n0 l1.length l2.length cv cw c1 c2 ad ar nA nB la lb th a b nn w1 sv lf) (HR1 : Kd.C (Kd.int .i64) w (some ad) l1.length l1) (HR2 : Kd.C (Kd.int .i64) w (some ar) l2.length l2)
  (p0 : 0 ≤ a) (p2 : a < (sv.length : Int)) (p3 : a < (l1.length : Int)) (p4 : a < (l2.length : Int)) (e0 : n0 = sv.length) (T : Qbt.f (rd l2 a) (rd l1 a) (wrap64 (wrap64 (nn * 1000) * la)) th = some o) :
  Calls Try.prog 68 #[.int .i64 0, .pointer (some ⟨ga, 0, none⟩), .pointer (some ⟨gn, 0, none⟩), .pointer (some ⟨gb, 0, none⟩), .pointer (some ⟨g6, 0, none⟩), .pointer (some ⟨g5, 0, none⟩), .pointer (some ⟨g16, 0, none⟩), .pointer (some ⟨g8, 0, none⟩), .pointer (some ⟨g9, 0, none⟩)] w1
   fun e w' => e = .returned (.tuple #[]) ∧ Qam.St w mb n f g5 g6 g8 g9 g16 ga gb gn bv bl n0 l1.length l2.length cv cw c1 c2 ad ar nA nB la lb th a b nn w' (Qam.new sv l2 lf a (wrap64 (wrap64 (nn * 1000) * la)) o).1 (Qam.new sv l2 lf a (wrap64 (wrap64 (nn * 1000) * la)) o).2 := by
 obtain ⟨GV, GL, NVL, NMV, NML, Vg5, Vg6, Vg8, Vg9, Vg16, Vga, Vgb, Vgn, Lg5, Lg6, Lg8, Lg9, Lg16, Lga, Lgb, Lgn⟩ := A
 obtain ⟨MS, HV, HL, HB, Dg5, Dg6, Dg8, Dg9, Dg16, Dga, Dgb, Dgn⟩ := H
 have p2' : a < (n0 : Int) := by rw [e0]; exact p2
 obtain ⟨ar1, ear, hra⟩ := Kd.at_int HR2 a p0 p4
 obtain rfl : ar = ar1 := by injection ear
 obtain ⟨ad1, ead, hda⟩ := Kd.at_int HR1 a p0 p3
 obtain rfl : ad = ad1 := by injection ead
 have z1 := ((Qad Dga 0).trans (show (#[.int .i64 a, .int .i64 b] : Array Value)[0]? = some (Value.int .i64 a) from rfl))
 have z2 := ((Qad Dgn 0).trans (show (#[.int .i64 nn] : Array Value)[0]? = some (Value.int .i64 nn) from rfl))
 have z3 := ((Qad Dgb 0).trans (show (#[.int .i64 la, .int .i64 lb] : Array Value)[0]? = some (Value.int .i64 la) from rfl))
 have z4 := ((Qad Dg6 0).trans (show (#[.slice (some ar) l2.length c2] : Array Value)[0]? = some (Value.slice (some ar) l2.length c2) from rfl))
 have z5 := ((Qad Dg5 0).trans (show (#[.slice (some ad) l1.length c1] : Array Value)[0]? = some (Value.slice (some ad) l1.length c1) from rfl))
 have z6 := ((Qad Dg16 4).trans (show (#[.string nA, .string nB, .int .i64 la, .int .i64 lb, .int .i64 th] : Array Value)[4]? = some (Value.int .i64 th) from rfl))
 have z7 := ((Qad Dg8 0).trans (show (#[.slice (some ⟨bv, 0, none⟩) n0 cv] : Array Value)[0]? = some (Value.slice (some ⟨bv, 0, none⟩) n0 cv) from rfl))
 have z8 := ((Qad Dg9 0).trans (show (#[.slice (some ⟨bl, 0, none⟩) l1.length cw] : Array Value)[0]? = some (Value.slice (some ⟨bl, 0, none⟩) l1.length cw) from rfl))
 have z9 := (HB.cell (World.block_lt_of_cell? _ _ hra)).trans hra
 have z10 := (HB.cell (World.block_lt_of_cell? _ _ hda)).trans hda
 have z11 := (Kd.R_celln 0 HV a p0 p2').1
 have z12 := (Kd.R_celln 0 HL a p0 p3).1
 have z13 : ∀ w_, Below w1.heap.size w1 w_ → w_.frozen? ⟨bv, a.toNat, none⟩ = V := fun w_ h_ => (Kd.R_celln 0 (Kd.R_below HV h_) a p0 p2').2
 have z14 : ∀ w_, Below w1.heap.size w1 w_ → ∀ u_, (w_.setCell ⟨bv, a.toNat, none⟩ u_).frozen? ⟨bl, a.toNat, none⟩ = V := fun w_ h_ u_ => (Kd.R_celln 0 (Kd.R_far (p := ⟨bv, a.toNat, none⟩) (Kd.R_below HL h_) (fun k hk e => hk (by rw [e]; rfl)) u_) a p0 p3).2
 refine (QaM.calls0 ga gn gb g6 g5 g16 g8 g9 bv bl a nn la th (rd l2 a) (rd l1 a) (rd sv a) (rd lf a) o ar ad l2.length l1.length n0 l1.length c2 c1 cv cw w1 z1 z2 z3 z4 z5 z6 z7 z8 z9 z10 z11 z12 z13 z14 p0 p4 p3 p2' p3 Vg9 (fun e => NVL e.symm) T).mono ?_
 rintro _ _ ⟨rfl, w2, hb, rfl⟩
 have R := QdJ HV HL hb a (mn (wrap64 (rd sv a + o)) (rd l2 a)) (wrap64 (rd lf a + if 0 < rd lf a then wrap64 (-(wrap64 (wrap64 (nn * 1000) * la))) else wrap64 (wrap64 (nn * 1000) * la)))
 exact ⟨rfl, ((MS.below hb).set (p := ⟨bv, a.toNat, none⟩) NMV _).set (p := ⟨bl, a.toNat, none⟩) NML _, R.1, R.2, Qaj (Qaj (Qav HB hb) GV) GL, Qbq Dg5 hb Vg5 Lg5 a (mn (wrap64 (rd sv a + o)) (rd l2 a)) (wrap64 (rd lf a + if 0 < rd lf a then wrap64 (-(wrap64 (wrap64 (nn * 1000) * la))) else wrap64 (wrap64 (nn * 1000) * la))), Qbq Dg6 hb Vg6 Lg6 a (mn (wrap64 (rd sv a + o)) (rd l2 a)) (wrap64 (rd lf a + if 0 < rd lf a then wrap64 (-(wrap64 (wrap64 (nn * 1000) * la))) else wrap64 (wrap64 (nn * 1000) * la))), Qbq Dg8 hb Vg8 Lg8 a (mn (wrap64 (rd sv a + o)) (rd l2 a)) (wrap64 (rd lf a + if 0 < rd lf a then wrap64 (-(wrap64 (wrap64 (nn * 1000) * la))) else wrap64 (wrap64 (nn * 1000) * la))), Qbq Dg9 hb Vg9 Lg9 a (mn (wrap64 (rd sv a + o)) (rd l2 a)) (wrap64 (rd lf a + if 0 < rd lf a then wrap64 (-(wrap64 (wrap64 (nn * 1000) * la))) else wrap64 (wrap64 (nn * 1000) * la))), Qbq Dg16 hb Vg16 Lg16 a (mn (wrap64 (rd sv a + o)) (rd l2 a)) (wrap64 (rd lf a + if 0 < rd lf a then wrap64 (-(wrap64 (wrap64 (nn * 1000) * la))) else wrap64 (wrap64 (nn * 1000) * la))), Qbq Dga hb Vga Lga a (mn (wrap64 (rd sv a + o)) (rd l2 a)) (wrap64 (rd lf a + if 0 < rd lf a then wrap64 (-(wrap64 (wrap64 (nn * 1000) * la))) else wrap64 (wrap64 (nn * 1000) * la))), Qbq Dgb hb Vgb Lgb a (mn (wrap64 (rd sv a + o)) (rd l2 a)) (wrap64 (rd lf a + if 0 < rd lf a then wrap64 (-(wrap64 (wrap64 (nn * 1000) * la))) else wrap64 (wrap64 (nn * 1000) * la))), Qbq Dgn hb Vgn Lgn a (mn (wrap64 (rd sv a + o)) (rd l2 a)) (wrap64 (rd lf a + if 0 < rd lf a then wrap64 (-(wrap64 (wrap64 (nn * 1000) * la))) else wrap64 (wrap64 (nn * 1000) * la)))⟩
theorem Qam.call1 {w w1 : World} {mb n : Nat} {f : ByteArray → Option Int} {g5 g6 g8 g9 g16 ga gb gn bv bl n0 cv cw c1 c2 : Nat} {ad ar : Addr} {nA nB : ByteArray} {la lb th a b nn o : Int} {l1 l2 sv lf : List Int}
  (A : Qam.Ap w mb g5 g6 g8 g9 g16 ga gb gn bv bl) (H : Qam.St w mb n f g5 g6 g8 g9 g16 ga gb gn bv bl n0 l1.length l2.length cv cw c1 c2 ad ar nA nB la lb th a b nn w1 sv lf) (HR1 : Kd.C (Kd.int .i64) w (some ad) l1.length l1) (HR2 : Kd.C (Kd.int .i64) w (some ar) l2.length l2)
  (p0 : 0 ≤ b) (p2 : b < (sv.length : Int)) (p3 : b < (l1.length : Int)) (p4 : b < (l2.length : Int)) (e0 : n0 = sv.length) (T : Qbt.f (rd l2 b) (rd l1 b) (wrap64 (wrap64 (nn * 1000) * lb)) th = some o) :
  Calls Try.prog 68 #[.int .i64 1, .pointer (some ⟨ga, 0, none⟩), .pointer (some ⟨gn, 0, none⟩), .pointer (some ⟨gb, 0, none⟩), .pointer (some ⟨g6, 0, none⟩), .pointer (some ⟨g5, 0, none⟩), .pointer (some ⟨g16, 0, none⟩), .pointer (some ⟨g8, 0, none⟩), .pointer (some ⟨g9, 0, none⟩)] w1
   fun e w' => e = .returned (.tuple #[]) ∧ Qam.St w mb n f g5 g6 g8 g9 g16 ga gb gn bv bl n0 l1.length l2.length cv cw c1 c2 ad ar nA nB la lb th a b nn w' (Qam.new sv l2 lf b (wrap64 (wrap64 (nn * 1000) * lb)) o).1 (Qam.new sv l2 lf b (wrap64 (wrap64 (nn * 1000) * lb)) o).2 := by
 obtain ⟨GV, GL, NVL, NMV, NML, Vg5, Vg6, Vg8, Vg9, Vg16, Vga, Vgb, Vgn, Lg5, Lg6, Lg8, Lg9, Lg16, Lga, Lgb, Lgn⟩ := A
 obtain ⟨MS, HV, HL, HB, Dg5, Dg6, Dg8, Dg9, Dg16, Dga, Dgb, Dgn⟩ := H
 have p2' : b < (n0 : Int) := by rw [e0]; exact p2
 obtain ⟨ar1, ear, hra⟩ := Kd.at_int HR2 b p0 p4
 obtain rfl : ar = ar1 := by injection ear
 obtain ⟨ad1, ead, hda⟩ := Kd.at_int HR1 b p0 p3
 obtain rfl : ad = ad1 := by injection ead
 have z1 := ((Qad Dga 1).trans (show (#[.int .i64 a, .int .i64 b] : Array Value)[1]? = some (Value.int .i64 b) from rfl))
 have z2 := ((Qad Dgn 0).trans (show (#[.int .i64 nn] : Array Value)[0]? = some (Value.int .i64 nn) from rfl))
 have z3 := ((Qad Dgb 1).trans (show (#[.int .i64 la, .int .i64 lb] : Array Value)[1]? = some (Value.int .i64 lb) from rfl))
 have z4 := ((Qad Dg6 0).trans (show (#[.slice (some ar) l2.length c2] : Array Value)[0]? = some (Value.slice (some ar) l2.length c2) from rfl))
 have z5 := ((Qad Dg5 0).trans (show (#[.slice (some ad) l1.length c1] : Array Value)[0]? = some (Value.slice (some ad) l1.length c1) from rfl))
 have z6 := ((Qad Dg16 4).trans (show (#[.string nA, .string nB, .int .i64 la, .int .i64 lb, .int .i64 th] : Array Value)[4]? = some (Value.int .i64 th) from rfl))
 have z7 := ((Qad Dg8 0).trans (show (#[.slice (some ⟨bv, 0, none⟩) n0 cv] : Array Value)[0]? = some (Value.slice (some ⟨bv, 0, none⟩) n0 cv) from rfl))
 have z8 := ((Qad Dg9 0).trans (show (#[.slice (some ⟨bl, 0, none⟩) l1.length cw] : Array Value)[0]? = some (Value.slice (some ⟨bl, 0, none⟩) l1.length cw) from rfl))
 have z9 := (HB.cell (World.block_lt_of_cell? _ _ hra)).trans hra
 have z10 := (HB.cell (World.block_lt_of_cell? _ _ hda)).trans hda
 have z11 := (Kd.R_celln 0 HV b p0 p2').1
 have z12 := (Kd.R_celln 0 HL b p0 p3).1
 have z13 : ∀ w_, Below w1.heap.size w1 w_ → w_.frozen? ⟨bv, b.toNat, none⟩ = V := fun w_ h_ => (Kd.R_celln 0 (Kd.R_below HV h_) b p0 p2').2
 have z14 : ∀ w_, Below w1.heap.size w1 w_ → ∀ u_, (w_.setCell ⟨bv, b.toNat, none⟩ u_).frozen? ⟨bl, b.toNat, none⟩ = V := fun w_ h_ u_ => (Kd.R_celln 0 (Kd.R_far (p := ⟨bv, b.toNat, none⟩) (Kd.R_below HL h_) (fun k hk e => hk (by rw [e]; rfl)) u_) b p0 p3).2
 refine (QaM.calls1 ga gn gb g6 g5 g16 g8 g9 bv bl b nn lb th (rd l2 b) (rd l1 b) (rd sv b) (rd lf b) o ar ad l2.length l1.length n0 l1.length c2 c1 cv cw w1 z1 z2 z3 z4 z5 z6 z7 z8 z9 z10 z11 z12 z13 z14 p0 p4 p3 p2' p3 Vg9 (fun e => NVL e.symm) T).mono ?_
 rintro _ _ ⟨rfl, w2, hb, rfl⟩
 have R := QdJ HV HL hb b (mn (wrap64 (rd sv b + o)) (rd l2 b)) (wrap64 (rd lf b + if 0 < rd lf b then wrap64 (-(wrap64 (wrap64 (nn * 1000) * lb))) else wrap64 (wrap64 (nn * 1000) * lb)))
 exact ⟨rfl, ((MS.below hb).set (p := ⟨bv, b.toNat, none⟩) NMV _).set (p := ⟨bl, b.toNat, none⟩) NML _, R.1, R.2, Qaj (Qaj (Qav HB hb) GV) GL, Qbq Dg5 hb Vg5 Lg5 b (mn (wrap64 (rd sv b + o)) (rd l2 b)) (wrap64 (rd lf b + if 0 < rd lf b then wrap64 (-(wrap64 (wrap64 (nn * 1000) * lb))) else wrap64 (wrap64 (nn * 1000) * lb))), Qbq Dg6 hb Vg6 Lg6 b (mn (wrap64 (rd sv b + o)) (rd l2 b)) (wrap64 (rd lf b + if 0 < rd lf b then wrap64 (-(wrap64 (wrap64 (nn * 1000) * lb))) else wrap64 (wrap64 (nn * 1000) * lb))), Qbq Dg8 hb Vg8 Lg8 b (mn (wrap64 (rd sv b + o)) (rd l2 b)) (wrap64 (rd lf b + if 0 < rd lf b then wrap64 (-(wrap64 (wrap64 (nn * 1000) * lb))) else wrap64 (wrap64 (nn * 1000) * lb))), Qbq Dg9 hb Vg9 Lg9 b (mn (wrap64 (rd sv b + o)) (rd l2 b)) (wrap64 (rd lf b + if 0 < rd lf b then wrap64 (-(wrap64 (wrap64 (nn * 1000) * lb))) else wrap64 (wrap64 (nn * 1000) * lb))), Qbq Dg16 hb Vg16 Lg16 b (mn (wrap64 (rd sv b + o)) (rd l2 b)) (wrap64 (rd lf b + if 0 < rd lf b then wrap64 (-(wrap64 (wrap64 (nn * 1000) * lb))) else wrap64 (wrap64 (nn * 1000) * lb))), Qbq Dga hb Vga Lga b (mn (wrap64 (rd sv b + o)) (rd l2 b)) (wrap64 (rd lf b + if 0 < rd lf b then wrap64 (-(wrap64 (wrap64 (nn * 1000) * lb))) else wrap64 (wrap64 (nn * 1000) * lb))), Qbq Dgb hb Vgb Lgb b (mn (wrap64 (rd sv b + o)) (rd l2 b)) (wrap64 (rd lf b + if 0 < rd lf b then wrap64 (-(wrap64 (wrap64 (nn * 1000) * lb))) else wrap64 (wrap64 (nn * 1000) * lb))), Qbq Dgn hb Vgn Lgn b (mn (wrap64 (rd sv b + o)) (rd l2 b)) (wrap64 (rd lf b + if 0 < rd lf b then wrap64 (-(wrap64 (wrap64 (nn * 1000) * lb))) else wrap64 (wrap64 (nn * 1000) * lb)))⟩
theorem Qam.calls (k : Nat) (A0 : Option Addr) (c0 : Nat) (l0 : List ByteArray) (A1 : Option Addr) (c1 : Nat) (l1 : List Int) (A2 : Option Addr) (c2 : Nat) (l2 : List Int) (A3 : Option Addr) (c3 : Nat) (l3 : List S152) (r1 : List Int) (r2 : List Int) (r3 : Int) (w : World) (hr0 : Kd.C Kd.string w A0 l0.length l0) (hc0 : l0.length ≤ c0) (hr1 : Kd.C (Kd.int .i64) w A1 l1.length l1) (hc1 : l1.length ≤ c1) (hr2 : Kd.C (Kd.int .i64) w A2 l2.length l2) (hc2 : l2.length ≤ c2) (hr3 : Kd.C k152 w A3 l3.length l3) (hc3 : l3.length ≤ c3) (h : Qam.f k l0 l1 l2 l3 = some (r1, r2, r3)) :
  Calls Try.prog 20 #[.slice A0 l0.length c0, .slice A1 l1.length c1, .slice A2 l2.length c2, .slice A3 l3.length c3] w fun e w' => ∃ v0_ v1_ : Value, e = .returned (.tuple #[v0_, v1_, .int .i64 r3]) ∧ Kd.R (Kd.int .i64) 3 w' w.heap.size (fun k_ => some k_ ≠ (v1_ : Value).ownBlock) v0_ r1 ∧ Kd.R (Kd.int .i64) 3 w' w.heap.size (fun k_ => some k_ ≠ (v0_ : Value).ownBlock) v1_ r2 ∧ Below w.heap.size w w' := by
 have HR0 := Aside0.mk hr0
 have HC0 := Aside0.mk hc0
 clear hr0 hc0
 have HR1 := Aside0.mk hr1
 have HC1 := Aside0.mk hc1
 clear hr1 hc1
 have HR2 := Aside0.mk hr2
 have HC2 := Aside0.mk hc2
 clear hr2 hc2
 have HR3 := Aside0.mk hr3
 have HC3 := Aside0.mk hc3
 clear hr3 hc3
 have HB := Aside0.mk (Below.refl w.heap.size w)
 unfold Qam.f at h
 replace h := Option.bind_eq_some_iff.1 h
 obtain ⟨e0, A00, H⟩ := h
 have A0_ := Aside0.mk A00
 clear A00
 have H' := Aside0.mk H
 clear H
 go_enter Try.func20, Try.ntmps20
 go_upto_if 28 with (first | ((with_reducible refine Qa2 (N := 5) rfl ?_); refine Zbx (N := 5) (cs := #[.slice A1 l1.length c1]) (t := 32) ?_; intro g5 hg w1 hbox hb; have n_ := Aside0.mk (Qav HB.out hb); have GEg5 := Aside0.mk (show w.heap.size ≤ g5 by rw [hg]; exact Qax HB.out); clear HB; have HB := n_; clear n_; have BKg5 := Aside0.mk hbox; clear hb hbox hg) | ((with_reducible refine Qa2 (N := 6) rfl ?_); refine Zbx (N := 6) (cs := #[.slice A2 l2.length c2]) (t := 32) ?_; intro g6 hg w2 hbox hb; have n_ := Aside0.mk (Qav HB.out hb); have GEg6 := Aside0.mk (show w.heap.size ≤ g6 by rw [hg]; exact Qax HB.out); have NBg5_g6 := Aside0.mk (show g5 ≠ g6 by rw [hg]; exact Nat.ne_of_lt (blk_lt BKg5.out)); have og5 := Aside0.mk (Qaq (g := g5) (o := .cells #[.slice A1 l1.length c1] 32 (0, 0)) BKg5.out hb); clear HB BKg5; have HB := n_; have BKg5 := og5; clear n_ og5; have BKg6 := Aside0.mk hbox; clear hb hbox hg) | ((with_reducible refine Qa2 (N := 8) rfl ?_); refine Zbx (N := 8) (cs := #[.slice none 0 0]) (t := 32) ?_; intro g8 hg w3 hbox hb; have n_ := Aside0.mk (Qav HB.out hb); have GEg8 := Aside0.mk (show w.heap.size ≤ g8 by rw [hg]; exact Qax HB.out); have NBg5_g8 := Aside0.mk (show g5 ≠ g8 by rw [hg]; exact Nat.ne_of_lt (blk_lt BKg5.out)); have og5 := Aside0.mk (Qaq (g := g5) (o := .cells #[.slice A1 l1.length c1] 32 (0, 0)) BKg5.out hb); have NBg6_g8 := Aside0.mk (show g6 ≠ g8 by rw [hg]; exact Nat.ne_of_lt (blk_lt BKg6.out)); have og6 := Aside0.mk (Qaq (g := g6) (o := .cells #[.slice A2 l2.length c2] 32 (0, 0)) BKg6.out hb); clear HB BKg5 BKg6; have HB := n_; have BKg5 := og5; have BKg6 := og6; clear n_ og5 og6; have BKg8 := Aside0.mk hbox; clear hb hbox hg) | ((with_reducible refine Qa2 (N := 9) rfl ?_); refine Zbx (N := 9) (cs := #[.slice none 0 0]) (t := 32) ?_; intro g9 hg w4 hbox hb; have n_ := Aside0.mk (Qav HB.out hb); have GEg9 := Aside0.mk (show w.heap.size ≤ g9 by rw [hg]; exact Qax HB.out); have NBg5_g9 := Aside0.mk (show g5 ≠ g9 by rw [hg]; exact Nat.ne_of_lt (blk_lt BKg5.out)); have og5 := Aside0.mk (Qaq (g := g5) (o := .cells #[.slice A1 l1.length c1] 32 (0, 0)) BKg5.out hb); have NBg6_g9 := Aside0.mk (show g6 ≠ g9 by rw [hg]; exact Nat.ne_of_lt (blk_lt BKg6.out)); have og6 := Aside0.mk (Qaq (g := g6) (o := .cells #[.slice A2 l2.length c2] 32 (0, 0)) BKg6.out hb); have NBg8_g9 := Aside0.mk (show g8 ≠ g9 by rw [hg]; exact Nat.ne_of_lt (blk_lt BKg8.out)); have og8 := Aside0.mk (Qaq (g := g8) (o := .cells #[.slice none 0 0] 32 (0, 0)) BKg8.out hb); clear HB BKg5 BKg6 BKg8; have HB := n_; have BKg5 := og5; have BKg6 := og6; have BKg8 := og8; clear n_ og5 og6 og8; have BKg9 := Aside0.mk hbox; clear hb hbox hg) | (go_at_call 65; refine (QaG.calls k A3 c3 l3 e0 _ (Kd.C_below HR3.out HB.out) HC3.out A0_.out).mono ?_; rintro _ w5 ⟨rfl, hb⟩; have og5 := Aside0.mk (Qaq (g := g5) (o := .cells #[.slice A1 l1.length c1] 32 (0, 0)) BKg5.out hb); clear BKg5; have BKg5 := og5; clear og5; have og6 := Aside0.mk (Qaq (g := g6) (o := .cells #[.slice A2 l2.length c2] 32 (0, 0)) BKg6.out hb); clear BKg6; have BKg6 := og6; clear og6; have og8 := Aside0.mk (Qaq (g := g8) (o := .cells #[.slice none 0 0] 32 (0, 0)) BKg8.out hb); clear BKg8; have BKg8 := og8; clear og8; have og9 := Aside0.mk (Qaq (g := g9) (o := .cells #[.slice none 0 0] 32 (0, 0)) BKg9.out hb); clear BKg9; have BKg9 := og9; clear og9; have n_ := Aside0.mk (Qav HB.out hb); clear HB hb; have HB := n_; clear n_))
 have H := H'.out
 clear H' 
 by_cases c0 : e0 = 0
 ·rw [if_pos c0] at H
  have c0b : (e0 != 0) = V := bne_eq_false_iff_eq.mpr c0
  clear c0
  replace H := Option.bind_eq_some_iff.1 H
  obtain ⟨bm, A10, H⟩ := H
  have A1_ := Aside0.mk A10
  clear A10
  have H' := Aside0.mk H
  clear H
  have hz5 : w5.cell? ⟨g5, 0, none⟩ = some (.slice A1 l1.length c1) := (Qad BKg5.out 0).trans rfl
  have hz6 : w5.cell? ⟨g6, 0, none⟩ = some (.slice A2 l2.length c2) := (Qad BKg6.out 0).trans rfl
  go_upto_if 34 with (first | (go_at_call 66; refine (QaL.calls k A0 c0 l0 A1 c1 l1 A2 c2 l2 bm _ (Kd.C_below HR0.out HB.out) HC0.out (Kd.C_below HR1.out HB.out) HC1.out (Kd.C_below HR2.out HB.out) HC2.out A1_.out).mono ?_; rintro _ w6 ⟨rfl, hd⟩; have hb := hd.below; clear hd; have og5 := Aside0.mk (Qaq (g := g5) (o := .cells #[.slice A1 l1.length c1] 32 (0, 0)) BKg5.out hb); clear BKg5; have BKg5 := og5; clear og5; have og6 := Aside0.mk (Qaq (g := g6) (o := .cells #[.slice A2 l2.length c2] 32 (0, 0)) BKg6.out hb); clear BKg6; have BKg6 := og6; clear og6; have og8 := Aside0.mk (Qaq (g := g8) (o := .cells #[.slice none 0 0] 32 (0, 0)) BKg8.out hb); clear BKg8; have BKg8 := og8; clear og8; have og9 := Aside0.mk (Qaq (g := g9) (o := .cells #[.slice none 0 0] 32 (0, 0)) BKg9.out hb); clear BKg9; have BKg9 := og9; clear og9; have n_ := Aside0.mk (Qav HB.out hb); clear HB hb hz5 hz6; have HB := n_; clear n_))
  have H := H'.out
  clear H'
  cases bm with
  | true =>
   rw [if_pos rfl] at H
   by_cases cB : l0.length < 17592186044416 ∧ l1.length < 17592186044416
   ·rw [if_pos cB] at H
    have LB := Aside0.mk cB
    clear cB
    replace H := Option.bind_eq_some_iff.1 H
    obtain ⟨F, AM0, H⟩ := H
    have AM := Aside0.mk AM0
    clear AM0
    have H' := Aside0.mk H
    clear H
    have hze : ∀ W : World, (zeroValue 3).run Try.prog W = .ok (.int .i64 0) W := fun _ => by kernel_rfl
    have HZ := Aside0.mk hze
    clear hze
    go_wp2_with (first | ((with_reducible refine Qa2 (N := 35) rfl ?_); refine Qec 9 3 rfl 150 (N := 35) rfl rfl ?_; intro mb hg w7 hm hb; have MS := Aside0.mk hm; have og5 := Aside0.mk (Qaq (g := g5) (o := .cells #[.slice A1 l1.length c1] 32 (0, 0)) BKg5.out hb); clear BKg5; have BKg5 := og5; clear og5; have og6 := Aside0.mk (Qaq (g := g6) (o := .cells #[.slice A2 l2.length c2] 32 (0, 0)) BKg6.out hb); clear BKg6; have BKg6 := og6; clear og6; have og8 := Aside0.mk (Qaq (g := g8) (o := .cells #[.slice none 0 0] 32 (0, 0)) BKg8.out hb); clear BKg8; have BKg8 := og8; clear og8; have og9 := Aside0.mk (Qaq (g := g9) (o := .cells #[.slice none 0 0] 32 (0, 0)) BKg9.out hb); clear BKg9; have BKg9 := og9; clear og9; have n0_ := Aside0.mk (Qav HB.out hb); have GM := Aside0.mk (show w.heap.size ≤ mb by rw [hg]; exact Qax HB.out); clear HB; have HB := n0_; clear n0_ hm hb hg))
    go_loopg [38] k (fun kq v38 w' => ∃ (f : ByteArray → Option Int) (n : Nat) (x38 : Int), v38 = .int .i64 x38 ∧ Aside0 (Qam.m kq l0 f n x38 = some F) ∧ Aside0 (kq ≤ k) ∧ Aside0 (MapS Try.prog 9 3 w' mb n f) ∧ Aside0 (w'.heap[g5]? = some (.cells #[.slice A1 l1.length c1] 32 (0, 0))) ∧ Aside0 (w'.heap[g6]? = some (.cells #[.slice A2 l2.length c2] 32 (0, 0))) ∧ Aside0 (w'.heap[g8]? = some (.cells #[.slice none 0 0] 32 (0, 0))) ∧ Aside0 (w'.heap[g9]? = some (.cells #[.slice none 0 0] 32 (0, 0))) ∧ Aside0 (Below w.heap.size w w'))
    case atStart => exact ⟨_, _, 0, (by first | rfl | (simp; done)), AM, ⟨Nat.le_refl _⟩, MS, BKg5, BKg6, BKg8, BKg9, HB⟩
    case round =>
     clear AM MS BKg5 BKg6 BKg8 BKg9 HB
     obtain ⟨f, n, x38, rfl, HA, HK1, MS, BKg5, BKg6, BKg8, BKg9, HB⟩ := hrel
     cases gk with
     | zero => exact absurd HA.out (by simp [Qam.m])
     | succ k1 =>
      have H := HA.out
      clear HA
      simp only [Qam.m] at H
      by_cases c4 : x38 < (l0.length : Int)
      ·rw [if_pos c4] at H
       have c4b0 : decide (x38 < (l0.length : Int)) = J := decide_eq_true c4
       by_cases c5 : 0 ≤ x38
       ·rw [if_pos c5] at H
        have c5b0 : decide (0 ≤ x38) = J := decide_eq_true c5
        by_cases c6 : n < 9223372036854775807 ∧ (rdOf ByteArray.empty l0 x38).size ≤ 9223372036854775807 ∧ -9223372036854775808 ≤ x38 ∧ x38 ≤ 9223372036854775807
        ·rw [if_pos c6] at H
         have LM := Aside0.mk c6
         obtain ⟨ad, e1, hx⟩ := Kd.at_string HR0.out x38 c5 c4
         cases e1
         replace hx := Zx HB.out hx
         have HW := Aside0.mk (WalkArith.wf_i64 ⟨c6.2.2.1, c6.2.2.2⟩)
         clear c6
         replace c4 := eq_true c4
         replace c5 := eq_true c5
         have H' := Aside0.mk H
         clear H
         go_wp2_with (first | (at_mapUpdate; refine Qej MS.out rfl (.tmp 43) (.tmp 44) (.tmp 45) 150 rfl Try.underlying9 Try.underlying3 Try.underlying150 (by first | rfl | (go_simp; done)) (by have := LM.out.1; unfold maxLen; omega) (rdOf ByteArray.empty l0 x38) x38 (by first | rfl | (go_simp; done)) (by first | rfl | (go_simp; done)) (by have := LM.out.2.1; unfold maxLen; omega) HW.out ?_; intro w8 hm hg; have n0_ := Aside0.mk (HB.out.grown hg (Qax HB.out) (fun j hj => by cases hj; exact GM.out)); have og5 := Aside0.mk (Qa0 BKg5.out hg (fun e => MS.out.ne_blk BKg5.out (Option.some.inj e).symm)); clear BKg5; have BKg5 := og5; clear og5; have og6 := Aside0.mk (Qa0 BKg6.out hg (fun e => MS.out.ne_blk BKg6.out (Option.some.inj e).symm)); clear BKg6; have BKg6 := og6; clear og6; have og8 := Aside0.mk (Qa0 BKg8.out hg (fun e => MS.out.ne_blk BKg8.out (Option.some.inj e).symm)); clear BKg8; have BKg8 := og8; clear og8; have og9 := Aside0.mk (Qa0 BKg9.out hg (fun e => MS.out.ne_blk BKg9.out (Option.some.inj e).symm)); clear BKg9; have BKg9 := og9; clear og9; clear MS HB hx; have MS := Aside0.mk hm; have HB := n0_; clear n0_ hm hg))
         go_roundg k1
         case measure => have := HK1.out; omega
         case rel => exact ⟨_, _, (wrap64 (x38 + 1)), (Zs), H', ⟨by have := HK1.out; omega⟩, MS, BKg5, BKg6, BKg8, BKg9, HB⟩
        rw [if_neg c6] at H
        cases H
       rw [if_neg c5] at H
       cases H
      rw [if_neg c4] at H
      have c4b0 : decide (x38 < (l0.length : Int)) = V := decide_eq_false c4
      clear c4
      obtain rfl := Option.some.inj H
      clear H
      have H := H'.out
      clear H'
      replace H := Option.bind_eq_some_iff.1 H
      obtain ⟨⟨ra, rb⟩, AL0, H⟩ := H
      have AL := Aside0.mk AL0
      clear AL0
      simp only [Option.some.injEq, Prod.mk.injEq] at H
      obtain ⟨rfl, rfl, rfl⟩ := H
      have hz8 := (Qad BKg8.out 0).trans (show (#[.slice none 0 0] : Array Value)[0]? = some (Value.slice none 0 0) from rfl)
      have hf8 := Qaf BKg8.out 0
      have N89 := NBg8_g9.out
      go_upto_region 13 with (first | ((with_reducible refine Qa2 (N := 49) rfl ?_); refine Kd.R_make (Kd.int .i64) _ 3 rfl (N := 49) rfl 32 _ _ rfl (l0.length : Int) rfl rfl Try.underlying32 (.int .i64 0) 8 info3 rfl (by decide) (by omega) 0 (ok := fun _ => True) (okp := fun _ => True) rfl (fun _ hk => hk) trivial (by omega) (Nat.le_trans (Nat.mul_le_mul_right _ (show (l0.length : Int).toNat ≤ 35184372088832 by have := LB.out; omega)) (by omega)) (Below.refl _ _) (Nat.le_refl _) ?_; intro v8 w9 ho hb hg_ hnew_; clear hg_ hnew_; rw [show (l0.length : Int).toNat = l0.length from Int.toNat_natCast _] at ho; obtain ⟨Av, cv, ev⟩ := Kd.R_slice ho; rw [List.length_replicate] at ev; subst ev; have n0_ := Aside0.mk (Kd.R_lower ho (Qax HB.out)); have n1_ := Aside0.mk (Qav HB.out hb); have n2_ := Aside0.mk (MS.out.below hb); have og5 := Aside0.mk (Qaq (g := g5) (o := .cells #[.slice A1 l1.length c1] 32 (0, 0)) BKg5.out hb); clear BKg5; have BKg5 := og5; clear og5; have og6 := Aside0.mk (Qaq (g := g6) (o := .cells #[.slice A2 l2.length c2] 32 (0, 0)) BKg6.out hb); clear BKg6; have BKg6 := og6; clear og6; have og8 := Aside0.mk (Qaq (g := g8) (o := .cells #[.slice none 0 0] 32 (0, 0)) BKg8.out hb); clear BKg8; have BKg8 := og8; clear og8; have og9 := Aside0.mk (Qaq (g := g9) (o := .cells #[.slice none 0 0] 32 (0, 0)) BKg9.out hb); clear BKg9; have BKg9 := og9; clear og9; clear HB MS hz8 hf8; have MS := n2_; have HV := n0_; have HB := n1_; clear n0_ n1_ n2_; clear hb ho; have hz8 := (Qad BKg8.out 0).trans (show (#[.slice none 0 0] : Array Value)[0]? = some (Value.slice none 0 0) from rfl); have hf8 := Qaf BKg8.out 0))
      have n8_ := Aside0.mk (Qaw BKg8.out 0 (.slice Av l0.length cv) (cs' := #[.slice Av l0.length cv]) rfl)
      have n5_ := Aside0.mk (Qa1 (p := ⟨g8, 0, none⟩) BKg5.out NBg5_g8.out (.slice Av l0.length cv))
      have n6_ := Aside0.mk (Qa1 (p := ⟨g8, 0, none⟩) BKg6.out NBg6_g8.out (.slice Av l0.length cv))
      have n9_ := Aside0.mk (Qa1 (p := ⟨g8, 0, none⟩) BKg9.out (fun e => N89 e.symm) (.slice Av l0.length cv))
      have nv_ := Aside0.mk (Kd.R_mono (Kd.R_far (p := ⟨g8, 0, none⟩) (Kd.R_types HV.out BKg8.out (by decide)) (fun _ hk => hk.2) (.slice Av l0.length cv)) (fun _ _ => trivial : ∀ k, _ → True))
      have nm_ := Aside0.mk (MS.out.set (p := ⟨g8, 0, none⟩) (MS.out.ne_blk BKg8.out) (.slice Av l0.length cv))
      have nb_ := Aside0.mk (Qaj (j := 0) (v := .slice Av l0.length cv) HB.out GEg8.out)
      clear BKg5 BKg6 BKg8 BKg9 HV MS HB hz8 hf8
      generalize w9.setCell ⟨g8, 0, none⟩ (.slice Av l0.length cv) = w10 at n8_ n5_ n6_ n9_ nv_ nm_ nb_ ⊢
      have BKg5 := n5_
      have BKg6 := n6_
      have BKg8 := n8_
      have BKg9 := n9_
      have HV := nv_
      have MS := nm_
      have HB := nb_
      clear n5_ n6_ n8_ n9_ nv_ nm_ nb_
      have hz5 := (Qad BKg5.out 0).trans (show (#[.slice A1 l1.length c1] : Array Value)[0]? = some (Value.slice A1 l1.length c1) from rfl)
      have hz9 := (Qad BKg9.out 0).trans (show (#[.slice none 0 0] : Array Value)[0]? = some (Value.slice none 0 0) from rfl)
      have hf9 := Qaf BKg9.out 0
      have L1 := LB.out.2
      go_upto_region 14 with (first | ((with_reducible refine Qa2 (N := 50) rfl ?_); refine Qeb (Kd.int .i64) ?hg (N := 50) ?hd 3 w.heap.size ?hr (ok := fun k_ => some k_ ≠ (Value.slice Av l0.length cv).ownBlock) ?hf ?hs ?_; (case hg => rfl); (case hd => rfl); (case hr => first | (go_simp; done) | (go_simp; rfl)); (case hf => exact Kd.fresh' (Kd.R_lt HV.out) _ (Nat.le_refl _)); (case hs => exact Qax HB.out); intro g50 hg w11 ho hb; have N50g5 := Aside0.mk (show g5 ≠ g50 by rw [hg]; exact Nat.ne_of_lt (blk_lt BKg5.out)); have N50g6 := Aside0.mk (show g6 ≠ g50 by rw [hg]; exact Nat.ne_of_lt (blk_lt BKg6.out)); have N50g8 := Aside0.mk (show g8 ≠ g50 by rw [hg]; exact Nat.ne_of_lt (blk_lt BKg8.out)); have N50g9 := Aside0.mk (show g9 ≠ g50 by rw [hg]; exact Nat.ne_of_lt (blk_lt BKg9.out)); have hv_ : Aside0 (Kd.R (Kd.int .i64) 3 w11 w.heap.size (fun k_ => True ∧ some k_ ≠ (Value.slice (some ⟨g50, 0, none⟩) 0 0).ownBlock) (.slice Av l0.length cv) (List.replicate l0.length 0)) := Aside0.mk (Kd.R_below (Kd.R_mono (Kd.R_bound HV.out) (fun k_ hk => ⟨trivial, fun e => by have h2 := hk.2.2.1; simp [Value.ownBlock] at e; omega⟩)) hb); have og5 := Aside0.mk (Qaq (g := g5) (o := .cells #[.slice A1 l1.length c1] 32 (0, 0)) BKg5.out hb); clear BKg5; have BKg5 := og5; clear og5; have og6 := Aside0.mk (Qaq (g := g6) (o := .cells #[.slice A2 l2.length c2] 32 (0, 0)) BKg6.out hb); clear BKg6; have BKg6 := og6; clear og6; have og8 := Aside0.mk (Qaq (g := g8) (o := .cells #[.slice Av l0.length cv] 32 (0, 0)) BKg8.out hb); clear BKg8; have BKg8 := og8; clear og8; have og9 := Aside0.mk (Qaq (g := g9) (o := .cells #[.slice none 0 0] 32 (0, 0)) BKg9.out hb); clear BKg9; have BKg9 := og9; clear og9; have n0_ := Aside0.mk (Qav HB.out hb); have n1_ := Aside0.mk (MS.out.below hb); have N50m := Aside0.mk (show mb ≠ g50 by obtain ⟨es, c, hq⟩ := MS.out.blk; rw [hg]; exact Nat.ne_of_lt (blk_lt hq)); have HO := Aside0.mk ho; clear HV HB MS hz5 hz9 hf9 ho hb hg; have HV := hv_; have HB := n0_; have MS := n1_; clear hv_ n0_ n1_; have hz5 := (Qad BKg5.out 0).trans (show (#[.slice A1 l1.length c1] : Array Value)[0]? = some (Value.slice A1 l1.length c1) from rfl)) | ((with_reducible refine Qbr (b := .append) (xs := #[.tmp 50, .tmp 51]) rfl ?_); at_builtin; refine Kd.R_append_rows (Kd.int .i64) (w0 := w) w.heap.size rfl (.tmp 50) (.tmp 51) 32 3 (.int .i64 0) 8 rfl Try.underlying32 info3 rfl (by decide) (by omega) (Value.slice (some ⟨g50, 0, none⟩) 0 0) ([] : List Int) l1 _ _ _ (fun k_ => some k_ ≠ (Value.slice Av l0.length cv).ownBlock) (fun _ => False) rfl rfl HO.out ?aR (fun _ _ h => h) (fun _ h => h.elim) ?aF HB.out (Qax HB.out) ?aL ?_; (case aR => exact Kd.C_below HR1.out HB.out); (case aF => exact Kd.fresh' (Kd.R_lt HV.out)); (case aL => simp only [List.length_nil]; omega); intro v9 w12 ho9 hb9 hg9 hat; rw [List.nil_append] at ho9; obtain ⟨Aw, cw, ev⟩ := Kd.R_slice ho9; subst ev; have hv_ := Aside0.mk (Kd.R_mono (Kd.R_after HV.out hg9 hat) (fun _ hk => hk.2)); have og5 := Aside0.mk (Qa0 BKg5.out hg9 (fun e => N50g5.out (Option.some.inj e))); clear BKg5; have BKg5 := og5; clear og5; have og6 := Aside0.mk (Qa0 BKg6.out hg9 (fun e => N50g6.out (Option.some.inj e))); clear BKg6; have BKg6 := og6; clear og6; have og8 := Aside0.mk (Qa0 BKg8.out hg9 (fun e => N50g8.out (Option.some.inj e))); clear BKg8; have BKg8 := og8; clear og8; have og9 := Aside0.mk (Qa0 BKg9.out hg9 (fun e => N50g9.out (Option.some.inj e))); clear BKg9; have BKg9 := og9; clear og9; have n1_ := Aside0.mk (MS.out.grown hg9 (fun e => N50m.out (Option.some.inj e))); clear HV HB MS HO hz5; have HV := hv_; have HL := Aside0.mk ho9; have HB := Aside0.mk hb9; have MS := n1_; clear hv_ n1_ ho9 hb9 hg9 hat; have hz9 := (Qad BKg9.out 0).trans (show (#[.slice none 0 0] : Array Value)[0]? = some (Value.slice none 0 0) from rfl); have hf9 := Qaf BKg9.out 0))
      have n9_ := Aside0.mk (Qaw BKg9.out 0 (.slice Aw l1.length cw) (cs' := #[.slice Aw l1.length cw]) rfl)
      have n5_ := Aside0.mk (Qa1 (p := ⟨g9, 0, none⟩) BKg5.out NBg5_g9.out (.slice Aw l1.length cw))
      have n6_ := Aside0.mk (Qa1 (p := ⟨g9, 0, none⟩) BKg6.out NBg6_g9.out (.slice Aw l1.length cw))
      have n8_ := Aside0.mk (Qa1 (p := ⟨g9, 0, none⟩) BKg8.out N89 (.slice Aw l1.length cw))
      have nv_ := Aside0.mk (Kd.R_mono (Kd.R_far (p := ⟨g9, 0, none⟩) (Kd.R_types HV.out BKg9.out (by decide)) (fun _ hk => hk.2) (.slice Aw l1.length cw)) (fun _ hk => hk.1))
      have nl_ := Aside0.mk (Kd.R_mono (Kd.R_far (p := ⟨g9, 0, none⟩) (Kd.R_types HL.out BKg9.out (by decide)) (fun _ hk => hk.2) (.slice Aw l1.length cw)) (fun _ hk => hk.1))
      have nm_ := Aside0.mk (MS.out.set (p := ⟨g9, 0, none⟩) (MS.out.ne_blk BKg9.out) (.slice Aw l1.length cw))
      have nb_ := Aside0.mk (Qaj (j := 0) (v := .slice Aw l1.length cw) HB.out GEg9.out)
      clear BKg5 BKg6 BKg8 BKg9 HV HL MS HB hz9 hf9
      generalize w12.setCell ⟨g9, 0, none⟩ (.slice Aw l1.length cw) = w13 at n8_ n5_ n6_ n9_ nv_ nl_ nm_ nb_ ⊢
      go_wp2
      go_loopg [55] k (fun kq v55 w' => ∃ (sv lf : List Int) (x55 : Int), v55 = .int .i64 x55 ∧ Aside0 (Qam.l f l1 l2 l3 kq x55 sv lf = some (ra, rb)) ∧ Aside0 (kq ≤ k) ∧ Aside0 (MapS Try.prog 9 3 w' mb n f) ∧ Aside0 (w'.heap[g5]? = some (.cells #[.slice A1 l1.length c1] 32 (0, 0))) ∧ Aside0 (w'.heap[g6]? = some (.cells #[.slice A2 l2.length c2] 32 (0, 0))) ∧ Aside0 (w'.heap[g8]? = some (.cells #[.slice Av l0.length cv] 32 (0, 0))) ∧ Aside0 (w'.heap[g9]? = some (.cells #[.slice Aw l1.length cw] 32 (0, 0))) ∧ Aside0 (Kd.R (Kd.int .i64) 3 w' w.heap.size (fun k_ => some k_ ≠ (Value.slice Aw l1.length cw).ownBlock) (.slice Av l0.length cv) sv) ∧ Aside0 (Kd.R (Kd.int .i64) 3 w' w.heap.size (fun k_ => some k_ ≠ (Value.slice Av l0.length cv).ownBlock) (.slice Aw l1.length cw) lf) ∧ Aside0 (Below w.heap.size w w'))
      case atStart => exact ⟨_, _, 0, (by first | rfl | (simp; done)), AL, ⟨Nat.le_refl _⟩, nm_, n5_, n6_, n8_, n9_, nv_, nl_, nb_⟩
      case round =>
       clear AL nm_ n5_ n6_ n8_ n9_ nv_ nl_ nb_
       obtain ⟨sv, lf, x55, rfl, HA, HK2, MS, BKg5, BKg6, BKg8, BKg9, HV, HL, HB⟩ := hrel
       cases gk with
       | zero => exact absurd HA.out (by simp [Qam.l])
       | succ k2 =>
        have H := HA.out
        clear HA
        simp only [Qam.l] at H
        by_cases c4 : x55 < (l3.length : Int)
        ·rw [if_pos c4] at H
         have c4c : decide (x55 < (l3.length : Int)) = J := decide_eq_true c4
         by_cases c5 : 0 ≤ x55
         ·rw [if_pos c5] at H
          have c5c : decide (0 ≤ x55) = J := decide_eq_true c5
          replace H := Option.bind_eq_some_iff.1 H
          obtain ⟨⟨sv1, lf1⟩, AS0, H⟩ := H
          have AQ := Aside0.mk H
          clear H
          obtain ⟨ad, e1, hx_0, hx_1, hx_2, hx_3, hx_4⟩ := Qem HR3.out x55 c5 c4
          cases e1
          replace hx_0 := Zx HB.out hx_0
          replace hx_1 := Zx HB.out hx_1
          replace hx_2 := Zx HB.out hx_2
          replace hx_3 := Zx HB.out hx_3
          replace hx_4 := Zx HB.out hx_4
          replace c4 := eq_true c4
          replace c5 := eq_true c5
          unfold Qam.s at AS0
          obtain ⟨nA, hA⟩ : ∃ z, z = (Qan l3 x55).f0 := ⟨_, rfl⟩
          obtain ⟨nB, hB⟩ : ∃ z, z = (Qan l3 x55).f1 := ⟨_, rfl⟩
          obtain ⟨la, hla⟩ : ∃ z, z = (Qan l3 x55).f2 := ⟨_, rfl⟩
          obtain ⟨lb, hlb⟩ : ∃ z, z = (Qan l3 x55).f3 := ⟨_, rfl⟩
          obtain ⟨th, hth⟩ : ∃ z, z = (Qan l3 x55).f4 := ⟨_, rfl⟩
          rw [← hA] at hx_0 AS0
          rw [← hB] at hx_1 AS0
          rw [← hla] at hx_2 AS0
          rw [← hlb] at hx_3 AS0
          rw [← hth] at hx_4 AS0
          clear hA hB hla hlb hth
          by_cases cS : nA.size ≤ 9223372036854775807 ∧ nB.size ≤ 9223372036854775807
          ·rw [if_pos cS] at AS0
           have KS := Aside0.mk cS
           clear cS
           obtain ⟨ia, hia⟩ : ∃ z, z = (f nA).isSome := ⟨_, rfl⟩
           obtain ⟨ib, hib⟩ : ∃ z, z = (f nB).isSome := ⟨_, rfl⟩
           obtain ⟨a, ha⟩ : ∃ z, z = (f nA).getD 0 := ⟨_, rfl⟩
           obtain ⟨b, hb⟩ : ∃ z, z = (f nB).getD 0 := ⟨_, rfl⟩
           rw [← hia, ← hib, ← ha, ← hb] at AS0
           have EIA := Aside0.mk hia
           have EIB := Aside0.mk hib
           have EA := Aside0.mk ha
           have EB := Aside0.mk hb
           clear hia hib ha hb
           have AS := Aside0.mk AS0
           clear AS0
           have HX := Aside0.mk (Below.refl wr.heap.size wr)
           go_upto_region 19 with (first | ((with_reducible refine Qa2 (N := 16) rfl ?_); refine Zbx (N := 16) (cs := #[.string ⟨#[]⟩, .string ⟨#[]⟩, .int .i64 0, .int .i64 0, .int .i64 0]) (t := 152) ?_; intro g16 hg wa hbox hb; have n_ := Aside0.mk (Qav HX.out hb); have GEg16 := Aside0.mk (show wr.heap.size ≤ g16 by rw [hg]; exact Qax HX.out); clear HX; have HX := n_; clear n_; have BKg16 := Aside0.mk hbox; clear hb hbox hg hx_0 hx_1 hx_2 hx_3 hx_4) | ((with_reducible refine Qbp (t := 152) (p := 16) rfl ?_); refine Qbl (t := 152) (p := 16) (v := ?vo) (w1 := (((((wa.setCell ⟨g16, 0, none⟩ (.string nA)).setCell ⟨g16, 1, none⟩ (.string nB)).setCell ⟨g16, 2, none⟩ (.int .i64 la)).setCell ⟨g16, 3, none⟩ (.int .i64 lb)).setCell ⟨g16, 4, none⟩ (.int .i64 th))) ?hg ?ho ?hn ?hr ?_; (case ho => rfl); (case hg => rfl); (case hn => rfl); (case hr => exact Qbh (cs := #[.string ⟨#[]⟩, .string ⟨#[]⟩, .int .i64 0, .int .i64 0, .int .i64 0]) (seg := [.string nA, .string nB, .int .i64 la, .int .i64 lb, .int .i64 th]) BKg16.out rfl (by first | rfl | (go_simp; done)) (by first | rfl | (go_simp; done)) (by rfl) (by first | rfl | kernel_rfl) (by simp) (by first | rfl | simp [Value.oneCell'])); intro wb hw; have m0_ : Aside0 (wb.heap[g16]? = some (.cells #[.string nA, .string nB, .int .i64 la, .int .i64 lb, .int .i64 th] 152 (0, 0))) := ⟨by rw [hw]; refine Qaw (cs := #[.string nA, .string nB, .int .i64 la, .int .i64 lb, .int .i64 0]) ?_ 4 _ rfl; refine Qaw (cs := #[.string nA, .string nB, .int .i64 la, .int .i64 0, .int .i64 0]) ?_ 3 _ rfl; refine Qaw (cs := #[.string nA, .string nB, .int .i64 0, .int .i64 0, .int .i64 0]) ?_ 2 _ rfl; refine Qaw (cs := #[.string nA, .string ⟨#[]⟩, .int .i64 0, .int .i64 0, .int .i64 0]) ?_ 1 _ rfl; refine Qaw (cs := #[.string ⟨#[]⟩, .string ⟨#[]⟩, .int .i64 0, .int .i64 0, .int .i64 0]) ?_ 0 _ rfl; exact BKg16.out⟩; have m1_ : Aside0 (Below wr.heap.size wr wb) := ⟨by rw [hw]; exact (Qaj (Qaj (Qaj (Qaj (Qaj HX.out GEg16.out) GEg16.out) GEg16.out) GEg16.out) GEg16.out)⟩; clear HX BKg16 hw; have HX := m1_; have BKg16 := m0_; clear m0_ m1_; have hz_0 := (Qad BKg16.out 0).trans (show (#[.string nA, .string nB, .int .i64 la, .int .i64 lb, .int .i64 th] : Array Value)[0]? = some (Value.string nA) from rfl); have hz_1 := (Qad BKg16.out 1).trans (show (#[.string nA, .string nB, .int .i64 la, .int .i64 lb, .int .i64 th] : Array Value)[1]? = some (Value.string nB) from rfl)) | (at_lookup; first | (refine QcR (MS.out.below HX.out) rfl (.tmp 60) (.tmp 62) 150 rfl Try.underlying9 Try.underlying3 Try.underlying150 (HZ.out _) (by first | rfl | (go_simp; done)) nA (by first | rfl | (go_simp; done)) KS.out.1 ?_; rw [← EA.out, ← EIA.out]) | (refine QcR (MS.out.below HX.out) rfl (.tmp 67) (.tmp 69) 150 rfl Try.underlying9 Try.underlying3 Try.underlying150 (HZ.out _) (by first | rfl | (go_simp; done)) nB (by first | rfl | (go_simp; done)) KS.out.2 ?_; rw [← EB.out, ← EIB.out])))
           have HX1 := Aside0.mk (Qac HX.out)
           have AS1 := AS.out
           clear AS hz_0 hz_1
           have hy9 := (Qad (Qaq BKg9.out HX1.out) 0).trans (show (#[.slice Aw l1.length cw] : Array Value)[0]? = some (Value.slice Aw l1.length cw) from rfl)
           cases ia with
           | false =>
            rw [if_neg (show ¬ (V = J) by decide)] at AS1
            simp only [Option.some.injEq, Prod.mk.injEq] at AS1
            obtain ⟨rfl, rfl⟩ := AS1
            refine start_ (n := 33) (S := fun w' => w'.cell? ⟨g9, 0, none⟩ = some (.slice Aw l1.length cw)) (ds := []) #[V, V, V, V, V, V, V, V, V, V, V, V, V, V, V, V, V, V, V, V, V, V, V, V, V, V, V, V, V, V, V, V, V] (by kernel_rfl) rfl rfl (hy9) (fun hHeld => ?_); refine QaP Qam.r19.tab Qam.r19.bits (fun HT_ HW_ => ?_)
            refine Zsp (i := 0) (N := some 73) (pm 33 1) HT_ ?_
            refine Zsp (i := 1) (N := some 74) (pm 33 2) HT_ ?_
            refine Zsp (i := 2) (N := some 75) (pm 33 3) HT_ ?_
            refine Zso (i := 3) (N := some 76) (pm 33 4) HT_ ?_
            refine Zso (i := 4) (N := some 77) (pm 33 5) HT_ ?_
            refine Zsp (i := 5) (N := some 78) (pm 33 6) HT_ ?_
            refine Zsp (i := 6) (N := some 79) (pm 33 7) HT_ ?_
            refine Zso (i := 7) (N := some 80) (pm 33 8) HT_ ?_
            refine Zso (i := 8) (N := some 81) (pm 33 9) HT_ ?_
            refine Zso (i := 9) (N := some 82) (pm 33 10) HT_ ?_
            refine Zso (i := 10) (N := some 83) (pm 33 11) HT_ ?_
            refine Zso (i := 11) (N := some 84) (pm 33 12) HT_ ?_
            refine Zsp (i := 12) (N := some 85) (pm 33 13) HT_ ?_
            refine Zsp (i := 13) (N := some 86) (pm 33 14) HT_ ?_
            refine Zso (i := 14) (N := some 87) (pm 33 15) HT_ ?_
            refine Zso (i := 15) (N := some 88) (pm 33 16) HT_ ?_
            refine Zso (i := 16) (N := some 89) (pm 33 17) HT_ ?_
            refine Zso (i := 17) (N := some 90) (pm 33 18) HT_ ?_
            refine Zso (i := 18) (N := some 91) (pm 33 19) HT_ ?_
            refine Zsp (i := 19) (N := some 92) (pm 33 20) HT_ ?_
            refine Zsp (i := 20) (N := some 93) (pm 33 21) HT_ ?_
            refine Zso (i := 21) (N := some 94) (pm 33 22) HT_ ?_
            refine Zso (i := 22) (N := some 95) (pm 33 23) HT_ ?_
            refine Zso (i := 23) (N := some 96) (pm 33 24) HT_ ?_
            refine Zso (i := 24) (N := some 97) (pm 33 25) HT_ ?_
            refine Zso (i := 25) (N := some 98) (pm 33 26) HT_ ?_
            refine Zso (i := 26) (N := some 99) (pm 33 27) HT_ ?_
            refine Zso (i := 27) (N := some 100) (pm 33 28) HT_ ?_
            refine Zso (i := 28) (N := some 101) (pm 33 29) HT_ ?_
            refine Zso (i := 29) (N := some 102) (pm 33 30) HT_ ?_
            refine Zso (i := 30) (N := some 103) (pm 33 31) HT_ ?_
            refine Zso (i := 31) (N := some 104) (pm 33 32) HT_ ?_
            refine Zsp (i := 32) (N := some 105) (pm 33 33) HT_ ?_
            refine done_ (QaX HT_.out (by kernel_rfl)) ?_
            go_wp2
            go_roundg k2
            case measure => have := HK2.out; omega
            case rel => exact ⟨sv, lf, (wrap64 (x55 + 1)), (Zs), AQ, ⟨by have := HK2.out; omega⟩, ⟨MS.out.below HX1.out⟩, ⟨Qaq BKg5.out HX1.out⟩, ⟨Qaq BKg6.out HX1.out⟩, ⟨Qaq BKg8.out HX1.out⟩, ⟨Qaq BKg9.out HX1.out⟩, ⟨Kd.R_below HV.out HX1.out⟩, ⟨Kd.R_below HL.out HX1.out⟩, ⟨Qav HB.out HX1.out⟩⟩
           | true =>
            rw [if_pos rfl] at AS1
            cases ib with
            | false =>
             rw [if_neg (show ¬ (V = J) by decide)] at AS1
             simp only [Option.some.injEq, Prod.mk.injEq] at AS1
             obtain ⟨rfl, rfl⟩ := AS1
             refine start_ (n := 33) (S := fun w' => w'.cell? ⟨g9, 0, none⟩ = some (.slice Aw l1.length cw)) (ds := []) #[V, V, V, V, V, V, V, V, V, V, V, V, V, V, V, V, V, V, V, V, V, V, V, V, V, V, V, V, V, V, V, V, V] (by kernel_rfl) rfl rfl (hy9) (fun hHeld => ?_); refine QaP Qam.r19.tab Qam.r19.bits (fun HT_ HW_ => ?_)
             refine Zsp (i := 0) (N := some 73) (pm 33 1) HT_ ?_
             refine Zsp (i := 1) (N := some 74) (pm 33 2) HT_ ?_
             refine Zsp (i := 2) (N := some 75) (pm 33 3) HT_ ?_
             refine Zsp (i := 3) (N := some 76) (pm 33 4) HT_ ?_
             refine Zsp (i := 4) (N := some 77) (pm 33 5) HT_ ?_
             refine Zsp (i := 5) (N := some 78) (pm 33 6) HT_ ?_
             refine Zsp (i := 6) (N := some 79) (pm 33 7) HT_ ?_
             refine Zso (i := 7) (N := some 80) (pm 33 8) HT_ ?_
             refine Zso (i := 8) (N := some 81) (pm 33 9) HT_ ?_
             refine Zso (i := 9) (N := some 82) (pm 33 10) HT_ ?_
             refine Zso (i := 10) (N := some 83) (pm 33 11) HT_ ?_
             refine Zso (i := 11) (N := some 84) (pm 33 12) HT_ ?_
             refine Zsp (i := 12) (N := some 85) (pm 33 13) HT_ ?_
             refine Zsp (i := 13) (N := some 86) (pm 33 14) HT_ ?_
             refine Zso (i := 14) (N := some 87) (pm 33 15) HT_ ?_
             refine Zso (i := 15) (N := some 88) (pm 33 16) HT_ ?_
             refine Zso (i := 16) (N := some 89) (pm 33 17) HT_ ?_
             refine Zso (i := 17) (N := some 90) (pm 33 18) HT_ ?_
             refine Zso (i := 18) (N := some 91) (pm 33 19) HT_ ?_
             refine Zsp (i := 19) (N := some 92) (pm 33 20) HT_ ?_
             refine Zsp (i := 20) (N := some 93) (pm 33 21) HT_ ?_
             refine Zso (i := 21) (N := some 94) (pm 33 22) HT_ ?_
             refine Zso (i := 22) (N := some 95) (pm 33 23) HT_ ?_
             refine Zso (i := 23) (N := some 96) (pm 33 24) HT_ ?_
             refine Zso (i := 24) (N := some 97) (pm 33 25) HT_ ?_
             refine Zso (i := 25) (N := some 98) (pm 33 26) HT_ ?_
             refine Zso (i := 26) (N := some 99) (pm 33 27) HT_ ?_
             refine Zso (i := 27) (N := some 100) (pm 33 28) HT_ ?_
             refine Zso (i := 28) (N := some 101) (pm 33 29) HT_ ?_
             refine Zso (i := 29) (N := some 102) (pm 33 30) HT_ ?_
             refine Zso (i := 30) (N := some 103) (pm 33 31) HT_ ?_
             refine Zso (i := 31) (N := some 104) (pm 33 32) HT_ ?_
             refine Zsp (i := 32) (N := some 105) (pm 33 33) HT_ ?_
             refine done_ (QaX HT_.out (by kernel_rfl)) ?_
             go_wp2
             go_roundg k2
             case measure => have := HK2.out; omega
             case rel => exact ⟨sv, lf, (wrap64 (x55 + 1)), (Zs), AQ, ⟨by have := HK2.out; omega⟩, ⟨MS.out.below HX1.out⟩, ⟨Qaq BKg5.out HX1.out⟩, ⟨Qaq BKg6.out HX1.out⟩, ⟨Qaq BKg8.out HX1.out⟩, ⟨Qaq BKg9.out HX1.out⟩, ⟨Kd.R_below HV.out HX1.out⟩, ⟨Kd.R_below HL.out HX1.out⟩, ⟨Qav HB.out HX1.out⟩⟩
            | true =>
             rw [if_pos rfl] at AS1
             by_cases cK : (0 ≤ a ∧ a < (lf.length : Int) ∧ a < (sv.length : Int) ∧ a < (l1.length : Int) ∧ a < (l2.length : Int)) ∧ 0 ≤ b ∧ b < (lf.length : Int) ∧ b < (sv.length : Int) ∧ b < (l1.length : Int) ∧ b < (l2.length : Int)
             ·rw [if_pos cK] at AS1
              have KK := Aside0.mk cK
              clear cK
              obtain ⟨bl, cl_, el, gbl, gll, cll, HGl⟩ := Kd.R_form HL.out (by have := KK.out; omega)
              have ell := Aside0.mk (show l1.length = lf.length by injection el)
              obtain rfl : Aw = some ⟨bl, 0, none⟩ := by injection el
              clear el
              have GL := Aside0.mk gbl
              clear gbl gll HGl cll
              have a0 := KK.out.1.1
              have b0 := KK.out.2.1
              have a1 : a < (l1.length : Int) := KK.out.1.2.2.2.1
              have b1 : b < (l1.length : Int) := KK.out.2.2.2.2.1
              have hla_ := (Kd.R_celln 0 (Kd.R_below HL.out HX1.out) a a0 a1).1
              have hlb_ := (Kd.R_celln 0 (Kd.R_below HL.out HX1.out) b b0 b1).1
              obtain ⟨ra_, hra_⟩ : ∃ z, z = rd lf a := ⟨_, rfl⟩
              obtain ⟨rb_, hrb_⟩ : ∃ z, z = rd lf b := ⟨_, rfl⟩
              rw [show rdOf 0 lf a = rd lf a from rfl, ← hra_] at hla_
              rw [show rdOf 0 lf b = rd lf b from rfl, ← hrb_] at hlb_
              rw [← hra_, ← hrb_] at AS1
              have RA := Aside0.mk hra_
              have RB := Aside0.mk hrb_
              clear hra_ hrb_
              have pa0 := decide_eq_true a0
              have pb0 := decide_eq_true b0
              have pa1 := decide_eq_true a1
              have pb1 := decide_eq_true b1
              replace a0 := eq_true a0
              replace b0 := eq_true b0
              replace a1 := eq_true a1
              replace b1 := eq_true b1
              by_cases za : ra_ = 0
              ·have zab : (ra_ == 0) = J := beq_iff_eq.mpr za
               rw [if_pos za] at AS1
               simp only [Option.some.injEq, Prod.mk.injEq] at AS1
               obtain ⟨rfl, rfl⟩ := AS1
               clear za
               refine start_ (n := 33) (S := fun w' => w'.cell? ⟨g9, 0, none⟩ = some (.slice (some ⟨bl, 0, none⟩) l1.length cw) ∧ w'.cell? ⟨bl, a.toNat, none⟩ = some (.int .i64 ra_) ∧ w'.cell? ⟨bl, b.toNat, none⟩ = some (.int .i64 rb_)) (ds := []) #[V, V, V, V, V, V, V, V, V, V, V, V, V, V, V, V, V, V, V, V, V, V, V, V, V, V, V, V, V, V, V, V, V] (by kernel_rfl) rfl rfl ⟨hy9, hla_, hlb_⟩ (fun hHeld => ?_); refine QaP Qam.r19.tab Qam.r19.bits (fun HT_ HW_ => ?_)
               refine Zsp (i := 0) (N := some 73) (pm 33 1) HT_ ?_
               refine Zsp (i := 1) (N := some 74) (pm 33 2) HT_ ?_
               refine Zsp (i := 2) (N := some 75) (pm 33 3) HT_ ?_
               refine Zsp (i := 3) (N := some 76) (pm 33 4) HT_ ?_
               refine Zsp (i := 4) (N := some 77) (pm 33 5) HT_ ?_
               refine Zsp (i := 5) (N := some 78) (pm 33 6) HT_ ?_
               refine Zsp (i := 6) (N := some 79) (pm 33 7) HT_ ?_
               refine Zst (i := 7) (N := some 80) (pm 33 8) HT_ HW_ hHeld ?_ (hy := by (refine Or.inl ⟨by rfl, ?_⟩; rintro w' ⟨s0, s1, s2⟩; go_simp; with_reducible rfl))
               refine Zsp (i := 8) (N := some 81) (pm 33 9) HT_ ?_
               refine Zsp (i := 9) (N := some 82) (pm 33 10) HT_ ?_
               refine Zst (i := 10) (N := some 83) (pm 33 11) HT_ HW_ hHeld ?_ (hy := by (refine Or.inl ⟨by rfl, ?_⟩; rintro w' ⟨s0, s1, s2⟩; go_simp; with_reducible rfl))
               refine Zsp (i := 11) (N := some 84) (pm 33 12) HT_ ?_
               refine Zsp (i := 12) (N := some 85) (pm 33 13) HT_ ?_
               refine Zsp (i := 13) (N := some 86) (pm 33 14) HT_ ?_
               refine Zso (i := 14) (N := some 87) (pm 33 15) HT_ ?_
               refine Zso (i := 15) (N := some 88) (pm 33 16) HT_ ?_
               refine Zso (i := 16) (N := some 89) (pm 33 17) HT_ ?_
               refine Zso (i := 17) (N := some 90) (pm 33 18) HT_ ?_
               refine Zso (i := 18) (N := some 91) (pm 33 19) HT_ ?_
               refine Zsp (i := 19) (N := some 92) (pm 33 20) HT_ ?_
               refine Zsp (i := 20) (N := some 93) (pm 33 21) HT_ ?_
               refine Zso (i := 21) (N := some 94) (pm 33 22) HT_ ?_
               refine Zso (i := 22) (N := some 95) (pm 33 23) HT_ ?_
               refine Zso (i := 23) (N := some 96) (pm 33 24) HT_ ?_
               refine Zso (i := 24) (N := some 97) (pm 33 25) HT_ ?_
               refine Zso (i := 25) (N := some 98) (pm 33 26) HT_ ?_
               refine Zso (i := 26) (N := some 99) (pm 33 27) HT_ ?_
               refine Zso (i := 27) (N := some 100) (pm 33 28) HT_ ?_
               refine Zso (i := 28) (N := some 101) (pm 33 29) HT_ ?_
               refine Zso (i := 29) (N := some 102) (pm 33 30) HT_ ?_
               refine Zso (i := 30) (N := some 103) (pm 33 31) HT_ ?_
               refine Zso (i := 31) (N := some 104) (pm 33 32) HT_ ?_
               refine Zsp (i := 32) (N := some 105) (pm 33 33) HT_ ?_
               refine done_ (QaX HT_.out (by kernel_rfl)) ?_
               go_wp2
               go_roundg k2
               case measure => have := HK2.out; omega
               case rel => exact ⟨sv, lf, (wrap64 (x55 + 1)), (Zs), AQ, ⟨by have := HK2.out; omega⟩, ⟨MS.out.below HX1.out⟩, ⟨Qaq BKg5.out HX1.out⟩, ⟨Qaq BKg6.out HX1.out⟩, ⟨Qaq BKg8.out HX1.out⟩, ⟨Qaq BKg9.out HX1.out⟩, ⟨Kd.R_below HV.out HX1.out⟩, ⟨Kd.R_below HL.out HX1.out⟩, ⟨Qav HB.out HX1.out⟩⟩
              have zab : (ra_ == 0) = V := beq_eq_false_iff_ne.mpr za
              rw [if_neg za] at AS1
              clear za
              by_cases zb : rb_ = 0
              ·have zbb : (rb_ == 0) = J := beq_iff_eq.mpr zb
               rw [if_pos zb] at AS1
               simp only [Option.some.injEq, Prod.mk.injEq] at AS1
               obtain ⟨rfl, rfl⟩ := AS1
               clear zb
               refine start_ (n := 33) (S := fun w' => w'.cell? ⟨g9, 0, none⟩ = some (.slice (some ⟨bl, 0, none⟩) l1.length cw) ∧ w'.cell? ⟨bl, a.toNat, none⟩ = some (.int .i64 ra_) ∧ w'.cell? ⟨bl, b.toNat, none⟩ = some (.int .i64 rb_)) (ds := []) #[V, V, V, V, V, V, V, V, V, V, V, V, V, V, V, V, V, V, V, V, V, V, V, V, V, V, V, V, V, V, V, V, V] (by kernel_rfl) rfl rfl ⟨hy9, hla_, hlb_⟩ (fun hHeld => ?_); refine QaP Qam.r19.tab Qam.r19.bits (fun HT_ HW_ => ?_)
               refine Zsp (i := 0) (N := some 73) (pm 33 1) HT_ ?_
               refine Zsp (i := 1) (N := some 74) (pm 33 2) HT_ ?_
               refine Zsp (i := 2) (N := some 75) (pm 33 3) HT_ ?_
               refine Zsp (i := 3) (N := some 76) (pm 33 4) HT_ ?_
               refine Zsp (i := 4) (N := some 77) (pm 33 5) HT_ ?_
               refine Zsp (i := 5) (N := some 78) (pm 33 6) HT_ ?_
               refine Zsp (i := 6) (N := some 79) (pm 33 7) HT_ ?_
               refine Zst (i := 7) (N := some 80) (pm 33 8) HT_ HW_ hHeld ?_ (hy := by (refine Or.inl ⟨by rfl, ?_⟩; rintro w' ⟨s0, s1, s2⟩; go_simp; with_reducible rfl))
               refine Zsp (i := 8) (N := some 81) (pm 33 9) HT_ ?_
               refine Zsp (i := 9) (N := some 82) (pm 33 10) HT_ ?_
               refine Zst (i := 10) (N := some 83) (pm 33 11) HT_ HW_ hHeld ?_ (hy := by (refine Or.inl ⟨by rfl, ?_⟩; rintro w' ⟨s0, s1, s2⟩; go_simp; with_reducible rfl))
               refine Zsp (i := 11) (N := some 84) (pm 33 12) HT_ ?_
               refine Zsp (i := 12) (N := some 85) (pm 33 13) HT_ ?_
               refine Zsp (i := 13) (N := some 86) (pm 33 14) HT_ ?_
               refine Zst (i := 14) (N := some 87) (pm 33 15) HT_ HW_ hHeld ?_ (hy := by (refine Or.inl ⟨by rfl, ?_⟩; rintro w' ⟨s0, s1, s2⟩; go_simp; with_reducible rfl))
               refine Zsp (i := 15) (N := some 88) (pm 33 16) HT_ ?_
               refine Zsp (i := 16) (N := some 89) (pm 33 17) HT_ ?_
               refine Zst (i := 17) (N := some 90) (pm 33 18) HT_ HW_ hHeld ?_ (hy := by (refine Or.inl ⟨by rfl, ?_⟩; rintro w' ⟨s0, s1, s2⟩; go_simp; with_reducible rfl))
               refine Zsp (i := 18) (N := some 91) (pm 33 19) HT_ ?_
               refine Zsp (i := 19) (N := some 92) (pm 33 20) HT_ ?_
               refine Zsp (i := 20) (N := some 93) (pm 33 21) HT_ ?_
               refine Zso (i := 21) (N := some 94) (pm 33 22) HT_ ?_
               refine Zso (i := 22) (N := some 95) (pm 33 23) HT_ ?_
               refine Zso (i := 23) (N := some 96) (pm 33 24) HT_ ?_
               refine Zso (i := 24) (N := some 97) (pm 33 25) HT_ ?_
               refine Zso (i := 25) (N := some 98) (pm 33 26) HT_ ?_
               refine Zso (i := 26) (N := some 99) (pm 33 27) HT_ ?_
               refine Zso (i := 27) (N := some 100) (pm 33 28) HT_ ?_
               refine Zso (i := 28) (N := some 101) (pm 33 29) HT_ ?_
               refine Zso (i := 29) (N := some 102) (pm 33 30) HT_ ?_
               refine Zso (i := 30) (N := some 103) (pm 33 31) HT_ ?_
               refine Zso (i := 31) (N := some 104) (pm 33 32) HT_ ?_
               refine Zsp (i := 32) (N := some 105) (pm 33 33) HT_ ?_
               refine done_ (QaX HT_.out (by kernel_rfl)) ?_
               go_wp2
               go_roundg k2
               case measure => have := HK2.out; omega
               case rel => exact ⟨sv, lf, (wrap64 (x55 + 1)), (Zs), AQ, ⟨by have := HK2.out; omega⟩, ⟨MS.out.below HX1.out⟩, ⟨Qaq BKg5.out HX1.out⟩, ⟨Qaq BKg6.out HX1.out⟩, ⟨Qaq BKg8.out HX1.out⟩, ⟨Qaq BKg9.out HX1.out⟩, ⟨Kd.R_below HV.out HX1.out⟩, ⟨Kd.R_below HL.out HX1.out⟩, ⟨Qav HB.out HX1.out⟩⟩
              have zbb : (rb_ == 0) = V := beq_eq_false_iff_ne.mpr zb
              rw [if_neg zb] at AS1
              clear zb
              obtain ⟨pa, hpa⟩ : ∃ z, decide (0 < ra_) = z := ⟨_, rfl⟩
              obtain ⟨pb, hpb⟩ : ∃ z, decide (0 < rb_) = z := ⟨_, rfl⟩
              rw [hpa, hpb] at AS1
              by_cases zc : pa = pb
              ·have zcb : (pa == pb) = J := beq_iff_eq.mpr zc
               rw [if_pos zc] at AS1
               simp only [Option.some.injEq, Prod.mk.injEq] at AS1
               obtain ⟨rfl, rfl⟩ := AS1
               clear zc
               refine start_ (n := 33) (S := fun w' => w'.cell? ⟨g9, 0, none⟩ = some (.slice (some ⟨bl, 0, none⟩) l1.length cw) ∧ w'.cell? ⟨bl, a.toNat, none⟩ = some (.int .i64 ra_) ∧ w'.cell? ⟨bl, b.toNat, none⟩ = some (.int .i64 rb_)) (ds := []) #[V, V, V, V, V, V, V, V, V, V, V, V, V, V, V, V, V, V, V, V, V, V, V, V, V, V, V, V, V, V, V, V, V] (by kernel_rfl) rfl rfl ⟨hy9, hla_, hlb_⟩ (fun hHeld => ?_); refine QaP Qam.r19.tab Qam.r19.bits (fun HT_ HW_ => ?_)
               refine Zsp (i := 0) (N := some 73) (pm 33 1) HT_ ?_
               refine Zsp (i := 1) (N := some 74) (pm 33 2) HT_ ?_
               refine Zsp (i := 2) (N := some 75) (pm 33 3) HT_ ?_
               refine Zsp (i := 3) (N := some 76) (pm 33 4) HT_ ?_
               refine Zsp (i := 4) (N := some 77) (pm 33 5) HT_ ?_
               refine Zsp (i := 5) (N := some 78) (pm 33 6) HT_ ?_
               refine Zsp (i := 6) (N := some 79) (pm 33 7) HT_ ?_
               refine Zst (i := 7) (N := some 80) (pm 33 8) HT_ HW_ hHeld ?_ (hy := by (refine Or.inl ⟨by rfl, ?_⟩; rintro w' ⟨s0, s1, s2⟩; go_simp; with_reducible rfl))
               refine Zsp (i := 8) (N := some 81) (pm 33 9) HT_ ?_
               refine Zsp (i := 9) (N := some 82) (pm 33 10) HT_ ?_
               refine Zst (i := 10) (N := some 83) (pm 33 11) HT_ HW_ hHeld ?_ (hy := by (refine Or.inl ⟨by rfl, ?_⟩; rintro w' ⟨s0, s1, s2⟩; go_simp; with_reducible rfl))
               refine Zsp (i := 11) (N := some 84) (pm 33 12) HT_ ?_
               refine Zsp (i := 12) (N := some 85) (pm 33 13) HT_ ?_
               refine Zsp (i := 13) (N := some 86) (pm 33 14) HT_ ?_
               refine Zst (i := 14) (N := some 87) (pm 33 15) HT_ HW_ hHeld ?_ (hy := by (refine Or.inl ⟨by rfl, ?_⟩; rintro w' ⟨s0, s1, s2⟩; go_simp; with_reducible rfl))
               refine Zsp (i := 15) (N := some 88) (pm 33 16) HT_ ?_
               refine Zsp (i := 16) (N := some 89) (pm 33 17) HT_ ?_
               refine Zst (i := 17) (N := some 90) (pm 33 18) HT_ HW_ hHeld ?_ (hy := by (refine Or.inl ⟨by rfl, ?_⟩; rintro w' ⟨s0, s1, s2⟩; go_simp; with_reducible rfl))
               refine Zsp (i := 18) (N := some 91) (pm 33 19) HT_ ?_
               refine Zsp (i := 19) (N := some 92) (pm 33 20) HT_ ?_
               refine Zsp (i := 20) (N := some 93) (pm 33 21) HT_ ?_
               refine Zst (i := 21) (N := some 94) (pm 33 22) HT_ HW_ hHeld ?_ (hy := by (refine Or.inl ⟨by rfl, ?_⟩; rintro w' ⟨s0, s1, s2⟩; go_simp; with_reducible rfl))
               refine Zsp (i := 22) (N := some 95) (pm 33 23) HT_ ?_
               refine Zsp (i := 23) (N := some 96) (pm 33 24) HT_ ?_
               refine Zst (i := 24) (N := some 97) (pm 33 25) HT_ HW_ hHeld ?_ (hy := by (refine Or.inl ⟨by rfl, ?_⟩; rintro w' ⟨s0, s1, s2⟩; go_simp; with_reducible rfl))
               refine Zsp (i := 25) (N := some 98) (pm 33 26) HT_ ?_
               refine Zst (i := 26) (N := some 99) (pm 33 27) HT_ HW_ hHeld ?_ (hy := by (refine Or.inl ⟨by rfl, ?_⟩; rintro w' ⟨s0, s1, s2⟩; go_simp; with_reducible rfl))
               refine Zsp (i := 27) (N := some 100) (pm 33 28) HT_ ?_
               refine Zsp (i := 28) (N := some 101) (pm 33 29) HT_ ?_
               refine Zst (i := 29) (N := some 102) (pm 33 30) HT_ HW_ hHeld ?_ (hy := by (refine Or.inl ⟨by rfl, ?_⟩; rintro w' ⟨s0, s1, s2⟩; go_simp; with_reducible rfl))
               refine Zsp (i := 30) (N := some 103) (pm 33 31) HT_ ?_
               refine Zsp (i := 31) (N := some 104) (pm 33 32) HT_ ?_
               refine Zsp (i := 32) (N := some 105) (pm 33 33) HT_ ?_
               refine done_ (QaX HT_.out (by kernel_rfl)) ?_
               go_wp2
               go_roundg k2
               case measure => have := HK2.out; omega
               case rel => exact ⟨sv, lf, (wrap64 (x55 + 1)), (Zs), AQ, ⟨by have := HK2.out; omega⟩, ⟨MS.out.below HX1.out⟩, ⟨Qaq BKg5.out HX1.out⟩, ⟨Qaq BKg6.out HX1.out⟩, ⟨Qaq BKg8.out HX1.out⟩, ⟨Qaq BKg9.out HX1.out⟩, ⟨Kd.R_below HV.out HX1.out⟩, ⟨Kd.R_below HL.out HX1.out⟩, ⟨Qav HB.out HX1.out⟩⟩
              have zcb : (pa == pb) = V := beq_eq_false_iff_ne.mpr zc
              rw [if_neg zc] at AS1
              clear zc
              refine start_ (n := 33) (S := fun w' => w'.cell? ⟨g9, 0, none⟩ = some (.slice (some ⟨bl, 0, none⟩) l1.length cw) ∧ w'.cell? ⟨bl, a.toNat, none⟩ = some (.int .i64 ra_) ∧ w'.cell? ⟨bl, b.toNat, none⟩ = some (.int .i64 rb_)) (ds := []) #[V, V, V, V, V, V, V, V, V, V, V, V, V, V, V, V, V, V, V, V, V, V, V, V, V, V, V, V, V, V, V, V, V] (by kernel_rfl) rfl rfl ⟨hy9, hla_, hlb_⟩ (fun hHeld => ?_); refine QaP Qam.r19.tab Qam.r19.bits (fun HT_ HW_ => ?_)
              refine Zsp (i := 0) (N := some 73) (pm 33 1) HT_ ?_
              refine Zsp (i := 1) (N := some 74) (pm 33 2) HT_ ?_
              refine Zsp (i := 2) (N := some 75) (pm 33 3) HT_ ?_
              refine Zsp (i := 3) (N := some 76) (pm 33 4) HT_ ?_
              refine Zsp (i := 4) (N := some 77) (pm 33 5) HT_ ?_
              refine Zsp (i := 5) (N := some 78) (pm 33 6) HT_ ?_
              refine Zsp (i := 6) (N := some 79) (pm 33 7) HT_ ?_
              refine Zst (i := 7) (N := some 80) (pm 33 8) HT_ HW_ hHeld ?_ (hy := by (refine Or.inl ⟨by rfl, ?_⟩; rintro w' ⟨s0, s1, s2⟩; go_simp; with_reducible rfl))
              refine Zsp (i := 8) (N := some 81) (pm 33 9) HT_ ?_
              refine Zsp (i := 9) (N := some 82) (pm 33 10) HT_ ?_
              refine Zst (i := 10) (N := some 83) (pm 33 11) HT_ HW_ hHeld ?_ (hy := by (refine Or.inl ⟨by rfl, ?_⟩; rintro w' ⟨s0, s1, s2⟩; go_simp; with_reducible rfl))
              refine Zsp (i := 11) (N := some 84) (pm 33 12) HT_ ?_
              refine Zsp (i := 12) (N := some 85) (pm 33 13) HT_ ?_
              refine Zsp (i := 13) (N := some 86) (pm 33 14) HT_ ?_
              refine Zst (i := 14) (N := some 87) (pm 33 15) HT_ HW_ hHeld ?_ (hy := by (refine Or.inl ⟨by rfl, ?_⟩; rintro w' ⟨s0, s1, s2⟩; go_simp; with_reducible rfl))
              refine Zsp (i := 15) (N := some 88) (pm 33 16) HT_ ?_
              refine Zsp (i := 16) (N := some 89) (pm 33 17) HT_ ?_
              refine Zst (i := 17) (N := some 90) (pm 33 18) HT_ HW_ hHeld ?_ (hy := by (refine Or.inl ⟨by rfl, ?_⟩; rintro w' ⟨s0, s1, s2⟩; go_simp; with_reducible rfl))
              refine Zsp (i := 18) (N := some 91) (pm 33 19) HT_ ?_
              refine Zsp (i := 19) (N := some 92) (pm 33 20) HT_ ?_
              refine Zsp (i := 20) (N := some 93) (pm 33 21) HT_ ?_
              refine Zst (i := 21) (N := some 94) (pm 33 22) HT_ HW_ hHeld ?_ (hy := by (refine Or.inl ⟨by rfl, ?_⟩; rintro w' ⟨s0, s1, s2⟩; go_simp; with_reducible rfl))
              refine Zsp (i := 22) (N := some 95) (pm 33 23) HT_ ?_
              refine Zsp (i := 23) (N := some 96) (pm 33 24) HT_ ?_
              refine Zst (i := 24) (N := some 97) (pm 33 25) HT_ HW_ hHeld ?_ (hy := by (refine Or.inl ⟨by rfl, ?_⟩; rintro w' ⟨s0, s1, s2⟩; go_simp; with_reducible rfl))
              refine Zsp (i := 25) (N := some 98) (pm 33 26) HT_ ?_
              refine Zst (i := 26) (N := some 99) (pm 33 27) HT_ HW_ hHeld ?_ (hy := by (refine Or.inl ⟨by rfl, ?_⟩; rintro w' ⟨s0, s1, s2⟩; go_simp; with_reducible rfl))
              refine Zsp (i := 27) (N := some 100) (pm 33 28) HT_ ?_
              refine Zsp (i := 28) (N := some 101) (pm 33 29) HT_ ?_
              refine Zst (i := 29) (N := some 102) (pm 33 30) HT_ HW_ hHeld ?_ (hy := by (refine Or.inl ⟨by rfl, ?_⟩; rintro w' ⟨s0, s1, s2⟩; go_simp; with_reducible rfl))
              refine Zsp (i := 30) (N := some 103) (pm 33 31) HT_ ?_
              refine Zsp (i := 31) (N := some 104) (pm 33 32) HT_ ?_
              refine Zsp (i := 32) (N := some 105) (pm 33 33) HT_ ?_
              refine done_ (QaX HT_.out (by kernel_rfl)) ?_
              have BK16 := Aside0.mk (Qai BKg16.out)
              clear HX BKg16 hHeld
              generalize wb.drew = wc at HX1 hla_ hlb_ hy9 BK16 ⊢
              have MS1 := Aside0.mk (MS.out.below HX1.out)
              have BK5 := Aside0.mk (Qaq BKg5.out HX1.out)
              have BK6 := Aside0.mk (Qaq BKg6.out HX1.out)
              have BK8 := Aside0.mk (Qaq BKg8.out HX1.out)
              have BK9 := Aside0.mk (Qaq BKg9.out HX1.out)
              have HV1 := Aside0.mk (Kd.R_below HV.out HX1.out)
              have HL1 := Aside0.mk (Kd.R_below HL.out HX1.out)
              have HB1 := Aside0.mk (Qav HB.out HX1.out)
              have hla0 := Aside0.mk hla_
              have hlb0 := Aside0.mk hlb_
              have hy90 := Aside0.mk hy9
              clear MS BKg5 BKg6 BKg8 BKg9 HV HL HB hla_ hlb_ hy9 HX1
              by_cases y1 : wrap64 (1000 * la) = 0
              ·rw [if_pos y1] at AS1
               cases AS1
              rw [if_neg y1] at AS1
              have Y1 := Aside0.mk (eq_false y1)
              clear y1
              by_cases y2 : wrap64 (1000 * lb) = 0
              ·rw [if_pos y2] at AS1
               cases AS1
              rw [if_neg y2] at AS1
              have Y2 := Aside0.mk (eq_false y2)
              clear y2
              replace AS1 := Option.bind_eq_some_iff.1 AS1
              obtain ⟨za, ZA0, AS1⟩ := AS1
              replace AS1 := Option.bind_eq_some_iff.1 AS1
              obtain ⟨zb, ZB0, AS1⟩ := AS1
              obtain ⟨nn, hnn⟩ : ∃ z, z = mn (wrap64 (Int.tdiv za (wrap64 (1000 * la)))) (wrap64 (Int.tdiv zb (wrap64 (1000 * lb)))) := ⟨_, rfl⟩
              rw [← hnn] at AS1
              replace AS1 := Option.bind_eq_some_iff.1 AS1
              obtain ⟨o1, T10, AS1⟩ := AS1
              replace AS1 := Option.bind_eq_some_iff.1 AS1
              obtain ⟨o2, T20, AS1⟩ := AS1
              have NN := Aside0.mk hnn
              have ZA := Aside0.mk ZA0
              have ZB := Aside0.mk ZB0
              have T1 := Aside0.mk T10
              have T2 := Aside0.mk T20
              have AF := Aside0.mk (Option.some.inj AS1)
              clear hnn ZA0 ZB0 T10 T20 AS1
              go_upto_region 20 with (fail)
              have HY := Aside0.mk (Qac (Below.refl wc.heap.size wc))
              have BD := Aside0.mk (Qai BK16.out)
              refine start_ (n := 12) (S := fun w' => w'.cell? ⟨g16, 2, none⟩ = some (.int .i64 la) ∧ w'.cell? ⟨g16, 3, none⟩ = some (.int .i64 lb)) (ds := [11]) #[V, V, V, V, V, V, V, V, V, V, V, V] (by kernel_rfl) rfl rfl ⟨(Qad BD.out 2).trans (show (#[.string nA, .string nB, .int .i64 la, .int .i64 lb, .int .i64 th] : Array Value)[2]? = some (Value.int .i64 la) from rfl), (Qad BD.out 3).trans (show (#[.string nA, .string nB, .int .i64 la, .int .i64 lb, .int .i64 th] : Array Value)[3]? = some (Value.int .i64 lb) from rfl)⟩ (fun hHeld => ?_); refine QaP Qam.r20.tab Qam.r20.bits (fun HT_ HW_ => ?_)
              refine Zsp (i := 0) (N := some 106) (pm 12 1) HT_ ?_
              refine Zsp (i := 1) (N := some 107) (pm 12 2) HT_ ?_
              refine Zsp (i := 2) (N := some 108) (pm 12 3) HT_ ?_
              refine Zsp (i := 3) (N := some 109) (pm 12 4) HT_ ?_
              refine Zst (i := 4) (N := some 110) (pm 12 5) HT_ HW_ hHeld ?_ (hy := by (refine Or.inl ⟨by rfl, ?_⟩; rintro w' ⟨s0, s1⟩; go_simp; with_reducible rfl))
              refine Zsp (i := 5) (N := some 111) (pm 12 6) HT_ ?_
              refine Zst (i := 6) (N := some 112) (pm 12 7) HT_ HW_ hHeld ?_ (hy := by (refine Or.inl ⟨by rfl, ?_⟩; rintro w' ⟨s0, s1⟩; go_simp; with_reducible rfl))
              refine Zsp (i := 7) (N := some 113) (pm 12 8) HT_ ?_
              refine join_ (σ := Nat × Nat) 2 #[J, J, J, J, J, J, J, J, J, J, V, V] (fun s_ => [(21, .pointer (some ⟨s_.1, 0, none⟩)), (22, .pointer (some ⟨s_.2, 0, none⟩))]) (fun s_ w' => (w'.cell? ⟨g16, 2, none⟩ = some (.int .i64 la) ∧ w'.cell? ⟨g16, 3, none⟩ = some (.int .i64 lb)) ∧ w'.heap[s_.1]? = some (.cells #[.int .i64 0, .int .i64 0] 144 (0, 0)) ∧ w'.heap[s_.2]? = some (.cells #[.int .i64 0, .int .i64 0] 144 (0, 0)) ∧ wc.heap.size ≤ s_.1 ∧ wc.heap.size ≤ s_.2 ∧ s_.1 ≠ s_.2 ∧ w'.heap[g16]? = some (.cells #[.string nA, .string nB, .int .i64 la, .int .i64 lb, .int .i64 th] 152 (0, 0)) ∧ Below wc.heap.size wc w') ?_ ?_
              rotate_left
              ·intro hCont
               refine two_ (i := 8) (j := 9) (Ni := some 21) (Nj := some 22) #[J, J, J, J, J, J, J, J, J, V, V, V] #[J, J, J, J, J, J, J, J, V, J, V, V] rfl rfl rfl rfl (two_of HT_.out (by kernel_rfl)) (by decide) (by decide) (fun K hK => ?_) (fun K hK => ?_)
               ·skip
                refine QbU ?hg (N := 21) ?hd (cs := #[.int .i64 0, .int .i64 0]) (t := 144) ?hr ?_; (case hd => rfl); (case hg => rfl); (case hr => first | (go_simp; done) | (go_simp; rfl))
                intro ga hg w21 hbox hb
                have B1 := Aside0.mk (Qaq (g := g16) (o := .cells #[.string nA, .string nB, .int .i64 la, .int .i64 lb, .int .i64 th] 152 (0, 0)) BD.out hb)
                have H1 := Aside0.mk (Qav HY.out hb)
                have G1 := Aside0.mk (show wc.heap.size ≤ ga by rw [hg]; exact Qax HY.out)
                have X1 := Aside0.mk hbox
                clear hb hbox hg
                refine hK.out _ _ ⟨(Qad B1.out 2).trans (show (#[.string nA, .string nB, .int .i64 la, .int .i64 lb, .int .i64 th] : Array Value)[2]? = some (Value.int .i64 la) from rfl), (Qad B1.out 3).trans (show (#[.string nA, .string nB, .int .i64 la, .int .i64 lb, .int .i64 th] : Array Value)[3]? = some (Value.int .i64 lb) from rfl)⟩ (fun hHeld => ?_)
                clear hK K
                refine norm_ (a' := ?_) ?_ ?_
                rotate_left
                ·show Act.put _ (some 21) _ = _
                 simp only [Act.put, Zj, Zk, Zm, i64_w, i32_w]
                 rfl
                refine one_ (i := 9) (N := some 22) #[J, J, J, J, J, J, J, J, J, J, V, V] rfl rfl (one_of HT_.out (by kernel_rfl)) (by decide) (fun K hK => ?_)
                refine QbU ?hg (N := 22) ?hd (cs := #[.int .i64 0, .int .i64 0]) (t := 144) ?hr ?_; (case hd => rfl); (case hg => rfl); (case hr => first | (go_simp; done) | (go_simp; rfl))
                intro gb hg w22 hbox hb
                have B2 := Aside0.mk (Qaq (g := g16) (o := .cells #[.string nA, .string nB, .int .i64 la, .int .i64 lb, .int .i64 th] 152 (0, 0)) B1.out hb)
                have H2 := Aside0.mk (Qav H1.out hb)
                have G2 := Aside0.mk (show wc.heap.size ≤ gb by rw [hg]; exact Qax H1.out)
                have NE := Aside0.mk (show ga ≠ gb by rw [hg]; exact Nat.ne_of_lt (blk_lt X1.out))
                have X1' := Aside0.mk (Qaq (g := ga) (o := .cells #[.int .i64 0, .int .i64 0] 144 (0, 0)) X1.out hb)
                have X2 := Aside0.mk hbox
                clear hb hbox hg
                refine hK.out _ _ ⟨(Qad B2.out 2).trans (show (#[.string nA, .string nB, .int .i64 la, .int .i64 lb, .int .i64 th] : Array Value)[2]? = some (Value.int .i64 la) from rfl), (Qad B2.out 3).trans (show (#[.string nA, .string nB, .int .i64 la, .int .i64 lb, .int .i64 th] : Array Value)[3]? = some (Value.int .i64 lb) from rfl)⟩ (fun hHeld => ?_)
                clear hK K
                refine norm_ (a' := ?_) ?_ ?_
                rotate_left
                ·show Act.put _ (some 22) _ = _
                 simp only [Act.put, Zj, Zk, Zm, i64_w, i32_w]
                 rfl
                exact norm_ (by simp only [putAll, Act.put, Zj, Zk, Zm]) (hCont (ga, gb) _ ⟨hHeld, X1'.out, X2.out, G1.out, G2.out, NE.out, B2.out, H2.out⟩)
               skip
               refine QbU ?hg (N := 22) ?hd (cs := #[.int .i64 0, .int .i64 0]) (t := 144) ?hr ?_; (case hd => rfl); (case hg => rfl); (case hr => first | (go_simp; done) | (go_simp; rfl))
               intro ga hg w21 hbox hb
               have B1 := Aside0.mk (Qaq (g := g16) (o := .cells #[.string nA, .string nB, .int .i64 la, .int .i64 lb, .int .i64 th] 152 (0, 0)) BD.out hb)
               have H1 := Aside0.mk (Qav HY.out hb)
               have G1 := Aside0.mk (show wc.heap.size ≤ ga by rw [hg]; exact Qax HY.out)
               have X1 := Aside0.mk hbox
               clear hb hbox hg
               refine hK.out _ _ ⟨(Qad B1.out 2).trans (show (#[.string nA, .string nB, .int .i64 la, .int .i64 lb, .int .i64 th] : Array Value)[2]? = some (Value.int .i64 la) from rfl), (Qad B1.out 3).trans (show (#[.string nA, .string nB, .int .i64 la, .int .i64 lb, .int .i64 th] : Array Value)[3]? = some (Value.int .i64 lb) from rfl)⟩ (fun hHeld => ?_)
               clear hK K
               refine norm_ (a' := ?_) ?_ ?_
               rotate_left
               ·show Act.put _ (some 22) _ = _
                simp only [Act.put, Zj, Zk, Zm, i64_w, i32_w]
                rfl
               refine one_ (i := 8) (N := some 21) #[J, J, J, J, J, J, J, J, J, J, V, V] rfl rfl (one_of HT_.out (by kernel_rfl)) (by decide) (fun K hK => ?_)
               refine QbU ?hg (N := 21) ?hd (cs := #[.int .i64 0, .int .i64 0]) (t := 144) ?hr ?_; (case hd => rfl); (case hg => rfl); (case hr => first | (go_simp; done) | (go_simp; rfl))
               intro gb hg w22 hbox hb
               have B2 := Aside0.mk (Qaq (g := g16) (o := .cells #[.string nA, .string nB, .int .i64 la, .int .i64 lb, .int .i64 th] 152 (0, 0)) B1.out hb)
               have H2 := Aside0.mk (Qav H1.out hb)
               have G2 := Aside0.mk (show wc.heap.size ≤ gb by rw [hg]; exact Qax H1.out)
               have NE := Aside0.mk (show ga ≠ gb by rw [hg]; exact Nat.ne_of_lt (blk_lt X1.out))
               have X1' := Aside0.mk (Qaq (g := ga) (o := .cells #[.int .i64 0, .int .i64 0] 144 (0, 0)) X1.out hb)
               have X2 := Aside0.mk hbox
               clear hb hbox hg
               refine hK.out _ _ ⟨(Qad B2.out 2).trans (show (#[.string nA, .string nB, .int .i64 la, .int .i64 lb, .int .i64 th] : Array Value)[2]? = some (Value.int .i64 la) from rfl), (Qad B2.out 3).trans (show (#[.string nA, .string nB, .int .i64 la, .int .i64 lb, .int .i64 th] : Array Value)[3]? = some (Value.int .i64 lb) from rfl)⟩ (fun hHeld => ?_)
               clear hK K
               refine norm_ (a' := ?_) ?_ ?_
               rotate_left
               ·show Act.put _ (some 21) _ = _
                simp only [Act.put, Zj, Zk, Zm, i64_w, i32_w]
                rfl
               exact norm_ (by simp only [putAll, Act.put, Zj, Zk, Zm]) (hCont (gb, ga) _ ⟨hHeld, X2.out, X1'.out, G2.out, G1.out, fun e => NE.out e.symm, B2.out, H2.out⟩)
              rintro ⟨ga, gb⟩ w21 ⟨hHeld, x1, x2, g1, g2, ne, b2, h2⟩
              have X1 := Aside0.mk x1
              have X2 := Aside0.mk x2
              have G1 := Aside0.mk g1
              have G2 := Aside0.mk g2
              have NE := Aside0.mk ne
              have B2 := Aside0.mk b2
              have H2 := Aside0.mk h2
              clear x1 x2 g1 g2 ne b2 h2 HY BD
              refine norm_ (a' := ?_) ?_ ?_
              rotate_left
              ·simp only [putAll, Act.put, Zj, Zk, Zm]
               rfl
              have NA := Aside0.mk (show g16 ≠ ga by have := blk_lt BK16.out; have := G1.out; omega)
              have NB := Aside0.mk (show g16 ≠ gb by have := blk_lt BK16.out; have := G2.out; omega)
              refine one_ (i := 10) (N := none) #[J, J, J, J, J, J, J, J, J, J, J, V] rfl rfl (one_of HT_.out (by kernel_rfl)) (by decide) (fun K hK => ?_)
              refine skip_ (w1 := ((w21.setCell ⟨ga, 0, none⟩ (.int .i64 a)).setCell ⟨ga, 1, none⟩ (.int .i64 b))) (by rfl) rfl (Qbh (cs := #[.int .i64 0, .int .i64 0]) (seg := [.int .i64 a, .int .i64 b]) X1.out rfl (by first | rfl | (go_simp; done)) (by first | rfl | (go_simp; done)) (by rfl) (by first | rfl | kernel_rfl) (by simp) (by first | rfl | simp [Value.oneCell'])) ?_
              have D1 := Aside0.mk (Qaw (Qaw X1.out 0 (.int .i64 a) (cs' := #[.int .i64 a, .int .i64 0]) rfl) 1 (.int .i64 b) (cs' := #[.int .i64 a, .int .i64 b]) rfl)
              have D2 := Aside0.mk (Qa1 (p := ⟨ga, 1, none⟩) (Qa1 (p := ⟨ga, 0, none⟩) X2.out (fun e => NE.out e.symm) (.int .i64 a)) (fun e => NE.out e.symm) (.int .i64 b))
              have D3 := Aside0.mk (Qa1 (p := ⟨ga, 1, none⟩) (Qa1 (p := ⟨ga, 0, none⟩) B2.out NA.out (.int .i64 a)) NA.out (.int .i64 b))
              have D4 := Aside0.mk (Qaj (j := 1) (v := .int .i64 b) (Qaj (j := 0) (v := .int .i64 a) H2.out G1.out) G1.out)
              clear X1 X2 B2 H2 hHeld
              generalize ((w21.setCell ⟨ga, 0, none⟩ (.int .i64 a)).setCell ⟨ga, 1, none⟩ (.int .i64 b)) = w22 at D1 D2 D3 D4 ⊢
              refine hK.out _ _ ⟨(Qad D3.out 2).trans (show (#[.string nA, .string nB, .int .i64 la, .int .i64 lb, .int .i64 th] : Array Value)[2]? = some (Value.int .i64 la) from rfl), (Qad D3.out 3).trans (show (#[.string nA, .string nB, .int .i64 la, .int .i64 lb, .int .i64 th] : Array Value)[3]? = some (Value.int .i64 lb) from rfl)⟩ (fun hHeld => ?_)
              clear hK K
              refine last_ (i := 11) (N := none) #[J, J, J, J, J, J, J, J, J, J, J, J] rfl rfl (one_of HT_.out (by kernel_rfl)) (by decide) (fun K hK => ?_)
              refine skip_ (w1 := ((w22.setCell ⟨gb, 0, none⟩ (.int .i64 la)).setCell ⟨gb, 1, none⟩ (.int .i64 lb))) (by rfl) rfl (Qbh (cs := #[.int .i64 0, .int .i64 0]) (seg := [.int .i64 la, .int .i64 lb]) D2.out rfl (by first | rfl | (go_simp; done)) (by first | rfl | (go_simp; done)) (by rfl) (by first | rfl | kernel_rfl) (by simp) (by first | rfl | simp [Value.oneCell'])) ?_
              refine hK.out _ _ ?_
              clear hK K
              refine done_ (QaX HT_.out (by kernel_rfl)) ?_
              have A22 := Aside0.mk (Qaw (Qaw D2.out 0 (.int .i64 la) (cs' := #[.int .i64 la, .int .i64 0]) rfl) 1 (.int .i64 lb) (cs' := #[.int .i64 la, .int .i64 lb]) rfl)
              have A21 := Aside0.mk (Qa1 (p := ⟨gb, 1, none⟩) (Qa1 (p := ⟨gb, 0, none⟩) D1.out NE.out (.int .i64 la)) NE.out (.int .i64 lb))
              have A16 := Aside0.mk (Qa1 (p := ⟨gb, 1, none⟩) (Qa1 (p := ⟨gb, 0, none⟩) D3.out NB.out (.int .i64 la)) NB.out (.int .i64 lb))
              have HZ4 := Aside0.mk (Qaj (j := 1) (v := .int .i64 lb) (Qaj (j := 0) (v := .int .i64 la) D4.out G2.out) G2.out)
              clear D1 D2 D3 D4 hHeld
              generalize ((w22.setCell ⟨gb, 0, none⟩ (.int .i64 la)).setCell ⟨gb, 1, none⟩ (.int .i64 lb)) = w23 at A22 A21 A16 HZ4 ⊢
              have MS2 := Aside0.mk (MS1.out.below HZ4.out)
              have C5 := Aside0.mk (Qaq (g := g5) (o := .cells #[.slice A1 l1.length c1] 32 (0, 0)) BK5.out HZ4.out)
              have C6 := Aside0.mk (Qaq (g := g6) (o := .cells #[.slice A2 l2.length c2] 32 (0, 0)) BK6.out HZ4.out)
              have C8 := Aside0.mk (Qaq BK8.out HZ4.out)
              have C9 := Aside0.mk (Qaq BK9.out HZ4.out)
              have HV2 := Aside0.mk (Kd.R_below HV1.out HZ4.out)
              have HL2 := Aside0.mk (Kd.R_below HL1.out HZ4.out)
              have HB2 := Aside0.mk (Qav HB1.out HZ4.out)
              have ka := Aside0.mk ((HZ4.out.cell (World.block_lt_of_cell? _ _ hla0.out)).trans hla0.out)
              have kb := Aside0.mk ((HZ4.out.cell (World.block_lt_of_cell? _ _ hlb0.out)).trans hlb0.out)
              have k9 := Aside0.mk ((HZ4.out.cell (World.block_lt_of_cell? _ _ hy90.out)).trans hy90.out)
              have E16 := Aside0.mk (show g16 < wc.heap.size from blk_lt BK16.out)
              clear MS1 BK5 BK6 BK8 BK9 BK16 HV1 HL1 HB1 hla0 hlb0 hy90
              have y1b := Y1.out
              have y2b := Y2.out
              go_upto_region 21 with (fail)
              have HH := Aside0.mk (Qac (Below.refl w23.heap.size w23))
              refine start_ (n := 21) (S := fun w' => w'.cell? ⟨g9, 0, none⟩ = some (.slice (some ⟨bl, 0, none⟩) l1.length cw) ∧ w'.cell? ⟨bl, a.toNat, none⟩ = some (.int .i64 ra_) ∧ w'.cell? ⟨bl, b.toNat, none⟩ = some (.int .i64 rb_) ∧ w'.cell? ⟨g16, 2, none⟩ = some (.int .i64 la) ∧ w'.cell? ⟨g16, 3, none⟩ = some (.int .i64 lb)) (ds := [20]) #[V, V, V, V, V, V, V, V, V, V, V, V, V, V, V, V, V, V, V, V, V] (by kernel_rfl) rfl rfl ⟨(HH.out.cell (World.block_lt_of_cell? _ _ k9.out)).trans k9.out, (HH.out.cell (World.block_lt_of_cell? _ _ ka.out)).trans ka.out, (HH.out.cell (World.block_lt_of_cell? _ _ kb.out)).trans kb.out, (Qad (Qaq (g := g16) (o := .cells #[.string nA, .string nB, .int .i64 la, .int .i64 lb, .int .i64 th] 152 (0, 0)) A16.out HH.out) 2).trans (show (#[.string nA, .string nB, .int .i64 la, .int .i64 lb, .int .i64 th] : Array Value)[2]? = some (Value.int .i64 la) from rfl), (Qad (Qaq (g := g16) (o := .cells #[.string nA, .string nB, .int .i64 la, .int .i64 lb, .int .i64 th] 152 (0, 0)) A16.out HH.out) 3).trans (show (#[.string nA, .string nB, .int .i64 la, .int .i64 lb, .int .i64 th] : Array Value)[3]? = some (Value.int .i64 lb) from rfl)⟩ (fun hHeld => ?_); refine QaP Qam.r21.tab Qam.r21.bits (fun HT_ HW_ => ?_)
              refine Zst (i := 0) (N := some 114) (pm 21 1) HT_ HW_ hHeld ?_ (hy := by (refine Or.inl ⟨by rfl, ?_⟩; rintro w' ⟨s0, s1, s2, s3, s4⟩; go_simp; with_reducible rfl))
              refine Zsp (i := 1) (N := some 115) (pm 21 2) HT_ ?_
              refine Zsp (i := 2) (N := some 116) (pm 21 3) HT_ ?_
              refine Zst (i := 3) (N := some 117) (pm 21 4) HT_ HW_ hHeld ?_ (hy := by (refine Or.inl ⟨by rfl, ?_⟩; rintro w' ⟨s0, s1, s2, s3, s4⟩; go_simp; with_reducible rfl))
              refine Zsp (i := 5) (N := some 119) #[J, J, J, J, V, J, V, V, V, V, V, V, V, V, V, V, V, V, V, V, V] HT_ ?_
              refine Zst (i := 6) (N := some 120) #[J, J, J, J, V, J, J, V, V, V, V, V, V, V, V, V, V, V, V, V, V] HT_ HW_ hHeld ?_ (hy := by (refine Or.inl ⟨by rfl, ?_⟩; rintro w' ⟨s0, s1, s2, s3, s4⟩; go_simp; with_reducible rfl))
              refine Zsp (i := 7) (N := some 121) #[J, J, J, J, V, J, J, J, V, V, V, V, V, V, V, V, V, V, V, V, V] HT_ ?_
              refine Zst (i := 9) (N := some 123) #[J, J, J, J, V, J, J, J, V, J, V, V, V, V, V, V, V, V, V, V, V] HT_ HW_ hHeld ?_ (hy := by (refine Or.inl ⟨by rfl, ?_⟩; rintro w' ⟨s0, s1, s2, s3, s4⟩; go_simp; with_reducible rfl))
              refine Zsp (i := 10) (N := some 124) #[J, J, J, J, V, J, J, J, V, J, J, V, V, V, V, V, V, V, V, V, V] HT_ ?_
              refine Zsp (i := 11) (N := some 125) #[J, J, J, J, V, J, J, J, V, J, J, J, V, V, V, V, V, V, V, V, V] HT_ ?_
              refine Zst (i := 12) (N := some 126) #[J, J, J, J, V, J, J, J, V, J, J, J, J, V, V, V, V, V, V, V, V] HT_ HW_ hHeld ?_ (hy := by (refine Or.inl ⟨by rfl, ?_⟩; rintro w' ⟨s0, s1, s2, s3, s4⟩; go_simp; with_reducible rfl))
              refine Zsp (i := 14) (N := some 128) #[J, J, J, J, V, J, J, J, V, J, J, J, J, V, J, V, V, V, V, V, V] HT_ ?_
              refine Zst (i := 15) (N := some 129) #[J, J, J, J, V, J, J, J, V, J, J, J, J, V, J, J, V, V, V, V, V] HT_ HW_ hHeld ?_ (hy := by (refine Or.inl ⟨by rfl, ?_⟩; rintro w' ⟨s0, s1, s2, s3, s4⟩; go_simp; with_reducible rfl))
              refine Zsp (i := 16) (N := some 130) #[J, J, J, J, V, J, J, J, V, J, J, J, J, V, J, J, J, V, V, V, V] HT_ ?_
              refine join_ (σ := Nat) 1 #[J, J, J, J, J, J, J, J, J, J, J, J, J, J, J, J, J, J, J, J, V] (fun s_ => [(118, .int .i64 za), (122, .int .i64 (wrap64 (Int.tdiv za (wrap64 (1000 * la))))), (127, .int .i64 zb), (131, .int .i64 (wrap64 (Int.tdiv zb (wrap64 (1000 * lb))))), (132, .int .i64 nn), (23, .pointer (some ⟨s_, 0, none⟩))]) (fun s_ w' => (w'.cell? ⟨g9, 0, none⟩ = some (.slice (some ⟨bl, 0, none⟩) l1.length cw) ∧ w'.cell? ⟨bl, a.toNat, none⟩ = some (.int .i64 ra_) ∧ w'.cell? ⟨bl, b.toNat, none⟩ = some (.int .i64 rb_) ∧ w'.cell? ⟨g16, 2, none⟩ = some (.int .i64 la) ∧ w'.cell? ⟨g16, 3, none⟩ = some (.int .i64 lb)) ∧ w'.heap[s_]? = some (.cells #[.int .i64 0] 3 (0, 0)) ∧ w23.heap.size ≤ s_ ∧ Below w23.heap.size w23 w') ?_ ?_
              rotate_left
              ·intro hCont
               refine two_ (i := 4) (j := 19) (Ni := some 118) (Nj := some 23) #[J, J, J, J, J, J, J, J, V, J, J, J, J, V, J, J, J, V, V, V, V] #[J, J, J, J, V, J, J, J, V, J, J, J, J, V, J, J, J, V, V, J, V] rfl rfl rfl rfl (two_of HT_.out (by kernel_rfl)) (by decide) (by decide) (fun K hK => ?_) (fun K hK => ?_)
               ·skip
                refine goes_ Try.func67 (by kernel_rfl) rfl #[.int .i64 ra_] (by rfl) rfl rfl (by (try simp only [List.map_toArray, List.map_cons, List.map_nil]); first | done | rfl) ?_
                refine (Qbo.calls ra_ za _ ZA.out).mono ?_
                rintro _ wq ⟨rfl, hb⟩
                refine ⟨_, rfl, ?_⟩
                have HH1 := Aside0.mk (Qav HH.out hb)
                clear hb
                refine hK.out _ _ ⟨(HH1.out.cell (World.block_lt_of_cell? _ _ k9.out)).trans k9.out, (HH1.out.cell (World.block_lt_of_cell? _ _ ka.out)).trans ka.out, (HH1.out.cell (World.block_lt_of_cell? _ _ kb.out)).trans kb.out, (Qad (Qaq (g := g16) (o := .cells #[.string nA, .string nB, .int .i64 la, .int .i64 lb, .int .i64 th] 152 (0, 0)) A16.out HH1.out) 2).trans (show (#[.string nA, .string nB, .int .i64 la, .int .i64 lb, .int .i64 th] : Array Value)[2]? = some (Value.int .i64 la) from rfl), (Qad (Qaq (g := g16) (o := .cells #[.string nA, .string nB, .int .i64 la, .int .i64 lb, .int .i64 th] 152 (0, 0)) A16.out HH1.out) 3).trans (show (#[.string nA, .string nB, .int .i64 la, .int .i64 lb, .int .i64 th] : Array Value)[3]? = some (Value.int .i64 lb) from rfl)⟩ (fun hHeld => ?_)
                clear hK K
                refine norm_ (a' := ?_) ?_ ?_
                rotate_left
                ·show Act.put _ (some 118) _ = _
                 simp only [Act.put, Zj, Zk, Zm, i64_w, i32_w]
                 rfl
                refine Zsp (i := 8) (N := some 122) #[J, J, J, J, J, J, J, J, J, J, J, J, J, V, J, J, J, V, V, V, V] HT_ ?_
                refine two_ (i := 13) (j := 19) (Ni := some 127) (Nj := some 23) #[J, J, J, J, J, J, J, J, J, J, J, J, J, J, J, J, J, V, V, V, V] #[J, J, J, J, J, J, J, J, J, J, J, J, J, V, J, J, J, V, V, J, V] rfl rfl rfl rfl (two_of HT_.out (by kernel_rfl)) (by decide) (by decide) (fun K hK => ?_) (fun K hK => ?_)
                ·skip
                 refine goes_ Try.func67 (by kernel_rfl) rfl #[.int .i64 rb_] (by rfl) rfl rfl (by (try simp only [List.map_toArray, List.map_cons, List.map_nil]); first | done | rfl) ?_
                 refine (Qbo.calls rb_ zb _ ZB.out).mono ?_
                 rintro _ wq ⟨rfl, hb⟩
                 refine ⟨_, rfl, ?_⟩
                 have HH2 := Aside0.mk (Qav HH1.out hb)
                 clear hb
                 refine hK.out _ _ ⟨(HH2.out.cell (World.block_lt_of_cell? _ _ k9.out)).trans k9.out, (HH2.out.cell (World.block_lt_of_cell? _ _ ka.out)).trans ka.out, (HH2.out.cell (World.block_lt_of_cell? _ _ kb.out)).trans kb.out, (Qad (Qaq (g := g16) (o := .cells #[.string nA, .string nB, .int .i64 la, .int .i64 lb, .int .i64 th] 152 (0, 0)) A16.out HH2.out) 2).trans (show (#[.string nA, .string nB, .int .i64 la, .int .i64 lb, .int .i64 th] : Array Value)[2]? = some (Value.int .i64 la) from rfl), (Qad (Qaq (g := g16) (o := .cells #[.string nA, .string nB, .int .i64 la, .int .i64 lb, .int .i64 th] 152 (0, 0)) A16.out HH2.out) 3).trans (show (#[.string nA, .string nB, .int .i64 la, .int .i64 lb, .int .i64 th] : Array Value)[3]? = some (Value.int .i64 lb) from rfl)⟩ (fun hHeld => ?_)
                 clear hK K
                 refine norm_ (a' := ?_) ?_ ?_
                 rotate_left
                 ·show Act.put _ (some 127) _ = _
                  simp only [Act.put, Zj, Zk, Zm, i64_w, i32_w]
                  rfl
                 refine Zsp (i := 17) (N := some 131) (pm 21 18) HT_ ?_
                 refine Zsp (i := 18) (N := some 132) (pm 21 19) HT_ ?_
                 refine one_ (i := 19) (N := some 23) #[J, J, J, J, J, J, J, J, J, J, J, J, J, J, J, J, J, J, J, J, V] rfl rfl (one_of HT_.out (by kernel_rfl)) (by decide) (fun K hK => ?_)
                 refine QbU ?hg (N := 23) ?hd (cs := #[.int .i64 0]) (t := 3) ?hr ?_; (case hd => rfl); (case hg => rfl); (case hr => first | (go_simp; done) | (go_simp; rfl))
                 intro gn hg wq hbox hb
                 have HH3 := Aside0.mk (Qav HH2.out hb)
                 have GN := Aside0.mk (show w23.heap.size ≤ gn by rw [hg]; exact Qax HH2.out)
                 have XN3 := Aside0.mk hbox
                 clear hb hbox hg
                 refine hK.out _ _ ⟨(HH3.out.cell (World.block_lt_of_cell? _ _ k9.out)).trans k9.out, (HH3.out.cell (World.block_lt_of_cell? _ _ ka.out)).trans ka.out, (HH3.out.cell (World.block_lt_of_cell? _ _ kb.out)).trans kb.out, (Qad (Qaq (g := g16) (o := .cells #[.string nA, .string nB, .int .i64 la, .int .i64 lb, .int .i64 th] 152 (0, 0)) A16.out HH3.out) 2).trans (show (#[.string nA, .string nB, .int .i64 la, .int .i64 lb, .int .i64 th] : Array Value)[2]? = some (Value.int .i64 la) from rfl), (Qad (Qaq (g := g16) (o := .cells #[.string nA, .string nB, .int .i64 la, .int .i64 lb, .int .i64 th] 152 (0, 0)) A16.out HH3.out) 3).trans (show (#[.string nA, .string nB, .int .i64 la, .int .i64 lb, .int .i64 th] : Array Value)[3]? = some (Value.int .i64 lb) from rfl)⟩ (fun hHeld => ?_)
                 clear hK K
                 refine norm_ (a' := ?_) ?_ ?_
                 rotate_left
                 ·show Act.put _ (some 23) _ = _
                  simp only [Act.put, Zj, Zk, Zm, i64_w, i32_w]
                  rfl
                 exact norm_ (by simp only [putAll, Act.put, Zj, Zk, Zm]; first | done | rfl | (rw [NN.out]; done) | (rw [NN.out]; rfl)) (hCont gn _ ⟨hHeld, XN3.out, GN.out, HH3.out⟩)
                skip
                refine QbU ?hg (N := 23) ?hd (cs := #[.int .i64 0]) (t := 3) ?hr ?_; (case hd => rfl); (case hg => rfl); (case hr => first | (go_simp; done) | (go_simp; rfl))
                intro gn hg wq hbox hb
                have HH2 := Aside0.mk (Qav HH1.out hb)
                have GN := Aside0.mk (show w23.heap.size ≤ gn by rw [hg]; exact Qax HH1.out)
                have XN2 := Aside0.mk hbox
                clear hb hbox hg
                refine hK.out _ _ ⟨(HH2.out.cell (World.block_lt_of_cell? _ _ k9.out)).trans k9.out, (HH2.out.cell (World.block_lt_of_cell? _ _ ka.out)).trans ka.out, (HH2.out.cell (World.block_lt_of_cell? _ _ kb.out)).trans kb.out, (Qad (Qaq (g := g16) (o := .cells #[.string nA, .string nB, .int .i64 la, .int .i64 lb, .int .i64 th] 152 (0, 0)) A16.out HH2.out) 2).trans (show (#[.string nA, .string nB, .int .i64 la, .int .i64 lb, .int .i64 th] : Array Value)[2]? = some (Value.int .i64 la) from rfl), (Qad (Qaq (g := g16) (o := .cells #[.string nA, .string nB, .int .i64 la, .int .i64 lb, .int .i64 th] 152 (0, 0)) A16.out HH2.out) 3).trans (show (#[.string nA, .string nB, .int .i64 la, .int .i64 lb, .int .i64 th] : Array Value)[3]? = some (Value.int .i64 lb) from rfl)⟩ (fun hHeld => ?_)
                clear hK K
                refine norm_ (a' := ?_) ?_ ?_
                rotate_left
                ·show Act.put _ (some 23) _ = _
                 simp only [Act.put, Zj, Zk, Zm, i64_w, i32_w]
                 rfl
                refine one_ (i := 13) (N := some 127) #[J, J, J, J, J, J, J, J, J, J, J, J, J, J, J, J, J, V, V, J, V] rfl rfl (one_of HT_.out (by kernel_rfl)) (by decide) (fun K hK => ?_)
                refine goes_ Try.func67 (by kernel_rfl) rfl #[.int .i64 rb_] (by rfl) rfl rfl (by (try simp only [List.map_toArray, List.map_cons, List.map_nil]); first | done | rfl) ?_
                refine (Qbo.calls rb_ zb _ ZB.out).mono ?_
                rintro _ wq ⟨rfl, hb⟩
                refine ⟨_, rfl, ?_⟩
                have HH3 := Aside0.mk (Qav HH2.out hb)
                have XN3 := Aside0.mk (Qaq (g := gn) (o := .cells #[.int .i64 0] 3 (0, 0)) XN2.out hb)
                clear hb
                refine hK.out _ _ ⟨(HH3.out.cell (World.block_lt_of_cell? _ _ k9.out)).trans k9.out, (HH3.out.cell (World.block_lt_of_cell? _ _ ka.out)).trans ka.out, (HH3.out.cell (World.block_lt_of_cell? _ _ kb.out)).trans kb.out, (Qad (Qaq (g := g16) (o := .cells #[.string nA, .string nB, .int .i64 la, .int .i64 lb, .int .i64 th] 152 (0, 0)) A16.out HH3.out) 2).trans (show (#[.string nA, .string nB, .int .i64 la, .int .i64 lb, .int .i64 th] : Array Value)[2]? = some (Value.int .i64 la) from rfl), (Qad (Qaq (g := g16) (o := .cells #[.string nA, .string nB, .int .i64 la, .int .i64 lb, .int .i64 th] 152 (0, 0)) A16.out HH3.out) 3).trans (show (#[.string nA, .string nB, .int .i64 la, .int .i64 lb, .int .i64 th] : Array Value)[3]? = some (Value.int .i64 lb) from rfl)⟩ (fun hHeld => ?_)
                clear hK K
                refine norm_ (a' := ?_) ?_ ?_
                rotate_left
                ·show Act.put _ (some 127) _ = _
                 simp only [Act.put, Zj, Zk, Zm, i64_w, i32_w]
                 rfl
                refine Zsp (i := 17) (N := some 131) #[J, J, J, J, J, J, J, J, J, J, J, J, J, J, J, J, J, J, V, J, V] HT_ ?_
                refine Zsp (i := 18) (N := some 132) (pm 21 20) HT_ ?_
                exact norm_ (by simp only [putAll, Act.put, Zj, Zk, Zm]; first | done | rfl | (rw [NN.out]; done) | (rw [NN.out]; rfl)) (hCont gn _ ⟨hHeld, XN3.out, GN.out, HH3.out⟩)
               skip
               refine QbU ?hg (N := 23) ?hd (cs := #[.int .i64 0]) (t := 3) ?hr ?_; (case hd => rfl); (case hg => rfl); (case hr => first | (go_simp; done) | (go_simp; rfl))
               intro gn hg wq hbox hb
               have HH1 := Aside0.mk (Qav HH.out hb)
               have GN := Aside0.mk (show w23.heap.size ≤ gn by rw [hg]; exact Qax HH.out)
               have XN1 := Aside0.mk hbox
               clear hb hbox hg
               refine hK.out _ _ ⟨(HH1.out.cell (World.block_lt_of_cell? _ _ k9.out)).trans k9.out, (HH1.out.cell (World.block_lt_of_cell? _ _ ka.out)).trans ka.out, (HH1.out.cell (World.block_lt_of_cell? _ _ kb.out)).trans kb.out, (Qad (Qaq (g := g16) (o := .cells #[.string nA, .string nB, .int .i64 la, .int .i64 lb, .int .i64 th] 152 (0, 0)) A16.out HH1.out) 2).trans (show (#[.string nA, .string nB, .int .i64 la, .int .i64 lb, .int .i64 th] : Array Value)[2]? = some (Value.int .i64 la) from rfl), (Qad (Qaq (g := g16) (o := .cells #[.string nA, .string nB, .int .i64 la, .int .i64 lb, .int .i64 th] 152 (0, 0)) A16.out HH1.out) 3).trans (show (#[.string nA, .string nB, .int .i64 la, .int .i64 lb, .int .i64 th] : Array Value)[3]? = some (Value.int .i64 lb) from rfl)⟩ (fun hHeld => ?_)
               clear hK K
               refine norm_ (a' := ?_) ?_ ?_
               rotate_left
               ·show Act.put _ (some 23) _ = _
                simp only [Act.put, Zj, Zk, Zm, i64_w, i32_w]
                rfl
               refine one_ (i := 4) (N := some 118) #[J, J, J, J, J, J, J, J, V, J, J, J, J, V, J, J, J, V, V, J, V] rfl rfl (one_of HT_.out (by kernel_rfl)) (by decide) (fun K hK => ?_)
               refine goes_ Try.func67 (by kernel_rfl) rfl #[.int .i64 ra_] (by rfl) rfl rfl (by (try simp only [List.map_toArray, List.map_cons, List.map_nil]); first | done | rfl) ?_
               refine (Qbo.calls ra_ za _ ZA.out).mono ?_
               rintro _ wq ⟨rfl, hb⟩
               refine ⟨_, rfl, ?_⟩
               have HH2 := Aside0.mk (Qav HH1.out hb)
               have XN2 := Aside0.mk (Qaq (g := gn) (o := .cells #[.int .i64 0] 3 (0, 0)) XN1.out hb)
               clear hb
               refine hK.out _ _ ⟨(HH2.out.cell (World.block_lt_of_cell? _ _ k9.out)).trans k9.out, (HH2.out.cell (World.block_lt_of_cell? _ _ ka.out)).trans ka.out, (HH2.out.cell (World.block_lt_of_cell? _ _ kb.out)).trans kb.out, (Qad (Qaq (g := g16) (o := .cells #[.string nA, .string nB, .int .i64 la, .int .i64 lb, .int .i64 th] 152 (0, 0)) A16.out HH2.out) 2).trans (show (#[.string nA, .string nB, .int .i64 la, .int .i64 lb, .int .i64 th] : Array Value)[2]? = some (Value.int .i64 la) from rfl), (Qad (Qaq (g := g16) (o := .cells #[.string nA, .string nB, .int .i64 la, .int .i64 lb, .int .i64 th] 152 (0, 0)) A16.out HH2.out) 3).trans (show (#[.string nA, .string nB, .int .i64 la, .int .i64 lb, .int .i64 th] : Array Value)[3]? = some (Value.int .i64 lb) from rfl)⟩ (fun hHeld => ?_)
               clear hK K
               refine norm_ (a' := ?_) ?_ ?_
               rotate_left
               ·show Act.put _ (some 118) _ = _
                simp only [Act.put, Zj, Zk, Zm, i64_w, i32_w]
                rfl
               refine Zsp (i := 8) (N := some 122) #[J, J, J, J, J, J, J, J, J, J, J, J, J, V, J, J, J, V, V, J, V] HT_ ?_
               refine one_ (i := 13) (N := some 127) #[J, J, J, J, J, J, J, J, J, J, J, J, J, J, J, J, J, V, V, J, V] rfl rfl (one_of HT_.out (by kernel_rfl)) (by decide) (fun K hK => ?_)
               refine goes_ Try.func67 (by kernel_rfl) rfl #[.int .i64 rb_] (by rfl) rfl rfl (by (try simp only [List.map_toArray, List.map_cons, List.map_nil]); first | done | rfl) ?_
               refine (Qbo.calls rb_ zb _ ZB.out).mono ?_
               rintro _ wq ⟨rfl, hb⟩
               refine ⟨_, rfl, ?_⟩
               have HH3 := Aside0.mk (Qav HH2.out hb)
               have XN3 := Aside0.mk (Qaq (g := gn) (o := .cells #[.int .i64 0] 3 (0, 0)) XN2.out hb)
               clear hb
               refine hK.out _ _ ⟨(HH3.out.cell (World.block_lt_of_cell? _ _ k9.out)).trans k9.out, (HH3.out.cell (World.block_lt_of_cell? _ _ ka.out)).trans ka.out, (HH3.out.cell (World.block_lt_of_cell? _ _ kb.out)).trans kb.out, (Qad (Qaq (g := g16) (o := .cells #[.string nA, .string nB, .int .i64 la, .int .i64 lb, .int .i64 th] 152 (0, 0)) A16.out HH3.out) 2).trans (show (#[.string nA, .string nB, .int .i64 la, .int .i64 lb, .int .i64 th] : Array Value)[2]? = some (Value.int .i64 la) from rfl), (Qad (Qaq (g := g16) (o := .cells #[.string nA, .string nB, .int .i64 la, .int .i64 lb, .int .i64 th] 152 (0, 0)) A16.out HH3.out) 3).trans (show (#[.string nA, .string nB, .int .i64 la, .int .i64 lb, .int .i64 th] : Array Value)[3]? = some (Value.int .i64 lb) from rfl)⟩ (fun hHeld => ?_)
               clear hK K
               refine norm_ (a' := ?_) ?_ ?_
               rotate_left
               ·show Act.put _ (some 127) _ = _
                simp only [Act.put, Zj, Zk, Zm, i64_w, i32_w]
                rfl
               refine Zsp (i := 17) (N := some 131) #[J, J, J, J, J, J, J, J, J, J, J, J, J, J, J, J, J, J, V, J, V] HT_ ?_
               refine Zsp (i := 18) (N := some 132) (pm 21 20) HT_ ?_
               exact norm_ (by simp only [putAll, Act.put, Zj, Zk, Zm]; first | done | rfl | (rw [NN.out]; done) | (rw [NN.out]; rfl)) (hCont gn _ ⟨hHeld, XN3.out, GN.out, HH3.out⟩)
              rintro gn w24 ⟨hHeld, xn, gnl, hh⟩
              have XN := Aside0.mk xn
              have GN := Aside0.mk gnl
              have HQ := Aside0.mk hh
              clear xn gnl hh HH
              refine norm_ (a' := ?_) ?_ ?_
              rotate_left
              ·simp only [putAll, Act.put, Zj, Zk, Zm]
               rfl
              refine last_ (i := 20) (N := none) #[J, J, J, J, J, J, J, J, J, J, J, J, J, J, J, J, J, J, J, J, J] rfl rfl (one_of HT_.out (by kernel_rfl)) (by decide) (fun K hK => ?_)
              refine skip_ (w1 := (w24.setCell ⟨gn, 0, none⟩ (.int .i64 nn))) (by rfl) rfl (Qbh (cs := #[.int .i64 0]) (seg := [.int .i64 nn]) XN.out rfl (by first | rfl | (go_simp; done)) (by first | rfl | (go_simp; done)) (by rfl) (by first | rfl | kernel_rfl) (by simp) (by first | rfl | simp [Value.oneCell'])) ?_
              refine hK.out _ _ ?_
              clear hK K
              refine done_ (QaX HT_.out (by kernel_rfl)) ?_
              obtain ⟨bv, cv_, ev, gbv, glv, clv, HGv⟩ := Kd.R_form HV2.out (by have := KK.out; omega)
              have elv := Aside0.mk (show l0.length = sv.length by injection ev)
              obtain rfl : Av = some ⟨bv, 0, none⟩ := by injection ev
              clear ev
              have GV := Aside0.mk gbv
              have glb := Kd.R_lt HL2.out bl (by simp [Value.ownBlock])
              have NVL := Aside0.mk (show bv ≠ bl from fun e => HV2.out.1 bv (by simp [Value.ownBlock]) (by rw [e]; simp [Value.ownBlock]))
              have HGl : ∃ cells, w23.heap[bl]? = some (Obj.cells cells 3) := by
               obtain ⟨g_, c_, e_, _, _, q_⟩ := Kd.R_form HL2.out (by have := KK.out; omega)
               injection e_ with e1
               injection e1 with e1
               injection e1 with e1
               subst e1
               exact q_
              obtain ⟨cll, HGl⟩ := HGl
              have NVg5 := Aside0.mk (QbC C5.out HGv (by decide))
              have NLg5 := Aside0.mk (QbC C5.out HGl (by decide))
              have NVg6 := Aside0.mk (QbC C6.out HGv (by decide))
              have NLg6 := Aside0.mk (QbC C6.out HGl (by decide))
              have NVg8 := Aside0.mk (QbC C8.out HGv (by decide))
              have NLg8 := Aside0.mk (QbC C8.out HGl (by decide))
              have NVg9 := Aside0.mk (QbC C9.out HGv (by decide))
              have NLg9 := Aside0.mk (QbC C9.out HGl (by decide))
              have NVg16 := Aside0.mk (QbC A16.out HGv (by decide))
              have NLg16 := Aside0.mk (QbC A16.out HGl (by decide))
              have NVga := Aside0.mk (QbC A21.out HGv (by decide))
              have NLga := Aside0.mk (QbC A21.out HGl (by decide))
              have NVgb := Aside0.mk (QbC A22.out HGv (by decide))
              have NLgb := Aside0.mk (QbC A22.out HGl (by decide))
              have NVgn := Aside0.mk (show gn ≠ bv by have := GN.out; omega)
              have NLgn := Aside0.mk (show gn ≠ bl by have := GN.out; omega)
              have NMV := Aside0.mk (show mb ≠ bv by obtain ⟨es, c, hq⟩ := MS2.out.blk; rintro rfl; rw [hq] at HGv; cases HGv)
              have NML := Aside0.mk (show mb ≠ bl by obtain ⟨es, c, hq⟩ := MS2.out.blk; rintro rfl; rw [hq] at HGl; cases HGl)
              clear gbv glv HGv glb HGl
              have A23 := Aside0.mk (Qaw XN.out 0 (.int .i64 nn) (cs' := #[.int .i64 nn]) rfl)
              have HE := Aside0.mk (Qaj (j := 0) (v := .int .i64 nn) HQ.out GN.out)
              clear XN HQ hHeld
              generalize w24.setCell ⟨gn, 0, none⟩ (.int .i64 nn) = w25 at A23 HE ⊢
              have MS3 := Aside0.mk (MS2.out.below HE.out)
              have HV3 := Aside0.mk (Kd.R_below HV2.out HE.out)
              have HL3 := Aside0.mk (Kd.R_below HL2.out HE.out)
              have HB3 := Aside0.mk (Qav HB2.out HE.out)
              have Dg5 := Aside0.mk (Qaq (g := g5) (o := .cells #[.slice A1 l1.length c1] 32 (0, 0)) C5.out HE.out)
              have Dg6 := Aside0.mk (Qaq (g := g6) (o := .cells #[.slice A2 l2.length c2] 32 (0, 0)) C6.out HE.out)
              have Dg8 := Aside0.mk (Qaq (g := g8) (o := .cells #[.slice (some ⟨bv, 0, none⟩) l0.length cv] 32 (0, 0)) C8.out HE.out)
              have Dg9 := Aside0.mk (Qaq (g := g9) (o := .cells #[.slice (some ⟨bl, 0, none⟩) l1.length cw] 32 (0, 0)) C9.out HE.out)
              have Dg16 := Aside0.mk (Qaq (g := g16) (o := .cells #[.string nA, .string nB, .int .i64 la, .int .i64 lb, .int .i64 th] 152 (0, 0)) A16.out HE.out)
              have Dga := Aside0.mk (Qaq (g := ga) (o := .cells #[.int .i64 a, .int .i64 b] 144 (0, 0)) A21.out HE.out)
              have Dgb := Aside0.mk (Qaq (g := gb) (o := .cells #[.int .i64 la, .int .i64 lb] 144 (0, 0)) A22.out HE.out)
              have Dgn := A23
              clear MS2 HV2 HL2 HB2 C5 C6 C8 C9 A16 A21 A22 A23 ka kb k9 HE
              obtain ⟨ar, ear, hra0⟩ := Kd.at_int HR2.out a KK.out.1.1 KK.out.1.2.2.2.2
              obtain rfl : A2 = some ar := ear
              obtain ⟨ad_, ead, hda0⟩ := Kd.at_int HR1.out a KK.out.1.1 KK.out.1.2.2.2.1
              obtain rfl : A1 = some ad_ := ead
              clear hra0 hda0
              have AP : Aside0 (Qam.Ap w mb g5 g6 g8 g9 g16 ga gb gn bv bl) := ⟨GV.out, GL.out, NVL.out, NMV.out, NML.out, NVg5.out, NVg6.out, NVg8.out, NVg9.out, NVg16.out, NVga.out, NVgb.out, NVgn.out, NLg5.out, NLg6.out, NLg8.out, NLg9.out, NLg16.out, NLga.out, NLgb.out, NLgn.out⟩
              have ST : Aside0 (Qam.St w mb n f g5 g6 g8 g9 g16 ga gb gn bv bl l0.length l1.length l2.length cv cw c1 c2 ad_ ar nA nB la lb th a b nn w25 sv lf) := ⟨MS3.out, HV3.out, HL3.out, HB3.out, Dg5.out, Dg6.out, Dg8.out, Dg9.out, Dg16.out, Dga.out, Dgb.out, Dgn.out⟩
              clear GV GL NVL NMV NML NVg5 NVg6 NVg8 NVg9 NVg16 NVga NVgb NVgn NLg5 NLg6 NLg8 NLg9 NLg16 NLga NLgb NLgn MS3 HV3 HL3 HB3 Dg5 Dg6 Dg8 Dg9 Dg16 Dga Dgb Dgn
              have KA := Aside0.mk KK.out.1
              have KB := Aside0.mk KK.out.2
              have svl : (Qam.new sv l2 lf a (wrap64 (wrap64 (nn * 1000) * la)) o1).1.length = sv.length := List.length_set ..
              have SVL := Aside0.mk svl
              clear svl KK
              clear y1b y2b hHeld
              go_upto_region 24 with (first | (go_at_call 68; refine (Qam.call0 AP.out ST.out HR1.out HR2.out KA.out.1 KA.out.2.2.1 KA.out.2.2.2.1 KA.out.2.2.2.2 elv.out T1.out).mono ?_; rintro _ w26 ⟨rfl, hs⟩; have ST_ := Aside0.mk hs; clear hs ST; have ST := ST_; clear ST_))
              go_wp2_with (first | (go_at_call 68; refine (Qam.call1 AP.out ST.out HR1.out HR2.out KB.out.1 (by rw [SVL.out]; exact KB.out.2.2.1) KB.out.2.2.2.1 KB.out.2.2.2.2 (elv.out.trans SVL.out.symm) T2.out).mono ?_; rintro _ w27 ⟨rfl, hs⟩; have ST_ := Aside0.mk hs; clear hs ST; have ST := ST_; clear ST_))
              have E1 : sv1 = _ := (congrArg Prod.fst AF.out).symm
              have E2 : lf1 = _ := (congrArg Prod.snd AF.out).symm
              subst E1 E2
              obtain ⟨MS, HV, HL, HB, D5, D6, D8, D9, D16, Da, Db, Dn⟩ := ST.out
              go_roundg k2
              case measure => have := HK2.out; omega
              case rel => exact ⟨_, _, (wrap64 (x55 + 1)), (Zs), AQ, ⟨by have := HK2.out; omega⟩, ⟨MS⟩, ⟨D5⟩, ⟨D6⟩, ⟨D8⟩, ⟨D9⟩, ⟨HV⟩, ⟨HL⟩, ⟨HB⟩⟩
             rw [if_neg cK] at AS1
             cases AS1
          rw [if_neg cS] at AS0
          cases AS0
         rw [if_neg c5] at H
         cases H
        rw [if_neg c4] at H
        have c4c : decide (x55 < (l3.length : Int)) = V := decide_eq_false c4
        clear c4
        simp only [Option.some.injEq, Prod.mk.injEq] at H
        obtain ⟨rfl, rfl⟩ := H
        have N89' : g9 ≠ g8 := fun e => N89 e.symm
        go_upto_region 26 with (fail)
        have BD8 := Aside0.mk (Qai BKg8.out)
        have BD9 := Aside0.mk (Qai BKg9.out)
        have hy8 := (Qad BD8.out 0).trans (show (#[.slice Av l0.length cv] : Array Value)[0]? = some (Value.slice Av l0.length cv) from rfl)
        have hy9 := (Qad BD9.out 0).trans (show (#[.slice Aw l1.length cw] : Array Value)[0]? = some (Value.slice Aw l1.length cw) from rfl)
        refine start_ (n := 5) (S := fun w' => w'.cell? ⟨g8, 0, none⟩ = some (.slice Av l0.length cv) ∧ w'.cell? ⟨g9, 0, none⟩ = some (.slice Aw l1.length cw)) (ds := [3]) #[V, V, V, V, V] (by kernel_rfl) rfl rfl ⟨hy8, hy9⟩ (fun hHeld => ?_); refine QaP Qam.r26.tab Qam.r26.bits (fun HT_ HW_ => ?_)
        refine Zst (i := 0) (N := some 139) (pm 5 1) HT_ HW_ hHeld ?_ (hy := by (refine Or.inl ⟨by rfl, ?_⟩; rintro w' ⟨s0, s1⟩; go_simp; with_reducible rfl))
        refine Zst (i := 1) (N := some 140) (pm 5 2) HT_ HW_ hHeld ?_ (hy := by (refine Or.inl ⟨by rfl, ?_⟩; rintro w' ⟨s0, s1⟩; go_simp; with_reducible rfl))
        refine one_ (i := 2) (N := none) #[J, J, J, V, V] rfl rfl (one_of HT_.out (by kernel_rfl)) (by decide) (fun K hK => ?_)
        refine skip_ (w1 := (wr.drew.setCell ⟨g8, 0, none⟩ (.slice Av l0.length cv))) (by rfl) rfl (Qbh (cs := #[.slice Av l0.length cv]) (seg := [.slice Av l0.length cv]) BD8.out rfl (by first | rfl | (go_simp; done)) (by first | rfl | (go_simp; done)) (by rfl) (by first | rfl | kernel_rfl) (by simp) (by first | rfl | simp [Value.oneCell'])) ?_
        have BE9 := Aside0.mk (Qa1 (p := ⟨g8, 0, none⟩) BD9.out N89' (.slice Av l0.length cv))
        have BE8 := Aside0.mk (Qaw BD8.out 0 (.slice Av l0.length cv) (cs' := #[.slice Av l0.length cv]) rfl)
        refine hK.out _ _ ⟨(Qad BE8.out 0).trans (show (#[.slice Av l0.length cv] : Array Value)[0]? = some (Value.slice Av l0.length cv) from rfl), (Qad BE9.out 0).trans (show (#[.slice Aw l1.length cw] : Array Value)[0]? = some (Value.slice Aw l1.length cw) from rfl)⟩ (fun hHeld => ?_)
        clear hK K
        refine last_ (i := 3) (N := none) #[J, J, J, J, V] rfl rfl (one_of HT_.out (by kernel_rfl)) (by decide) (fun K hK => ?_)
        refine skip_ (w1 := ((wr.drew.setCell ⟨g8, 0, none⟩ (.slice Av l0.length cv)).setCell ⟨g9, 0, none⟩ (.slice Aw l1.length cw))) (by rfl) rfl (Qbh (cs := #[.slice Aw l1.length cw]) (seg := [.slice Aw l1.length cw]) BE9.out rfl (by first | rfl | (go_simp; done)) (by first | rfl | (go_simp; done)) (by rfl) (by first | rfl | kernel_rfl) (by simp) (by first | rfl | simp [Value.oneCell'])) ?_
        refine hK.out _ _ ?_
        clear hK K
        refine Zsp (i := 4) (N := some 10) (pm 5 5) HT_ ?_
        refine done_ (QaX HT_.out (by kernel_rfl)) ?_
        have F8 := Aside0.mk (Qa1 (p := ⟨g9, 0, none⟩) (Qaw BD8.out 0 (.slice Av l0.length cv) (cs' := #[.slice Av l0.length cv]) rfl) N89 (.slice Aw l1.length cw))
        have F9 := Aside0.mk (Qaw BE9.out 0 (.slice Aw l1.length cw) (cs' := #[.slice Aw l1.length cw]) rfl)
        have FV := Aside0.mk (Kd.R_mono (Kd.R_far (p := ⟨g9, 0, none⟩) (Kd.R_types (Kd.R_far (p := ⟨g8, 0, none⟩) (Kd.R_types (Kd.R_drew HV.out) BD8.out (by decide)) (fun _ hk => hk.2) (.slice Av l0.length cv)) BE9.out (by decide)) (fun _ hk => hk.2) (.slice Aw l1.length cw)) (fun _ hk => hk.1.1))
        have FL := Aside0.mk (Kd.R_mono (Kd.R_far (p := ⟨g9, 0, none⟩) (Kd.R_types (Kd.R_far (p := ⟨g8, 0, none⟩) (Kd.R_types (Kd.R_drew HL.out) BD8.out (by decide)) (fun _ hk => hk.2) (.slice Av l0.length cv)) BE9.out (by decide)) (fun _ hk => hk.2) (.slice Aw l1.length cw)) (fun _ hk => hk.1.1))
        have FB := Aside0.mk (Qaj (j := 0) (v := .slice Aw l1.length cw) (Qaj (j := 0) (v := .slice Av l0.length cv) (Qac HB.out) GEg8.out) GEg9.out)
        go_wp2
        ((try simp only [Exit.inBlock, Exit.then]); refine bodyPost_ret (Qco rfl _ _ g8 g9 32 32 (.slice Av l0.length cv) (.slice Aw l1.length cw) (0, 0) (0, 0) _ _ rfl F8.out Try.underlying32 rfl (by kernel_rfl) rfl F9.out Try.underlying32 rfl (by kernel_rfl)) rfl ?_)
        exact ⟨_, _, rfl, FV.out, FL.out, FB.out⟩
   rw [if_neg cB] at H
   cases H
  | false =>
   rw [if_neg (by decide)] at H
   simp only [Option.some.injEq, Prod.mk.injEq] at H
   obtain ⟨rfl, rfl, rfl⟩ := H
   have hz8 : w6.cell? ⟨g8, 0, none⟩ = some (.slice none 0 0) := (Qad BKg8.out 0).trans rfl
   have hz9 : w6.cell? ⟨g9, 0, none⟩ = some (.slice none 0 0) := (Qad BKg9.out 0).trans rfl
   have hf8 := Qaf BKg8.out 0
   have hf9 := Qaf BKg9.out 0
   have N89 := NBg8_g9.out
   go_wp2
   ((try simp only [Exit.inBlock, Exit.then]); refine bodyPost_ret (Qco rfl _ _ g8 g9 32 32 (.slice none 0 0) (.slice none 0 0) (0, 0) (0, 0) _ _ rfl (by refine Qa1 (p := ⟨g9, 0, none⟩) ?_ N89 _; refine Qaw (cs := #[.slice none 0 0]) ?_ 0 _ rfl; exact BKg8.out) Try.underlying32 rfl (by kernel_rfl) rfl (by refine Qaw (cs := #[.slice none 0 0]) ?_ 0 _ rfl; refine Qa1 (p := ⟨g8, 0, none⟩) ?_ (fun e => N89 e.symm) _; exact BKg9.out) Try.underlying32 rfl (by kernel_rfl)) rfl ?_)
   exact ⟨_, _, rfl, Kd.R_nil _ _ _ _ _, Kd.R_nil _ _ _ _ _, Qaj (Qaj HB.out GEg8.out) GEg9.out⟩
 rw [if_neg c0] at H
 have c0b : (e0 != 0) = J := bne_iff_ne.mpr c0
 clear c0
 simp only [Option.some.injEq, Prod.mk.injEq] at H
 obtain ⟨rfl, rfl, rfl⟩ := H
 have hz8 : w5.cell? ⟨g8, 0, none⟩ = some (.slice none 0 0) := (Qad BKg8.out 0).trans rfl
 have hz9 : w5.cell? ⟨g9, 0, none⟩ = some (.slice none 0 0) := (Qad BKg9.out 0).trans rfl
 have hf8 := Qaf BKg8.out 0
 have hf9 := Qaf BKg9.out 0
 have N89 := NBg8_g9.out
 go_wp2
 ((try simp only [Exit.inBlock, Exit.then]); refine bodyPost_ret (Qco rfl _ _ g8 g9 32 32 (.slice none 0 0) (.slice none 0 0) (0, 0) (0, 0) _ _ rfl (by refine Qa1 (p := ⟨g9, 0, none⟩) ?_ N89 _; refine Qaw (cs := #[.slice none 0 0]) ?_ 0 _ rfl; exact BKg8.out) Try.underlying32 rfl (by kernel_rfl) rfl (by refine Qaw (cs := #[.slice none 0 0]) ?_ 0 _ rfl; refine Qa1 (p := ⟨g8, 0, none⟩) ?_ (fun e => N89 e.symm) _; exact BKg9.out) Try.underlying32 rfl (by kernel_rfl)) rfl ?_)
 exact ⟨_, _, rfl, Kd.R_nil _ _ _ _ _, Kd.R_nil _ _ _ _ _, Qaj (Qaj HB.out GEg8.out) GEg9.out⟩
end Go.Proofs.Ytgnmhfjfefgbfaa.Pr
