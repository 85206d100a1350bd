/- Functions' values and contracts, as the print wrote them. -/
import Derived.Test.YtfcaaefdmabkhaaQ1A6P0
import Derived.Test.YtfcaaefdmabkhaaQ1A6P3
import Derived.Test.YtfcaaefdmabkhaaQ1A6P1
import Derived.Test.YtfcaaefdmabkhaaQ1A6P6
import Derived.Test.YtfcaaefdmabkhaaQ1A6P5
namespace Go.Proofs.Ytfcaaefdmabkhaa.Pr
open Bool renaming true → T
open Bool renaming false → F
open Go.RowKit Go.Proofs.YtfcaaefdmabkhaaW.PrintWords Go.Proofs.YtfcaaefdmabkhaaW.PrintLast Go.Proofs.YtfcaaefdmabkhaaW.PrintMore
attribute [local go_sem] QaP QaR QaV QaW QaG QaH QaQ QaS   -- for this text's walks alone
set_option linter.unusedVariables false
set_option linter.unusedSimpArgs false
set_option maxRecDepth 100000
set_option maxHeartbeats 8000000
def QaZ.f (k : Nat) (l0 : List (S46)) (a1_0 : ByteArray) (a1_1 : ByteArray) (a1_2 : ByteArray) (a1_3 : Int) : Option ((List (S46)) × Int) := (Qar.f k l0 a1_0 a1_1 a1_2 a1_3).bind fun bt981 => (if bt981.2 = T then (if 0 ≤ bt981.1 then (if bt981.1 < (l0.length : Int) then (if a1_3 > (wrap64 (1152921504606846976 - ((rd_T46 l0 bt981.1).f2))) then (some (([] : List (S46)), 18)) else ((QaE.f l0 bt981.1 1 (([(⟨(⟨a1_0, a1_1⟩ : S44), a1_2, wrap64 (a1_3 + ((rd_T46 l0 bt981.1).f2))⟩ : S46)] : List (S46)))).bind fun t988 => (some (t988, 0)))) else (none)) else (none)) else ((QaE.f l0 bt981.1 0 (([(⟨(⟨a1_0, a1_1⟩ : S44), a1_2, a1_3⟩ : S46)] : List (S46)))).bind fun t994 => (some (t994, 0))))
theorem QaZ.mono : ∀ a0 a1 a2 a3 a4 k, LeO (QaZ.f k a0 a1 a2 a3 a4) (QaZ.f (k + 1) a0 a1 a2 a3 a4) := by
 intro a0 a1 a2 a3 a4 k
 unfold QaZ.f
 exact ZM1 Qar.mono
def QaZ.T4 : Bool × List (List Nat × List Nat) := (T, [([], []), ([0], [0]), ([], []), ([], []), ([2, 3], [2, 3]), ([4], [4]), ([5], [5]), ([6], [6]), ([1, 7], [1, 7])])
def QaZ.B4 : List Nat := [0, 1, 0, 0, 12, 28, 60, 124, 255]
theorem QaZ.tab4 : rtab .any (opsOf Try.f84 4) = QaZ.T4 := by kernel_rfl
theorem QaZ.bits4 : QbO QaZ.T4.2 QaZ.B4 = T := by kernel_rfl
def QaZ.T6 : Bool × List (List Nat × List Nat) := (T, [([], []), ([0], [0]), ([], []), ([], []), ([2, 3], [2, 3]), ([4], [4]), ([5], [5]), ([1, 6], [1, 6]), ([0, 1, 2, 3, 4, 5, 6, 7], []), ([8, 7, 0, 1, 2, 3, 4, 5, 6, 7], [7, 8])])
def QaZ.B6 : List Nat := [0, 1, 0, 0, 12, 28, 60, 127, 255, 511]
theorem QaZ.tab6 : rtab .any (opsOf Try.f84 6) = QaZ.T6 := by kernel_rfl
theorem QaZ.bits6 : QbO QaZ.T6.2 QaZ.B6 = T := by kernel_rfl
theorem QaZ.calls (k : Nat) (A0 : Option Addr) (c0 : Nat) (l0 : List (S46)) (a1_0 : ByteArray) (a1_1 : ByteArray) (a1_2 : ByteArray) (a1_3 : Int) (r1 : List (S46)) (r2 : Int) (w : World) (hr0 : Kd.C k46 w A0 l0.length l0) (hc0 : l0.length ≤ c0) (h : QaZ.f k l0 a1_0 a1_1 a1_2 a1_3 = some (r1, r2)) :
  Calls Try.prog 84 #[.slice A0 l0.length c0, .agg #[.string a1_0, .string a1_1, .string a1_2, .int .i64 a1_3]] w fun e w' => ∃ v0_ : Value, e = .returned (.tuple #[v0_, .int .i64 r2]) ∧ Kd.R k46 46 w' w.heap.size (fun _ => True) v0_ r1 ∧ Below w.heap.size w w' := by
 have hu46 := Try.underlying46
 have HR0 := Aside0.mk hr0
 have HC0 := Aside0.mk hc0
 clear hr0 hc0
 have HB := Aside0.mk (Below.refl w.heap.size w)
 have H : ((Qar.f k l0 a1_0 a1_1 a1_2 a1_3).bind fun bt981 => (if bt981.2 = T then (if 0 ≤ bt981.1 then (if bt981.1 < (l0.length : Int) then (if a1_3 > (wrap64 (1152921504606846976 - ((rd_T46 l0 bt981.1).f2))) then (some (([] : List (S46)), 18)) else ((QaE.f l0 bt981.1 1 (([(⟨(⟨a1_0, a1_1⟩ : S44), a1_2, wrap64 (a1_3 + ((rd_T46 l0 bt981.1).f2))⟩ : S46)] : List (S46)))).bind fun t988 => (some (t988, 0)))) else (none)) else (none)) else ((QaE.f l0 bt981.1 0 (([(⟨(⟨a1_0, a1_1⟩ : S44), a1_2, a1_3⟩ : S46)] : List (S46)))).bind fun t994 => (some (t994, 0))))) = some (r1, r2) := h
 clear h
 replace H := Option.bind_eq_some_iff.mp H
 obtain ⟨⟨t981, t982⟩, A30, H⟩ := H
 replace H : (if t982 = T then (if 0 ≤ t981 then (if t981 < (l0.length : Int) then (if a1_3 > (wrap64 (1152921504606846976 - ((rd_T46 l0 t981).f2))) then (some (([] : List (S46)), 18)) else ((QaE.f l0 t981 1 (([(⟨(⟨a1_0, a1_1⟩ : S44), a1_2, wrap64 (a1_3 + ((rd_T46 l0 t981).f2))⟩ : S46)] : List (S46)))).bind fun t988 => (some (t988, 0)))) else (none)) else (none)) else ((QaE.f l0 t981 0 (([(⟨(⟨a1_0, a1_1⟩ : S44), a1_2, a1_3⟩ : S46)] : List (S46)))).bind fun t994 => (some (t994, 0)))) = some (r1, r2) := H
 have A3 := Aside0.mk A30
 clear A30
 go_enter Try.func84, Try.ntmps84
 go_upto_if 15 with (first | ((with_reducible refine QaD (N := 3) rfl ?_); refine Zbx (N := 3) (cs := #[.string a1_0, .string a1_1, .string a1_2, .int .i64 a1_3]) (t := 46) ?_; intro gb980 hg w4 hbox hb; have BK980 := Aside0.mk (hbox); have GW980 := Aside0.mk (Zt w hg (Zb)); have GE980 := GW980; replace HB := Aside0.mk (Qao (Zb) hb); clear hb hbox hg; obtain ⟨hcz5_0, hfz5_0⟩ := Zy (v := (.string a1_0)) BK980.out 0; obtain ⟨hcz5_1, hfz5_1⟩ := Zy (v := (.string a1_1)) BK980.out 1; obtain ⟨hcz5_2, hfz5_2⟩ := Zy (v := (.string a1_2)) BK980.out 2; obtain ⟨hcz5_3, hfz5_3⟩ := Zy (v := (.int .i64 a1_3)) BK980.out 3) | ((with_reducible refine Qax (f := 73) rfl ?_); refine goesL_ (some 11) rfl rfl Try.func73 (by kernel_rfl) rfl #[.slice A0 l0.length c0, .agg #[.string a1_0, .string a1_1, .string a1_2, .int .i64 a1_3], .func (.func 74) #[] #[]] rfl (Zl) ?_; (with_reducible refine (Qar.calls k _ _ l0 a1_0 a1_1 a1_2 a1_3  t981 t982 _ ?side1 ?side2 A3.out).mono ?_); (case side1 => exact Zv (Kd.C_below HR0.out HB.out)); (case side2 => exact HC0.out); rintro e w6 ⟨rfl, hb⟩; refine ⟨_, rfl, ?_⟩; replace BK980 := Aside0.mk (Zi BK980.out hb); replace HB := Aside0.mk (Qao (Zc1 GE980.out) hb); (try clear hb); (try clear hb2); (try clear hk); (try clear hi)))
 (try simp only [Act.put, Zj, Zk, Zm])
 by_cases c7 : t982 = T
 ·subst c7
  have H1 : (if 0 ≤ t981 then (if t981 < (l0.length : Int) then (if a1_3 > (wrap64 (1152921504606846976 - ((rd_T46 l0 t981).f2))) then (some (([] : List (S46)), 18)) else ((QaE.f l0 t981 1 (([(⟨(⟨a1_0, a1_1⟩ : S44), a1_2, wrap64 (a1_3 + ((rd_T46 l0 t981).f2))⟩ : S46)] : List (S46)))).bind fun t988 => (some (t988, 0)))) else (none)) else (none)) = some (r1, r2) := by rw [if_pos rfl] at H; exact H
  clear H
  have H := H1
  clear H1
  by_cases c8 : 0 ≤ t981
  ·rw [if_pos c8] at H
   have c8b0 : decide (0 ≤ t981) = T := decide_eq_true c8
   clear c8
   (try simp only [c8b0])
   by_cases c9 : t981 < (l0.length : Int)
   ·rw [if_pos c9] at H
    have c9b0 : decide (t981 < (l0.length : Int)) = T := decide_eq_true c9
    clear c9
    try go_wp2
    replace BK980 := Aside0.mk (Qac BK980.out)
    replace HB := Aside0.mk (Qai HB.out)
    have p983 : 0 ≤ (t981 : Int) := Ze
    have q983 : t981 < (l0.length : Int) := Ze
    obtain ⟨ad983, e983, hx983_0, hx983_1, hx983_2, hx983_3⟩ := at_T46 HR0.out t981 p983 q983
    have hw983_3 := hx983_3
    have hw983_2 := hx983_2
    have hw983_1 := hx983_1
    have hw983_0 := hx983_0
    cases e983
    replace hx983_0 := Zx HB.out hx983_0
    replace hx983_1 := Zx HB.out hx983_1
    replace hx983_2 := Zx HB.out hx983_2
    replace hx983_3 := Zx HB.out hx983_3
    replace p983 := eq_true p983
    replace q983 := eq_true q983
    refine start_ (n := 9) (S := fun w' => w'.cell? ⟨gb980, 0, none⟩ = some (.string a1_0) ∧ w'.cell? ⟨gb980, 1, none⟩ = some (.string a1_1) ∧ w'.cell? ⟨gb980, 2, none⟩ = some (.string a1_2) ∧ w'.cell? ⟨gb980, 3, none⟩ = some (.int .i64 a1_3) ∧ w'.cell? (ad983.add ((t981).toNat * 4)) = some (.string ((rd_T46 l0 t981).f0.f0)) ∧ w'.cell? ⟨(ad983.add ((t981).toNat * 4)).block, (ad983.add ((t981).toNat * 4)).off + 1, none⟩ = some (.string ((rd_T46 l0 t981).f0.f1)) ∧ w'.cell? ⟨(ad983.add ((t981).toNat * 4)).block, (ad983.add ((t981).toNat * 4)).off + 2, none⟩ = some (.string ((rd_T46 l0 t981).f1)) ∧ w'.cell? ⟨(ad983.add ((t981).toNat * 4)).block, (ad983.add ((t981).toNat * 4)).off + 3, none⟩ = some (.int .i64 ((rd_T46 l0 t981).f2))) (ds := []) #[F, F, F, F, F, F, F, F, F] (by kernel_rfl) rfl rfl ⟨(Qag BK980.out 0).trans rfl, (Qag BK980.out 1).trans rfl, (Qag BK980.out 2).trans rfl, (Qag BK980.out 3).trans rfl, ((HB.out.cell (World.block_lt_of_cell? w _ hw983_0)).trans hw983_0), ((HB.out.cell (World.block_lt_of_cell? w _ hw983_1)).trans hw983_1), ((HB.out.cell (World.block_lt_of_cell? w _ hw983_2)).trans hw983_2), ((HB.out.cell (World.block_lt_of_cell? w _ hw983_3)).trans hw983_3)⟩ (fun hHeld => ?_); refine QbM QaZ.tab4 QaZ.bits4 (fun HT_ HW_ => ?_)
    generalize w6.drew = w10 at BK980 HB hx983_0 hx983_1 hx983_2 hx983_3 hHeld ⊢
    refine pure_ (i := 0) (N := some 21) (v := ?_) (a' := ?_) #[T, F, F, F, F, F, F, F, F] rfl rfl (any_of HT_.out (by kernel_rfl)) (fun _ _ _ h => h) (Or.inl ⟨by rfl, ?_⟩) ?_ ?_
    rotate_left
    ·intro w'
     go_simp
     with_reducible rfl
    rotate_left
    ·simp only [Act.put, Zj, Zk, Zm, i64_w, i32_w]
     rfl
    refine pure_ (i := 2) (N := some 23) (v := ?_) (a' := ?_) #[T, F, T, F, F, F, F, F, F] rfl rfl (any_of HT_.out (by kernel_rfl)) (fun _ _ _ h => h) (Or.inl ⟨by rfl, ?_⟩) ?_ ?_
    rotate_left
    ·intro w'
     go_simp
     with_reducible rfl
    rotate_left
    ·simp only [Act.put, Zj, Zk, Zm, i64_w, i32_w]
     rfl
    refine pure_ (i := 3) (N := some 24) (v := ?_) (a' := ?_) #[T, F, T, T, F, F, F, F, F] rfl rfl (any_of HT_.out (by kernel_rfl)) (fun _ _ _ h => h) (Or.inl ⟨by rfl, ?_⟩) ?_ ?_
    rotate_left
    ·intro w'
     go_simp
     with_reducible rfl
    rotate_left
    ·simp only [Act.put, Zj, Zk, Zm, i64_w, i32_w]
     rfl
    refine pure_ (i := 4) (N := some 25) (v := ?_) (a' := ?_) #[T, F, T, T, T, F, F, F, F] rfl rfl (any_of HT_.out (by kernel_rfl)) (fun _ _ _ h => h) (Or.inl ⟨by rfl, ?_⟩) ?_ ?_
    rotate_left
    ·intro w'
     go_simp
     with_reducible rfl
    rotate_left
    ·simp only [Act.put, Zj, Zk, Zm, i64_w, i32_w]
     rfl
    refine pure_ (i := 5) (N := some 26) (v := ?_) (a' := ?_) #[T, F, T, T, T, T, F, F, F] rfl rfl (any_of HT_.out (by kernel_rfl)) (fun _ _ _ h => h) (Or.inl ⟨by rfl, ?_⟩) ?_ ?_
    rotate_left
    ·intro w'
     go_simp
     with_reducible rfl
    rotate_left
    ·simp only [Act.put, Zj, Zk, Zm, i64_w, i32_w]
     rfl
    refine take_ (i := 1) (N := some 22) (v := ?_) (a' := ?_) #[T, T, T, T, T, T, F, F, F] rfl rfl (QbB HT_.out HW_.out (by kernel_rfl)) (fun _ _ _ h => h) (Or.inl ⟨by rfl, ?_⟩) hHeld ?_ ?_
    rotate_left
    ·rintro w' ⟨s0, s1, s2, s3, s4, s5, s6, s7⟩
     go_simp
     with_reducible rfl
    rotate_left
    ·simp only [Act.put, Zj, Zk, Zm, i64_w, i32_w]
     rfl
    refine take_ (i := 6) (N := some 27) (v := ?_) (a' := ?_) #[T, T, T, T, T, T, T, F, F] rfl rfl (QbB HT_.out HW_.out (by kernel_rfl)) (fun _ _ _ h => h) (Or.inl ⟨by rfl, ?_⟩) hHeld ?_ ?_
    rotate_left
    ·rintro w' ⟨s0, s1, s2, s3, s4, s5, s6, s7⟩
     go_simp
     with_reducible rfl
    rotate_left
    ·simp only [Act.put, Zj, Zk, Zm, i64_w, i32_w]
     rfl
    refine pure_ (i := 7) (N := some 28) (v := ?_) (a' := ?_) #[T, T, T, T, T, T, T, T, F] rfl rfl (any_of HT_.out (by kernel_rfl)) (fun _ _ _ h => h) (Or.inl ⟨by rfl, ?_⟩) ?_ ?_
    rotate_left
    ·intro w'
     go_simp
     with_reducible rfl
    rotate_left
    ·simp only [Act.put, Zj, Zk, Zm, i64_w, i32_w]
     rfl
    refine pure_ (i := 8) (N := some 29) (v := ?_) (a' := ?_) #[T, T, T, T, T, T, T, T, T] rfl rfl (any_of HT_.out (by kernel_rfl)) (fun _ _ _ h => h) (Or.inl ⟨by rfl, ?_⟩) ?_ ?_
    rotate_left
    ·intro w'
     go_simp
     with_reducible rfl
    rotate_left
    ·simp only [Act.put, Zj, Zk, Zm, i64_w, i32_w]
     rfl
    refine done_ (QbY HT_.out (by kernel_rfl)) ?_
    go_upto_if 29 with (fail)
    by_cases c11 : a1_3 > (wrap64 (1152921504606846976 - ((rd_T46 l0 t981).f2)))
    ·rw [if_pos c11] at H
     have c11b0 : decide ((wrap64 (1152921504606846976 - ((rd_T46 l0 t981).f2))) < a1_3) = T := decide_eq_true c11
     clear c11
     (try simp only [c11b0])
     simp only [Option.some.injEq, Prod.mk.injEq] at H
     obtain ⟨rfl, rfl⟩ := H
     go_wp2
     go_ret2
     exact ⟨_, Zq, by first | exact Kd.R_nil _ _ _ _ _ | exact Kd.N_nil _ _ _ _ _ | exact Kd.V_nil _ _ _ _ _ | exact Kd.Q_nil _ _ _ _ _ | exact Kd.S_nil _ _ _ _ _, Zc1 GE980.out⟩
    rw [if_neg c11] at H
    have c11b0 : decide ((wrap64 (1152921504606846976 - ((rd_T46 l0 t981).f2))) < a1_3) = F := decide_eq_false c11
    clear c11
    (try simp only [c11b0])
    obtain ⟨y985, hy985⟩ : ∃ y_ : List (S46), y_ = (([(⟨(⟨a1_0, a1_1⟩ : S44), a1_2, wrap64 (a1_3 + ((rd_T46 l0 t981).f2))⟩ : S46)] : List (S46))) := ⟨_, rfl⟩
    replace H : ((QaE.f l0 t981 1 y985).bind fun t988 => (some (t988, 0))) = some (r1, r2) := by first | (rw [hy985]; with_reducible exact H) | (have H2_ := (Option.bind_some _ _).symm.trans H; rw [hy985]; with_reducible exact H2_) | (have H2_ := (Option.bind_some _ _).symm.trans H; with_reducible exact H2_) | with_reducible exact H | (rw [hy985]; exact H) | exact H
    have Ny985 := Aside0.mk hy985
    clear hy985
    replace H := Option.bind_eq_some_iff.mp H
    obtain ⟨t988, A120, H⟩ := H
    replace H : (some (t988, 0)) = some (r1, r2) := H
    have A12 := Aside0.mk A120
    clear A120
    simp only [Option.some.injEq, Prod.mk.injEq] at H
    obtain ⟨rfl, rfl⟩ := H
    try go_wp2
    replace BK980 := Aside0.mk (Qac BK980.out)
    replace HB := Aside0.mk (Qai HB.out)
    have p984 : 0 ≤ (t981 : Int) := Ze
    have q984 : t981 < (l0.length : Int) := Ze
    obtain ⟨ad984, e984, hx984_0, hx984_1, hx984_2, hx984_3⟩ := at_T46 HR0.out t981 p984 q984
    have hw984_3 := hx984_3
    have hw984_2 := hx984_2
    have hw984_1 := hx984_1
    have hw984_0 := hx984_0
    obtain rfl : ad983 = ad984 := (by injection e984)
    replace hx984_0 := Zx HB.out hx984_0
    replace hx984_1 := Zx HB.out hx984_1
    replace hx984_2 := Zx HB.out hx984_2
    replace hx984_3 := Zx HB.out hx984_3
    replace p984 := eq_true p984
    replace q984 := eq_true q984
    refine start_ (n := 10) (S := fun w' => w'.cell? ⟨gb980, 0, none⟩ = some (.string a1_0) ∧ w'.cell? ⟨gb980, 1, none⟩ = some (.string a1_1) ∧ w'.cell? ⟨gb980, 2, none⟩ = some (.string a1_2) ∧ w'.cell? ⟨gb980, 3, none⟩ = some (.int .i64 a1_3) ∧ w'.cell? (ad983.add ((t981).toNat * 4)) = some (.string ((rd_T46 l0 t981).f0.f0)) ∧ w'.cell? ⟨(ad983.add ((t981).toNat * 4)).block, (ad983.add ((t981).toNat * 4)).off + 1, none⟩ = some (.string ((rd_T46 l0 t981).f0.f1)) ∧ w'.cell? ⟨(ad983.add ((t981).toNat * 4)).block, (ad983.add ((t981).toNat * 4)).off + 2, none⟩ = some (.string ((rd_T46 l0 t981).f1)) ∧ w'.cell? ⟨(ad983.add ((t981).toNat * 4)).block, (ad983.add ((t981).toNat * 4)).off + 3, none⟩ = some (.int .i64 ((rd_T46 l0 t981).f2))) (ds := [9]) #[F, F, F, F, F, F, F, F, F, F] (by kernel_rfl) rfl rfl ⟨(Qag BK980.out 0).trans rfl, (Qag BK980.out 1).trans rfl, (Qag BK980.out 2).trans rfl, (Qag BK980.out 3).trans rfl, ((HB.out.cell (World.block_lt_of_cell? w _ hw984_0)).trans hw984_0), ((HB.out.cell (World.block_lt_of_cell? w _ hw984_1)).trans hw984_1), ((HB.out.cell (World.block_lt_of_cell? w _ hw984_2)).trans hw984_2), ((HB.out.cell (World.block_lt_of_cell? w _ hw984_3)).trans hw984_3)⟩ (fun hHeld => ?_); refine QbM QaZ.tab6 QaZ.bits6 (fun HT_ HW_ => ?_)
    generalize w10.drew = w13 at BK980 HB hx984_0 hx984_1 hx984_2 hx984_3 hHeld ⊢
    refine pure_ (i := 0) (N := some 30) (v := ?_) (a' := ?_) #[T, F, F, F, F, F, F, F, F, F] rfl rfl (any_of HT_.out (by kernel_rfl)) (fun _ _ _ h => h) (Or.inl ⟨by rfl, ?_⟩) ?_ ?_
    rotate_left
    ·intro w'
     go_simp
     with_reducible rfl
    rotate_left
    ·simp only [Act.put, Zj, Zk, Zm, i64_w, i32_w]
     rfl
    refine pure_ (i := 2) (N := some 32) (v := ?_) (a' := ?_) #[T, F, T, F, F, F, F, F, F, F] rfl rfl (any_of HT_.out (by kernel_rfl)) (fun _ _ _ h => h) (Or.inl ⟨by rfl, ?_⟩) ?_ ?_
    rotate_left
    ·intro w'
     go_simp
     with_reducible rfl
    rotate_left
    ·simp only [Act.put, Zj, Zk, Zm, i64_w, i32_w]
     rfl
    refine pure_ (i := 3) (N := some 33) (v := ?_) (a' := ?_) #[T, F, T, T, F, F, F, F, F, F] rfl rfl (any_of HT_.out (by kernel_rfl)) (fun _ _ _ h => h) (Or.inl ⟨by rfl, ?_⟩) ?_ ?_
    rotate_left
    ·intro w'
     go_simp
     with_reducible rfl
    rotate_left
    ·simp only [Act.put, Zj, Zk, Zm, i64_w, i32_w]
     rfl
    refine pure_ (i := 4) (N := some 34) (v := ?_) (a' := ?_) #[T, F, T, T, T, F, F, F, F, F] rfl rfl (any_of HT_.out (by kernel_rfl)) (fun _ _ _ h => h) (Or.inl ⟨by rfl, ?_⟩) ?_ ?_
    rotate_left
    ·intro w'
     go_simp
     with_reducible rfl
    rotate_left
    ·simp only [Act.put, Zj, Zk, Zm, i64_w, i32_w]
     rfl
    refine pure_ (i := 5) (N := some 35) (v := ?_) (a' := ?_) #[T, F, T, T, T, T, F, F, F, F] rfl rfl (any_of HT_.out (by kernel_rfl)) (fun _ _ _ h => h) (Or.inl ⟨by rfl, ?_⟩) ?_ ?_
    rotate_left
    ·intro w'
     go_simp
     with_reducible rfl
    rotate_left
    ·simp only [Act.put, Zj, Zk, Zm, i64_w, i32_w]
     rfl
    refine take_ (i := 1) (N := some 31) (v := ?_) (a' := ?_) #[T, T, T, T, T, T, F, F, F, F] rfl rfl (QbB HT_.out HW_.out (by kernel_rfl)) (fun _ _ _ h => h) (Or.inl ⟨by rfl, ?_⟩) hHeld ?_ ?_
    rotate_left
    ·rintro w' ⟨s0, s1, s2, s3, s4, s5, s6, s7⟩
     go_simp
     with_reducible rfl
    rotate_left
    ·simp only [Act.put, Zj, Zk, Zm, i64_w, i32_w]
     rfl
    refine take_ (i := 6) (N := some 36) (v := ?_) (a' := ?_) #[T, T, T, T, T, T, T, F, F, F] rfl rfl (QbB HT_.out HW_.out (by kernel_rfl)) (fun _ _ _ h => h) (Or.inl ⟨by rfl, ?_⟩) hHeld ?_ ?_
    rotate_left
    ·rintro w' ⟨s0, s1, s2, s3, s4, s5, s6, s7⟩
     go_simp
     with_reducible rfl
    rotate_left
    ·simp only [Act.put, Zj, Zk, Zm, i64_w, i32_w]
     rfl
    refine pure_ (i := 7) (N := some 37) (v := ?_) (a' := ?_) #[T, T, T, T, T, T, T, T, F, F] rfl rfl (any_of HT_.out (by kernel_rfl)) (fun _ _ _ h => h) (Or.inl ⟨by rfl, ?_⟩) ?_ ?_
    rotate_left
    ·intro w'
     go_simp
     with_reducible rfl
    rotate_left
    ·simp only [Act.put, Zj, Zk, Zm, i64_w, i32_w]
     rfl
    refine pure_ (i := 8) (N := some 38) (v := ?_) (a' := ?_) #[T, T, T, T, T, T, T, T, T, F] rfl rfl (any_of HT_.out (by kernel_rfl)) (fun _ _ _ h => h) (Or.inl ⟨by rfl, ?_⟩) ?_ ?_
    rotate_left
    ·intro w'
     go_simp
     with_reducible rfl
    rotate_left
    ·simp only [Act.put, Zj, Zk, Zm, i64_w, i32_w]
     rfl
    refine last_ (i := 9) (N := none) #[T, T, T, T, T, T, T, T, T, T] rfl rfl (one_of HT_.out (by kernel_rfl)) (by decide) (fun K hK => ?_)
    have hs14 : w13.cell? ⟨gb980, 3, none⟩ = some (.int .i64 a1_3) := (Qag BK980.out 3).trans rfl
    have hfs14 := Qaf BK980.out 3
    refine skip_ (w1 := ?_) (by rfl) rfl ?_ ?_
    rotate_left
    ·go_simp
     rfl
    refine hK.out _ _ ?_
    clear hK K
    refine done_ (QbY HT_.out (by kernel_rfl)) ?_
    obtain ⟨hcz15_0, hfz15_0⟩ := Zy (v := (.string a1_0)) BK980.out 0
    obtain ⟨hcz15_1, hfz15_1⟩ := Zy (v := (.string a1_1)) BK980.out 1
    obtain ⟨hcz15_2, hfz15_2⟩ := Zy (v := (.string a1_2)) BK980.out 2
    obtain ⟨hcz15_3, hfz15_3⟩ := Zy (v := (.int .i64 a1_3)) BK980.out 3
    try go_wp2_with (first | ((with_reducible refine QaD (N := 42) rfl ?_); refine Kd.R_lit k46 _ 46 ?hg (N := 42) ?hd (xs := ([(⟨(⟨a1_0, a1_1⟩ : S44), a1_2, wrap64 (a1_3 + ((rd_T46 l0 t981).f2))⟩ : S46)] : List (S46))) (inner := [.string a1_0, .string a1_1, .string a1_2, .int .i64 (wrap64 (a1_3 + ((rd_T46 l0 t981).f2)))]) (ok := fun _ => True) (okp := fun _ => True) ?hr ?hp (fun _ hk => hk) trivial (Below.refl _ _) (Nat.le_refl _) (by simp) ?_; (case hd => rfl); (case hg => rfl); (case hr => first | (go_simp; done) | (go_simp; rfl)); (case hp => exact (Reps.c4 (show Kd.M k46 _ _ _ (⟨(⟨a1_0, a1_1⟩ : S44), a1_2, wrap64 (a1_3 + ((rd_T46 l0 t981).f2))⟩ : S46) [.string a1_0, .string a1_1, .string a1_2, .int .i64 (wrap64 (a1_3 + ((rd_T46 l0 t981).f2)))] from (QbR _ _ _ (⟨(⟨a1_0, a1_1⟩ : S44), a1_2, wrap64 (a1_3 + ((rd_T46 l0 t981).f2))⟩ : S46) )) (Reps.none _ _))); intro v986 w16 ho17 hb hg_ hnew_; clear hg_ hnew_; (first | rw [← Ny985.out] at ho17 | (simp only [Int.reduceToNat] at ho17; rw [← Ny985.out] at ho17)); have HO987 := Aside0.mk (Kd.R_lower (Kd.R_newB ho17 (g := gb980) (o := .cells #[.string a1_0, .string a1_1, .string a1_2, .int .i64 (wrap64 (a1_3 + ((rd_T46 l0 t981).f2)))] 46 (0, 0)) (Zp2 BK980.out)) (Qan (Zc1 GE980.out))); replace BK980 := Aside0.mk (Zpi #[.string a1_0, .string a1_1, .string a1_2, .int .i64 (wrap64 (a1_3 + ((rd_T46 l0 t981).f2)))] BK980.out hb); replace HB := Aside0.mk (Qao (Zc1 GE980.out) hb); clear hb ho17; obtain ⟨Ao18, co18, eo18⟩ := Kd.R_slice HO987.out; subst eo18) | ((with_reducible refine Qax (f := 75) rfl ?_); refine goesL_ (some 43) rfl rfl Try.func75 (by kernel_rfl) rfl #[.slice (some ad983) l0.length c0, .int .i64 t981, .int .i64 1, .slice Ao18 y985.length co18] rfl (Zl) ?_; (with_reducible refine (QaE.calls _ _ l0 t981 1 _ _ y985 t988 _ ?side1 ?side2 ?side3 ?side4 A12.out).mono ?_); (case side1 => exact Zv (Kd.C_below HR0.out HB.out)); (case side2 => exact HC0.out); (case side3 => exact Zv (Kd.R_reads' HO987.out).2.2); (case side4 => exact (Kd.R_reads' HO987.out).2.1); rintro e w19 ⟨v989, rfl, ho0, hb⟩; refine ⟨_, rfl, ?_⟩; have HO990 := Aside0.mk (Kd.R_lower (Kd.R_newB (Kd.R_new' ho0 (Kd.R_lt (Zr HO987.out))) (g := gb980) (o := .cells #[.string a1_0, .string a1_1, .string a1_2, .int .i64 (wrap64 (a1_3 + ((rd_T46 l0 t981).f2)))] 46 (0, 0)) (Zu BK980.out)) (Qan (Zc1 GE980.out))); replace HO987 := Aside0.mk (Kd.R_elder' (Zr HO987.out) (Kd.R_base ho0) hb); replace BK980 := Aside0.mk (Zi BK980.out hb); replace HB := Aside0.mk (Qao (Zc1 GE980.out) hb); (try clear hb); (try clear hb2); (try clear hk); (try clear hi); (try clear ho0)))
    go_ret2
    exact ⟨_, Zq, by (with_reducible repeat (first | apply Kd.R_alloc | apply Kd.R_drewN | apply Kd.R_drew)); exact Kd.R_mono HO990.out (fun _ hk => trivial), Zc1 GE980.out⟩
   rw [if_neg c9] at H
   exact absurd H (by simp)
  rw [if_neg c8] at H
  exact absurd H (by simp)
 replace c7 := Bool.eq_false_iff.mpr c7
 subst c7
 have H1 : ((QaE.f l0 t981 0 (([(⟨(⟨a1_0, a1_1⟩ : S44), a1_2, a1_3⟩ : S46)] : List (S46)))).bind fun t994 => (some (t994, 0))) = some (r1, r2) := by rw [if_neg (show ¬ (F = T) by decide)] at H; exact H
 clear H
 have H := H1
 clear H1
 obtain ⟨y991, hy991⟩ : ∃ y_ : List (S46), y_ = (([(⟨(⟨a1_0, a1_1⟩ : S44), a1_2, a1_3⟩ : S46)] : List (S46))) := ⟨_, rfl⟩
 replace H : ((QaE.f l0 t981 0 y991).bind fun t994 => (some (t994, 0))) = some (r1, r2) := by first | (rw [hy991]; with_reducible exact H) | (have H2_ := (Option.bind_some _ _).symm.trans H; rw [hy991]; with_reducible exact H2_) | (have H2_ := (Option.bind_some _ _).symm.trans H; with_reducible exact H2_) | with_reducible exact H | (rw [hy991]; exact H) | exact H
 have Ny991 := Aside0.mk hy991
 clear hy991
 replace H := Option.bind_eq_some_iff.mp H
 obtain ⟨t994, A200, H⟩ := H
 replace H : (some (t994, 0)) = some (r1, r2) := H
 have A20 := Aside0.mk A200
 clear A200
 simp only [Option.some.injEq, Prod.mk.injEq] at H
 obtain ⟨rfl, rfl⟩ := H
 obtain ⟨hcz21_0, hfz21_0⟩ := Zy (v := (.string a1_0)) BK980.out 0
 obtain ⟨hcz21_1, hfz21_1⟩ := Zy (v := (.string a1_1)) BK980.out 1
 obtain ⟨hcz21_2, hfz21_2⟩ := Zy (v := (.string a1_2)) BK980.out 2
 obtain ⟨hcz21_3, hfz21_3⟩ := Zy (v := (.int .i64 a1_3)) BK980.out 3
 go_wp2_with (first | ((with_reducible refine QaD (N := 19) rfl ?_); refine Kd.R_lit k46 _ 46 ?hg (N := 19) ?hd (xs := ([(⟨(⟨a1_0, a1_1⟩ : S44), a1_2, a1_3⟩ : S46)] : List (S46))) (inner := [.string a1_0, .string a1_1, .string a1_2, .int .i64 a1_3]) (ok := fun _ => True) (okp := fun _ => True) ?hr ?hp (fun _ hk => hk) trivial (Below.refl _ _) (Nat.le_refl _) (by simp) ?_; (case hd => rfl); (case hg => rfl); (case hr => first | (go_simp; done) | (go_simp; rfl)); (case hp => exact (Reps.c4 (show Kd.M k46 _ _ _ (⟨(⟨a1_0, a1_1⟩ : S44), a1_2, a1_3⟩ : S46) [.string a1_0, .string a1_1, .string a1_2, .int .i64 a1_3] from (QbR _ _ _ (⟨(⟨a1_0, a1_1⟩ : S44), a1_2, a1_3⟩ : S46) )) (Reps.none _ _))); intro v992 w22 ho23 hb hg_ hnew_; clear hg_ hnew_; (first | rw [← Ny991.out] at ho23 | (simp only [Int.reduceToNat] at ho23; rw [← Ny991.out] at ho23)); have HO993 := Aside0.mk (Kd.R_lower (Kd.R_newB ho23 (g := gb980) (o := .cells #[.string a1_0, .string a1_1, .string a1_2, .int .i64 a1_3] 46 (0, 0)) (Zu BK980.out)) (Qan (Zc1 GE980.out))); replace BK980 := Aside0.mk (Zi BK980.out hb); replace HB := Aside0.mk (Qao (Zc1 GE980.out) hb); clear hb ho23; obtain ⟨Ao24, co24, eo24⟩ := Kd.R_slice HO993.out; subst eo24) | ((with_reducible refine Qax (f := 75) rfl ?_); refine goesL_ (some 20) rfl rfl Try.func75 (by kernel_rfl) rfl #[.slice A0 l0.length c0, .int .i64 t981, .int .i64 0, .slice Ao24 y991.length co24] rfl (Zl) ?_; (with_reducible refine (QaE.calls _ _ l0 t981 0 _ _ y991 t994 _ ?side1 ?side2 ?side3 ?side4 A20.out).mono ?_); (case side1 => exact Zv (Kd.C_below HR0.out HB.out)); (case side2 => exact HC0.out); (case side3 => exact Zv (Kd.R_reads' HO993.out).2.2); (case side4 => exact (Kd.R_reads' HO993.out).2.1); rintro e w25 ⟨v995, rfl, ho0, hb⟩; refine ⟨_, rfl, ?_⟩; have HO996 := Aside0.mk (Kd.R_lower (Kd.R_newB (Kd.R_new' ho0 (Kd.R_lt (Zr HO993.out))) (g := gb980) (o := .cells #[.string a1_0, .string a1_1, .string a1_2, .int .i64 a1_3] 46 (0, 0)) (Zu BK980.out)) (Qan (Zc1 GE980.out))); replace HO993 := Aside0.mk (Kd.R_elder' (Zr HO993.out) (Kd.R_base ho0) hb); replace BK980 := Aside0.mk (Zi BK980.out hb); replace HB := Aside0.mk (Qao (Zc1 GE980.out) hb); (try clear hb); (try clear hb2); (try clear hk); (try clear hi); (try clear ho0)))
 go_ret2
 exact ⟨_, Zq, by (with_reducible repeat (first | apply Kd.R_alloc | apply Kd.R_drewN | apply Kd.R_drew)); exact Kd.R_mono HO996.out (fun _ hk => trivial), Zc1 GE980.out⟩
def Qbq.f (k : Nat) (l0 : List (S46)) (a1_0 : ByteArray) (a1_1 : ByteArray) (a2 : ByteArray) (a3 : Int) : Option ((List (S46)) × Int) := (Qav.f k l0).bind fun t998 => (if t998 = 0 then ((QaM.f k (([a1_0, a1_1, a2] : List ByteArray))).bind fun t1002 => (if t1002 = T then ((Qbk.f a3).bind fun t1003 => (if t1003 = T then ((QaZ.f k l0 a1_0 a1_1 a2 a3).bind fun bt1004 => (if bt1004.2 = 0 then (if (bt1004.1.length : Int) > 1024 then (some (([] : List (S46)), 8)) else (some (bt1004.1, bt1004.2))) else (some (bt1004.1, bt1004.2)))) else (some (([] : List (S46)), 18)))) else (some (([] : List (S46)), 10)))) else (some (([] : List (S46)), t998)))
theorem Qbq.mono : ∀ a0 a1 a2 a3 a4 k, LeO (Qbq.f k a0 a1 a2 a3 a4) (Qbq.f (k + 1) a0 a1 a2 a3 a4) := by
 intro a0 a1 a2 a3 a4 k
 unfold Qbq.f
 exact ZM3 Qav.mono QaM.mono QaZ.mono
theorem Qbq.calls (k : Nat) (A0 : Option Addr) (c0 : Nat) (l0 : List (S46)) (a1_0 : ByteArray) (a1_1 : ByteArray) (a2 : ByteArray) (a3 : Int) (r1 : List (S46)) (r2 : Int) (w : World) (hr0 : Kd.C k46 w A0 l0.length l0) (hc0 : l0.length ≤ c0) (h : Qbq.f k l0 a1_0 a1_1 a2 a3 = some (r1, r2)) :
  Calls Try.prog 50 #[.slice A0 l0.length c0, .agg #[.string a1_0, .string a1_1], .string a2, .int .i64 a3] w fun e w' => ∃ v0_ : Value, e = .returned (.tuple #[v0_, .int .i64 r2]) ∧ Kd.R k46 46 w' w.heap.size (fun _ => True) v0_ r1 ∧ Below w.heap.size w w' := by
 have hu44 := Try.underlying44
 have hu46 := Try.underlying46
 have HR0 := Aside0.mk hr0
 have HC0 := Aside0.mk hc0
 clear hr0 hc0
 have HB := Aside0.mk (Below.refl w.heap.size w)
 have H : ((Qav.f k l0).bind fun t998 => (if t998 = 0 then ((QaM.f k (([a1_0, a1_1, a2] : List ByteArray))).bind fun t1002 => (if t1002 = T then ((Qbk.f a3).bind fun t1003 => (if t1003 = T then ((QaZ.f k l0 a1_0 a1_1 a2 a3).bind fun bt1004 => (if bt1004.2 = 0 then (if (bt1004.1.length : Int) > 1024 then (some (([] : List (S46)), 8)) else (some (bt1004.1, bt1004.2))) else (some (bt1004.1, bt1004.2)))) else (some (([] : List (S46)), 18)))) else (some (([] : List (S46)), 10)))) else (some (([] : List (S46)), t998)))) = some (r1, r2) := h
 clear h
 replace H := Option.bind_eq_some_iff.mp H
 obtain ⟨t998, A50, H⟩ := H
 replace H : (if t998 = 0 then ((QaM.f k (([a1_0, a1_1, a2] : List ByteArray))).bind fun t1002 => (if t1002 = T then ((Qbk.f a3).bind fun t1003 => (if t1003 = T then ((QaZ.f k l0 a1_0 a1_1 a2 a3).bind fun bt1004 => (if bt1004.2 = 0 then (if (bt1004.1.length : Int) > 1024 then (some (([] : List (S46)), 8)) else (some (bt1004.1, bt1004.2))) else (some (bt1004.1, bt1004.2)))) else (some (([] : List (S46)), 18)))) else (some (([] : List (S46)), 10)))) else (some (([] : List (S46)), t998))) = some (r1, r2) := H
 have A5 := Aside0.mk A50
 clear A50
 go_enter Try.func50, Try.ntmps50
 go_upto_if 13 with (first | ((with_reducible refine QaD (N := 5) rfl ?_); (try (refine Qbg (by rfl) ?_; dsimp only)); refine Zbx (N := 5) (cs := #[.string a1_0, .string a1_1]) (t := 44) ?_; intro gb997 hg w6 hbox hb; have BK997 := Aside0.mk (hbox); have GW997 := Aside0.mk (Zt w hg (Zb)); have GE997 := GW997; replace HB := Aside0.mk (Qao (Zb) hb); clear hb hbox hg) | ((with_reducible refine Qax (f := 71) rfl ?_); refine goesL_ (some 11) rfl rfl Try.func71 (by kernel_rfl) rfl #[.slice A0 l0.length c0] rfl (Zl) ?_; (with_reducible refine (Qav.calls k _ _ l0 t998 _ ?side1 ?side2 A5.out).mono ?_); (case side1 => exact Zv (Kd.C_below HR0.out HB.out)); (case side2 => exact HC0.out); rintro e w7 ⟨rfl, hb⟩; refine ⟨_, rfl, ?_⟩; replace BK997 := Aside0.mk (Zi BK997.out hb); replace HB := Aside0.mk (Qao (Zc1 GE997.out) hb); (try clear hb); (try clear hb2); (try clear hk); (try clear hi)))
 (try simp only [Act.put, Zj, Zk, Zm])
 by_cases c8 : t998 = 0
 ·rw [if_pos c8] at H
  have c8b0 : (t998 == 0) = T := beq_iff_eq.mpr c8
  have c8b1 : (t998 != 0) = F := bne_eq_false_iff_eq.mpr c8
  clear c8
  (try simp only [c8b0, c8b1])
  obtain ⟨y999, hy999⟩ : ∃ y_ : List ByteArray, y_ = (([a1_0, a1_1, a2] : List ByteArray)) := ⟨_, rfl⟩
  replace H : ((QaM.f k y999).bind fun t1002 => (if t1002 = T then ((Qbk.f a3).bind fun t1003 => (if t1003 = T then ((QaZ.f k l0 a1_0 a1_1 a2 a3).bind fun bt1004 => (if bt1004.2 = 0 then (if (bt1004.1.length : Int) > 1024 then (some (([] : List (S46)), 8)) else (some (bt1004.1, bt1004.2))) else (some (bt1004.1, bt1004.2)))) else (some (([] : List (S46)), 18)))) else (some (([] : List (S46)), 10)))) = some (r1, r2) := by first | (rw [hy999]; with_reducible exact H) | (have H2_ := (Option.bind_some _ _).symm.trans H; rw [hy999]; with_reducible exact H2_) | (have H2_ := (Option.bind_some _ _).symm.trans H; with_reducible exact H2_) | with_reducible exact H | (rw [hy999]; exact H) | exact H
  have Ny999 := Aside0.mk hy999
  clear hy999
  replace H := Option.bind_eq_some_iff.mp H
  obtain ⟨t1002, A90, H⟩ := H
  replace H : (if t1002 = T then ((Qbk.f a3).bind fun t1003 => (if t1003 = T then ((QaZ.f k l0 a1_0 a1_1 a2 a3).bind fun bt1004 => (if bt1004.2 = 0 then (if (bt1004.1.length : Int) > 1024 then (some (([] : List (S46)), 8)) else (some (bt1004.1, bt1004.2))) else (some (bt1004.1, bt1004.2)))) else (some (([] : List (S46)), 18)))) else (some (([] : List (S46)), 10))) = some (r1, r2) := H
  have A9 := Aside0.mk A90
  clear A90
  obtain ⟨hcz10_0, hfz10_0⟩ := Zy (v := (.string a1_0)) BK997.out 0
  obtain ⟨hcz10_1, hfz10_1⟩ := Zy (v := (.string a1_1)) BK997.out 1
  go_upto_if 22 with (first | ((with_reducible refine QaD (N := 20) rfl ?_); (try (refine Qbg (by rfl) ?_; dsimp only)); refine Kd.R_lit Kd.string _ 9 ?hg (N := 20) ?hd (xs := ([a1_0, a1_1, a2] : List ByteArray)) (inner := [.string a1_0, .string a1_1, .string a2]) (ok := fun _ => True) (okp := fun _ => True) ?hr ?hp (fun _ hk => hk) trivial (Below.refl _ _) (Nat.le_refl _) (by simp) ?_; (case hd => rfl); (case hg => rfl); (case hr => first | (go_simp; done) | (go_simp; rfl)); (case hp => exact (Reps.one (show Kd.M Kd.string _ _ _ a1_0 [.string a1_0] from rfl) (Reps.one (show Kd.M Kd.string _ _ _ a1_1 [.string a1_1] from rfl) (Reps.one (show Kd.M Kd.string _ _ _ a2 [.string a2] from rfl) (Reps.none _ _))))); intro v1000 w11 ho12 hb hg_ hnew_; clear hg_ hnew_; (first | rw [← Ny999.out] at ho12 | (simp only [Int.reduceToNat] at ho12; rw [← Ny999.out] at ho12)); have HO1001 := Aside0.mk (Kd.R_lower ho12 (Qan (Zc1 GE997.out))); replace BK997 := Aside0.mk (Zi BK997.out hb); replace HB := Aside0.mk (Qao (Zc1 GE997.out) hb); clear hb ho12; obtain ⟨Ao13, co13, eo13⟩ := Kd.R_slice HO1001.out; subst eo13) | ((with_reducible refine Qax (f := 83) rfl ?_); refine goesL_ (some 21) rfl rfl Try.func83 (by kernel_rfl) rfl #[.slice Ao13 y999.length co13] rfl (Zl) ?_; (with_reducible refine (QaM.calls k _ _ y999 t1002 _ ?side1 ?side2 A9.out).mono ?_); (case side1 => exact Zv (Kd.R_reads' HO1001.out).2.2); (case side2 => exact (Kd.R_reads' HO1001.out).2.1); rintro e w' ⟨rfl, ⟨nd, rfl⟩⟩; refine ⟨_, rfl, ?_⟩))
  (try simp only [Act.put, Zj, Zk, Zm])
  by_cases c14 : t1002 = T
  ·subst c14
   have H1 : ((Qbk.f a3).bind fun t1003 => (if t1003 = T then ((QaZ.f k l0 a1_0 a1_1 a2 a3).bind fun bt1004 => (if bt1004.2 = 0 then (if (bt1004.1.length : Int) > 1024 then (some (([] : List (S46)), 8)) else (some (bt1004.1, bt1004.2))) else (some (bt1004.1, bt1004.2)))) else (some (([] : List (S46)), 18)))) = some (r1, r2) := by rw [if_pos rfl] at H; exact H
   clear H
   have H := H1
   clear H1
   replace H := Option.bind_eq_some_iff.mp H
   obtain ⟨t1003, A150, H⟩ := H
   replace H : (if t1003 = T then ((QaZ.f k l0 a1_0 a1_1 a2 a3).bind fun bt1004 => (if bt1004.2 = 0 then (if (bt1004.1.length : Int) > 1024 then (some (([] : List (S46)), 8)) else (some (bt1004.1, bt1004.2))) else (some (bt1004.1, bt1004.2)))) else (some (([] : List (S46)), 18))) = some (r1, r2) := H
   have A15 := Aside0.mk A150
   clear A150
   go_upto_if 25 with (first | ((with_reducible refine Qax (f := 72) rfl ?_); refine goesL_ (some 24) rfl rfl Try.func72 (by kernel_rfl) rfl #[.int .i64 a3] rfl (Zl) ?_; (with_reducible refine (Qbk.calls a3 t1003 _ A15.out).mono ?_); rintro e w' ⟨rfl, ⟨nd, rfl⟩⟩; refine ⟨_, rfl, ?_⟩))
   (try simp only [Act.put, Zj, Zk, Zm])
   by_cases c16 : t1003 = T
   ·subst c16
    have H1 : ((QaZ.f k l0 a1_0 a1_1 a2 a3).bind fun bt1004 => (if bt1004.2 = 0 then (if (bt1004.1.length : Int) > 1024 then (some (([] : List (S46)), 8)) else (some (bt1004.1, bt1004.2))) else (some (bt1004.1, bt1004.2)))) = some (r1, r2) := by rw [if_pos rfl] at H; exact H
    clear H
    have H := H1
    clear H1
    replace H := Option.bind_eq_some_iff.mp H
    obtain ⟨⟨t1004, t1007⟩, A170, H⟩ := H
    replace H : (if t1007 = 0 then (if (t1004.length : Int) > 1024 then (some (([] : List (S46)), 8)) else (some (t1004, t1007))) else (some (t1004, t1007))) = some (r1, r2) := H
    have A17 := Aside0.mk A170
    clear A170
    obtain ⟨hcz18_0, hfz18_0⟩ := Zy (v := (.string a1_0)) BK997.out 0
    obtain ⟨hcz18_1, hfz18_1⟩ := Zy (v := (.string a1_1)) BK997.out 1
    go_upto_region 9 with (first | ((with_reducible refine Qax (f := 84) rfl ?_); refine goesL_ (some 32) rfl rfl Try.func84 (by kernel_rfl) rfl #[.slice A0 l0.length c0, .agg #[.string a1_0, .string a1_1, .string a2, .int .i64 a3]] rfl (Zl) ?_; (with_reducible refine (QaZ.calls k _ _ l0 a1_0 a1_1 a2 a3 t1004 t1007 _ ?side1 ?side2 A17.out).mono ?_); (case side1 => exact Zv (Kd.C_below HR0.out HB.out)); (case side2 => exact HC0.out); rintro e w19 ⟨v1005, rfl, ho0, hb⟩; refine ⟨_, rfl, ?_⟩; have HO1006 := Aside0.mk (Kd.R_lower ho0 (Qan (Zc1 GE997.out))); replace HO1001 := Aside0.mk (Kd.R_below (Zr HO1001.out) hb); replace BK997 := Aside0.mk (Zi BK997.out hb); replace HB := Aside0.mk (Qao (Zc1 GE997.out) hb); (try clear hb); (try clear hb2); (try clear hk); (try clear hi); (try clear ho0)))
    (try simp only [Act.put, Zj, Zk, Zm])
    by_cases c20 : t1007 = 0
    ·rw [if_pos c20] at H
     have c20b0 : (t1007 == 0) = T := beq_iff_eq.mpr c20
     have c20b1 : (t1007 != 0) = F := bne_eq_false_iff_eq.mpr c20
     clear c20
     (try simp only [c20b0, c20b1])
     obtain ⟨Ao21, co21, eo21⟩ := Kd.R_slice HO1006.out
     subst eo21
     go_upto_if 41 with (fail)
     by_cases c22 : (t1004.length : Int) > 1024
     ·rw [if_pos c22] at H
      have c22b0 : decide (1024 < (t1004.length : Int)) = T := decide_eq_true c22
      have c22b1 : decide (1024 < t1004.length) = T := decide_eq_true (by omega)
      clear c22
      (try simp only [c22b0, c22b1])
      simp only [Option.some.injEq, Prod.mk.injEq] at H
      obtain ⟨rfl, rfl⟩ := H
      go_wp2
      go_ret2
      exact ⟨_, Zq, by first | exact Kd.R_nil _ _ _ _ _ | exact Kd.N_nil _ _ _ _ _ | exact Kd.V_nil _ _ _ _ _ | exact Kd.Q_nil _ _ _ _ _ | exact Kd.S_nil _ _ _ _ _, Zc1 GE997.out⟩
     rw [if_neg c22] at H
     have c22b0 : decide (1024 < (t1004.length : Int)) = F := decide_eq_false c22
     have c22b1 : decide (1024 < t1004.length) = F := decide_eq_false (by omega)
     clear c22
     (try simp only [c22b0, c22b1])
     simp only [Option.some.injEq, Prod.mk.injEq] at H
     obtain ⟨rfl, rfl⟩ := H
     go_wp2
     go_ret2
     exact ⟨_, Zq, Zr HO1006.out, Zc1 GE997.out⟩
    rw [if_neg c20] at H
    have c20b0 : (t1007 == 0) = F := beq_eq_false_iff_ne.mpr c20
    have c20b1 : (t1007 != 0) = T := bne_iff_ne.mpr c20
    (try simp only [c20b0, c20b1])
    simp only [Option.some.injEq, Prod.mk.injEq] at H
    obtain ⟨rfl, rfl⟩ := H
    go_wp2
    go_ret2
    exact ⟨_, Zq, Zr HO1006.out, Zc1 GE997.out⟩
   replace c16 := Bool.eq_false_iff.mpr c16
   subst c16
   have H1 : (some (([] : List (S46)), 18)) = some (r1, r2) := by rw [if_neg (show ¬ (F = T) by decide)] at H; exact H
   clear H
   have H := H1
   clear H1
   simp only [Option.some.injEq, Prod.mk.injEq] at H
   obtain ⟨rfl, rfl⟩ := H
   go_wp2
   go_ret2
   exact ⟨_, Zq, by first | exact Kd.R_nil _ _ _ _ _ | exact Kd.N_nil _ _ _ _ _ | exact Kd.V_nil _ _ _ _ _ | exact Kd.Q_nil _ _ _ _ _ | exact Kd.S_nil _ _ _ _ _, Zc1 GE997.out⟩
  replace c14 := Bool.eq_false_iff.mpr c14
  subst c14
  have H1 : (some (([] : List (S46)), 10)) = some (r1, r2) := by rw [if_neg (show ¬ (F = T) by decide)] at H; exact H
  clear H
  have H := H1
  clear H1
  simp only [Option.some.injEq, Prod.mk.injEq] at H
  obtain ⟨rfl, rfl⟩ := H
  go_wp2
  go_ret2
  exact ⟨_, Zq, by first | exact Kd.R_nil _ _ _ _ _ | exact Kd.N_nil _ _ _ _ _ | exact Kd.V_nil _ _ _ _ _ | exact Kd.Q_nil _ _ _ _ _ | exact Kd.S_nil _ _ _ _ _, Zc1 GE997.out⟩
 rw [if_neg c8] at H
 have c8b0 : (t998 == 0) = F := beq_eq_false_iff_ne.mpr c8
 have c8b1 : (t998 != 0) = T := bne_iff_ne.mpr c8
 (try simp only [c8b0, c8b1])
 simp only [Option.some.injEq, Prod.mk.injEq] at H
 obtain ⟨rfl, rfl⟩ := H
 go_wp2
 go_ret2
 exact ⟨_, Zq, by first | exact Kd.R_nil _ _ _ _ _ | exact Kd.N_nil _ _ _ _ _ | exact Kd.V_nil _ _ _ _ _ | exact Kd.Q_nil _ _ _ _ _ | exact Kd.S_nil _ _ _ _ _, Zc1 GE997.out⟩
def contangotop_TopCoverCloses.j0 : Nat → Bool → ByteArray → ByteArray → Int → Int → Int → Int → Int → Int → Int → List (S46) → List (S84) → List (S98) → ByteArray → ByteArray → ByteArray → Int → Int → Int → ByteArray → Int → Int → Int → Int → Int → Option (Bool)
 | 0, _, _, _, _, _, _, _, _, _, _, _, _, _, _, _, _, _, _, _, _, _, _, _, _, _ => none
 | k + 1, x47, x1009000, x1009001, x1009002, x1009003, x1009004, x1009005, x1009006, x1009007, x1009008, x1009009, x1009010, x1009011, x1009012, x1018000, x1018001, x1018002, x1018003, x1018004, x1026000, x1026001, x1026002, x1026003, x1026004, x1026005 => if x47 = T then ((Qaz.f k).bind fun t1026 => (some t1026)) else ((Qa1.f k x1026000 x1026001 x1026002 x1026003 x1026004 x1026005 x1018004 x1009011).bind fun bt1027 => (if bt1027.2 = 0 then ((Qbq.f k x1009009 x1009000 x1009001 x1009012 bt1027.1).bind fun bt1029 => ((QaN.f k x1009000 x1009001 x1009002 x1009003 x1009004 x1009005 x1009006 x1009007 x1009008 x1009009 x1009010 x1009011 x1009012 bt1029.1).bind fun bt1033 => (if bt1029.2 = 0 then (if bt1033.2.2.2.2.2 = T then (if bt1033.2.2.2.2.1 = 0 then (if bt1033.2.2.2.1 ≥ bt1033.2.2.1 then ((Qaz.f k).bind fun t1040 => (some t1040)) else (some F)) else (some F)) else ((Qaz.f k).bind fun t1041 => (some t1041))) else ((Qaz.f k).bind fun t1042 => (some t1042))))) else (if bt1027.1 = 0 then ((Qaz.f k).bind fun t1043 => (some t1043)) else (some F))))
def contangotop_TopCoverCloses.f (k : Nat) (a0_0 : ByteArray) (a0_1 : ByteArray) (a0_2 : Int) (a0_3 : Int) (a0_4 : Int) (a0_5 : Int) (a0_6 : Int) (a0_7 : Int) (a0_8 : Int) (l0_9 : List (S46)) (l0_10 : List (S84)) (l0_11 : List (S98)) (a0_12 : ByteArray) : Option (Bool) := (Qbj.f a0_0 a0_1 a0_2 a0_3 a0_4 a0_5 a0_6 a0_7 a0_8 l0_9 l0_10 l0_11 a0_12).bind fun t1009 => (if t1009 = T then ((QaN.f k a0_0 a0_1 a0_2 a0_3 a0_4 a0_5 a0_6 a0_7 a0_8 l0_9 l0_10 l0_11 a0_12 l0_9).bind fun bt1011 => ((QaY.f k l0_10 a0_12).bind fun bt1018 => (if bt1011.2.2.2.2.2 = T then (if bt1018.2.2.2.2.2.2 = T then (if bt1018.2.2.2.2.2.1 = 1000 then (contangotop_TopCoverCloses.j0 k (bt1011.2.2.2.2.1 == 0) a0_0 a0_1 a0_2 a0_3 a0_4 a0_5 a0_6 a0_7 a0_8 l0_9 l0_10 l0_11 a0_12 bt1011.1 bt1011.2.1 bt1011.2.2.1 bt1011.2.2.2.1 bt1011.2.2.2.2.1 bt1018.1 bt1018.2.1 bt1018.2.2.1 bt1018.2.2.2.1 bt1018.2.2.2.2.1 bt1018.2.2.2.2.2.1) else (contangotop_TopCoverCloses.j0 k T a0_0 a0_1 a0_2 a0_3 a0_4 a0_5 a0_6 a0_7 a0_8 l0_9 l0_10 l0_11 a0_12 bt1011.1 bt1011.2.1 bt1011.2.2.1 bt1011.2.2.2.1 bt1011.2.2.2.2.1 bt1018.1 bt1018.2.1 bt1018.2.2.1 bt1018.2.2.2.1 bt1018.2.2.2.2.1 bt1018.2.2.2.2.2.1)) else (contangotop_TopCoverCloses.j0 k T a0_0 a0_1 a0_2 a0_3 a0_4 a0_5 a0_6 a0_7 a0_8 l0_9 l0_10 l0_11 a0_12 bt1011.1 bt1011.2.1 bt1011.2.2.1 bt1011.2.2.2.1 bt1011.2.2.2.2.1 bt1018.1 bt1018.2.1 bt1018.2.2.1 bt1018.2.2.2.1 bt1018.2.2.2.2.1 bt1018.2.2.2.2.2.1)) else (contangotop_TopCoverCloses.j0 k T a0_0 a0_1 a0_2 a0_3 a0_4 a0_5 a0_6 a0_7 a0_8 l0_9 l0_10 l0_11 a0_12 bt1011.1 bt1011.2.1 bt1011.2.2.1 bt1011.2.2.2.1 bt1011.2.2.2.2.1 bt1018.1 bt1018.2.1 bt1018.2.2.1 bt1018.2.2.2.1 bt1018.2.2.2.2.1 bt1018.2.2.2.2.2.1)))) else ((Qaz.f k).bind fun t1010 => (some t1010)))
theorem contangotop_TopCoverCloses.mono_l : ∀ k, (∀ y0 y1 y2 y3 y4 y5 y6 y7 y8 y9 y10 y11 y12 y13 y14 y15 y16 y17 y18 y19 y20 y21 y22 y23 y24, LeO (contangotop_TopCoverCloses.j0 k y0 y1 y2 y3 y4 y5 y6 y7 y8 y9 y10 y11 y12 y13 y14 y15 y16 y17 y18 y19 y20 y21 y22 y23 y24) (contangotop_TopCoverCloses.j0 (k + 1) y0 y1 y2 y3 y4 y5 y6 y7 y8 y9 y10 y11 y12 y13 y14 y15 y16 y17 y18 y19 y20 y21 y22 y23 y24))
 | 0 => fun _ _ _ _ _ _ _ _ _ _ _ _ _ _ _ _ _ _ _ _ _ _ _ _ _ r h => by simp [contangotop_TopCoverCloses.j0] at h
 | k + 1 => by
  have ih0 := contangotop_TopCoverCloses.mono_l k
  intro y0 y1 y2 y3 y4 y5 y6 y7 y8 y9 y10 y11 y12 y13 y14 y15 y16 y17 y18 y19 y20 y21 y22 y23 y24
  unfold contangotop_TopCoverCloses.j0
  exact ZM6 ih0 QaY.mono Qa1.mono QaN.mono Qaz.mono Qbq.mono
theorem contangotop_TopCoverCloses.mono : ∀ a0 a1 a2 a3 a4 a5 a6 a7 a8 a9 a10 a11 a12 k, LeO (contangotop_TopCoverCloses.f k a0 a1 a2 a3 a4 a5 a6 a7 a8 a9 a10 a11 a12) (contangotop_TopCoverCloses.f (k + 1) a0 a1 a2 a3 a4 a5 a6 a7 a8 a9 a10 a11 a12) := by
 intro a0 a1 a2 a3 a4 a5 a6 a7 a8 a9 a10 a11 a12 k
 have ih0 := contangotop_TopCoverCloses.mono_l k
 unfold contangotop_TopCoverCloses.f
 exact ZM6 ih0 QaY.mono Qa1.mono QaN.mono Qaz.mono Qbq.mono
theorem contangotop_TopCoverCloses.calls (k : Nat) (a0_0 : ByteArray) (a0_1 : ByteArray) (a0_2 : Int) (a0_3 : Int) (a0_4 : Int) (a0_5 : Int) (a0_6 : Int) (a0_7 : Int) (a0_8 : Int) (A0_9 : Option Addr) (c0_9 : Nat) (l0_9 : List (S46)) (A0_10 : Option Addr) (c0_10 : Nat) (l0_10 : List (S84)) (A0_11 : Option Addr) (c0_11 : Nat) (l0_11 : List (S98)) (a0_12 : ByteArray) (r : Bool) (w : World) (hr0_9 : Kd.C k46 w A0_9 l0_9.length l0_9) (hc0_9 : l0_9.length ≤ c0_9) (hr0_10 : Kd.C k84 w A0_10 l0_10.length l0_10) (hc0_10 : l0_10.length ≤ c0_10) (hr0_11 : Kd.C k98 w A0_11 l0_11.length l0_11) (hc0_11 : l0_11.length ≤ c0_11) (h : contangotop_TopCoverCloses.f k a0_0 a0_1 a0_2 a0_3 a0_4 a0_5 a0_6 a0_7 a0_8 l0_9 l0_10 l0_11 a0_12 = some r) :
  Calls Try.prog 14 #[.agg #[.string a0_0, .string a0_1, .int .i64 a0_2, .int .i64 a0_3, .int .i64 a0_4, .int .i64 a0_5, .int .i64 a0_6, .int .i64 a0_7, .int .i64 a0_8, .slice A0_9 l0_9.length c0_9, .slice A0_10 l0_10.length c0_10, .slice A0_11 l0_11.length c0_11, .string a0_12]] w fun e w' => e = .returned (.bool r) ∧ Below w.heap.size w w' := by
 have hu89 := Try.underlying89
 have hu50 := Try.underlying50
 have hu84 := Try.underlying84
 have hu44 := Try.underlying44
 have HR0_9 := Aside0.mk hr0_9
 have HC0_9 := Aside0.mk hc0_9
 clear hr0_9 hc0_9
 have HR0_10 := Aside0.mk hr0_10
 have HC0_10 := Aside0.mk hc0_10
 clear hr0_10 hc0_10
 have HR0_11 := Aside0.mk hr0_11
 have HC0_11 := Aside0.mk hc0_11
 clear hr0_11 hc0_11
 have HB := Aside0.mk (Below.refl w.heap.size w)
 have H : ((Qbj.f a0_0 a0_1 a0_2 a0_3 a0_4 a0_5 a0_6 a0_7 a0_8 l0_9 l0_10 l0_11 a0_12).bind fun t1009 => (if t1009 = T then ((QaN.f k a0_0 a0_1 a0_2 a0_3 a0_4 a0_5 a0_6 a0_7 a0_8 l0_9 l0_10 l0_11 a0_12 l0_9).bind fun bt1011 => ((QaY.f k l0_10 a0_12).bind fun bt1018 => (if bt1011.2.2.2.2.2 = T then (if bt1018.2.2.2.2.2.2 = T then (if bt1018.2.2.2.2.2.1 = 1000 then (contangotop_TopCoverCloses.j0 k (bt1011.2.2.2.2.1 == 0) a0_0 a0_1 a0_2 a0_3 a0_4 a0_5 a0_6 a0_7 a0_8 l0_9 l0_10 l0_11 a0_12 bt1011.1 bt1011.2.1 bt1011.2.2.1 bt1011.2.2.2.1 bt1011.2.2.2.2.1 bt1018.1 bt1018.2.1 bt1018.2.2.1 bt1018.2.2.2.1 bt1018.2.2.2.2.1 bt1018.2.2.2.2.2.1) else (contangotop_TopCoverCloses.j0 k T a0_0 a0_1 a0_2 a0_3 a0_4 a0_5 a0_6 a0_7 a0_8 l0_9 l0_10 l0_11 a0_12 bt1011.1 bt1011.2.1 bt1011.2.2.1 bt1011.2.2.2.1 bt1011.2.2.2.2.1 bt1018.1 bt1018.2.1 bt1018.2.2.1 bt1018.2.2.2.1 bt1018.2.2.2.2.1 bt1018.2.2.2.2.2.1)) else (contangotop_TopCoverCloses.j0 k T a0_0 a0_1 a0_2 a0_3 a0_4 a0_5 a0_6 a0_7 a0_8 l0_9 l0_10 l0_11 a0_12 bt1011.1 bt1011.2.1 bt1011.2.2.1 bt1011.2.2.2.1 bt1011.2.2.2.2.1 bt1018.1 bt1018.2.1 bt1018.2.2.1 bt1018.2.2.2.1 bt1018.2.2.2.2.1 bt1018.2.2.2.2.2.1)) else (contangotop_TopCoverCloses.j0 k T a0_0 a0_1 a0_2 a0_3 a0_4 a0_5 a0_6 a0_7 a0_8 l0_9 l0_10 l0_11 a0_12 bt1011.1 bt1011.2.1 bt1011.2.2.1 bt1011.2.2.2.1 bt1011.2.2.2.2.1 bt1018.1 bt1018.2.1 bt1018.2.2.1 bt1018.2.2.2.1 bt1018.2.2.2.2.1 bt1018.2.2.2.2.2.1)))) else ((Qaz.f k).bind fun t1010 => (some t1010)))) = some r := h
 clear h
 replace H := Option.bind_eq_some_iff.mp H
 obtain ⟨t1009, A20, H⟩ := H
 replace H : (if t1009 = T then ((QaN.f k a0_0 a0_1 a0_2 a0_3 a0_4 a0_5 a0_6 a0_7 a0_8 l0_9 l0_10 l0_11 a0_12 l0_9).bind fun bt1011 => ((QaY.f k l0_10 a0_12).bind fun bt1018 => (if bt1011.2.2.2.2.2 = T then (if bt1018.2.2.2.2.2.2 = T then (if bt1018.2.2.2.2.2.1 = 1000 then (contangotop_TopCoverCloses.j0 k (bt1011.2.2.2.2.1 == 0) a0_0 a0_1 a0_2 a0_3 a0_4 a0_5 a0_6 a0_7 a0_8 l0_9 l0_10 l0_11 a0_12 bt1011.1 bt1011.2.1 bt1011.2.2.1 bt1011.2.2.2.1 bt1011.2.2.2.2.1 bt1018.1 bt1018.2.1 bt1018.2.2.1 bt1018.2.2.2.1 bt1018.2.2.2.2.1 bt1018.2.2.2.2.2.1) else (contangotop_TopCoverCloses.j0 k T a0_0 a0_1 a0_2 a0_3 a0_4 a0_5 a0_6 a0_7 a0_8 l0_9 l0_10 l0_11 a0_12 bt1011.1 bt1011.2.1 bt1011.2.2.1 bt1011.2.2.2.1 bt1011.2.2.2.2.1 bt1018.1 bt1018.2.1 bt1018.2.2.1 bt1018.2.2.2.1 bt1018.2.2.2.2.1 bt1018.2.2.2.2.2.1)) else (contangotop_TopCoverCloses.j0 k T a0_0 a0_1 a0_2 a0_3 a0_4 a0_5 a0_6 a0_7 a0_8 l0_9 l0_10 l0_11 a0_12 bt1011.1 bt1011.2.1 bt1011.2.2.1 bt1011.2.2.2.1 bt1011.2.2.2.2.1 bt1018.1 bt1018.2.1 bt1018.2.2.1 bt1018.2.2.2.1 bt1018.2.2.2.2.1 bt1018.2.2.2.2.2.1)) else (contangotop_TopCoverCloses.j0 k T a0_0 a0_1 a0_2 a0_3 a0_4 a0_5 a0_6 a0_7 a0_8 l0_9 l0_10 l0_11 a0_12 bt1011.1 bt1011.2.1 bt1011.2.2.1 bt1011.2.2.2.1 bt1011.2.2.2.2.1 bt1018.1 bt1018.2.1 bt1018.2.2.1 bt1018.2.2.2.1 bt1018.2.2.2.2.1 bt1018.2.2.2.2.2.1)))) else ((Qaz.f k).bind fun t1010 => (some t1010))) = some r := H
 have A2 := Aside0.mk A20
 clear A20
 go_enter Try.func14, Try.ntmps14
 go_upto_if 15 with (first | ((with_reducible refine QaD (N := 1) rfl ?_); refine Zbx (N := 1) (cs := #[.string a0_0, .string a0_1, .int .i64 a0_2, .int .i64 a0_3, .int .i64 a0_4, .int .i64 a0_5, .int .i64 a0_6, .int .i64 a0_7, .int .i64 a0_8, .slice A0_9 l0_9.length c0_9, .slice A0_10 l0_10.length c0_10, .slice A0_11 l0_11.length c0_11, .string a0_12]) (t := 89) ?_; intro gb1008 hg w3 hbox hb; have BK1008 := Aside0.mk (hbox); have GW1008 := Aside0.mk (Zt w hg (Zb)); have GE1008 := GW1008; replace HB := Aside0.mk (Qao (Zb) hb); clear hb hbox hg; obtain ⟨hcz4_0, hfz4_0⟩ := Zy (v := (.string a0_0)) BK1008.out 0; obtain ⟨hcz4_1, hfz4_1⟩ := Zy (v := (.string a0_1)) BK1008.out 1; obtain ⟨hcz4_2, hfz4_2⟩ := Zy (v := (.int .i64 a0_2)) BK1008.out 2; obtain ⟨hcz4_3, hfz4_3⟩ := Zy (v := (.int .i64 a0_3)) BK1008.out 3; obtain ⟨hcz4_4, hfz4_4⟩ := Zy (v := (.int .i64 a0_4)) BK1008.out 4; obtain ⟨hcz4_5, hfz4_5⟩ := Zy (v := (.int .i64 a0_5)) BK1008.out 5; obtain ⟨hcz4_6, hfz4_6⟩ := Zy (v := (.int .i64 a0_6)) BK1008.out 6; obtain ⟨hcz4_7, hfz4_7⟩ := Zy (v := (.int .i64 a0_7)) BK1008.out 7; obtain ⟨hcz4_8, hfz4_8⟩ := Zy (v := (.int .i64 a0_8)) BK1008.out 8; obtain ⟨hcz4_9, hfz4_9⟩ := Zy (v := (.slice A0_9 l0_9.length c0_9)) BK1008.out 9; obtain ⟨hcz4_10, hfz4_10⟩ := Zy (v := (.slice A0_10 l0_10.length c0_10)) BK1008.out 10; obtain ⟨hcz4_11, hfz4_11⟩ := Zy (v := (.slice A0_11 l0_11.length c0_11)) BK1008.out 11; obtain ⟨hcz4_12, hfz4_12⟩ := Zy (v := (.string a0_12)) BK1008.out 12) | ((with_reducible refine Qax (f := 43) rfl ?_); refine goesL_ (some 14) rfl rfl Try.func43 (by kernel_rfl) rfl #[.agg #[.string a0_0, .string a0_1, .int .i64 a0_2, .int .i64 a0_3, .int .i64 a0_4, .int .i64 a0_5, .int .i64 a0_6, .int .i64 a0_7, .int .i64 a0_8, .slice A0_9 l0_9.length c0_9, .slice A0_10 l0_10.length c0_10, .slice A0_11 l0_11.length c0_11, .string a0_12]] rfl (Zl) ?_; (with_reducible refine (Qbj.calls a0_0 a0_1 a0_2 a0_3 a0_4 a0_5 a0_6 a0_7 a0_8 _ _ l0_9 _ _ l0_10 _ _ l0_11 a0_12 t1009 _ ?side1 ?side2 ?side3 ?side4 ?side5 ?side6 A2.out).mono ?_); (case side1 => exact Zv (Kd.C_below HR0_9.out HB.out)); (case side2 => exact HC0_9.out); (case side3 => exact Zv (Kd.C_below HR0_10.out HB.out)); (case side4 => exact HC0_10.out); (case side5 => exact Zv (Kd.C_below HR0_11.out HB.out)); (case side6 => exact HC0_11.out); rintro e w5 ⟨rfl, hb⟩; refine ⟨_, rfl, ?_⟩; replace BK1008 := Aside0.mk (Zi BK1008.out hb); replace HB := Aside0.mk (Qao (Zc1 GE1008.out) hb); (try clear hb); (try clear hb2); (try clear hk); (try clear hi)))
 (try simp only [Act.put, Zj, Zk, Zm])
 by_cases c6 : t1009 = T
 ·subst c6
  have H1 : ((QaN.f k a0_0 a0_1 a0_2 a0_3 a0_4 a0_5 a0_6 a0_7 a0_8 l0_9 l0_10 l0_11 a0_12 l0_9).bind fun bt1011 => ((QaY.f k l0_10 a0_12).bind fun bt1018 => (if bt1011.2.2.2.2.2 = T then (if bt1018.2.2.2.2.2.2 = T then (if bt1018.2.2.2.2.2.1 = 1000 then (contangotop_TopCoverCloses.j0 k (bt1011.2.2.2.2.1 == 0) a0_0 a0_1 a0_2 a0_3 a0_4 a0_5 a0_6 a0_7 a0_8 l0_9 l0_10 l0_11 a0_12 bt1011.1 bt1011.2.1 bt1011.2.2.1 bt1011.2.2.2.1 bt1011.2.2.2.2.1 bt1018.1 bt1018.2.1 bt1018.2.2.1 bt1018.2.2.2.1 bt1018.2.2.2.2.1 bt1018.2.2.2.2.2.1) else (contangotop_TopCoverCloses.j0 k T a0_0 a0_1 a0_2 a0_3 a0_4 a0_5 a0_6 a0_7 a0_8 l0_9 l0_10 l0_11 a0_12 bt1011.1 bt1011.2.1 bt1011.2.2.1 bt1011.2.2.2.1 bt1011.2.2.2.2.1 bt1018.1 bt1018.2.1 bt1018.2.2.1 bt1018.2.2.2.1 bt1018.2.2.2.2.1 bt1018.2.2.2.2.2.1)) else (contangotop_TopCoverCloses.j0 k T a0_0 a0_1 a0_2 a0_3 a0_4 a0_5 a0_6 a0_7 a0_8 l0_9 l0_10 l0_11 a0_12 bt1011.1 bt1011.2.1 bt1011.2.2.1 bt1011.2.2.2.1 bt1011.2.2.2.2.1 bt1018.1 bt1018.2.1 bt1018.2.2.1 bt1018.2.2.2.1 bt1018.2.2.2.2.1 bt1018.2.2.2.2.2.1)) else (contangotop_TopCoverCloses.j0 k T a0_0 a0_1 a0_2 a0_3 a0_4 a0_5 a0_6 a0_7 a0_8 l0_9 l0_10 l0_11 a0_12 bt1011.1 bt1011.2.1 bt1011.2.2.1 bt1011.2.2.2.1 bt1011.2.2.2.2.1 bt1018.1 bt1018.2.1 bt1018.2.2.1 bt1018.2.2.2.1 bt1018.2.2.2.2.1 bt1018.2.2.2.2.2.1)))) = some r := by rw [if_pos rfl] at H; exact H
  clear H
  have H := H1
  clear H1
  replace H := Option.bind_eq_some_iff.mp H
  obtain ⟨⟨t1011, t1012, t1013, t1014, t1015, t1016⟩, A70, H⟩ := H
  replace H : ((QaY.f k l0_10 a0_12).bind fun bt1018 => (if t1016 = T then (if bt1018.2.2.2.2.2.2 = T then (if bt1018.2.2.2.2.2.1 = 1000 then (contangotop_TopCoverCloses.j0 k (t1015 == 0) a0_0 a0_1 a0_2 a0_3 a0_4 a0_5 a0_6 a0_7 a0_8 l0_9 l0_10 l0_11 a0_12 t1011 t1012 t1013 t1014 t1015 bt1018.1 bt1018.2.1 bt1018.2.2.1 bt1018.2.2.2.1 bt1018.2.2.2.2.1 bt1018.2.2.2.2.2.1) else (contangotop_TopCoverCloses.j0 k T a0_0 a0_1 a0_2 a0_3 a0_4 a0_5 a0_6 a0_7 a0_8 l0_9 l0_10 l0_11 a0_12 t1011 t1012 t1013 t1014 t1015 bt1018.1 bt1018.2.1 bt1018.2.2.1 bt1018.2.2.2.1 bt1018.2.2.2.2.1 bt1018.2.2.2.2.2.1)) else (contangotop_TopCoverCloses.j0 k T a0_0 a0_1 a0_2 a0_3 a0_4 a0_5 a0_6 a0_7 a0_8 l0_9 l0_10 l0_11 a0_12 t1011 t1012 t1013 t1014 t1015 bt1018.1 bt1018.2.1 bt1018.2.2.1 bt1018.2.2.2.1 bt1018.2.2.2.2.1 bt1018.2.2.2.2.2.1)) else (contangotop_TopCoverCloses.j0 k T a0_0 a0_1 a0_2 a0_3 a0_4 a0_5 a0_6 a0_7 a0_8 l0_9 l0_10 l0_11 a0_12 t1011 t1012 t1013 t1014 t1015 bt1018.1 bt1018.2.1 bt1018.2.2.1 bt1018.2.2.2.1 bt1018.2.2.2.2.1 bt1018.2.2.2.2.2.1))) = some r := H
  have A7 := Aside0.mk A70
  clear A70
  replace H := Option.bind_eq_some_iff.mp H
  obtain ⟨⟨t1018, t1019, t1020, t1021, t1022, t1023, t1024⟩, A80, H⟩ := H
  replace H : (if t1016 = T then (if t1024 = T then (if t1023 = 1000 then (contangotop_TopCoverCloses.j0 k (t1015 == 0) a0_0 a0_1 a0_2 a0_3 a0_4 a0_5 a0_6 a0_7 a0_8 l0_9 l0_10 l0_11 a0_12 t1011 t1012 t1013 t1014 t1015 t1018 t1019 t1020 t1021 t1022 t1023) else (contangotop_TopCoverCloses.j0 k T a0_0 a0_1 a0_2 a0_3 a0_4 a0_5 a0_6 a0_7 a0_8 l0_9 l0_10 l0_11 a0_12 t1011 t1012 t1013 t1014 t1015 t1018 t1019 t1020 t1021 t1022 t1023)) else (contangotop_TopCoverCloses.j0 k T a0_0 a0_1 a0_2 a0_3 a0_4 a0_5 a0_6 a0_7 a0_8 l0_9 l0_10 l0_11 a0_12 t1011 t1012 t1013 t1014 t1015 t1018 t1019 t1020 t1021 t1022 t1023)) else (contangotop_TopCoverCloses.j0 k T a0_0 a0_1 a0_2 a0_3 a0_4 a0_5 a0_6 a0_7 a0_8 l0_9 l0_10 l0_11 a0_12 t1011 t1012 t1013 t1014 t1015 t1018 t1019 t1020 t1021 t1022 t1023)) = some r := H
  have A8 := Aside0.mk A80
  clear A80
  have HC9 := Aside0.mk H
  clear H
  obtain ⟨hcz10_0, hfz10_0⟩ := Zy (v := (.string a0_0)) BK1008.out 0
  obtain ⟨hcz10_1, hfz10_1⟩ := Zy (v := (.string a0_1)) BK1008.out 1
  obtain ⟨hcz10_2, hfz10_2⟩ := Zy (v := (.int .i64 a0_2)) BK1008.out 2
  obtain ⟨hcz10_3, hfz10_3⟩ := Zy (v := (.int .i64 a0_3)) BK1008.out 3
  obtain ⟨hcz10_4, hfz10_4⟩ := Zy (v := (.int .i64 a0_4)) BK1008.out 4
  obtain ⟨hcz10_5, hfz10_5⟩ := Zy (v := (.int .i64 a0_5)) BK1008.out 5
  obtain ⟨hcz10_6, hfz10_6⟩ := Zy (v := (.int .i64 a0_6)) BK1008.out 6
  obtain ⟨hcz10_7, hfz10_7⟩ := Zy (v := (.int .i64 a0_7)) BK1008.out 7
  obtain ⟨hcz10_8, hfz10_8⟩ := Zy (v := (.int .i64 a0_8)) BK1008.out 8
  obtain ⟨hcz10_9, hfz10_9⟩ := Zy (v := (.slice A0_9 l0_9.length c0_9)) BK1008.out 9
  obtain ⟨hcz10_10, hfz10_10⟩ := Zy (v := (.slice A0_10 l0_10.length c0_10)) BK1008.out 10
  obtain ⟨hcz10_11, hfz10_11⟩ := Zy (v := (.slice A0_11 l0_11.length c0_11)) BK1008.out 11
  obtain ⟨hcz10_12, hfz10_12⟩ := Zy (v := (.string a0_12)) BK1008.out 12
  go_upto_region 5 with (first | ((with_reducible refine Qax (f := 45) rfl ?_); refine goesL_ (some 21) rfl rfl Try.func45 (by kernel_rfl) rfl #[.agg #[.string a0_0, .string a0_1, .int .i64 a0_2, .int .i64 a0_3, .int .i64 a0_4, .int .i64 a0_5, .int .i64 a0_6, .int .i64 a0_7, .int .i64 a0_8, .slice A0_9 l0_9.length c0_9, .slice A0_10 l0_10.length c0_10, .slice A0_11 l0_11.length c0_11, .string a0_12], .slice A0_9 l0_9.length c0_9] rfl (Zl) ?_; (with_reducible refine (QaN.calls k a0_0 a0_1 a0_2 a0_3 a0_4 a0_5 a0_6 a0_7 a0_8 _ _ l0_9 _ _ l0_10 _ _ l0_11 a0_12 _ _ l0_9 t1011 t1012 t1013 t1014 t1015 t1016 _ ?side1 ?side2 ?side3 ?side4 ?side5 ?side6 ?side7 ?side8 A7.out).mono ?_); (case side1 => exact Zv (Kd.C_below HR0_9.out HB.out)); (case side2 => exact HC0_9.out); (case side3 => exact Zv (Kd.C_below HR0_10.out HB.out)); (case side4 => exact HC0_10.out); (case side5 => exact Zv (Kd.C_below HR0_11.out HB.out)); (case side6 => exact HC0_11.out); (case side7 => exact Zv (Kd.C_below HR0_9.out HB.out)); (case side8 => exact HC0_9.out); rintro e w11 ⟨rfl, hb⟩; refine ⟨_, rfl, ?_⟩; replace BK1008 := Aside0.mk (Zi BK1008.out hb); replace HB := Aside0.mk (Qao (Zc1 GE1008.out) hb); (try clear hb); (try clear hb2); (try clear hk); (try clear hi)) | ((with_reducible refine QaD (N := 3) rfl ?_); refine Zbx (N := 3) (cs := #[.string (⟨#[]⟩ : ByteArray), .string (⟨#[]⟩ : ByteArray), .int .i64 0, .int .i64 0, .int .i64 0]) (t := 50) ?_; intro gb1017 hg w12 hbox hb; have BK1017 := Aside0.mk (hbox); have GW1017 := Aside0.mk (Zt w hg (Zc1 GE1008.out)); have GE1017 := GW1017; have NB1008_1017 := Aside0.mk (Zn hg BK1008.out); have NB1017_1008 := Aside0.mk NB1008_1017.out.symm; replace BK1008 := Aside0.mk (Zi BK1008.out hb); replace HB := Aside0.mk (Qao (Zc1 GE1008.out) hb); clear hb hbox hg; have hnb13 := NB1017_1008.out; have hnc13 := NB1008_1017.out; obtain ⟨hcz14_0, hfz14_0⟩ := Zy (v := (.string (⟨#[]⟩ : ByteArray))) BK1017.out 0; obtain ⟨hcz14_1, hfz14_1⟩ := Zy (v := (.string (⟨#[]⟩ : ByteArray))) BK1017.out 1; obtain ⟨hcz14_2, hfz14_2⟩ := Zy (v := (.int .i64 0)) BK1017.out 2; obtain ⟨hcz14_3, hfz14_3⟩ := Zy (v := (.int .i64 0)) BK1017.out 3; obtain ⟨hcz14_4, hfz14_4⟩ := Zy (v := (.int .i64 0)) BK1017.out 4; obtain ⟨hcz15_0, hfz15_0⟩ := Zy (v := (.string a0_0)) BK1008.out 0; obtain ⟨hcz15_1, hfz15_1⟩ := Zy (v := (.string a0_1)) BK1008.out 1; obtain ⟨hcz15_2, hfz15_2⟩ := Zy (v := (.int .i64 a0_2)) BK1008.out 2; obtain ⟨hcz15_3, hfz15_3⟩ := Zy (v := (.int .i64 a0_3)) BK1008.out 3; obtain ⟨hcz15_4, hfz15_4⟩ := Zy (v := (.int .i64 a0_4)) BK1008.out 4; obtain ⟨hcz15_5, hfz15_5⟩ := Zy (v := (.int .i64 a0_5)) BK1008.out 5; obtain ⟨hcz15_6, hfz15_6⟩ := Zy (v := (.int .i64 a0_6)) BK1008.out 6; obtain ⟨hcz15_7, hfz15_7⟩ := Zy (v := (.int .i64 a0_7)) BK1008.out 7; obtain ⟨hcz15_8, hfz15_8⟩ := Zy (v := (.int .i64 a0_8)) BK1008.out 8; obtain ⟨hcz15_9, hfz15_9⟩ := Zy (v := (.slice A0_9 l0_9.length c0_9)) BK1008.out 9; obtain ⟨hcz15_10, hfz15_10⟩ := Zy (v := (.slice A0_10 l0_10.length c0_10)) BK1008.out 10; obtain ⟨hcz15_11, hfz15_11⟩ := Zy (v := (.slice A0_11 l0_11.length c0_11)) BK1008.out 11; obtain ⟨hcz15_12, hfz15_12⟩ := Zy (v := (.string a0_12)) BK1008.out 12) | ((with_reducible refine Qax (f := 48) rfl ?_); refine goesL_ (some 29) rfl rfl Try.func48 (by kernel_rfl) rfl #[.slice A0_10 l0_10.length c0_10, .string a0_12] rfl (Zl) ?_; (with_reducible refine (QaY.calls k _ _ l0_10 a0_12 t1018 t1019 t1020 t1021 t1022 t1023 t1024 _ ?side1 ?side2 A8.out).mono ?_); (case side1 => exact Kd.C_below HR0_10.out (Zc2 GE1008.out GE1017.out)); (case side2 => exact HC0_10.out); rintro e w16 ⟨rfl, hb⟩; refine ⟨_, rfl, ?_⟩; replace BK1008 := Aside0.mk (Qaj (g := gb1008) (o := .cells #[.string a0_0, .string a0_1, .int .i64 a0_2, .int .i64 a0_3, .int .i64 a0_4, .int .i64 a0_5, .int .i64 a0_6, .int .i64 a0_7, .int .i64 a0_8, .slice A0_9 l0_9.length c0_9, .slice A0_10 l0_10.length c0_10, .slice A0_11 l0_11.length c0_11, .string a0_12] 89 (0, 0)) (Zg5 BK1008.out NB1008_1017.out NB1008_1017.out NB1008_1017.out NB1008_1017.out NB1008_1017.out) hb); replace BK1017 := Aside0.mk (Zpi #[.string t1011, .string t1012, .int .i64 t1013, .int .i64 t1014, .int .i64 t1015] BK1017.out hb); replace HB := Aside0.mk (Qao (Zc2 GE1008.out GE1017.out) hb); (try clear hb); (try clear hb2); (try clear hk); (try clear hi)) | ((with_reducible refine QaD (N := 5) rfl ?_); refine Zbx (N := 5) (cs := #[.string (⟨#[]⟩ : ByteArray), .int .i64 0, .int .i64 0, .int .i64 0, .int .i64 0, .int .i64 0]) (t := 84) ?_; intro gb1025 hg w17 hbox hb; have BK1025 := Aside0.mk (hbox); have GW1025 := Aside0.mk (Zt w hg (Zc2 GE1008.out GE1017.out)); have GE1025 := GW1025; have NB1008_1025 := Aside0.mk (Zn hg BK1008.out); have NB1025_1008 := Aside0.mk NB1008_1025.out.symm; have NB1017_1025 := Aside0.mk (Zn hg BK1017.out); have NB1025_1017 := Aside0.mk NB1017_1025.out.symm; replace BK1008 := Aside0.mk (Zi BK1008.out hb); replace BK1017 := Aside0.mk (Zi BK1017.out hb); replace HB := Aside0.mk (Qao (Zc2 GE1008.out GE1017.out) hb); clear hb hbox hg; have hnb18 := NB1025_1008.out; have hnc18 := NB1008_1025.out; have hnb19 := NB1025_1017.out; have hnc19 := NB1017_1025.out; obtain ⟨hcz20_0, hfz20_0⟩ := Zy (v := (.string (⟨#[]⟩ : ByteArray))) BK1025.out 0; obtain ⟨hcz20_1, hfz20_1⟩ := Zy (v := (.int .i64 0)) BK1025.out 1; obtain ⟨hcz20_2, hfz20_2⟩ := Zy (v := (.int .i64 0)) BK1025.out 2; obtain ⟨hcz20_3, hfz20_3⟩ := Zy (v := (.int .i64 0)) BK1025.out 3; obtain ⟨hcz20_4, hfz20_4⟩ := Zy (v := (.int .i64 0)) BK1025.out 4; obtain ⟨hcz20_5, hfz20_5⟩ := Zy (v := (.int .i64 0)) BK1025.out 5))
  (try simp only [Act.put, Zj, Zk, Zm])
  go_cut [47] (fun v47 wc => ∃ (kq : Nat) (x47_8 : Bool), v47 = .bool x47_8 ∧ Aside0 (contangotop_TopCoverCloses.j0 kq x47_8 a0_0 a0_1 a0_2 a0_3 a0_4 a0_5 a0_6 a0_7 a0_8 l0_9 l0_10 l0_11 a0_12 t1011 t1012 t1013 t1014 t1015 t1018 t1019 t1020 t1021 t1022 t1023 = some r) ∧ Aside0 (kq ≤ k) ∧ Aside0 (wc.heap[gb1008]? = some (.cells #[.string a0_0, .string a0_1, .int .i64 a0_2, .int .i64 a0_3, .int .i64 a0_4, .int .i64 a0_5, .int .i64 a0_6, .int .i64 a0_7, .int .i64 a0_8, (.slice A0_9 l0_9.length c0_9), (.slice A0_10 l0_10.length c0_10), (.slice A0_11 l0_11.length c0_11), .string a0_12] 89 (0, 0))) ∧ Aside0 (wc.heap[gb1017]? = some (.cells #[.string t1011, .string t1012, .int .i64 t1013, .int .i64 t1014, .int .i64 t1015] 50 (0, 0))) ∧ Aside0 (wc.heap[gb1025]? = some (.cells #[.string t1018, .int .i64 t1019, .int .i64 t1020, .int .i64 t1021, .int .i64 t1022, .int .i64 t1023] 84 (0, 0))) ∧ Aside0 (Below w.heap.size w wc))
  case first =>
   have H := HC9.out
   clear HC9
   by_cases c21 : t1016 = T
   ·subst c21
    have H1 : (if t1024 = T then (if t1023 = 1000 then (contangotop_TopCoverCloses.j0 k (t1015 == 0) a0_0 a0_1 a0_2 a0_3 a0_4 a0_5 a0_6 a0_7 a0_8 l0_9 l0_10 l0_11 a0_12 t1011 t1012 t1013 t1014 t1015 t1018 t1019 t1020 t1021 t1022 t1023) else (contangotop_TopCoverCloses.j0 k T a0_0 a0_1 a0_2 a0_3 a0_4 a0_5 a0_6 a0_7 a0_8 l0_9 l0_10 l0_11 a0_12 t1011 t1012 t1013 t1014 t1015 t1018 t1019 t1020 t1021 t1022 t1023)) else (contangotop_TopCoverCloses.j0 k T a0_0 a0_1 a0_2 a0_3 a0_4 a0_5 a0_6 a0_7 a0_8 l0_9 l0_10 l0_11 a0_12 t1011 t1012 t1013 t1014 t1015 t1018 t1019 t1020 t1021 t1022 t1023)) = some r := by rw [if_pos rfl] at H; exact H
    clear H
    have H := H1
    clear H1
    by_cases c22 : t1024 = T
    ·subst c22
     have H1 : (if t1023 = 1000 then (contangotop_TopCoverCloses.j0 k (t1015 == 0) a0_0 a0_1 a0_2 a0_3 a0_4 a0_5 a0_6 a0_7 a0_8 l0_9 l0_10 l0_11 a0_12 t1011 t1012 t1013 t1014 t1015 t1018 t1019 t1020 t1021 t1022 t1023) else (contangotop_TopCoverCloses.j0 k T a0_0 a0_1 a0_2 a0_3 a0_4 a0_5 a0_6 a0_7 a0_8 l0_9 l0_10 l0_11 a0_12 t1011 t1012 t1013 t1014 t1015 t1018 t1019 t1020 t1021 t1022 t1023)) = some r := by rw [if_pos rfl] at H; exact H
     clear H
     have H := H1
     clear H1
     by_cases c23 : t1023 = 1000
     ·rw [if_pos c23] at H
      have c23b0 : (t1023 == 1000) = T := beq_iff_eq.mpr c23
      have c23b1 : (t1023 != 1000) = F := bne_eq_false_iff_eq.mpr c23
      clear c23
      have H' := Aside0.mk H
      clear H
      have hnb24 := NB1025_1008.out
      have hnc24 := NB1008_1025.out
      have hnb25 := NB1025_1017.out
      have hnc25 := NB1017_1025.out
      obtain ⟨hcz26_0, hfz26_0⟩ := Zy (v := (.string (⟨#[]⟩ : ByteArray))) BK1025.out 0
      obtain ⟨hcz26_1, hfz26_1⟩ := Zy (v := (.int .i64 0)) BK1025.out 1
      obtain ⟨hcz26_2, hfz26_2⟩ := Zy (v := (.int .i64 0)) BK1025.out 2
      obtain ⟨hcz26_3, hfz26_3⟩ := Zy (v := (.int .i64 0)) BK1025.out 3
      obtain ⟨hcz26_4, hfz26_4⟩ := Zy (v := (.int .i64 0)) BK1025.out 4
      obtain ⟨hcz26_5, hfz26_5⟩ := Zy (v := (.int .i64 0)) BK1025.out 5
      have hnb27 := NB1017_1008.out
      have hnc27 := NB1008_1017.out
      obtain ⟨hcz28_0, hfz28_0⟩ := Zy (v := (.string t1011)) BK1017.out 0
      obtain ⟨hcz28_1, hfz28_1⟩ := Zy (v := (.string t1012)) BK1017.out 1
      obtain ⟨hcz28_2, hfz28_2⟩ := Zy (v := (.int .i64 t1013)) BK1017.out 2
      obtain ⟨hcz28_3, hfz28_3⟩ := Zy (v := (.int .i64 t1014)) BK1017.out 3
      obtain ⟨hcz28_4, hfz28_4⟩ := Zy (v := (.int .i64 t1015)) BK1017.out 4
      go_wp2
      go_meet
      case rel => exact ⟨_, ((t1015 == 0)), (Zs), H', ⟨by first | omega | exact Nat.le_refl _⟩, ⟨Zg6 BK1008.out NB1008_1025.out NB1008_1025.out NB1008_1025.out NB1008_1025.out NB1008_1025.out NB1008_1025.out⟩, ⟨Zg6 BK1017.out NB1017_1025.out NB1017_1025.out NB1017_1025.out NB1017_1025.out NB1017_1025.out NB1017_1025.out⟩, ⟨Zp2 BK1025.out⟩, ⟨Zc3 GE1008.out GE1017.out GE1025.out⟩⟩
     rw [if_neg c23] at H
     have c23b0 : (t1023 == 1000) = F := beq_eq_false_iff_ne.mpr c23
     have c23b1 : (t1023 != 1000) = T := bne_iff_ne.mpr c23
     have H' := Aside0.mk H
     clear H
     have hnb29 := NB1025_1008.out
     have hnc29 := NB1008_1025.out
     have hnb30 := NB1025_1017.out
     have hnc30 := NB1017_1025.out
     obtain ⟨hcz31_0, hfz31_0⟩ := Zy (v := (.string (⟨#[]⟩ : ByteArray))) BK1025.out 0
     obtain ⟨hcz31_1, hfz31_1⟩ := Zy (v := (.int .i64 0)) BK1025.out 1
     obtain ⟨hcz31_2, hfz31_2⟩ := Zy (v := (.int .i64 0)) BK1025.out 2
     obtain ⟨hcz31_3, hfz31_3⟩ := Zy (v := (.int .i64 0)) BK1025.out 3
     obtain ⟨hcz31_4, hfz31_4⟩ := Zy (v := (.int .i64 0)) BK1025.out 4
     obtain ⟨hcz31_5, hfz31_5⟩ := Zy (v := (.int .i64 0)) BK1025.out 5
     go_wp2
     go_meet
     case rel => exact ⟨_, (T), (Zs), H', ⟨by first | omega | exact Nat.le_refl _⟩, ⟨Zg6 BK1008.out NB1008_1025.out NB1008_1025.out NB1008_1025.out NB1008_1025.out NB1008_1025.out NB1008_1025.out⟩, ⟨Zg6 BK1017.out NB1017_1025.out NB1017_1025.out NB1017_1025.out NB1017_1025.out NB1017_1025.out NB1017_1025.out⟩, ⟨Zp2 BK1025.out⟩, ⟨Zc3 GE1008.out GE1017.out GE1025.out⟩⟩
    replace c22 := Bool.eq_false_iff.mpr c22
    subst c22
    have H1 : (contangotop_TopCoverCloses.j0 k T a0_0 a0_1 a0_2 a0_3 a0_4 a0_5 a0_6 a0_7 a0_8 l0_9 l0_10 l0_11 a0_12 t1011 t1012 t1013 t1014 t1015 t1018 t1019 t1020 t1021 t1022 t1023) = some r := by rw [if_neg (show ¬ (F = T) by decide)] at H; exact H
    clear H
    have H := H1
    clear H1
    have H' := Aside0.mk H
    clear H
    go_wp2
    go_meet
    case rel => exact ⟨_, (T), (Zs), H', ⟨by first | omega | exact Nat.le_refl _⟩, ⟨Zg6 BK1008.out NB1008_1025.out NB1008_1025.out NB1008_1025.out NB1008_1025.out NB1008_1025.out NB1008_1025.out⟩, ⟨Zg6 BK1017.out NB1017_1025.out NB1017_1025.out NB1017_1025.out NB1017_1025.out NB1017_1025.out NB1017_1025.out⟩, ⟨Zp2 BK1025.out⟩, ⟨Zc3 GE1008.out GE1017.out GE1025.out⟩⟩
   replace c21 := Bool.eq_false_iff.mpr c21
   subst c21
   have H1 : (contangotop_TopCoverCloses.j0 k T a0_0 a0_1 a0_2 a0_3 a0_4 a0_5 a0_6 a0_7 a0_8 l0_9 l0_10 l0_11 a0_12 t1011 t1012 t1013 t1014 t1015 t1018 t1019 t1020 t1021 t1022 t1023) = some r := by rw [if_neg (show ¬ (F = T) by decide)] at H; exact H
   clear H
   have H := H1
   clear H1
   have H' := Aside0.mk H
   clear H
   go_wp2
   go_meet
   case rel => exact ⟨_, (T), (Zs), H', ⟨by first | omega | exact Nat.le_refl _⟩, ⟨Zg6 BK1008.out NB1008_1025.out NB1008_1025.out NB1008_1025.out NB1008_1025.out NB1008_1025.out NB1008_1025.out⟩, ⟨Zg6 BK1017.out NB1017_1025.out NB1017_1025.out NB1017_1025.out NB1017_1025.out NB1017_1025.out NB1017_1025.out⟩, ⟨Zp2 BK1025.out⟩, ⟨Zc3 GE1008.out GE1017.out GE1025.out⟩⟩
  case rest =>
   clear HC9
   try clear c1
   try clear c2
   try clear p2
   try clear c3
   try clear c4
   try clear c6
   try clear c13
   try clear c14
   try clear c18
   try clear c19
   try clear c21
   try clear c22
   try clear c23
   try clear c23b0
   try clear c23b1
   try clear c24
   try clear c25
   try clear c27
   try clear c29
   try clear c30
   try clear hcz10_0
   try clear hcz10_1
   try clear hcz10_10
   try clear hcz10_11
   try clear hcz10_12
   try clear hcz10_2
   try clear hcz10_3
   try clear hcz10_4
   try clear hcz10_5
   try clear hcz10_6
   try clear hcz10_7
   try clear hcz10_8
   try clear hcz10_9
   try clear hcz14_0
   try clear hcz14_1
   try clear hcz14_2
   try clear hcz14_3
   try clear hcz14_4
   try clear hcz15_0
   try clear hcz15_1
   try clear hcz15_10
   try clear hcz15_11
   try clear hcz15_12
   try clear hcz15_2
   try clear hcz15_3
   try clear hcz15_4
   try clear hcz15_5
   try clear hcz15_6
   try clear hcz15_7
   try clear hcz15_8
   try clear hcz15_9
   try clear hcz20_0
   try clear hcz20_1
   try clear hcz20_2
   try clear hcz20_3
   try clear hcz20_4
   try clear hcz20_5
   try clear hcz26_0
   try clear hcz26_1
   try clear hcz26_2
   try clear hcz26_3
   try clear hcz26_4
   try clear hcz26_5
   try clear hcz28_0
   try clear hcz28_1
   try clear hcz28_2
   try clear hcz28_3
   try clear hcz28_4
   try clear hcz31_0
   try clear hcz31_1
   try clear hcz31_2
   try clear hcz31_3
   try clear hcz31_4
   try clear hcz31_5
   try clear hcz4_0
   try clear hcz4_1
   try clear hcz4_10
   try clear hcz4_11
   try clear hcz4_12
   try clear hcz4_2
   try clear hcz4_3
   try clear hcz4_4
   try clear hcz4_5
   try clear hcz4_6
   try clear hcz4_7
   try clear hcz4_8
   try clear hcz4_9
   try clear hfz10_0
   try clear hfz10_1
   try clear hfz10_10
   try clear hfz10_11
   try clear hfz10_12
   try clear hfz10_2
   try clear hfz10_3
   try clear hfz10_4
   try clear hfz10_5
   try clear hfz10_6
   try clear hfz10_7
   try clear hfz10_8
   try clear hfz10_9
   try clear hfz14_0
   try clear hfz14_1
   try clear hfz14_2
   try clear hfz14_3
   try clear hfz14_4
   try clear hfz15_0
   try clear hfz15_1
   try clear hfz15_10
   try clear hfz15_11
   try clear hfz15_12
   try clear hfz15_2
   try clear hfz15_3
   try clear hfz15_4
   try clear hfz15_5
   try clear hfz15_6
   try clear hfz15_7
   try clear hfz15_8
   try clear hfz15_9
   try clear hfz20_0
   try clear hfz20_1
   try clear hfz20_2
   try clear hfz20_3
   try clear hfz20_4
   try clear hfz20_5
   try clear hfz26_0
   try clear hfz26_1
   try clear hfz26_2
   try clear hfz26_3
   try clear hfz26_4
   try clear hfz26_5
   try clear hfz28_0
   try clear hfz28_1
   try clear hfz28_2
   try clear hfz28_3
   try clear hfz28_4
   try clear hfz31_0
   try clear hfz31_1
   try clear hfz31_2
   try clear hfz31_3
   try clear hfz31_4
   try clear hfz31_5
   try clear hfz4_0
   try clear hfz4_1
   try clear hfz4_10
   try clear hfz4_11
   try clear hfz4_12
   try clear hfz4_2
   try clear hfz4_3
   try clear hfz4_4
   try clear hfz4_5
   try clear hfz4_6
   try clear hfz4_7
   try clear hfz4_8
   try clear hfz4_9
   obtain ⟨kq, x47_8, rfl, HA, HJ8, BK1008, BK1017, BK1025, HB⟩ := hcut
   cases kq with
   | zero => exact absurd HA.out (by simp [contangotop_TopCoverCloses.j0])
   | succ kj8 =>
    have H := HA.out
    clear HA
    simp only [contangotop_TopCoverCloses.j0] at H
    by_cases c32 : x47_8 = T
    ·subst c32
     have H1 : ((Qaz.f kj8).bind fun t1026 => (some t1026)) = some r := by rw [if_pos rfl] at H; exact H
     clear H
     have H := H1
     clear H1
     replace H := Option.bind_eq_some_iff.mp H
     obtain ⟨t1026, A330, H⟩ := H
     replace H : (some t1026) = some r := H
     have A33 := Aside0.mk A330
     clear A330
     obtain rfl := Option.some.inj H
     go_wp2_with (first | ((with_reducible refine Qax (f := 44) rfl ?_); refine goesL_ (some 48) rfl rfl Try.func44 (by kernel_rfl) rfl #[] rfl (Zl) ?_; (with_reducible refine (Qaz.calls kj8  t1026 _ A33.out).mono ?_); rintro e w34 ⟨rfl, hb⟩; refine ⟨_, rfl, ?_⟩; replace BK1008 := Aside0.mk (Zi BK1008.out hb); replace BK1017 := Aside0.mk (Zi BK1017.out hb); replace BK1025 := Aside0.mk (Zi BK1025.out hb); replace HB := Aside0.mk (Qao (Zc3 GE1008.out GE1017.out GE1025.out) hb); (try clear hb); (try clear hb2); (try clear hk); (try clear hi)))
     go_ret
     exact ⟨Zq, Zc3 GE1008.out GE1017.out GE1025.out⟩
    replace c32 := Bool.eq_false_iff.mpr c32
    subst c32
    have H1 : ((Qa1.f kj8 t1018 t1019 t1020 t1021 t1022 t1023 t1015 l0_11).bind fun bt1027 => (if bt1027.2 = 0 then ((Qbq.f kj8 l0_9 a0_0 a0_1 a0_12 bt1027.1).bind fun bt1029 => ((QaN.f kj8 a0_0 a0_1 a0_2 a0_3 a0_4 a0_5 a0_6 a0_7 a0_8 l0_9 l0_10 l0_11 a0_12 bt1029.1).bind fun bt1033 => (if bt1029.2 = 0 then (if bt1033.2.2.2.2.2 = T then (if bt1033.2.2.2.2.1 = 0 then (if bt1033.2.2.2.1 ≥ bt1033.2.2.1 then ((Qaz.f kj8).bind fun t1040 => (some t1040)) else (some F)) else (some F)) else ((Qaz.f kj8).bind fun t1041 => (some t1041))) else ((Qaz.f kj8).bind fun t1042 => (some t1042))))) else (if bt1027.1 = 0 then ((Qaz.f kj8).bind fun t1043 => (some t1043)) else (some F)))) = some r := by rw [if_neg (show ¬ (F = T) by decide)] at H; exact H
    clear H
    have H := H1
    clear H1
    replace H := Option.bind_eq_some_iff.mp H
    obtain ⟨⟨t1027, t1028⟩, A350, H⟩ := H
    replace H : (if t1028 = 0 then ((Qbq.f kj8 l0_9 a0_0 a0_1 a0_12 t1027).bind fun bt1029 => ((QaN.f kj8 a0_0 a0_1 a0_2 a0_3 a0_4 a0_5 a0_6 a0_7 a0_8 l0_9 l0_10 l0_11 a0_12 bt1029.1).bind fun bt1033 => (if bt1029.2 = 0 then (if bt1033.2.2.2.2.2 = T then (if bt1033.2.2.2.2.1 = 0 then (if bt1033.2.2.2.1 ≥ bt1033.2.2.1 then ((Qaz.f kj8).bind fun t1040 => (some t1040)) else (some F)) else (some F)) else ((Qaz.f kj8).bind fun t1041 => (some t1041))) else ((Qaz.f kj8).bind fun t1042 => (some t1042))))) else (if t1027 = 0 then ((Qaz.f kj8).bind fun t1043 => (some t1043)) else (some F))) = some r := H
    have A35 := Aside0.mk A350
    clear A350
    have hnb36 := NB1025_1008.out
    have hnc36 := NB1008_1025.out
    have hnb37 := NB1025_1017.out
    have hnc37 := NB1017_1025.out
    obtain ⟨hcz38_0, hfz38_0⟩ := Zy (v := (.string t1018)) BK1025.out 0
    obtain ⟨hcz38_1, hfz38_1⟩ := Zy (v := (.int .i64 t1019)) BK1025.out 1
    obtain ⟨hcz38_2, hfz38_2⟩ := Zy (v := (.int .i64 t1020)) BK1025.out 2
    obtain ⟨hcz38_3, hfz38_3⟩ := Zy (v := (.int .i64 t1021)) BK1025.out 3
    obtain ⟨hcz38_4, hfz38_4⟩ := Zy (v := (.int .i64 t1022)) BK1025.out 4
    obtain ⟨hcz38_5, hfz38_5⟩ := Zy (v := (.int .i64 t1023)) BK1025.out 5
    have hnb39 := NB1017_1008.out
    have hnc39 := NB1008_1017.out
    obtain ⟨hcz40_0, hfz40_0⟩ := Zy (v := (.string t1011)) BK1017.out 0
    obtain ⟨hcz40_1, hfz40_1⟩ := Zy (v := (.string t1012)) BK1017.out 1
    obtain ⟨hcz40_2, hfz40_2⟩ := Zy (v := (.int .i64 t1013)) BK1017.out 2
    obtain ⟨hcz40_3, hfz40_3⟩ := Zy (v := (.int .i64 t1014)) BK1017.out 3
    obtain ⟨hcz40_4, hfz40_4⟩ := Zy (v := (.int .i64 t1015)) BK1017.out 4
    obtain ⟨hcz41_0, hfz41_0⟩ := Zy (v := (.string a0_0)) BK1008.out 0
    obtain ⟨hcz41_1, hfz41_1⟩ := Zy (v := (.string a0_1)) BK1008.out 1
    obtain ⟨hcz41_2, hfz41_2⟩ := Zy (v := (.int .i64 a0_2)) BK1008.out 2
    obtain ⟨hcz41_3, hfz41_3⟩ := Zy (v := (.int .i64 a0_3)) BK1008.out 3
    obtain ⟨hcz41_4, hfz41_4⟩ := Zy (v := (.int .i64 a0_4)) BK1008.out 4
    obtain ⟨hcz41_5, hfz41_5⟩ := Zy (v := (.int .i64 a0_5)) BK1008.out 5
    obtain ⟨hcz41_6, hfz41_6⟩ := Zy (v := (.int .i64 a0_6)) BK1008.out 6
    obtain ⟨hcz41_7, hfz41_7⟩ := Zy (v := (.int .i64 a0_7)) BK1008.out 7
    obtain ⟨hcz41_8, hfz41_8⟩ := Zy (v := (.int .i64 a0_8)) BK1008.out 8
    obtain ⟨hcz41_9, hfz41_9⟩ := Zy (v := (.slice A0_9 l0_9.length c0_9)) BK1008.out 9
    obtain ⟨hcz41_10, hfz41_10⟩ := Zy (v := (.slice A0_10 l0_10.length c0_10)) BK1008.out 10
    obtain ⟨hcz41_11, hfz41_11⟩ := Zy (v := (.slice A0_11 l0_11.length c0_11)) BK1008.out 11
    obtain ⟨hcz41_12, hfz41_12⟩ := Zy (v := (.string a0_12)) BK1008.out 12
    go_upto_if 59 with (first | ((with_reducible refine Qax (f := 49) rfl ?_); refine goesL_ (some 55) rfl rfl Try.func49 (by kernel_rfl) rfl #[.agg #[.string t1018, .int .i64 t1019, .int .i64 t1020, .int .i64 t1021, .int .i64 t1022, .int .i64 t1023], .int .i64 t1015, .slice A0_11 l0_11.length c0_11] rfl (Zl) ?_; (with_reducible refine (Qa1.calls kj8 t1018 t1019 t1020 t1021 t1022 t1023 t1015 _ _ l0_11 t1027 t1028 _ ?side1 ?side2 A35.out).mono ?_); (case side1 => exact Zv (Kd.C_below HR0_11.out HB.out)); (case side2 => exact HC0_11.out); rintro e w42 ⟨rfl, hb⟩; refine ⟨_, rfl, ?_⟩; replace BK1008 := Aside0.mk (Zi BK1008.out hb); replace BK1017 := Aside0.mk (Zi BK1017.out hb); replace BK1025 := Aside0.mk (Zi BK1025.out hb); replace HB := Aside0.mk (Qao (Zc3 GE1008.out GE1017.out GE1025.out) hb); (try clear hb); (try clear hb2); (try clear hk); (try clear hi)))
    (try simp only [Act.put, Zj, Zk, Zm])
    by_cases c43 : t1028 = 0
    ·rw [if_pos c43] at H
     have c43b0 : (t1028 == 0) = T := beq_iff_eq.mpr c43
     have c43b1 : (t1028 != 0) = F := bne_eq_false_iff_eq.mpr c43
     clear c43
     (try simp only [c43b0, c43b1])
     replace H := Option.bind_eq_some_iff.mp H
     obtain ⟨⟨t1029, t1032⟩, A440, H⟩ := H
     replace H : ((QaN.f kj8 a0_0 a0_1 a0_2 a0_3 a0_4 a0_5 a0_6 a0_7 a0_8 l0_9 l0_10 l0_11 a0_12 t1029).bind fun bt1033 => (if t1032 = 0 then (if bt1033.2.2.2.2.2 = T then (if bt1033.2.2.2.2.1 = 0 then (if bt1033.2.2.2.1 ≥ bt1033.2.2.1 then ((Qaz.f kj8).bind fun t1040 => (some t1040)) else (some F)) else (some F)) else ((Qaz.f kj8).bind fun t1041 => (some t1041))) else ((Qaz.f kj8).bind fun t1042 => (some t1042)))) = some r := H
     have A44 := Aside0.mk A440
     clear A440
     replace H := Option.bind_eq_some_iff.mp H
     obtain ⟨⟨t1033, t1034, t1035, t1036, t1037, t1038⟩, A450, H⟩ := H
     replace H : (if t1032 = 0 then (if t1038 = T then (if t1037 = 0 then (if t1036 ≥ t1035 then ((Qaz.f kj8).bind fun t1040 => (some t1040)) else (some F)) else (some F)) else ((Qaz.f kj8).bind fun t1041 => (some t1041))) else ((Qaz.f kj8).bind fun t1042 => (some t1042))) = some r := H
     have A45 := Aside0.mk A450
     clear A450
     have hnb46 := NB1008_1017.out
     have hnc46 := NB1017_1008.out
     have hnb47 := NB1008_1025.out
     have hnc47 := NB1025_1008.out
     obtain ⟨hcz48_0, hfz48_0⟩ := Zy (v := (.string a0_0)) BK1008.out 0
     obtain ⟨hcz48_1, hfz48_1⟩ := Zy (v := (.string a0_1)) BK1008.out 1
     obtain ⟨hcz48_2, hfz48_2⟩ := Zy (v := (.int .i64 a0_2)) BK1008.out 2
     obtain ⟨hcz48_3, hfz48_3⟩ := Zy (v := (.int .i64 a0_3)) BK1008.out 3
     obtain ⟨hcz48_4, hfz48_4⟩ := Zy (v := (.int .i64 a0_4)) BK1008.out 4
     obtain ⟨hcz48_5, hfz48_5⟩ := Zy (v := (.int .i64 a0_5)) BK1008.out 5
     obtain ⟨hcz48_6, hfz48_6⟩ := Zy (v := (.int .i64 a0_6)) BK1008.out 6
     obtain ⟨hcz48_7, hfz48_7⟩ := Zy (v := (.int .i64 a0_7)) BK1008.out 7
     obtain ⟨hcz48_8, hfz48_8⟩ := Zy (v := (.int .i64 a0_8)) BK1008.out 8
     obtain ⟨hcz48_9, hfz48_9⟩ := Zy (v := (.slice A0_9 l0_9.length c0_9)) BK1008.out 9
     obtain ⟨hcz48_10, hfz48_10⟩ := Zy (v := (.slice A0_10 l0_10.length c0_10)) BK1008.out 10
     obtain ⟨hcz48_11, hfz48_11⟩ := Zy (v := (.slice A0_11 l0_11.length c0_11)) BK1008.out 11
     obtain ⟨hcz48_12, hfz48_12⟩ := Zy (v := (.string a0_12)) BK1008.out 12
     go_upto_region 12 with (first | ((with_reducible refine Qax (f := 50) rfl ?_); refine goesL_ (some 74) rfl rfl Try.func50 (by kernel_rfl) rfl #[.slice A0_9 l0_9.length c0_9, .agg #[.string a0_0, .string a0_1], .string a0_12, .int .i64 t1027] rfl (Zl) ?_; (with_reducible refine (Qbq.calls kj8 _ _ l0_9 a0_0 a0_1 a0_12 t1027 t1029 t1032 _ ?side1 ?side2 A44.out).mono ?_); (case side1 => exact Zv (Kd.C_below HR0_9.out HB.out)); (case side2 => exact HC0_9.out); rintro e w49 ⟨v1030, rfl, ho0, hb⟩; refine ⟨_, rfl, ?_⟩; have HO1031 := Aside0.mk (Kd.R_lower ho0 (Qan (Zc3 GE1008.out GE1017.out GE1025.out))); replace BK1008 := Aside0.mk (Zi BK1008.out hb); replace BK1017 := Aside0.mk (Zi BK1017.out hb); replace BK1025 := Aside0.mk (Zi BK1025.out hb); replace HB := Aside0.mk (Qao (Zc3 GE1008.out GE1017.out GE1025.out) hb); (try clear hb); (try clear hb2); (try clear hk); (try clear hi); (try clear ho0); obtain ⟨hcz50_0, hfz50_0⟩ := Zy (v := (.string a0_0)) BK1008.out 0; obtain ⟨hcz50_1, hfz50_1⟩ := Zy (v := (.string a0_1)) BK1008.out 1; obtain ⟨hcz50_2, hfz50_2⟩ := Zy (v := (.int .i64 a0_2)) BK1008.out 2; obtain ⟨hcz50_3, hfz50_3⟩ := Zy (v := (.int .i64 a0_3)) BK1008.out 3; obtain ⟨hcz50_4, hfz50_4⟩ := Zy (v := (.int .i64 a0_4)) BK1008.out 4; obtain ⟨hcz50_5, hfz50_5⟩ := Zy (v := (.int .i64 a0_5)) BK1008.out 5; obtain ⟨hcz50_6, hfz50_6⟩ := Zy (v := (.int .i64 a0_6)) BK1008.out 6; obtain ⟨hcz50_7, hfz50_7⟩ := Zy (v := (.int .i64 a0_7)) BK1008.out 7; obtain ⟨hcz50_8, hfz50_8⟩ := Zy (v := (.int .i64 a0_8)) BK1008.out 8; obtain ⟨hcz50_9, hfz50_9⟩ := Zy (v := (.slice A0_9 l0_9.length c0_9)) BK1008.out 9; obtain ⟨hcz50_10, hfz50_10⟩ := Zy (v := (.slice A0_10 l0_10.length c0_10)) BK1008.out 10; obtain ⟨hcz50_11, hfz50_11⟩ := Zy (v := (.slice A0_11 l0_11.length c0_11)) BK1008.out 11; obtain ⟨hcz50_12, hfz50_12⟩ := Zy (v := (.string a0_12)) BK1008.out 12; obtain ⟨Ao51, co51, eo51⟩ := Kd.R_slice HO1031.out; subst eo51) | ((with_reducible refine Qax (f := 45) rfl ?_); refine goesL_ (some 80) rfl rfl Try.func45 (by kernel_rfl) rfl #[.agg #[.string a0_0, .string a0_1, .int .i64 a0_2, .int .i64 a0_3, .int .i64 a0_4, .int .i64 a0_5, .int .i64 a0_6, .int .i64 a0_7, .int .i64 a0_8, .slice A0_9 l0_9.length c0_9, .slice A0_10 l0_10.length c0_10, .slice A0_11 l0_11.length c0_11, .string a0_12], .slice Ao51 t1029.length co51] rfl (Zl) ?_; (with_reducible refine (QaN.calls kj8 a0_0 a0_1 a0_2 a0_3 a0_4 a0_5 a0_6 a0_7 a0_8 _ _ l0_9 _ _ l0_10 _ _ l0_11 a0_12 _ _ t1029 t1033 t1034 t1035 t1036 t1037 t1038 _ ?side1 ?side2 ?side3 ?side4 ?side5 ?side6 ?side7 ?side8 A45.out).mono ?_); (case side1 => exact Zv (Kd.C_below HR0_9.out HB.out)); (case side2 => exact HC0_9.out); (case side3 => exact Zv (Kd.C_below HR0_10.out HB.out)); (case side4 => exact HC0_10.out); (case side5 => exact Zv (Kd.C_below HR0_11.out HB.out)); (case side6 => exact HC0_11.out); (case side7 => exact Zv (Kd.R_reads' HO1031.out).2.2); (case side8 => exact (Kd.R_reads' HO1031.out).2.1); rintro e w52 ⟨rfl, hb⟩; refine ⟨_, rfl, ?_⟩; replace HO1031 := Aside0.mk (Kd.R_below (Zr HO1031.out) hb); replace BK1008 := Aside0.mk (Zi BK1008.out hb); replace BK1017 := Aside0.mk (Zi BK1017.out hb); replace BK1025 := Aside0.mk (Zi BK1025.out hb); replace HB := Aside0.mk (Qao (Zc3 GE1008.out GE1017.out GE1025.out) hb); (try clear hb); (try clear hb2); (try clear hk); (try clear hi)) | ((with_reducible refine QaD (N := 11) rfl ?_); refine Zbx (N := 11) (cs := #[.string (⟨#[]⟩ : ByteArray), .string (⟨#[]⟩ : ByteArray), .int .i64 0, .int .i64 0, .int .i64 0]) (t := 50) ?_; intro gb1039 hg w53 hbox hb; have BK1039 := Aside0.mk (hbox); have GW1039 := Aside0.mk (Zt w hg (Zc3 GE1008.out GE1017.out GE1025.out)); have GE1039 := GW1039; have NB1008_1039 := Aside0.mk (Zn hg BK1008.out); have NB1039_1008 := Aside0.mk NB1008_1039.out.symm; have NB1017_1039 := Aside0.mk (Zn hg BK1017.out); have NB1039_1017 := Aside0.mk NB1017_1039.out.symm; have NB1025_1039 := Aside0.mk (Zn hg BK1025.out); have NB1039_1025 := Aside0.mk NB1025_1039.out.symm; replace HO1031 := Aside0.mk (Kd.R_below (Zr HO1031.out) hb); replace BK1008 := Aside0.mk (Zi BK1008.out hb); replace BK1017 := Aside0.mk (Zi BK1017.out hb); replace BK1025 := Aside0.mk (Zi BK1025.out hb); replace HB := Aside0.mk (Qao (Zc3 GE1008.out GE1017.out GE1025.out) hb); clear hb hbox hg; have hnb54 := NB1039_1008.out; have hnc54 := NB1008_1039.out; have hnb55 := NB1039_1017.out; have hnc55 := NB1017_1039.out; have hnb56 := NB1039_1025.out; have hnc56 := NB1025_1039.out; obtain ⟨hcz57_0, hfz57_0⟩ := Zy (v := (.string (⟨#[]⟩ : ByteArray))) BK1039.out 0; obtain ⟨hcz57_1, hfz57_1⟩ := Zy (v := (.string (⟨#[]⟩ : ByteArray))) BK1039.out 1; obtain ⟨hcz57_2, hfz57_2⟩ := Zy (v := (.int .i64 0)) BK1039.out 2; obtain ⟨hcz57_3, hfz57_3⟩ := Zy (v := (.int .i64 0)) BK1039.out 3; obtain ⟨hcz57_4, hfz57_4⟩ := Zy (v := (.int .i64 0)) BK1039.out 4))
     (try simp only [Act.put, Zj, Zk, Zm])
     by_cases c58 : t1032 = 0
     ·rw [if_pos c58] at H
      have c58b0 : (t1032 == 0) = T := beq_iff_eq.mpr c58
      have c58b1 : (t1032 != 0) = F := bne_eq_false_iff_eq.mpr c58
      clear c58
      (try simp only [c58b0, c58b1])
      by_cases c59 : t1038 = T
      ·subst c59
       have H1 : (if t1037 = 0 then (if t1036 ≥ t1035 then ((Qaz.f kj8).bind fun t1040 => (some t1040)) else (some F)) else (some F)) = some r := by rw [if_pos rfl] at H; exact H
       clear H
       have H := H1
       clear H1
       by_cases c60 : t1037 = 0
       ·rw [if_pos c60] at H
        have c60b0 : (t1037 == 0) = T := beq_iff_eq.mpr c60
        have c60b1 : (t1037 != 0) = F := bne_eq_false_iff_eq.mpr c60
        clear c60
        by_cases c61 : t1036 ≥ t1035
        ·rw [if_pos c61] at H
         have c61b0 : decide (t1035 ≤ t1036) = T := decide_eq_true c61
         clear c61
         replace H := Option.bind_eq_some_iff.mp H
         obtain ⟨t1040, A620, H⟩ := H
         replace H : (some t1040) = some r := H
         have A62 := Aside0.mk A620
         clear A620
         obtain rfl := Option.some.inj H
         have hnb63 := NB1039_1008.out
         have hnc63 := NB1008_1039.out
         have hnb64 := NB1039_1017.out
         have hnc64 := NB1017_1039.out
         have hnb65 := NB1039_1025.out
         have hnc65 := NB1025_1039.out
         obtain ⟨hcz66_0, hfz66_0⟩ := Zy (v := (.string (⟨#[]⟩ : ByteArray))) BK1039.out 0
         obtain ⟨hcz66_1, hfz66_1⟩ := Zy (v := (.string (⟨#[]⟩ : ByteArray))) BK1039.out 1
         obtain ⟨hcz66_2, hfz66_2⟩ := Zy (v := (.int .i64 0)) BK1039.out 2
         obtain ⟨hcz66_3, hfz66_3⟩ := Zy (v := (.int .i64 0)) BK1039.out 3
         obtain ⟨hcz66_4, hfz66_4⟩ := Zy (v := (.int .i64 0)) BK1039.out 4
         go_wp2_with (first | (go_at_call 44; (with_reducible refine (Qaz.calls kj8  t1040 _ A62.out).mono ?_); rintro e w67 ⟨rfl, hb⟩; replace HO1031 := Aside0.mk (Kd.R_below (by (with_reducible repeat (first | apply Kd.R_alloc | apply Kd.R_drewN | apply Kd.R_drew)); exact (Kd.R_mono (Zf gb1039 4 (Zf gb1039 3 (Zf gb1039 2 (Zf gb1039 1 (Zf gb1039 0 (Kd.R_types HO1031.out BK1039.out (by decide)) (.string t1033)) (.string t1034)) (.int .i64 t1035)) (.int .i64 t1036)) (.int .i64 t1037)) (fun _ h_ => h_.1))) hb); replace BK1008 := Aside0.mk (Qaj (g := gb1008) (o := .cells #[.string a0_0, .string a0_1, .int .i64 a0_2, .int .i64 a0_3, .int .i64 a0_4, .int .i64 a0_5, .int .i64 a0_6, .int .i64 a0_7, .int .i64 a0_8, .slice A0_9 l0_9.length c0_9, .slice A0_10 l0_10.length c0_10, .slice A0_11 l0_11.length c0_11, .string a0_12] 89 (0, 0)) (Zg5 BK1008.out NB1008_1039.out NB1008_1039.out NB1008_1039.out NB1008_1039.out NB1008_1039.out) hb); replace BK1017 := Aside0.mk (Qaj (g := gb1017) (o := .cells #[.string t1011, .string t1012, .int .i64 t1013, .int .i64 t1014, .int .i64 t1015] 50 (0, 0)) (Zg5 BK1017.out NB1017_1039.out NB1017_1039.out NB1017_1039.out NB1017_1039.out NB1017_1039.out) hb); replace BK1025 := Aside0.mk (Qaj (g := gb1025) (o := .cells #[.string t1018, .int .i64 t1019, .int .i64 t1020, .int .i64 t1021, .int .i64 t1022, .int .i64 t1023] 84 (0, 0)) (Zg5 BK1025.out NB1025_1039.out NB1025_1039.out NB1025_1039.out NB1025_1039.out NB1025_1039.out) hb); replace BK1039 := Aside0.mk (Zpi #[.string t1033, .string t1034, .int .i64 t1035, .int .i64 t1036, .int .i64 t1037] BK1039.out hb); replace HB := Aside0.mk (Qao (Zc4 GE1008.out GE1017.out GE1025.out GE1039.out) hb); (try clear hb); (try clear hb2); (try clear hk); (try clear hi)))
         go_ret
         exact ⟨Zq, Zc4 GE1008.out GE1017.out GE1025.out GE1039.out⟩
        rw [if_neg c61] at H
        have c61b0 : decide (t1035 ≤ t1036) = F := decide_eq_false c61
        clear c61
        obtain rfl := Option.some.inj H
        have hnb68 := NB1039_1008.out
        have hnc68 := NB1008_1039.out
        have hnb69 := NB1039_1017.out
        have hnc69 := NB1017_1039.out
        have hnb70 := NB1039_1025.out
        have hnc70 := NB1025_1039.out
        obtain ⟨hcz71_0, hfz71_0⟩ := Zy (v := (.string (⟨#[]⟩ : ByteArray))) BK1039.out 0
        obtain ⟨hcz71_1, hfz71_1⟩ := Zy (v := (.string (⟨#[]⟩ : ByteArray))) BK1039.out 1
        obtain ⟨hcz71_2, hfz71_2⟩ := Zy (v := (.int .i64 0)) BK1039.out 2
        obtain ⟨hcz71_3, hfz71_3⟩ := Zy (v := (.int .i64 0)) BK1039.out 3
        obtain ⟨hcz71_4, hfz71_4⟩ := Zy (v := (.int .i64 0)) BK1039.out 4
        go_wp2
        go_ret
        exact ⟨Zq, Zc4 GE1008.out GE1017.out GE1025.out GE1039.out⟩
       rw [if_neg c60] at H
       have c60b0 : (t1037 == 0) = F := beq_eq_false_iff_ne.mpr c60
       have c60b1 : (t1037 != 0) = T := bne_iff_ne.mpr c60
       obtain rfl := Option.some.inj H
       have hnb72 := NB1039_1008.out
       have hnc72 := NB1008_1039.out
       have hnb73 := NB1039_1017.out
       have hnc73 := NB1017_1039.out
       have hnb74 := NB1039_1025.out
       have hnc74 := NB1025_1039.out
       obtain ⟨hcz75_0, hfz75_0⟩ := Zy (v := (.string (⟨#[]⟩ : ByteArray))) BK1039.out 0
       obtain ⟨hcz75_1, hfz75_1⟩ := Zy (v := (.string (⟨#[]⟩ : ByteArray))) BK1039.out 1
       obtain ⟨hcz75_2, hfz75_2⟩ := Zy (v := (.int .i64 0)) BK1039.out 2
       obtain ⟨hcz75_3, hfz75_3⟩ := Zy (v := (.int .i64 0)) BK1039.out 3
       obtain ⟨hcz75_4, hfz75_4⟩ := Zy (v := (.int .i64 0)) BK1039.out 4
       go_wp2
       go_ret
       exact ⟨Zq, Zc4 GE1008.out GE1017.out GE1025.out GE1039.out⟩
      replace c59 := Bool.eq_false_iff.mpr c59
      subst c59
      have H1 : ((Qaz.f kj8).bind fun t1041 => (some t1041)) = some r := by rw [if_neg (show ¬ (F = T) by decide)] at H; exact H
      clear H
      have H := H1
      clear H1
      replace H := Option.bind_eq_some_iff.mp H
      obtain ⟨t1041, A760, H⟩ := H
      replace H : (some t1041) = some r := H
      have A76 := Aside0.mk A760
      clear A760
      obtain rfl := Option.some.inj H
      go_wp2_with (first | (go_at_call 44; (with_reducible refine (Qaz.calls kj8  t1041 _ A76.out).mono ?_); rintro e w77 ⟨rfl, hb⟩; replace HO1031 := Aside0.mk (Kd.R_below (by (with_reducible repeat (first | apply Kd.R_alloc | apply Kd.R_drewN | apply Kd.R_drew)); exact (Kd.R_mono (Zf gb1039 4 (Zf gb1039 3 (Zf gb1039 2 (Zf gb1039 1 (Zf gb1039 0 (Kd.R_types HO1031.out BK1039.out (by decide)) (.string t1033)) (.string t1034)) (.int .i64 t1035)) (.int .i64 t1036)) (.int .i64 t1037)) (fun _ h_ => h_.1))) hb); replace BK1008 := Aside0.mk (Qaj (g := gb1008) (o := .cells #[.string a0_0, .string a0_1, .int .i64 a0_2, .int .i64 a0_3, .int .i64 a0_4, .int .i64 a0_5, .int .i64 a0_6, .int .i64 a0_7, .int .i64 a0_8, .slice A0_9 l0_9.length c0_9, .slice A0_10 l0_10.length c0_10, .slice A0_11 l0_11.length c0_11, .string a0_12] 89 (0, 0)) (Zg5 BK1008.out NB1008_1039.out NB1008_1039.out NB1008_1039.out NB1008_1039.out NB1008_1039.out) hb); replace BK1017 := Aside0.mk (Qaj (g := gb1017) (o := .cells #[.string t1011, .string t1012, .int .i64 t1013, .int .i64 t1014, .int .i64 t1015] 50 (0, 0)) (Zg5 BK1017.out NB1017_1039.out NB1017_1039.out NB1017_1039.out NB1017_1039.out NB1017_1039.out) hb); replace BK1025 := Aside0.mk (Qaj (g := gb1025) (o := .cells #[.string t1018, .int .i64 t1019, .int .i64 t1020, .int .i64 t1021, .int .i64 t1022, .int .i64 t1023] 84 (0, 0)) (Zg5 BK1025.out NB1025_1039.out NB1025_1039.out NB1025_1039.out NB1025_1039.out NB1025_1039.out) hb); replace BK1039 := Aside0.mk (Zpi #[.string t1033, .string t1034, .int .i64 t1035, .int .i64 t1036, .int .i64 t1037] BK1039.out hb); replace HB := Aside0.mk (Qao (Zc4 GE1008.out GE1017.out GE1025.out GE1039.out) hb); (try clear hb); (try clear hb2); (try clear hk); (try clear hi)))
      go_ret
      exact ⟨Zq, Zc4 GE1008.out GE1017.out GE1025.out GE1039.out⟩
     rw [if_neg c58] at H
     have c58b0 : (t1032 == 0) = F := beq_eq_false_iff_ne.mpr c58
     have c58b1 : (t1032 != 0) = T := bne_iff_ne.mpr c58
     (try simp only [c58b0, c58b1])
     replace H := Option.bind_eq_some_iff.mp H
     obtain ⟨t1042, A780, H⟩ := H
     replace H : (some t1042) = some r := H
     have A78 := Aside0.mk A780
     clear A780
     obtain rfl := Option.some.inj H
     go_wp2_with (first | (go_at_call 44; (with_reducible refine (Qaz.calls kj8  t1042 _ A78.out).mono ?_); rintro e w79 ⟨rfl, hb⟩; replace HO1031 := Aside0.mk (Kd.R_below (by (with_reducible repeat (first | apply Kd.R_alloc | apply Kd.R_drewN | apply Kd.R_drew)); exact (Kd.R_mono (Zf gb1039 4 (Zf gb1039 3 (Zf gb1039 2 (Zf gb1039 1 (Zf gb1039 0 (Kd.R_types HO1031.out BK1039.out (by decide)) (.string t1033)) (.string t1034)) (.int .i64 t1035)) (.int .i64 t1036)) (.int .i64 t1037)) (fun _ h_ => h_.1))) hb); replace BK1008 := Aside0.mk (Qaj (g := gb1008) (o := .cells #[.string a0_0, .string a0_1, .int .i64 a0_2, .int .i64 a0_3, .int .i64 a0_4, .int .i64 a0_5, .int .i64 a0_6, .int .i64 a0_7, .int .i64 a0_8, .slice A0_9 l0_9.length c0_9, .slice A0_10 l0_10.length c0_10, .slice A0_11 l0_11.length c0_11, .string a0_12] 89 (0, 0)) (Zg5 BK1008.out NB1008_1039.out NB1008_1039.out NB1008_1039.out NB1008_1039.out NB1008_1039.out) hb); replace BK1017 := Aside0.mk (Qaj (g := gb1017) (o := .cells #[.string t1011, .string t1012, .int .i64 t1013, .int .i64 t1014, .int .i64 t1015] 50 (0, 0)) (Zg5 BK1017.out NB1017_1039.out NB1017_1039.out NB1017_1039.out NB1017_1039.out NB1017_1039.out) hb); replace BK1025 := Aside0.mk (Qaj (g := gb1025) (o := .cells #[.string t1018, .int .i64 t1019, .int .i64 t1020, .int .i64 t1021, .int .i64 t1022, .int .i64 t1023] 84 (0, 0)) (Zg5 BK1025.out NB1025_1039.out NB1025_1039.out NB1025_1039.out NB1025_1039.out NB1025_1039.out) hb); replace BK1039 := Aside0.mk (Zpi #[.string t1033, .string t1034, .int .i64 t1035, .int .i64 t1036, .int .i64 t1037] BK1039.out hb); replace HB := Aside0.mk (Qao (Zc4 GE1008.out GE1017.out GE1025.out GE1039.out) hb); (try clear hb); (try clear hb2); (try clear hk); (try clear hi)))
     go_ret
     exact ⟨Zq, Zc4 GE1008.out GE1017.out GE1025.out GE1039.out⟩
    rw [if_neg c43] at H
    have c43b0 : (t1028 == 0) = F := beq_eq_false_iff_ne.mpr c43
    have c43b1 : (t1028 != 0) = T := bne_iff_ne.mpr c43
    (try simp only [c43b0, c43b1])
    by_cases c80 : t1027 = 0
    ·rw [if_pos c80] at H
     have c80b0 : (t1027 == 0) = T := beq_iff_eq.mpr c80
     have c80b1 : (t1027 != 0) = F := bne_eq_false_iff_eq.mpr c80
     clear c80
     replace H := Option.bind_eq_some_iff.mp H
     obtain ⟨t1043, A810, H⟩ := H
     replace H : (some t1043) = some r := H
     have A81 := Aside0.mk A810
     clear A810
     obtain rfl := Option.some.inj H
     go_wp2_with (first | (go_at_call 44; (with_reducible refine (Qaz.calls kj8  t1043 _ A81.out).mono ?_); rintro e w82 ⟨rfl, hb⟩; replace BK1008 := Aside0.mk (Zi BK1008.out hb); replace BK1017 := Aside0.mk (Zi BK1017.out hb); replace BK1025 := Aside0.mk (Zi BK1025.out hb); replace HB := Aside0.mk (Qao (Zc3 GE1008.out GE1017.out GE1025.out) hb); (try clear hb); (try clear hb2); (try clear hk); (try clear hi)))
     go_ret
     exact ⟨Zq, Zc3 GE1008.out GE1017.out GE1025.out⟩
    rw [if_neg c80] at H
    have c80b0 : (t1027 == 0) = F := beq_eq_false_iff_ne.mpr c80
    have c80b1 : (t1027 != 0) = T := bne_iff_ne.mpr c80
    obtain rfl := Option.some.inj H
    go_wp2
    go_ret
    exact ⟨Zq, Zc3 GE1008.out GE1017.out GE1025.out⟩
 replace c6 := Bool.eq_false_iff.mpr c6
 subst c6
 have H1 : ((Qaz.f k).bind fun t1010 => (some t1010)) = some r := by rw [if_neg (show ¬ (F = T) by decide)] at H; exact H
 clear H
 have H := H1
 clear H1
 replace H := Option.bind_eq_some_iff.mp H
 obtain ⟨t1010, A830, H⟩ := H
 replace H : (some t1010) = some r := H
 have A83 := Aside0.mk A830
 clear A830
 obtain rfl := Option.some.inj H
 go_wp2_with (first | ((with_reducible refine Qax (f := 44) rfl ?_); refine goesL_ (some 16) rfl rfl Try.func44 (by kernel_rfl) rfl #[] rfl (Zl) ?_; (with_reducible refine (Qaz.calls k  t1010 _ A83.out).mono ?_); rintro e w84 ⟨rfl, hb⟩; refine ⟨_, rfl, ?_⟩; replace BK1008 := Aside0.mk (Zi BK1008.out hb); replace HB := Aside0.mk (Qao (Zc1 GE1008.out) hb); (try clear hb); (try clear hb2); (try clear hk); (try clear hi)))
 go_ret
 exact ⟨Zq, Zc1 GE1008.out⟩
end Go.Proofs.Ytfcaaefdmabkhaa.Pr
