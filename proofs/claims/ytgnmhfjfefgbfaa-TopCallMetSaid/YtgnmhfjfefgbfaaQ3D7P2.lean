/- Functions' values and contracts, as the print wrote them. -/
import Derived.Test.YtgnmhfjfefgbfaaQ3D7P0
import Derived.Test.YtgnmhfjfefgbfaaQ3D7P1
namespace Go.Proofs.Ytgnmhfjfefgbfaa.Pr
open Bool renaming true → T
open Bool renaming false → J
open Go.RowKit Go.Proofs.YtgnmhfjfefgbfaaW.PrintWords Go.Proofs.YtgnmhfjfefgbfaaW.PrintLast Go.Proofs.YtgnmhfjfefgbfaaW.PrintMore
attribute [local go_sem] QaN QaP QaW QaX QaH QaI QaO QaQ   -- for this text's walks alone
set_option linter.unusedVariables false
set_option linter.unusedSimpArgs false
set_option maxRecDepth 100000
set_option maxHeartbeats 4000000 in
theorem Qcg.ins (A : Option Addr) (n c : Nat) (hn : n ≤ 1) (F : Value) (w : World) : Calls Try.prog 222 #[.slice A n c, .int .i64 0, .int .i64 (n : Int), F] w fun e w' => e = .returned (.tuple #[]) ∧ Below w.heap.size w w' := by
 have h1 : decide ((1 : Int) < (n : Int)) = J := decide_eq_false (by omega)
 have h2 : ((1 : Int) < (n : Int)) = False := eq_false (by omega)
 have HB := Aside0.mk (Below.refl w.heap.size w)
 clear hn
 go_enter Try.func222, Try.ntmps222
 go_wp2
 refine wp_loop_rounds 1 ?_
 rw [rounds_succ]
 go_wp2
 go_end0
 exact ⟨rfl, Zb⟩
set_option maxHeartbeats 4000000 in
theorem Qcg.pdq (A : Option Addr) (n c : Nat) (hn : n ≤ 1) (m : Int) (F : Value) (w : World) : Calls Try.prog 194 #[.slice A n c, .int .i64 0, .int .i64 (n : Int), .int .i64 m, F] w fun e w' => e = .returned (.tuple #[]) ∧ Below w.heap.size w w' := by
 have h1 : decide (wrap64 ((n : Int) - 0) ≤ 12) = T := decide_eq_true (by rw [IntWalk.wrap64_in _ (by omega)]; omega)
 have h2 : (wrap64 ((n : Int) - 0) ≤ 12) = True := eq_true (by rw [IntWalk.wrap64_in _ (by omega)]; omega)
 have h3 : decide (wrap64 (n : Int) ≤ 12) = T := decide_eq_true (by rw [IntWalk.wrap64_in _ (by omega)]; omega)
 have HN := Aside0.mk hn
 have HB := Aside0.mk (Below.refl w.heap.size w)
 clear hn
 go_enter Try.func194, Try.ntmps194
 go_wp2
 refine wp_loop_rounds 1 ?_
 rw [rounds_succ]
 go_wp2_with (first | (go_at_call 222; refine (Qcg.ins A n c HN.out F _).mono ?_; rintro _ w5 ⟨rfl, hb⟩; have n_ := Aside0.mk (Qap (Zb) hb); clear HB hb; have HB := n_; clear n_))
 (try simp only [Exit.inBlock, Exit.then])
 refine bodyPost_ret (results_none rfl _ _ _) rfl ?_
 exact ⟨rfl, Zb⟩
set_option maxHeartbeats 4000000 in
theorem Qcg.sort (A : Option Addr) (n c : Nat) (hn : n ≤ 1) (F : Value) (w : World) : Calls Try.prog 123 #[.slice A n c, F] w fun e w' => e = .returned (.tuple #[]) ∧ Below w.heap.size w w' := by
 have HN := Aside0.mk hn
 have HB := Aside0.mk (Below.refl w.heap.size w)
 have u0 : IntKind.u64.wrap (n : Int) = (n : Int) := by unfold IntKind.wrap; simp [IntKind.bits]; omega
 have e0 : Qcw.f (n : Int) = some (Lib.bitLen (n : Int).toNat : Int) := by unfold Qcw.f Qbn.f; rw [if_pos ⟨by omega, by omega⟩]; rfl
 have E0 := Aside0.mk e0
 clear hn e0
 go_enter Try.func123, Try.ntmps123
 go_wp2_with (first | (go_at_call 195; refine (Qcw.calls (n : Int) _ _ E0.out).mono ?_; rintro _ w5 ⟨rfl, hd⟩; have hb := hd.below; have n_ := Aside0.mk (Qap (Zb) hb); clear HB hb hd; have HB := n_; clear n_) | (go_at_call 194; refine (Qcg.pdq A n c HN.out _ F _).mono ?_; rintro _ w6 ⟨rfl, hb⟩; have n_ := Aside0.mk (Qap (Zb) hb); clear HB hb; have HB := n_; clear n_))
 go_end0
 exact ⟨rfl, Zb⟩
def Qbs.f (k : Nat) (l0 : List (S226)) (a1_0 a1_1 : ByteArray) (a2 : Int) : Option (List (S226) × Int × Int) :=
 (QaL.f k l0).bind fun e => if e = 0 then (if 0 ≤ a2 ∧ a2 ≤ 1152921504606846976 then (match l0 with
  | [c] => if (c.f1.f0.toList = a1_0.toList ∧ c.f1.f1.toList = a1_1.toList) ∧ 0 < wrap64 (c.f2 - c.f4) then some ([(⟨c.f0, c.f1, c.f2, c.f3, wrap64 (c.f4 + mn a2 (wrap64 (c.f2 - c.f4)))⟩ : S226)], wrap64 (a2 - mn a2 (wrap64 (c.f2 - c.f4))), 0) else none
  | _ => none) else none) else none
theorem Qbs.mono : ∀ a0 a1 a2 a3 k, LeO (Qbs.f k a0 a1 a2 a3) (Qbs.f (k + 1) a0 a1 a2 a3) := by
 intro a0 a1 a2 a3 k
 unfold Qbs.f
 exact LeO.bind (QaL.mono _ _) (fun _ => LeO.refl _)
set_option maxHeartbeats 8000000 in
theorem Qbs.calls (k : Nat) (A0 : Option Addr) (c0 : Nat) (l0 : List (S226)) (a1_0 : ByteArray) (a1_1 : ByteArray) (a2 : Int) (r1 : List (S226)) (r2 : Int) (r3 : Int) (w : World) (hr0 : Kd.C k226 w A0 l0.length l0) (hc0 : l0.length ≤ c0) (h : Qbs.f k l0 a1_0 a1_1 a2 = some (r1, r2, r3)) :
  Calls Try.prog 45 #[.slice A0 l0.length c0, .agg #[.string a1_0, .string a1_1], .int .i64 a2] w fun e w' => ∃ v0_ : Value, e = .returned (.tuple #[v0_, .int .i64 r2, .int .i64 r3]) ∧ Kd.R k226 226 w' w.heap.size (fun _ => True) v0_ r1 ∧ Below w.heap.size w w' := by
 have hu226 := Try.underlying226
 have hu81 := Try.underlying81
 unfold Qbs.f at h
 replace h := Option.bind_eq_some_iff.1 h
 obtain ⟨e0, A00, H⟩ := h
 have A0_ := Aside0.mk A00
 clear A00
 by_cases c1 : e0 = 0
 ·rw [if_pos c1] at H
  subst c1
  by_cases c2 : 0 ≤ a2 ∧ a2 ≤ 1152921504606846976
  ·rw [if_pos c2] at H
   match l0, hr0, hc0, A0_, H with
   | [], hr0, hc0, A0_, H => cases H
   | _ :: _ :: _, hr0, hc0, A0_, H => cases H
   | [⟨i0, ⟨m0, n0⟩, q0, d0, t0⟩], hr0, hc0, A0_, H =>
    dsimp only at H
    by_cases c3 : (m0.toList = a1_0.toList ∧ n0.toList = a1_1.toList) ∧ 0 < wrap64 (q0 - t0)
    ·rw [if_pos c3] at H
     obtain ⟨lk, hlk⟩ : ∃ z, z = wrap64 (q0 - t0) := ⟨_, rfl⟩
     rw [← hlk] at c3 H
     simp only [Option.some.injEq, Prod.mk.injEq] at H
     obtain ⟨rfl, rfl, rfl⟩ := H
     obtain ⟨mm, hmm⟩ : ∃ z, z = mn a2 lk := ⟨_, rfl⟩
     rw [← hmm]
     have c2a : decide (a2 < 0) = J := decide_eq_false (by omega)
     have c2b : decide (1152921504606846976 < a2) = J := decide_eq_false (by omega)
     have c3a : ((m0.toList == a1_0.toList) && (n0.toList == a1_1.toList)) = T := by rw [c3.1.1, c3.1.2]; simp
     have c3b : decide (0 < lk) = T := decide_eq_true c3.2
     have c3c := eq_true c3.1.1
     have c3d := eq_true c3.1.2
     have LK := Aside0.mk hlk
     have MM := Aside0.mk hmm
     clear c2 c3 hlk hmm
     have HR0 := Aside0.mk hr0
     have HC0 := Aside0.mk hc0
     clear hr0 hc0
     have HB := Aside0.mk (Below.refl w.heap.size w)
     obtain ⟨ad, rfl, hx0, hx1, hx2, hx3, hx4, hx5⟩ := Qb1 HR0.out 0 (by omega) (by simp)
     go_enter Try.func45, Try.ntmps45
     go_wp2_with (first | ((with_reducible refine QaT (N := 4) rfl ?_); refine Zbx (N := 4) (cs := #[.string a1_0, .string a1_1]) (t := 81) ?_; intro g4 hg w1 hbox hb; have n_ := Aside0.mk (Qap HB.out hb); have GEg4 := Aside0.mk (show w.heap.size ≤ g4 by rw [hg]; exact Qar HB.out); clear HB; have HB := n_; clear n_; have BKg4 := Aside0.mk hbox; clear hb hbox hg) | (go_at_call 115; refine (QaL.calls k (some ad) c0 _ 0 _ (Kd.C_below HR0.out HB.out) HC0.out A0_.out).mono ?_; rintro _ w2 ⟨rfl, hb⟩; have n_ := Aside0.mk (Qap HB.out hb); have og4 := Aside0.mk (Qam (g := g4) (o := .cells #[.string a1_0, .string a1_1] 81 (0, 0)) BKg4.out hb); clear HB BKg4 hb; have HB := n_; have BKg4 := og4; clear n_ og4))
     have hz0 : w.cell? ad = some (.int .i64 i0) := hx0
     have hz1 : w.cell? ⟨ad.block, ad.off + 1, none⟩ = some (.string m0) := hx1
     have hz2 : w.cell? ⟨ad.block, ad.off + 2, none⟩ = some (.string n0) := hx2
     have hz3 : w.cell? ⟨ad.block, ad.off + 3, none⟩ = some (.int .i64 q0) := hx3
     have hz4 : w.cell? ⟨ad.block, ad.off + 4, none⟩ = some (.int .i64 d0) := hx4
     have hz5 : w.cell? ⟨ad.block, ad.off + 5, none⟩ = some (.int .i64 t0) := hx5
     have hy0 := (HB.out.cell (World.block_lt_of_cell? w _ hz0)).trans hz0
     have hy1 := (HB.out.cell (World.block_lt_of_cell? w _ hz1)).trans hz1
     have hy2 := (HB.out.cell (World.block_lt_of_cell? w _ hz2)).trans hz2
     have hy3 := (HB.out.cell (World.block_lt_of_cell? w _ hz3)).trans hz3
     have hy4 := (HB.out.cell (World.block_lt_of_cell? w _ hz4)).trans hz4
     have hy5 := (HB.out.cell (World.block_lt_of_cell? w _ hz5)).trans hz5
     clear hx0 hx1 hx2 hx3 hx4 hx5
     refine wp_loop_rounds 2 ?_
     rw [rounds_succ]
     go_upto_region 10 with (first | ((with_reducible refine QaT (N := 11) rfl ?_); refine Zbx (N := 11) (cs := #[.int .i64 0, .string ⟨#[]⟩, .string ⟨#[]⟩, .int .i64 0, .int .i64 0, .int .i64 0]) (t := 226) ?_; intro g11 hg w3 hbox hb; have n_ := Aside0.mk (Qap HB.out hb); have GEg11 := Aside0.mk (show w.heap.size ≤ g11 by rw [hg]; exact Qar HB.out); have NBg4_g11 := Aside0.mk (show g4 ≠ g11 by rw [hg]; exact Nat.ne_of_lt (blk_lt BKg4.out)); have og4 := Aside0.mk (Qam (g := g4) (o := .cells #[.string a1_0, .string a1_1] 81 (0, 0)) BKg4.out hb); clear hy0 hy1 hy2 hy3 hy4 hy5; clear HB BKg4; have HB := n_; have BKg4 := og4; clear n_ og4; have BKg11 := Aside0.mk hbox; clear hb hbox hg) | ((with_reducible refine QcS (t := 226) (p := 11) rfl ?_); refine QcI (t := 226) (p := 11) (v := ?vo11) (w1 := ((((((w3.setCell ⟨g11, 0, none⟩ (.int .i64 i0)).setCell ⟨g11, 1, none⟩ (.string m0)).setCell ⟨g11, 2, none⟩ (.string n0)).setCell ⟨g11, 3, none⟩ (.int .i64 q0)).setCell ⟨g11, 4, none⟩ (.int .i64 d0)).setCell ⟨g11, 5, none⟩ (.int .i64 t0))) ?hg ?ho ?hn ?hr ?_; (case ho => rfl); (case hg => rfl); (case hn => rfl); (case hr => exact Qcq (cs := #[.int .i64 0, .string ⟨#[]⟩, .string ⟨#[]⟩, .int .i64 0, .int .i64 0, .int .i64 0]) (seg := [.int .i64 i0, .string m0, .string n0, .int .i64 q0, .int .i64 d0, .int .i64 t0]) BKg11.out rfl (by first | rfl | (go_simp; done)) (by first | rfl | (go_simp; done)) (by rfl) (by first | rfl | kernel_rfl) (by simp) (by first | rfl | simp [Value.oneCell'])); intro w4 hw; have m0_ : Aside0 (w4.heap[g11]? = some (.cells #[.int .i64 i0, .string m0, .string n0, .int .i64 q0, .int .i64 d0, .int .i64 t0] 226 (0, 0))) := ⟨by rw [hw]; refine Qav (cs := #[.int .i64 i0, .string m0, .string n0, .int .i64 q0, .int .i64 d0, .int .i64 0]) ?_ 5 _ rfl; refine Qav (cs := #[.int .i64 i0, .string m0, .string n0, .int .i64 q0, .int .i64 0, .int .i64 0]) ?_ 4 _ rfl; refine Qav (cs := #[.int .i64 i0, .string m0, .string n0, .int .i64 0, .int .i64 0, .int .i64 0]) ?_ 3 _ rfl; refine Qav (cs := #[.int .i64 i0, .string m0, .string ⟨#[]⟩, .int .i64 0, .int .i64 0, .int .i64 0]) ?_ 2 _ rfl; refine Qav (cs := #[.int .i64 i0, .string ⟨#[]⟩, .string ⟨#[]⟩, .int .i64 0, .int .i64 0, .int .i64 0]) ?_ 1 _ rfl; refine Qav (cs := #[.int .i64 0, .string ⟨#[]⟩, .string ⟨#[]⟩, .int .i64 0, .int .i64 0, .int .i64 0]) ?_ 0 _ rfl; exact BKg11.out⟩; have m1_ : Aside0 (Below w.heap.size w w4) := ⟨by rw [hw]; exact (Qae (Qae (Qae (Qae (Qae (Qae HB.out GEg11.out) GEg11.out) GEg11.out) GEg11.out) GEg11.out) GEg11.out)⟩; have og4 : Aside0 (w4.heap[g4]? = some (.cells #[.string a1_0, .string a1_1] 81 (0, 0))) := ⟨by rw [hw]; exact (Qas (p := ⟨g11, 5, none⟩) (Qas (p := ⟨g11, 4, none⟩) (Qas (p := ⟨g11, 3, none⟩) (Qas (p := ⟨g11, 2, none⟩) (Qas (p := ⟨g11, 1, none⟩) (Qas (p := ⟨g11, 0, none⟩) BKg4.out NBg4_g11.out (.int .i64 i0)) NBg4_g11.out (.string m0)) NBg4_g11.out (.string n0)) NBg4_g11.out (.int .i64 q0)) NBg4_g11.out (.int .i64 d0)) NBg4_g11.out (.int .i64 t0))⟩; clear HB BKg11 BKg4; have HB := m1_; have BKg11 := m0_; have BKg4 := og4; clear m0_ m1_ hw og4))
     have hcg4_0 := (Qaf BKg4.out 0).trans (show (#[.string a1_0, .string a1_1] : Array Value)[0]? = some (Value.string a1_0) from rfl)
     have hcg4_1 := (Qaf BKg4.out 1).trans (show (#[.string a1_0, .string a1_1] : Array Value)[1]? = some (Value.string a1_1) from rfl)
     have hcg11_0 := (Qaf BKg11.out 0).trans (show (#[.int .i64 i0, .string m0, .string n0, .int .i64 q0, .int .i64 d0, .int .i64 t0] : Array Value)[0]? = some (Value.int .i64 i0) from rfl)
     have hcg11_1 := (Qaf BKg11.out 1).trans (show (#[.int .i64 i0, .string m0, .string n0, .int .i64 q0, .int .i64 d0, .int .i64 t0] : Array Value)[1]? = some (Value.string m0) from rfl)
     have hcg11_2 := (Qaf BKg11.out 2).trans (show (#[.int .i64 i0, .string m0, .string n0, .int .i64 q0, .int .i64 d0, .int .i64 t0] : Array Value)[2]? = some (Value.string n0) from rfl)
     have hcg11_3 := (Qaf BKg11.out 3).trans (show (#[.int .i64 i0, .string m0, .string n0, .int .i64 q0, .int .i64 d0, .int .i64 t0] : Array Value)[3]? = some (Value.int .i64 q0) from rfl)
     have hcg11_4 := (Qaf BKg11.out 4).trans (show (#[.int .i64 i0, .string m0, .string n0, .int .i64 q0, .int .i64 d0, .int .i64 t0] : Array Value)[4]? = some (Value.int .i64 d0) from rfl)
     have hcg11_5 := (Qaf BKg11.out 5).trans (show (#[.int .i64 i0, .string m0, .string n0, .int .i64 q0, .int .i64 d0, .int .i64 t0] : Array Value)[5]? = some (Value.int .i64 t0) from rfl)
     go_wp2_with (first | (go_at_call 121; refine (Qbr.calls i0 m0 n0 q0 d0 t0 lk _ (by unfold Qbr.f; rw [LK.out])).mono ?_; rintro _ w5 ⟨rfl, hb⟩; have n_ := Aside0.mk (Qap (Zb) hb); have og11 := Aside0.mk (Qam (g := g11) (o := .cells #[.int .i64 i0, .string m0, .string n0, .int .i64 q0, .int .i64 d0, .int .i64 t0] 226 (0, 0)) BKg11.out hb); clear hcg11_0 hcg11_1 hcg11_2 hcg11_3 hcg11_4 hcg11_5 hcg4_0 hcg4_1; clear HB hb BKg11; have HB := n_; have BKg11 := og11; clear n_ og11; have hcg11_0 := (Qaf BKg11.out 0).trans (show (#[.int .i64 i0, .string m0, .string n0, .int .i64 q0, .int .i64 d0, .int .i64 t0] : Array Value)[0]? = some (Value.int .i64 i0) from rfl); have hcg11_1 := (Qaf BKg11.out 1).trans (show (#[.int .i64 i0, .string m0, .string n0, .int .i64 q0, .int .i64 d0, .int .i64 t0] : Array Value)[1]? = some (Value.string m0) from rfl); have hcg11_2 := (Qaf BKg11.out 2).trans (show (#[.int .i64 i0, .string m0, .string n0, .int .i64 q0, .int .i64 d0, .int .i64 t0] : Array Value)[2]? = some (Value.string n0) from rfl); have hcg11_3 := (Qaf BKg11.out 3).trans (show (#[.int .i64 i0, .string m0, .string n0, .int .i64 q0, .int .i64 d0, .int .i64 t0] : Array Value)[3]? = some (Value.int .i64 q0) from rfl); have hcg11_4 := (Qaf BKg11.out 4).trans (show (#[.int .i64 i0, .string m0, .string n0, .int .i64 q0, .int .i64 d0, .int .i64 t0] : Array Value)[4]? = some (Value.int .i64 d0) from rfl); have hcg11_5 := (Qaf BKg11.out 5).trans (show (#[.int .i64 i0, .string m0, .string n0, .int .i64 q0, .int .i64 d0, .int .i64 t0] : Array Value)[5]? = some (Value.int .i64 t0) from rfl); clear BKg4) | ((with_reducible refine QbK (b := .append) (xs := #[.tmp 42, .tmp 44]) rfl ?_); at_builtin; refine Kd.R_append k226 (w0 := w) w.heap.size rfl (.tmp 42) (.tmp 44) 116 226 (.agg #[.int .i64 0, .string ⟨#[]⟩, .string ⟨#[]⟩, .int .i64 0, .int .i64 0, .int .i64 0]) 64 rfl Try.underlying116 QbL.info rfl (by decide) (by omega) (.slice none 0 0) ([] : List (S226)) (⟨i0, ⟨m0, n0⟩, q0, d0, t0⟩ : S226) [.int .i64 i0, .string m0, .string n0, .int .i64 q0, .int .i64 d0, .int .i64 t0] (fun _ => True) (fun _ => False) rfl rfl ?aP (fun _ hk => hk.elim) ?aF ?aO ?aB ?aS ?aL ?_; (case aP => exact Qb6 _ _ _ (⟨i0, ⟨m0, n0⟩, q0, d0, t0⟩ : S226)); (case aB => exact (Zb)); (case aF => exact (fun _ _ => trivial)); (case aO => exact Kd.R_nil _ _ _ _ _); (case aS => exact (Qar (Zb))); (case aL => simp); intro v6 w6 ho hb hg hat; clear HB BKg11 hg hat hcg11_0 hcg11_1 hcg11_2 hcg11_3 hcg11_4 hcg11_5; have HB := Aside0.mk hb; have HM := Aside0.mk ho; clear hb ho))
     rw [rounds_succ]
     obtain ⟨Am, cm, ev⟩ := Kd.R_slice HM.out
     have ev2 : v6 = .slice Am 1 cm := ev
     subst ev2
     clear ev
     have HM1 : Aside0 (Kd.R k226 226 w6 w.heap.size (fun _ => True) (.slice Am 1 cm) [(⟨i0, ⟨m0, n0⟩, q0, d0, t0⟩ : S226)]) := ⟨HM.out⟩
     clear HM
     have HM := HM1
     clear HM1
     go_upto_region 14 with (first | ((with_reducible refine QaT (N := 12) rfl ?_); refine Zbx (N := 12) (cs := #[.nilFunc]) (t := 232) ?_; intro g12 hg w7 hbox hb; have n_ := Aside0.mk (Qap HB.out hb); have GEg12 := Aside0.mk (show w.heap.size ≤ g12 by rw [hg]; exact Qar HB.out); have nm := Aside0.mk (Kd.R_below HM.out hb); clear HM; have HM := nm; clear nm; clear HB; have HB := n_; clear n_; have BKg12 := Aside0.mk hbox; clear hb hbox hg) | ((with_reducible refine QcS (t := 232) (p := 12) rfl ?_); refine QcI (t := 232) (p := 12) (v := ?vo12) (w1 := (w7.setCell ⟨g12, 0, none⟩ (.func (.func 122) #[] #[]))) ?hg ?ho ?hn ?hr ?_; (case ho => rfl); (case hg => rfl); (case hn => rfl); (case hr => exact Qcq (cs := #[.nilFunc]) (seg := [.func (.func 122) #[] #[]]) BKg12.out rfl (by first | rfl | (go_simp; done)) (by first | rfl | (go_simp; done)) (by rfl) (by first | rfl | kernel_rfl) (by simp) (by first | rfl | simp [Value.oneCell'])); intro w8 hw; have HW8 := Aside0.mk hw; clear hw))
     have nm := Aside0.mk (Kd.R_set HM.out BKg12.out (by decide) 0 (.func (.func 122) #[] #[]))
     have nb := Aside0.mk (Qae (j := 0) (v := .func (.func 122) #[] #[]) HB.out GEg12.out)
     rw [← HW8.out] at nm nb
     clear HM HB BKg12 HW8
     have HM := nm
     have HB := nb
     clear nm nb
     go_wp2_with (first | (go_at_call 123; refine (Qcg.sort Am 1 cm (by decide) _ _).mono ?_; rintro _ w9 ⟨rfl, hb⟩; have n_ := Aside0.mk (Qap (Zb) hb); have nm := Aside0.mk (Kd.R_below HM.out hb); clear HM; have HM := nm; clear nm; clear HB hb; have HB := n_; clear n_) | (go_at_call 117; refine (QaA.calls (some ad) c0 [(⟨i0, ⟨m0, n0⟩, q0, d0, t0⟩ : S226)] [(⟨i0, ⟨m0, n0⟩, q0, d0, t0⟩ : S226)] _ (Kd.C_below HR0.out HB.out) HC0.out (by simp [QaA.f])).mono ?_; rintro _ w10 ⟨vo, rfl, ho, hb⟩; have n_ := Aside0.mk (Qap HB.out hb); have no := Aside0.mk (Kd.R_lower ho (Qar HB.out)); have nm := Aside0.mk (Kd.R_below HM.out hb); clear HB HM hb ho; have HB := n_; have HO := no; have HM := nm; clear n_ no nm))
     obtain ⟨go, co, eo, _, _, _, HG⟩ := Kd.R_form HO.out (by simp)
     have eo2 : vo = .slice (some ⟨go, 0, none⟩) 1 co := eo
     subst eo2
     clear eo HG
     obtain ⟨am, ea, hm0, hm1, hm2, hm3, hm4, hm5⟩ := Qb1 (Kd.R_reads' HM.out).2.2 0 (by omega) (by simp)
     subst ea
     have hn0 : w10.cell? am = some (.int .i64 i0) := hm0
     have hn1 : w10.cell? ⟨am.block, am.off + 1, none⟩ = some (.string m0) := hm1
     have hn2 : w10.cell? ⟨am.block, am.off + 2, none⟩ = some (.string n0) := hm2
     have hn3 : w10.cell? ⟨am.block, am.off + 3, none⟩ = some (.int .i64 q0) := hm3
     have hn4 : w10.cell? ⟨am.block, am.off + 4, none⟩ = some (.int .i64 d0) := hm4
     have hn5 : w10.cell? ⟨am.block, am.off + 5, none⟩ = some (.int .i64 t0) := hm5
     clear hm0 hm1 hm2 hm3 hm4 hm5 HM
     refine wp_loop_rounds 2 ?_
     rw [rounds_succ]
     go_upto_region 19 with (first | ((with_reducible refine QaT (N := 14) rfl ?_); refine Zbx (N := 14) (cs := #[.int .i64 0, .string ⟨#[]⟩, .string ⟨#[]⟩, .int .i64 0, .int .i64 0, .int .i64 0]) (t := 226) ?_; intro g14 hg w11 hbox hb; have n_ := Aside0.mk (Qap HB.out hb); have GEg14 := Aside0.mk (show w.heap.size ≤ g14 by rw [hg]; exact Qar HB.out); have no := Aside0.mk (Kd.R_below (Kd.R_elderB HO.out g14 (Nat.le_of_eq hg.symm)) hb); clear HO; have HO := no; clear no; clear hn0 hn1 hn2 hn3 hn4 hn5; clear HB; have HB := n_; clear n_; have BKg14 := Aside0.mk hbox; clear hb hbox hg) | ((with_reducible refine QcS (t := 226) (p := 14) rfl ?_); refine QcI (t := 226) (p := 14) (v := ?vo14) (w1 := ((((((w11.setCell ⟨g14, 0, none⟩ (.int .i64 i0)).setCell ⟨g14, 1, none⟩ (.string m0)).setCell ⟨g14, 2, none⟩ (.string n0)).setCell ⟨g14, 3, none⟩ (.int .i64 q0)).setCell ⟨g14, 4, none⟩ (.int .i64 d0)).setCell ⟨g14, 5, none⟩ (.int .i64 t0))) ?hg ?ho ?hn ?hr ?_; (case ho => rfl); (case hg => rfl); (case hn => rfl); (case hr => exact Qcq (cs := #[.int .i64 0, .string ⟨#[]⟩, .string ⟨#[]⟩, .int .i64 0, .int .i64 0, .int .i64 0]) (seg := [.int .i64 i0, .string m0, .string n0, .int .i64 q0, .int .i64 d0, .int .i64 t0]) BKg14.out rfl (by first | rfl | (go_simp; done)) (by first | rfl | (go_simp; done)) (by rfl) (by first | rfl | kernel_rfl) (by simp) (by first | rfl | simp [Value.oneCell'])); intro w12 hw; have m0_ : Aside0 (w12.heap[g14]? = some (.cells #[.int .i64 i0, .string m0, .string n0, .int .i64 q0, .int .i64 d0, .int .i64 t0] 226 (0, 0))) := ⟨by rw [hw]; refine Qav (cs := #[.int .i64 i0, .string m0, .string n0, .int .i64 q0, .int .i64 d0, .int .i64 0]) ?_ 5 _ rfl; refine Qav (cs := #[.int .i64 i0, .string m0, .string n0, .int .i64 q0, .int .i64 0, .int .i64 0]) ?_ 4 _ rfl; refine Qav (cs := #[.int .i64 i0, .string m0, .string n0, .int .i64 0, .int .i64 0, .int .i64 0]) ?_ 3 _ rfl; refine Qav (cs := #[.int .i64 i0, .string m0, .string ⟨#[]⟩, .int .i64 0, .int .i64 0, .int .i64 0]) ?_ 2 _ rfl; refine Qav (cs := #[.int .i64 i0, .string ⟨#[]⟩, .string ⟨#[]⟩, .int .i64 0, .int .i64 0, .int .i64 0]) ?_ 1 _ rfl; refine Qav (cs := #[.int .i64 0, .string ⟨#[]⟩, .string ⟨#[]⟩, .int .i64 0, .int .i64 0, .int .i64 0]) ?_ 0 _ rfl; exact BKg14.out⟩; have m1_ : Aside0 (Below w.heap.size w w12) := ⟨by rw [hw]; exact (Qae (Qae (Qae (Qae (Qae (Qae HB.out GEg14.out) GEg14.out) GEg14.out) GEg14.out) GEg14.out) GEg14.out)⟩; have no : Aside0 (Kd.R k226 226 w12 w.heap.size (fun k_ => True ∧ k_ ≠ g14) (.slice (some ⟨go, 0, none⟩) 1 co) [(⟨i0, ⟨m0, n0⟩, q0, d0, t0⟩ : S226)]) := ⟨by rw [hw]; exact (Zf g14 5 (Zf g14 4 (Zf g14 3 (Zf g14 2 (Zf g14 1 (Zf g14 0 HO.out (.int .i64 i0)) (.string m0)) (.string n0)) (.int .i64 q0)) (.int .i64 d0)) (.int .i64 t0))⟩; clear HO; have HO := no; clear no; clear HB BKg14; have HB := m1_; have BKg14 := m0_; clear m0_ m1_ hw))
     have hcg14_0 := (Qaf BKg14.out 0).trans (show (#[.int .i64 i0, .string m0, .string n0, .int .i64 q0, .int .i64 d0, .int .i64 t0] : Array Value)[0]? = some (Value.int .i64 i0) from rfl)
     have hcg14_1 := (Qaf BKg14.out 1).trans (show (#[.int .i64 i0, .string m0, .string n0, .int .i64 q0, .int .i64 d0, .int .i64 t0] : Array Value)[1]? = some (Value.string m0) from rfl)
     have hcg14_2 := (Qaf BKg14.out 2).trans (show (#[.int .i64 i0, .string m0, .string n0, .int .i64 q0, .int .i64 d0, .int .i64 t0] : Array Value)[2]? = some (Value.string n0) from rfl)
     have hcg14_3 := (Qaf BKg14.out 3).trans (show (#[.int .i64 i0, .string m0, .string n0, .int .i64 q0, .int .i64 d0, .int .i64 t0] : Array Value)[3]? = some (Value.int .i64 q0) from rfl)
     have hcg14_4 := (Qaf BKg14.out 4).trans (show (#[.int .i64 i0, .string m0, .string n0, .int .i64 q0, .int .i64 d0, .int .i64 t0] : Array Value)[4]? = some (Value.int .i64 d0) from rfl)
     have hcg14_5 := (Qaf BKg14.out 5).trans (show (#[.int .i64 i0, .string m0, .string n0, .int .i64 q0, .int .i64 d0, .int .i64 t0] : Array Value)[5]? = some (Value.int .i64 t0) from rfl)
     go_upto_region 20 with (first | (go_at_call 121; refine (Qbr.calls i0 m0 n0 q0 d0 t0 lk _ (by unfold Qbr.f; rw [LK.out])).mono ?_; rintro _ w13 ⟨rfl, hb⟩; have n_ := Aside0.mk (Qap (Zb) hb); have og14 := Aside0.mk (Qam (g := g14) (o := .cells #[.int .i64 i0, .string m0, .string n0, .int .i64 q0, .int .i64 d0, .int .i64 t0] 226 (0, 0)) BKg14.out hb); clear hcg14_0 hcg14_1 hcg14_2 hcg14_3 hcg14_4 hcg14_5; have no := Aside0.mk (Kd.R_below HO.out hb); clear HO; have HO := no; clear no; clear HB hb BKg14; have HB := n_; have BKg14 := og14; clear n_ og14; have hcg14_0 := (Qaf BKg14.out 0).trans (show (#[.int .i64 i0, .string m0, .string n0, .int .i64 q0, .int .i64 d0, .int .i64 t0] : Array Value)[0]? = some (Value.int .i64 i0) from rfl); have hcg14_1 := (Qaf BKg14.out 1).trans (show (#[.int .i64 i0, .string m0, .string n0, .int .i64 q0, .int .i64 d0, .int .i64 t0] : Array Value)[1]? = some (Value.string m0) from rfl); have hcg14_2 := (Qaf BKg14.out 2).trans (show (#[.int .i64 i0, .string m0, .string n0, .int .i64 q0, .int .i64 d0, .int .i64 t0] : Array Value)[2]? = some (Value.string n0) from rfl); have hcg14_3 := (Qaf BKg14.out 3).trans (show (#[.int .i64 i0, .string m0, .string n0, .int .i64 q0, .int .i64 d0, .int .i64 t0] : Array Value)[3]? = some (Value.int .i64 q0) from rfl); have hcg14_4 := (Qaf BKg14.out 4).trans (show (#[.int .i64 i0, .string m0, .string n0, .int .i64 q0, .int .i64 d0, .int .i64 t0] : Array Value)[4]? = some (Value.int .i64 d0) from rfl); have hcg14_5 := (Qaf BKg14.out 5).trans (show (#[.int .i64 i0, .string m0, .string n0, .int .i64 q0, .int .i64 d0, .int .i64 t0] : Array Value)[5]? = some (Value.int .i64 t0) from rfl)))
     rw [show (if lk < a2 then lk else a2) = mm from MM.out.symm]
     go_upto_region 21 with (first | (go_at_call 125; refine (QaE.calls 1 (some ⟨go, 0, none⟩) co [(⟨i0, ⟨m0, n0⟩, q0, d0, t0⟩ : S226)] i0 m0 n0 q0 d0 t0 0 _ (Kd.R_reads' HO.out).2.2 (Kd.R_reads' HO.out).2.1 (by simp [QaE.f, QaE.l0, Qan])).mono ?_; rintro _ w14 ⟨rfl, hb⟩; have n_ := Aside0.mk (Qap (Zb) hb); clear hcg14_0 hcg14_1 hcg14_2 hcg14_3 hcg14_4 hcg14_5; have no := Aside0.mk (Kd.R_below HO.out hb); clear HO BKg14; have HO := no; clear no; clear HB hb; have HB := n_; clear n_; obtain ⟨ce, hcl, hcm, hcc, hcf⟩ := Kd.R_elem HO.out (⟨i0, ⟨m0, n0⟩, q0, d0, t0⟩ : S226) 0 (by omega) (by omega); obtain rfl := Qct hcm; have hs5 : w14.cell? ⟨go, 5, none⟩ = some (.int .i64 t0) := hcc 5 _ rfl; have hs6 : w14.frozen? ⟨go, 5, none⟩ = J := hcf 5; clear hcl hcm hcc hcf))
     obtain ⟨ce, hcl, hcm, hcc, hcf⟩ := Kd.R_elem HO.out (⟨i0, ⟨m0, n0⟩, q0, d0, t0⟩ : S226) 0 (by omega) (by omega)
     obtain rfl := Qct hcm
     have HP := Aside0.mk (Kd.R_mono (Kd.R_seg HO.out 0 (by omega) (by omega) (seg := [.int .i64 (wrap64 (t0 + mm))]) (j := 5) hcl hcc (show 6 ≤ 6 from by decide) (x' := (⟨i0, ⟨m0, n0⟩, q0, d0, wrap64 (t0 + mm)⟩ : S226)) (okp := fun _ => False) (Qb6 _ _ _ (⟨i0, ⟨m0, n0⟩, q0, d0, wrap64 (t0 + mm)⟩ : S226)) (fun _ h => h.elim)).1 (fun _ _ => trivial : ∀ k, _ → True))
     have gl := Kd.R_base HO.out go rfl
     have nb := Aside0.mk (Qae (j := 5) (v := .int .i64 (wrap64 (t0 + mm))) HB.out gl)
     clear hcl hcm hcc hcf HO HB hs5 hs6 gl
     have HP2 : Aside0 (Kd.R k226 226 (w14.setCell ⟨go, 5, none⟩ (.int .i64 (wrap64 (t0 + mm)))) w.heap.size (fun _ => True) (.slice (some ⟨go, 0, none⟩) 1 co) [(⟨i0, ⟨m0, n0⟩, q0, d0, wrap64 (t0 + mm)⟩ : S226)]) := ⟨HP.out⟩
     clear HP
     generalize w14.setCell ⟨go, 5, none⟩ (.int .i64 (wrap64 (t0 + mm))) = w15 at HP2 nb ⊢
     go_wp2
     rw [rounds_succ]
     go_wp2
     go_ret3
     exact ⟨_, rfl, HP2.out, nb.out⟩
    rw [if_neg c3] at H
    cases H
  rw [if_neg c2] at H
  cases H
 rw [if_neg c1] at H
 cases H
def Qa6.j0 : Nat → Int → Int → Bool → Option (Int × Int)
 | 0, _, _, _ => none
 | k + 1, x0, x1, x15 => if x15 = T then (some (0, 2)) else ((Qbq.f x0).bind fun t890 => ((Qbq.f x1).bind fun t891 => ((Qbu.f t890 t891).bind fun bt892 => (if bt892.1 > 0 then (some (0, 3)) else ((Qbl.f bt892.2 (!((decide (x0 < 0)) == (decide (x1 < 0))))).bind fun bt894 => (some (bt894.1, bt894.2)))))))
def Qa6.f (k : Nat) (a0 : Int) (a1 : Int) : Option (Int × Int) := (Qbw.f a0).bind fun t888 => (if t888 = T then ((Qbw.f a1).bind fun t889 => (Qa6.j0 k a0 a1 (!t889))) else (Qa6.j0 k a0 a1 T))
theorem Qa6.mono_l : ∀ k, (∀ y0 y1 y2, LeO (Qa6.j0 k y0 y1 y2) (Qa6.j0 (k + 1) y0 y1 y2))
 | 0 => fun _ _ _ r h => by simp [Qa6.j0] at h
 | k + 1 => by
  have ih0 := Qa6.mono_l k
  intro y0 y1 y2
  unfold Qa6.j0
  exact ZM1 ih0
theorem Qa6.mono : ∀ a0 a1 k, LeO (Qa6.f k a0 a1) (Qa6.f (k + 1) a0 a1) := by
 intro a0 a1 k
 have ih0 := Qa6.mono_l k
 unfold Qa6.f
 exact ZM1 ih0
set_option maxHeartbeats 8000000 in
theorem Qa6.calls (k : Nat) (a0 : Int) (a1 : Int) (r1 : Int) (r2 : Int) (w : World) (h : Qa6.f k a0 a1 = some (r1, r2)) :
  Calls Try.prog 187 #[.int .i64 a0, .int .i64 a1] w fun e w' => e = .returned (.tuple #[.int .i64 r1, .int .i64 r2]) ∧ Drawn0 w w' := by
 have H : ((Qbw.f a0).bind fun t888 => (if t888 = T then ((Qbw.f a1).bind fun t889 => (Qa6.j0 k a0 a1 (!t889))) else (Qa6.j0 k a0 a1 T))) = some (r1, r2) := h
 clear h
 have HC3 := Aside0.mk H
 clear H
 go_enter Try.func187, Try.ntmps187
 go_upto_region 1 with (fail)
 go_cut [15] (fun v15 wc => ∃ (kq : Nat) (x15_2 : Bool), v15 = .bool x15_2 ∧ Aside0 (Qa6.j0 kq a0 a1 x15_2 = some (r1, r2)) ∧ Aside0 (kq ≤ k) ∧ Drawn0 w wc)
 case first =>
  have H := HC3.out
  clear HC3
  replace H := Option.bind_eq_some_iff.mp H
  obtain ⟨t888, A40, H⟩ := H
  replace H : (if t888 = T then ((Qbw.f a1).bind fun t889 => (Qa6.j0 k a0 a1 (!t889))) else (Qa6.j0 k a0 a1 T)) = some (r1, r2) := H
  have A4 := Aside0.mk A40
  clear A40
  by_cases c5 : t888 = T
  ·subst c5
   have H1 : ((Qbw.f a1).bind fun t889 => (Qa6.j0 k a0 a1 (!t889))) = some (r1, r2) := by rw [if_pos rfl] at H; exact H
   clear H
   have H := H1
   clear H1
   replace H := Option.bind_eq_some_iff.mp H
   obtain ⟨t889, A60, H⟩ := H
   replace H : (Qa6.j0 k a0 a1 (!t889)) = some (r1, r2) := H
   have A6 := Aside0.mk A60
   clear A60
   have H' := Aside0.mk H
   clear H
   go_wp2_with (first | ((with_reducible refine Qay (f := 136) rfl ?_); refine goesL_ (some 9) rfl rfl Try.func136 (by kernel_rfl) rfl #[.int .i64 a0] rfl (Zl) ?_; (with_reducible refine (Qbw.calls a0 T _ A4.out).mono ?_); rintro e w' ⟨rfl, ⟨nd, rfl⟩⟩; refine ⟨_, rfl, ?_⟩) | (go_at_call 136; (with_reducible refine (Qbw.calls a1 t889 _ A6.out).mono ?_); rintro e w' ⟨rfl, ⟨nd, rfl⟩⟩))
   go_meet
   case rel => exact ⟨_, (!t889), (Zs), H', ⟨by first | omega | exact Nat.le_refl _⟩, Zd⟩
  replace c5 := Bool.eq_false_iff.mpr c5
  subst c5
  have H1 : (Qa6.j0 k a0 a1 T) = some (r1, r2) := by rw [if_neg (show ¬ (J = T) by decide)] at H; exact H
  clear H
  have H := H1
  clear H1
  have H' := Aside0.mk H
  clear H
  go_wp2_with (first | ((with_reducible refine Qay (f := 136) rfl ?_); refine goesL_ (some 9) rfl rfl Try.func136 (by kernel_rfl) rfl #[.int .i64 a0] rfl (Zl) ?_; (with_reducible refine (Qbw.calls a0 J _ A4.out).mono ?_); rintro e w' ⟨rfl, ⟨nd, rfl⟩⟩; refine ⟨_, rfl, ?_⟩))
  go_meet
  case rel => exact ⟨_, (T), (Zs), H', ⟨by first | omega | exact Nat.le_refl _⟩, Zd⟩
 case rest =>
  clear HC3
  try clear c1
  try clear p2
  try clear c5
  obtain ⟨kq, x15_2, rfl, HA, HJ2, ⟨mc2, rfl⟩⟩ := hcut
  cases kq with
  | zero => exact absurd HA.out (by simp [Qa6.j0])
  | succ kj2 =>
   have H := HA.out
   clear HA
   simp only [Qa6.j0] at H
   by_cases c7 : x15_2 = T
   ·subst c7
    have H1 : (some (0, 2)) = some (r1, r2) := by rw [if_pos rfl] at H; exact H
    clear H
    have H := H1
    clear H1
    simp only [Option.some.injEq, Prod.mk.injEq] at H
    obtain ⟨rfl, rfl⟩ := H
    go_wp2
    go_ret2
    exact ⟨Zs, Zd⟩
   replace c7 := Bool.eq_false_iff.mpr c7
   subst c7
   have H1 : ((Qbq.f a0).bind fun t890 => ((Qbq.f a1).bind fun t891 => ((Qbu.f t890 t891).bind fun bt892 => (if bt892.1 > 0 then (some (0, 3)) else ((Qbl.f bt892.2 (!((decide (a0 < 0)) == (decide (a1 < 0))))).bind fun bt894 => (some (bt894.1, bt894.2))))))) = some (r1, r2) := by rw [if_neg (show ¬ (J = T) by decide)] at H; exact H
   clear H
   have H := H1
   clear H1
   replace H := Option.bind_eq_some_iff.mp H
   obtain ⟨t890, A80, H⟩ := H
   replace H : ((Qbq.f a1).bind fun t891 => ((Qbu.f t890 t891).bind fun bt892 => (if bt892.1 > 0 then (some (0, 3)) else ((Qbl.f bt892.2 (!((decide (a0 < 0)) == (decide (a1 < 0))))).bind fun bt894 => (some (bt894.1, bt894.2)))))) = some (r1, r2) := H
   have A8 := Aside0.mk A80
   clear A80
   replace H := Option.bind_eq_some_iff.mp H
   obtain ⟨t891, A90, H⟩ := H
   replace H : ((Qbu.f t890 t891).bind fun bt892 => (if bt892.1 > 0 then (some (0, 3)) else ((Qbl.f bt892.2 (!((decide (a0 < 0)) == (decide (a1 < 0))))).bind fun bt894 => (some (bt894.1, bt894.2))))) = some (r1, r2) := H
   have A9 := Aside0.mk A90
   clear A90
   replace H := Option.bind_eq_some_iff.mp H
   obtain ⟨⟨t892, t893⟩, A100, H⟩ := H
   replace H : (if t892 > 0 then (some (0, 3)) else ((Qbl.f t893 (!((decide (a0 < 0)) == (decide (a1 < 0))))).bind fun bt894 => (some (bt894.1, bt894.2)))) = some (r1, r2) := H
   have A10 := Aside0.mk A100
   clear A100
   go_upto_if 25 with (first | ((with_reducible refine Qay (f := 190) rfl ?_); refine goesL_ (some 18) rfl rfl Try.func190 (by kernel_rfl) rfl #[.int .i64 a0] rfl (Zl) ?_; (with_reducible refine (Qbq.calls a0 t890 _ A8.out).mono ?_); rintro e w' ⟨rfl, ⟨nd, rfl⟩⟩; refine ⟨_, rfl, ?_⟩) | ((with_reducible refine Qay (f := 190) rfl ?_); refine goesL_ (some 20) rfl rfl Try.func190 (by kernel_rfl) rfl #[.int .i64 a1] rfl (Zl) ?_; (with_reducible refine (Qbq.calls a1 t891 _ A9.out).mono ?_); rintro e w' ⟨rfl, ⟨nd, rfl⟩⟩; refine ⟨_, rfl, ?_⟩) | ((with_reducible refine Qay (f := 189) rfl ?_); refine goesL_ (some 21) rfl rfl Try.func189 (by kernel_rfl) rfl #[.int .u64 t890, .int .u64 t891] rfl (Zl) ?_; (with_reducible refine (Qbu.calls t890 t891 t892 t893 _ A10.out).mono ?_); rintro e w' ⟨rfl, ⟨nd, rfl⟩⟩; refine ⟨_, rfl, ?_⟩))
   (try simp only [Act.put, Zj, Zk, Zm])
   by_cases c11 : t892 > 0
   ·rw [if_pos c11] at H
    have c11b0 : decide (0 < t892) = T := decide_eq_true c11
    clear c11
    (try simp only [c11b0])
    simp only [Option.some.injEq, Prod.mk.injEq] at H
    obtain ⟨rfl, rfl⟩ := H
    go_wp2
    go_ret2
    exact ⟨Zs, Zd⟩
   rw [if_neg c11] at H
   have c11b0 : decide (0 < t892) = J := decide_eq_false c11
   clear c11
   (try simp only [c11b0])
   replace H := Option.bind_eq_some_iff.mp H
   obtain ⟨⟨t894, t895⟩, A120, H⟩ := H
   replace H : (some (t894, t895)) = some (r1, r2) := H
   have A12 := Aside0.mk A120
   clear A120
   simp only [Option.some.injEq, Prod.mk.injEq] at H
   obtain ⟨rfl, rfl⟩ := H
   go_wp2_with (first | ((with_reducible refine Qay (f := 193) rfl ?_); refine goesL_ (some 32) rfl rfl Try.func193 (by kernel_rfl) rfl #[.int .u64 t893, .bool (!((decide (a0 < 0)) == (decide (a1 < 0))))] rfl (Zl) ?_; (with_reducible refine (Qbl.calls t893 (!((decide (a0 < 0)) == (decide (a1 < 0)))) t894 t895 _ A12.out).mono ?_); rintro e w' ⟨rfl, ⟨nd, rfl⟩⟩; refine ⟨_, rfl, ?_⟩))
   go_ret2
   exact ⟨Zs, Zd⟩
def Qbi.f (k : Nat) (a0_0 : Int) (a0_1 : Int) (a1 : Int) : Option (Int × Int) := (Qa6.f k a0_1 a1).bind fun bt897 => (some (bt897.1, bt897.2))
theorem Qbi.mono : ∀ a0 a1 a2 k, LeO (Qbi.f k a0 a1 a2) (Qbi.f (k + 1) a0 a1 a2) := by
 intro a0 a1 a2 k
 unfold Qbi.f
 exact ZM1 Qa6.mono
set_option maxHeartbeats 8000000 in
theorem Qbi.calls (k : Nat) (a0_0 : Int) (a0_1 : Int) (a1 : Int) (r1 : Int) (r2 : Int) (w : World) (h : Qbi.f k a0_0 a0_1 a1 = some (r1, r2)) :
  Calls Try.prog 177 #[.agg #[.int .i64 a0_0, .int .i64 a0_1], .int .i64 a1] w fun e w' => e = .returned (.tuple #[.int .i64 r1, .int .i64 r2]) ∧ Below w.heap.size w w' := by
 have hu213 := Try.underlying213
 have HB := Aside0.mk (Below.refl w.heap.size w)
 have H : ((Qa6.f k a0_1 a1).bind fun bt897 => (some (bt897.1, bt897.2))) = some (r1, r2) := h
 clear h
 replace H := Option.bind_eq_some_iff.mp H
 obtain ⟨⟨t897, t898⟩, A30, H⟩ := H
 replace H : (some (t897, t898)) = some (r1, r2) := H
 have A3 := Aside0.mk A30
 clear A30
 simp only [Option.some.injEq, Prod.mk.injEq] at H
 obtain ⟨rfl, rfl⟩ := H
 go_enter Try.func177, Try.ntmps177
 go_wp2_with (first | ((with_reducible refine QaT (N := 2) rfl ?_); refine Zbx (N := 2) (cs := #[.int .i64 a0_0, .int .i64 a0_1]) (t := 213) ?_; intro gb896 hg w4 hbox hb; have BK896 := Aside0.mk (hbox); have GW896 := Aside0.mk (Zt w hg (Zb)); have GE896 := GW896; replace HB := Aside0.mk (Qap (Zb) hb); clear hb hbox hg; obtain ⟨hcz5_0, hfz5_0⟩ := Zy (v := (.int .i64 a0_0)) BK896.out 0; obtain ⟨hcz5_1, hfz5_1⟩ := Zy (v := (.int .i64 a0_1)) BK896.out 1) | ((with_reducible refine Qay (f := 187) rfl ?_); refine goesL_ (some 9) rfl rfl Try.func187 (by kernel_rfl) rfl #[.int .i64 a0_1, .int .i64 a1] rfl (Zl) ?_; (with_reducible refine (Qa6.calls k a0_1 a1 t897 t898 _ A3.out).mono ?_); rintro e w' ⟨rfl, ⟨nd, rfl⟩⟩; refine ⟨_, rfl, ?_⟩))
 go_ret2
 exact ⟨Zq, Zc1 GE896.out⟩
def QaJ.l0 : Nat → ByteArray → List (S112) → Int → Int → Option (ByteArray × Int × Int × Int × Int × Int × Bool)
 | 0, _, _, _, _ => none
 | k + 1, x1, x11, x12, x13 => if x13 < x12 then (if 0 ≤ x13 then (if x13 < (x11.length : Int) then ((Qb5.f ((Qaq x11 x13).f0) ((Qaq x11 x13).f1) ((Qaq x11 x13).f2) ((Qaq x11 x13).f3) ((Qaq x11 x13).f4) ((Qaq x11 x13).f5)).bind fun t941 => (if t941.toList = x1.toList then (some ((Qaq x11 x13).f0, (Qaq x11 x13).f1, (Qaq x11 x13).f2, (Qaq x11 x13).f3, (Qaq x11 x13).f4, (Qaq x11 x13).f5, T)) else (QaJ.l0 k x1 x11 x12 (wrap64 (x13 + 1))))) else (none)) else (none)) else (some ((⟨#[]⟩ : ByteArray), 0, 0, 0, 0, 0, J))
def QaJ.f (k : Nat) (l0 : List (S112)) (a1 : ByteArray)  : Option (ByteArray × Int × Int × Int × Int × Int × Bool) := QaJ.l0 k a1 l0 (l0.length : Int) 0
theorem QaJ.mono_l : ∀ k, (∀ y0 y1 y2 y3, LeO (QaJ.l0 k y0 y1 y2 y3) (QaJ.l0 (k + 1) y0 y1 y2 y3))
 | 0 => fun _ _ _ _ r h => by simp [QaJ.l0] at h
 | k + 1 => by
  have ih0 := QaJ.mono_l k
  intro y0 y1 y2 y3
  unfold QaJ.l0
  exact ZM1 ih0
theorem QaJ.mono : ∀ a0 a1 k, LeO (QaJ.f k a0 a1) (QaJ.f (k + 1) a0 a1) := by
 intro a0 a1 k
 have ih0 := QaJ.mono_l k
 unfold QaJ.f
 exact ZM1 ih0
set_option maxHeartbeats 8000000 in
theorem QaJ.calls (k : Nat) (A0 : Option Addr) (c0 : Nat) (l0 : List (S112)) (a1 : ByteArray)  (r1 : ByteArray) (r2 : Int) (r3 : Int) (r4 : Int) (r5 : Int) (r6 : Int) (r7 : Bool) (w : World) (hr0 : Kd.C k112 w A0 l0.length l0) (hc0 : l0.length ≤ c0) (h : QaJ.f k l0 a1 = some (r1, r2, r3, r4, r5, r6, r7)) :
  Calls Try.prog 109 #[.slice A0 l0.length c0, .string a1, .func (.func 110) #[] #[]] w fun e w' => e = .returned (.tuple #[.agg #[.string r1, .int .i64 r2, .int .i64 r3, .int .i64 r4, .int .i64 r5, .int .i64 r6], .bool r7]) ∧ Below w.heap.size w w' := by
 have hu112 := Try.underlying112
 have HR0 := Aside0.mk hr0
 have HC0 := Aside0.mk hc0
 clear hr0 hc0
 have HB := Aside0.mk (Below.refl w.heap.size w)
 have H : (QaJ.l0 k a1 l0 (l0.length : Int) 0) = some (r1, r2, r3, r4, r5, r6, r7) := h
 clear h
 have H' := Aside0.mk H
 clear H
 go_enter Try.func109, Try.ntmps109
 go_wp2_with (first | ((with_reducible refine QaT (N := 6) rfl ?_); refine Zbx (N := 6) (cs := #[.string (⟨#[]⟩ : ByteArray), .int .i64 0, .int .i64 0, .int .i64 0, .int .i64 0, .int .i64 0]) (t := 112) ?_; intro gb938 hg w4 hbox hb; have BK938 := Aside0.mk (hbox); have GW938 := Aside0.mk (Zt w hg (Zb)); have GE938 := GW938; replace HB := Aside0.mk (Qap (Zb) hb); clear hb hbox hg))
 go_loopg [13] k (fun kq v13 w' => ∃ (x13_1 : Int) (x939000_1 : ByteArray) (x939001_1 : Int) (x939002_1 : Int) (x939003_1 : Int) (x939004_1 : Int) (x939005_1 : Int), v13 = .int .i64 x13_1 ∧ Aside0 (QaJ.l0 kq a1 l0 (l0.length : Int) x13_1 = some (r1, r2, r3, r4, r5, r6, r7)) ∧ Aside0 (kq ≤ k) ∧ Aside0 (w'.heap[gb938]? = some (.cells #[.string x939000_1, .int .i64 x939001_1, .int .i64 x939002_1, .int .i64 x939003_1, .int .i64 x939004_1, .int .i64 x939005_1] 112 (0, 0))) ∧ Aside0 (Below w.heap.size w w'))
 case atStart => exact ⟨(0), ((⟨#[]⟩ : ByteArray)), (0), (0), (0), (0), (0), (Zs), H', ⟨Nat.le_refl _⟩, ⟨Zu BK938.out⟩, ⟨Zc1 GE938.out⟩⟩
 case round =>
  clear H'
  try clear c1
  try clear p2
  obtain ⟨x13_1, x939000_1, x939001_1, x939002_1, x939003_1, x939004_1, x939005_1, rfl, HA, HK1, BK938, HB⟩ := hrel
  cases gk with
  | zero => exact absurd HA.out (by simp [QaJ.l0])
  | succ k1 =>
   have H := HA.out
   clear HA
   simp only [QaJ.l0] at H
   by_cases c5 : x13_1 < (l0.length : Int)
   ·rw [if_pos c5] at H
    have c5b0 : decide (x13_1 < (l0.length : Int)) = T := decide_eq_true c5
    clear c5
    (try simp only [c5b0])
    by_cases c6 : 0 ≤ x13_1
    ·rw [if_pos c6] at H
     have c6b0 : decide (0 ≤ x13_1) = T := decide_eq_true c6
     clear c6
     by_cases c7 : x13_1 < (l0.length : Int)
     ·rw [if_pos c7] at H
      have c7b0 : decide (x13_1 < (l0.length : Int)) = T := decide_eq_true c7
      clear c7
      replace H := Option.bind_eq_some_iff.mp H
      obtain ⟨t941, A80, H⟩ := H
      replace H : (if t941.toList = a1.toList then (some ((Qaq l0 x13_1).f0, (Qaq l0 x13_1).f1, (Qaq l0 x13_1).f2, (Qaq l0 x13_1).f3, (Qaq l0 x13_1).f4, (Qaq l0 x13_1).f5, T)) else (QaJ.l0 k1 a1 l0 (l0.length : Int) (wrap64 (x13_1 + 1)))) = some (r1, r2, r3, r4, r5, r6, r7) := H
      have A8 := Aside0.mk A80
      clear A80
      have p939 : 0 ≤ (x13_1 : Int) := Ze
      have q939 : x13_1 < (l0.length : Int) := Ze
      obtain ⟨ad939, e939, hx939_0, hx939_1, hx939_2, hx939_3, hx939_4, hx939_5⟩ := QcJ HR0.out x13_1 p939 q939
      cases e939
      replace hx939_0 := Zx HB.out hx939_0
      replace hx939_1 := Zx HB.out hx939_1
      replace hx939_2 := Zx HB.out hx939_2
      replace hx939_3 := Zx HB.out hx939_3
      replace hx939_4 := Zx HB.out hx939_4
      replace hx939_5 := Zx HB.out hx939_5
      replace p939 := eq_true p939
      replace q939 := eq_true q939
      go_upto_if 21 with (first | ((with_reducible refine QaT (N := 9) rfl ?_); refine Zbx (N := 9) (cs := #[.string (⟨#[]⟩ : ByteArray), .int .i64 0, .int .i64 0, .int .i64 0, .int .i64 0, .int .i64 0]) (t := 112) ?_; intro gb940 hg w9 hbox hb; have BK940 := Aside0.mk (hbox); have GW940 := Aside0.mk (Zt w hg (Zc1 GE938.out)); have GE940 := GW940; have NB938_940 := Aside0.mk (Zn hg BK938.out); have NB940_938 := Aside0.mk NB938_940.out.symm; replace BK938 := Aside0.mk (Zi BK938.out hb); replace HB := Aside0.mk (Qap (Zc1 GE938.out) hb); clear hb hbox hg; have hnb10 := NB940_938.out; have hnc10 := NB938_940.out; obtain ⟨hcz11_0, hfz11_0⟩ := Zy (v := (.string (⟨#[]⟩ : ByteArray))) BK940.out 0; obtain ⟨hcz11_1, hfz11_1⟩ := Zy (v := (.int .i64 0)) BK940.out 1; obtain ⟨hcz11_2, hfz11_2⟩ := Zy (v := (.int .i64 0)) BK940.out 2; obtain ⟨hcz11_3, hfz11_3⟩ := Zy (v := (.int .i64 0)) BK940.out 3; obtain ⟨hcz11_4, hfz11_4⟩ := Zy (v := (.int .i64 0)) BK940.out 4; obtain ⟨hcz11_5, hfz11_5⟩ := Zy (v := (.int .i64 0)) BK940.out 5) | (go_at_call 110; (with_reducible refine (Qb5.calls ((Qaq l0 x13_1).f0) ((Qaq l0 x13_1).f1) ((Qaq l0 x13_1).f2) ((Qaq l0 x13_1).f3) ((Qaq l0 x13_1).f4) ((Qaq l0 x13_1).f5) t941 _ A8.out).mono ?_); rintro e w12 ⟨rfl, hb⟩; replace BK938 := Aside0.mk (Qam (g := gb938) (o := .cells #[.string x939000_1, .int .i64 x939001_1, .int .i64 x939002_1, .int .i64 x939003_1, .int .i64 x939004_1, .int .i64 x939005_1] 112 (0, 0)) (Zg6 BK938.out NB938_940.out NB938_940.out NB938_940.out NB938_940.out NB938_940.out NB938_940.out) hb); replace BK940 := Aside0.mk (Zpi #[.string ((Qaq l0 x13_1).f0), .int .i64 ((Qaq l0 x13_1).f1), .int .i64 ((Qaq l0 x13_1).f2), .int .i64 ((Qaq l0 x13_1).f3), .int .i64 ((Qaq l0 x13_1).f4), .int .i64 ((Qaq l0 x13_1).f5)] BK940.out hb); replace HB := Aside0.mk (Qap (Zc2 GE938.out GE940.out) hb); (try clear hb); (try clear hb2); (try clear hk); (try clear hi)))
      (try simp only [Act.put, Zj, Zk, Zm])
      by_cases c13 : t941.toList = a1.toList
      ·rw [if_pos c13] at H
       have c13b0 : (t941.toList == a1.toList) = T := beq_iff_eq.mpr c13
       have c13b1 : (t941.toList != a1.toList) = J := bne_eq_false_iff_eq.mpr c13
       clear c13
       (try simp only [c13b0, c13b1])
       simp only [Option.some.injEq, Prod.mk.injEq] at H
       obtain ⟨rfl, rfl, rfl, rfl, rfl, rfl, rfl⟩ := H
       have hnb14 := NB940_938.out
       have hnc14 := NB938_940.out
       obtain ⟨hcz15_0, hfz15_0⟩ := Zy (v := (.string ((Qaq l0 x13_1).f0))) BK940.out 0
       obtain ⟨hcz15_1, hfz15_1⟩ := Zy (v := (.int .i64 ((Qaq l0 x13_1).f1))) BK940.out 1
       obtain ⟨hcz15_2, hfz15_2⟩ := Zy (v := (.int .i64 ((Qaq l0 x13_1).f2))) BK940.out 2
       obtain ⟨hcz15_3, hfz15_3⟩ := Zy (v := (.int .i64 ((Qaq l0 x13_1).f3))) BK940.out 3
       obtain ⟨hcz15_4, hfz15_4⟩ := Zy (v := (.int .i64 ((Qaq l0 x13_1).f4))) BK940.out 4
       obtain ⟨hcz15_5, hfz15_5⟩ := Zy (v := (.int .i64 ((Qaq l0 x13_1).f5))) BK940.out 5
       obtain ⟨hcz16_0, hfz16_0⟩ := Zy (v := (.string x939000_1)) BK938.out 0
       obtain ⟨hcz16_1, hfz16_1⟩ := Zy (v := (.int .i64 x939001_1)) BK938.out 1
       obtain ⟨hcz16_2, hfz16_2⟩ := Zy (v := (.int .i64 x939002_1)) BK938.out 2
       obtain ⟨hcz16_3, hfz16_3⟩ := Zy (v := (.int .i64 x939003_1)) BK938.out 3
       obtain ⟨hcz16_4, hfz16_4⟩ := Zy (v := (.int .i64 x939004_1)) BK938.out 4
       obtain ⟨hcz16_5, hfz16_5⟩ := Zy (v := (.int .i64 x939005_1)) BK938.out 5
       go_wp2
       refine bodyPost_ret (Qcb rfl _ _ gb938 112 #[.string ((Qaq l0 x13_1).f0), .int .i64 ((Qaq l0 x13_1).f1), .int .i64 ((Qaq l0 x13_1).f2), .int .i64 ((Qaq l0 x13_1).f3), .int .i64 ((Qaq l0 x13_1).f4), .int .i64 ((Qaq l0 x13_1).f5)] (0, 0) _ rfl (Zp2 BK938.out) Try.underlying112 rfl (by kernel_rfl)) rfl ?_
       exact ⟨Zq, Zc2 GE938.out GE940.out⟩
      rw [if_neg c13] at H
      have c13b0 : (t941.toList == a1.toList) = J := beq_eq_false_iff_ne.mpr c13
      have c13b1 : (t941.toList != a1.toList) = T := bne_iff_ne.mpr c13
      (try simp only [c13b0, c13b1])
      have H' := Aside0.mk H
      clear H
      go_wp2
      go_roundg k1
      case measure => have := HK1.out; omega
      case rel => exact ⟨(wrap64 (x13_1 + 1)), (x939000_1), (x939001_1), (x939002_1), (x939003_1), (x939004_1), (x939005_1), (Zs), H', ⟨by have := HK1.out; omega⟩, ⟨Zu BK938.out⟩, ⟨Zc2 GE938.out GE940.out⟩⟩
     rw [if_neg c7] at H
     exact absurd H (by simp)
    rw [if_neg c6] at H
    exact absurd H (by simp)
   rw [if_neg c5] at H
   have c5b0 : decide (x13_1 < (l0.length : Int)) = J := decide_eq_false c5
   clear c5
   (try simp only [c5b0])
   simp only [Option.some.injEq, Prod.mk.injEq] at H
   obtain ⟨rfl, rfl, rfl, rfl, rfl, rfl, rfl⟩ := H
   go_wp2_with (first | ((with_reducible refine QaT (N := 10) rfl ?_); refine Zbx (N := 10) (cs := #[.string (⟨#[]⟩ : ByteArray), .int .i64 0, .int .i64 0, .int .i64 0, .int .i64 0, .int .i64 0]) (t := 112) ?_; intro gb942 hg w17 hbox hb; have BK942 := Aside0.mk (hbox); have GW942 := Aside0.mk (Zt w hg (Zc1 GE938.out)); have GE942 := GW942; have NB938_942 := Aside0.mk (Zn hg BK938.out); have NB942_938 := Aside0.mk NB938_942.out.symm; replace BK938 := Aside0.mk (Zi BK938.out hb); replace HB := Aside0.mk (Qap (Zc1 GE938.out) hb); clear hb hbox hg; have hnb18 := NB942_938.out; have hnc18 := NB938_942.out; obtain ⟨hcz19_0, hfz19_0⟩ := Zy (v := (.string (⟨#[]⟩ : ByteArray))) BK942.out 0; obtain ⟨hcz19_1, hfz19_1⟩ := Zy (v := (.int .i64 0)) BK942.out 1; obtain ⟨hcz19_2, hfz19_2⟩ := Zy (v := (.int .i64 0)) BK942.out 2; obtain ⟨hcz19_3, hfz19_3⟩ := Zy (v := (.int .i64 0)) BK942.out 3; obtain ⟨hcz19_4, hfz19_4⟩ := Zy (v := (.int .i64 0)) BK942.out 4; obtain ⟨hcz19_5, hfz19_5⟩ := Zy (v := (.int .i64 0)) BK942.out 5; obtain ⟨hcz20_0, hfz20_0⟩ := Zy (v := (.string x939000_1)) BK938.out 0; obtain ⟨hcz20_1, hfz20_1⟩ := Zy (v := (.int .i64 x939001_1)) BK938.out 1; obtain ⟨hcz20_2, hfz20_2⟩ := Zy (v := (.int .i64 x939002_1)) BK938.out 2; obtain ⟨hcz20_3, hfz20_3⟩ := Zy (v := (.int .i64 x939003_1)) BK938.out 3; obtain ⟨hcz20_4, hfz20_4⟩ := Zy (v := (.int .i64 x939004_1)) BK938.out 4; obtain ⟨hcz20_5, hfz20_5⟩ := Zy (v := (.int .i64 x939005_1)) BK938.out 5))
   refine bodyPost_ret (Qcb rfl _ _ gb938 112 #[.string (⟨#[]⟩ : ByteArray), .int .i64 0, .int .i64 0, .int .i64 0, .int .i64 0, .int .i64 0] (0, 0) _ rfl (Zp2 BK938.out) Try.underlying112 rfl (by kernel_rfl)) rfl ?_
   exact ⟨Zq, Zc2 GE938.out GE942.out⟩
def Qbb.f (k : Nat) (l0 : List (S112)) (a1 : ByteArray) : Option (ByteArray × Int × Int × Int × Int × Int × Bool) := (QaJ.f k l0 a1).bind fun bt944 => (some (bt944.1, bt944.2.1, bt944.2.2.1, bt944.2.2.2.1, bt944.2.2.2.2.1, bt944.2.2.2.2.2.1, bt944.2.2.2.2.2.2))
theorem Qbb.mono : ∀ a0 a1 k, LeO (Qbb.f k a0 a1) (Qbb.f (k + 1) a0 a1) := by
 intro a0 a1 k
 unfold Qbb.f
 exact ZM1 QaJ.mono
set_option maxHeartbeats 8000000 in
theorem Qbb.calls (k : Nat) (A0 : Option Addr) (c0 : Nat) (l0 : List (S112)) (a1 : ByteArray) (r1 : ByteArray) (r2 : Int) (r3 : Int) (r4 : Int) (r5 : Int) (r6 : Int) (r7 : Bool) (w : World) (hr0 : Kd.C k112 w A0 l0.length l0) (hc0 : l0.length ≤ c0) (h : Qbb.f k l0 a1 = some (r1, r2, r3, r4, r5, r6, r7)) :
  Calls Try.prog 41 #[.slice A0 l0.length c0, .string a1] w fun e w' => e = .returned (.tuple #[.agg #[.string r1, .int .i64 r2, .int .i64 r3, .int .i64 r4, .int .i64 r5, .int .i64 r6], .bool r7]) ∧ Below w.heap.size w w' := by
 have hu112 := Try.underlying112
 have HR0 := Aside0.mk hr0
 have HC0 := Aside0.mk hc0
 clear hr0 hc0
 have HB := Aside0.mk (Below.refl w.heap.size w)
 have H : ((QaJ.f k l0 a1).bind fun bt944 => (some (bt944.1, bt944.2.1, bt944.2.2.1, bt944.2.2.2.1, bt944.2.2.2.2.1, bt944.2.2.2.2.2.1, bt944.2.2.2.2.2.2))) = some (r1, r2, r3, r4, r5, r6, r7) := h
 clear h
 replace H := Option.bind_eq_some_iff.mp H
 obtain ⟨⟨t944, t945, t946, t947, t948, t949, t950⟩, A30, H⟩ := H
 replace H : (some (t944, t945, t946, t947, t948, t949, t950)) = some (r1, r2, r3, r4, r5, r6, r7) := H
 have A3 := Aside0.mk A30
 clear A30
 simp only [Option.some.injEq, Prod.mk.injEq] at H
 obtain ⟨rfl, rfl, rfl, rfl, rfl, rfl, rfl⟩ := H
 go_enter Try.func41, Try.ntmps41
 go_wp2_with (first | ((with_reducible refine QaT (N := 4) rfl ?_); refine Zbx (N := 4) (cs := #[.string (⟨#[]⟩ : ByteArray), .int .i64 0, .int .i64 0, .int .i64 0, .int .i64 0, .int .i64 0]) (t := 112) ?_; intro gb943 hg w4 hbox hb; have BK943 := Aside0.mk (hbox); have GW943 := Aside0.mk (Zt w hg (Zb)); have GE943 := GW943; replace HB := Aside0.mk (Qap (Zb) hb); clear hb hbox hg) | ((with_reducible refine Qay (f := 109) rfl ?_); refine goesL_ (some 8) rfl rfl Try.func109 (by kernel_rfl) rfl #[.slice A0 l0.length c0, .string a1, .func (.func 110) #[] #[]] rfl (Zl) ?_; (with_reducible refine (QaJ.calls k _ _ l0 a1  t944 t945 t946 t947 t948 t949 t950 _ ?side1 ?side2 A3.out).mono ?_); (case side1 => exact Zv (Kd.C_below HR0.out HB.out)); (case side2 => exact HC0.out); rintro e w5 ⟨rfl, hb⟩; refine ⟨_, rfl, ?_⟩; replace BK943 := Aside0.mk (Zi BK943.out hb); replace HB := Aside0.mk (Qap (Zc1 GE943.out) hb); (try clear hb); (try clear hb2); (try clear hk); (try clear hi); obtain ⟨hcz6_0, hfz6_0⟩ := Zy (v := (.string (⟨#[]⟩ : ByteArray))) BK943.out 0; obtain ⟨hcz6_1, hfz6_1⟩ := Zy (v := (.int .i64 0)) BK943.out 1; obtain ⟨hcz6_2, hfz6_2⟩ := Zy (v := (.int .i64 0)) BK943.out 2; obtain ⟨hcz6_3, hfz6_3⟩ := Zy (v := (.int .i64 0)) BK943.out 3; obtain ⟨hcz6_4, hfz6_4⟩ := Zy (v := (.int .i64 0)) BK943.out 4; obtain ⟨hcz6_5, hfz6_5⟩ := Zy (v := (.int .i64 0)) BK943.out 5))
 refine bodyPost_ret (Qcb rfl _ _ gb943 112 #[.string t944, .int .i64 t945, .int .i64 t946, .int .i64 t947, .int .i64 t948, .int .i64 t949] (0, 0) _ rfl (Zp2 BK943.out) Try.underlying112 rfl (by kernel_rfl)) rfl ?_
 exact ⟨Zq, Zc1 GE943.out⟩
mutual
def Qax.j2 : Nat → Int → Int → Int → Int → Int → Int → Int → Int → Option (Int × Int)
 | 0, _, _, _, _, _, _, _, _ => none
 | k + 1, x2, x8, x9, x10, x11, x13, x14, x15 => if x9 = 0 then (none) else (Qax.l1 k x2 x8 x9 x10 x14 x15 (IntKind.u64.wrap ((IntKind.u64.wrap ((IntKind.u64.wrap ((IntKind.u64.wrap (x11 * 4294967296)) + x13)) - (IntKind.u64.wrap (x15 * x2)))) - (IntKind.u64.wrap ((IntKind.u64.wrap (Int.tdiv (IntKind.u64.wrap ((IntKind.u64.wrap ((IntKind.u64.wrap (x11 * 4294967296)) + x13)) - (IntKind.u64.wrap (x15 * x2)))) x9)) * x9)))) (IntKind.u64.wrap ((IntKind.u64.wrap ((IntKind.u64.wrap (x11 * 4294967296)) + x13)) - (IntKind.u64.wrap (x15 * x2)))) (IntKind.u64.wrap (Int.tdiv (IntKind.u64.wrap ((IntKind.u64.wrap ((IntKind.u64.wrap (x11 * 4294967296)) + x13)) - (IntKind.u64.wrap (x15 * x2)))) x9)))
def Qax.l1 : Nat → Int → Int → Int → Int → Int → Int → Int → Int → Int → Option (Int × Int)
 | 0, _, _, _, _, _, _, _, _, _ => none
 | k + 1, x2, x8, x9, x10, x14, x15, x16, x17, x18 => if x18 ≥ 4294967296 then (Qax.j4 k x2 x8 x9 x10 x14 x15 x16 x17 x18 T) else (Qax.j4 k x2 x8 x9 x10 x14 x15 x16 x17 x18 (decide ((IntKind.u64.wrap (x18 * x10)) > (IntKind.u64.wrap ((IntKind.u64.wrap (4294967296 * x16)) + x14)))))
def Qax.j4 : Nat → Int → Int → Int → Int → Int → Int → Int → Int → Int → Bool → Option (Int × Int)
 | 0, _, _, _, _, _, _, _, _, _, _ => none
 | k + 1, x2, x8, x9, x10, x14, x15, x16, x17, x18, x113 => if x113 = T then (if (IntKind.u64.wrap (x16 + x9)) ≥ 4294967296 then (if 0 ≤ x8 then (some (IntKind.u64.wrap ((IntKind.u64.wrap (x15 * 4294967296)) + (IntKind.u64.wrap (x18 - 1))), shr .u64 (IntKind.u64.wrap ((IntKind.u64.wrap ((IntKind.u64.wrap (x17 * 4294967296)) + x14)) - (IntKind.u64.wrap ((IntKind.u64.wrap (x18 - 1)) * x2)))) x8)) else (none)) else (Qax.l1 k x2 x8 x9 x10 x14 x15 (IntKind.u64.wrap (x16 + x9)) x17 (IntKind.u64.wrap (x18 - 1)))) else (if 0 ≤ x8 then (some (IntKind.u64.wrap ((IntKind.u64.wrap (x15 * 4294967296)) + x18), shr .u64 (IntKind.u64.wrap ((IntKind.u64.wrap ((IntKind.u64.wrap (x17 * 4294967296)) + x14)) - (IntKind.u64.wrap (x18 * x2)))) x8)) else (none))
def Qax.l0 : Nat → Int → Int → Int → Int → Int → Int → Int → Int → Int → Option (Int × Int)
 | 0, _, _, _, _, _, _, _, _, _ => none
 | k + 1, x2, x8, x9, x10, x11, x13, x14, x15, x16 => if x15 ≥ 4294967296 then (Qax.j1 k x2 x8 x9 x10 x11 x13 x14 x15 x16 T) else (Qax.j1 k x2 x8 x9 x10 x11 x13 x14 x15 x16 (decide ((IntKind.u64.wrap (x15 * x10)) > (IntKind.u64.wrap ((IntKind.u64.wrap (4294967296 * x16)) + x13)))))
def Qax.j1 : Nat → Int → Int → Int → Int → Int → Int → Int → Int → Int → Bool → Option (Int × Int)
 | 0, _, _, _, _, _, _, _, _, _, _ => none
 | k + 1, x2, x8, x9, x10, x11, x13, x14, x15, x16, x78 => if x78 = T then (if (IntKind.u64.wrap (x16 + x9)) ≥ 4294967296 then (Qax.j2 k x2 x8 x9 x10 x11 x13 x14 (IntKind.u64.wrap (x15 - 1))) else (Qax.l0 k x2 x8 x9 x10 x11 x13 x14 (IntKind.u64.wrap (x15 - 1)) (IntKind.u64.wrap (x16 + x9)))) else (Qax.j2 k x2 x8 x9 x10 x11 x13 x14 x15)
end
def Qax.f (k : Nat) (a0 : Int) (a1 : Int) (a2 : Int) : Option (Int × Int) := if a2 = 0 then (none) else (if a2 ≤ a0 then (none) else (if a0 = 0 then (some (IntKind.u64.wrap (Int.tdiv a1 a2), Int.tmod a1 a2)) else ((QbA.f a2).bind fun t452 => (if 0 ≤ (IntKind.u64.wrap (t452)) then (if 0 ≤ (IntKind.u64.wrap (64 - (IntKind.u64.wrap (t452)))) then (if ((shl .u64 a2 (IntKind.u64.wrap (t452))) / 4294967296) = 0 then (none) else (Qax.l0 k (shl .u64 a2 (IntKind.u64.wrap (t452))) (IntKind.u64.wrap (t452)) ((shl .u64 a2 (IntKind.u64.wrap (t452))) / 4294967296) (Go.bits .and .u64 (shl .u64 a2 (IntKind.u64.wrap (t452))) 4294967295) (Go.bits .or .u64 (shl .u64 a0 (IntKind.u64.wrap (t452))) (shr .u64 a1 (IntKind.u64.wrap (64 - (IntKind.u64.wrap (t452)))))) ((shl .u64 a1 (IntKind.u64.wrap (t452))) / 4294967296) (Go.bits .and .u64 (shl .u64 a1 (IntKind.u64.wrap (t452))) 4294967295) (IntKind.u64.wrap (Int.tdiv (Go.bits .or .u64 (shl .u64 a0 (IntKind.u64.wrap (t452))) (shr .u64 a1 (IntKind.u64.wrap (64 - (IntKind.u64.wrap (t452)))))) ((shl .u64 a2 (IntKind.u64.wrap (t452))) / 4294967296))) (IntKind.u64.wrap ((Go.bits .or .u64 (shl .u64 a0 (IntKind.u64.wrap (t452))) (shr .u64 a1 (IntKind.u64.wrap (64 - (IntKind.u64.wrap (t452)))))) - (IntKind.u64.wrap ((IntKind.u64.wrap (Int.tdiv (Go.bits .or .u64 (shl .u64 a0 (IntKind.u64.wrap (t452))) (shr .u64 a1 (IntKind.u64.wrap (64 - (IntKind.u64.wrap (t452)))))) ((shl .u64 a2 (IntKind.u64.wrap (t452))) / 4294967296))) * ((shl .u64 a2 (IntKind.u64.wrap (t452))) / 4294967296))))))) else (none)) else (none)))))
theorem Qax.mono_l : ∀ k, (∀ y0 y1 y2 y3 y4 y5 y6 y7, LeO (Qax.j2 k y0 y1 y2 y3 y4 y5 y6 y7) (Qax.j2 (k + 1) y0 y1 y2 y3 y4 y5 y6 y7)) ∧ (∀ y0 y1 y2 y3 y4 y5 y6 y7 y8, LeO (Qax.l1 k y0 y1 y2 y3 y4 y5 y6 y7 y8) (Qax.l1 (k + 1) y0 y1 y2 y3 y4 y5 y6 y7 y8)) ∧ (∀ y0 y1 y2 y3 y4 y5 y6 y7 y8 y9, LeO (Qax.j4 k y0 y1 y2 y3 y4 y5 y6 y7 y8 y9) (Qax.j4 (k + 1) y0 y1 y2 y3 y4 y5 y6 y7 y8 y9)) ∧ (∀ y0 y1 y2 y3 y4 y5 y6 y7 y8, LeO (Qax.l0 k y0 y1 y2 y3 y4 y5 y6 y7 y8) (Qax.l0 (k + 1) y0 y1 y2 y3 y4 y5 y6 y7 y8)) ∧ (∀ y0 y1 y2 y3 y4 y5 y6 y7 y8 y9, LeO (Qax.j1 k y0 y1 y2 y3 y4 y5 y6 y7 y8 y9) (Qax.j1 (k + 1) y0 y1 y2 y3 y4 y5 y6 y7 y8 y9))
 | 0 => ⟨fun _ _ _ _ _ _ _ _ r h => by simp [Qax.j2] at h, fun _ _ _ _ _ _ _ _ _ r h => by simp [Qax.l1] at h, fun _ _ _ _ _ _ _ _ _ _ r h => by simp [Qax.j4] at h, fun _ _ _ _ _ _ _ _ _ r h => by simp [Qax.l0] at h, fun _ _ _ _ _ _ _ _ _ _ r h => by simp [Qax.j1] at h⟩
 | k + 1 => by
  obtain ⟨ih0, ih1, ih2, ih3, ih4⟩ := Qax.mono_l k
  refine ⟨?_, ?_, ?_, ?_, ?_⟩
  ·intro y0 y1 y2 y3 y4 y5 y6 y7
   unfold Qax.j2
   exact ZM5 ih0 ih1 ih2 ih3 ih4
  ·intro y0 y1 y2 y3 y4 y5 y6 y7 y8
   unfold Qax.l1
   exact ZM5 ih0 ih1 ih2 ih3 ih4
  ·intro y0 y1 y2 y3 y4 y5 y6 y7 y8 y9
   unfold Qax.j4
   exact ZM5 ih0 ih1 ih2 ih3 ih4
  ·intro y0 y1 y2 y3 y4 y5 y6 y7 y8
   unfold Qax.l0
   exact ZM5 ih0 ih1 ih2 ih3 ih4
  intro y0 y1 y2 y3 y4 y5 y6 y7 y8 y9
  unfold Qax.j1
  exact ZM5 ih0 ih1 ih2 ih3 ih4
theorem Qax.mono : ∀ a0 a1 a2 k, LeO (Qax.f k a0 a1 a2) (Qax.f (k + 1) a0 a1 a2) := by
 intro a0 a1 a2 k
 obtain ⟨ih0, ih1, ih2, ih3, ih4⟩ := Qax.mono_l k
 unfold Qax.f
 exact ZM5 ih0 ih1 ih2 ih3 ih4
set_option maxHeartbeats 8000000 in
theorem Qax.calls (k : Nat) (a0 : Int) (a1 : Int) (a2 : Int) (r1 : Int) (r2 : Int) (w : World) (h : Qax.f k a0 a1 a2 = some (r1, r2)) :
  Calls Try.prog 191 #[.int .u64 a0, .int .u64 a1, .int .u64 a2] w fun e w' => e = .returned (.tuple #[.int .u64 r1, .int .u64 r2]) ∧ Drawn0 w w' := by
 have H : (if a2 = 0 then (none) else (if a2 ≤ a0 then (none) else (if a0 = 0 then (some (IntKind.u64.wrap (Int.tdiv a1 a2), Int.tmod a1 a2)) else ((QbA.f a2).bind fun t452 => (if 0 ≤ (IntKind.u64.wrap (t452)) then (if 0 ≤ (IntKind.u64.wrap (64 - (IntKind.u64.wrap (t452)))) then (if ((shl .u64 a2 (IntKind.u64.wrap (t452))) / 4294967296) = 0 then (none) else (Qax.l0 k (shl .u64 a2 (IntKind.u64.wrap (t452))) (IntKind.u64.wrap (t452)) ((shl .u64 a2 (IntKind.u64.wrap (t452))) / 4294967296) (Go.bits .and .u64 (shl .u64 a2 (IntKind.u64.wrap (t452))) 4294967295) (Go.bits .or .u64 (shl .u64 a0 (IntKind.u64.wrap (t452))) (shr .u64 a1 (IntKind.u64.wrap (64 - (IntKind.u64.wrap (t452)))))) ((shl .u64 a1 (IntKind.u64.wrap (t452))) / 4294967296) (Go.bits .and .u64 (shl .u64 a1 (IntKind.u64.wrap (t452))) 4294967295) (IntKind.u64.wrap (Int.tdiv (Go.bits .or .u64 (shl .u64 a0 (IntKind.u64.wrap (t452))) (shr .u64 a1 (IntKind.u64.wrap (64 - (IntKind.u64.wrap (t452)))))) ((shl .u64 a2 (IntKind.u64.wrap (t452))) / 4294967296))) (IntKind.u64.wrap ((Go.bits .or .u64 (shl .u64 a0 (IntKind.u64.wrap (t452))) (shr .u64 a1 (IntKind.u64.wrap (64 - (IntKind.u64.wrap (t452)))))) - (IntKind.u64.wrap ((IntKind.u64.wrap (Int.tdiv (Go.bits .or .u64 (shl .u64 a0 (IntKind.u64.wrap (t452))) (shr .u64 a1 (IntKind.u64.wrap (64 - (IntKind.u64.wrap (t452)))))) ((shl .u64 a2 (IntKind.u64.wrap (t452))) / 4294967296))) * ((shl .u64 a2 (IntKind.u64.wrap (t452))) / 4294967296))))))) else (none)) else (none)))))) = some (r1, r2) := h
 clear h
 by_cases c4 : a2 = 0
 ·rw [if_pos c4] at H
  exact absurd H (by simp)
 rw [if_neg c4] at H
 have c4b0 : (a2 == 0) = J := beq_eq_false_iff_ne.mpr c4
 have c4b1 : (a2 != 0) = T := bne_iff_ne.mpr c4
 by_cases c5 : a2 ≤ a0
 ·rw [if_pos c5] at H
  exact absurd H (by simp)
 rw [if_neg c5] at H
 have c5b0 : decide (a2 ≤ a0) = J := decide_eq_false c5
 clear c5
 by_cases c6 : a0 = 0
 ·rw [if_pos c6] at H
  have c6b0 : (a0 == 0) = T := beq_iff_eq.mpr c6
  have c6b1 : (a0 != 0) = J := bne_eq_false_iff_eq.mpr c6
  clear c6
  simp only [Option.some.injEq, Prod.mk.injEq] at H
  obtain ⟨rfl, rfl⟩ := H
  go_enter Try.func191, Try.ntmps191
  go_wp2
  repeat (go_quiet (fail); try go_wp2)
  go_ret2
  exact ⟨Zs, Zd⟩
 rw [if_neg c6] at H
 have c6b0 : (a0 == 0) = J := beq_eq_false_iff_ne.mpr c6
 have c6b1 : (a0 != 0) = T := bne_iff_ne.mpr c6
 replace H := Option.bind_eq_some_iff.mp H
 obtain ⟨t452, A70, H⟩ := H
 replace H : (if 0 ≤ (IntKind.u64.wrap (t452)) then (if 0 ≤ (IntKind.u64.wrap (64 - (IntKind.u64.wrap (t452)))) then (if ((shl .u64 a2 (IntKind.u64.wrap (t452))) / 4294967296) = 0 then (none) else (Qax.l0 k (shl .u64 a2 (IntKind.u64.wrap (t452))) (IntKind.u64.wrap (t452)) ((shl .u64 a2 (IntKind.u64.wrap (t452))) / 4294967296) (Go.bits .and .u64 (shl .u64 a2 (IntKind.u64.wrap (t452))) 4294967295) (Go.bits .or .u64 (shl .u64 a0 (IntKind.u64.wrap (t452))) (shr .u64 a1 (IntKind.u64.wrap (64 - (IntKind.u64.wrap (t452)))))) ((shl .u64 a1 (IntKind.u64.wrap (t452))) / 4294967296) (Go.bits .and .u64 (shl .u64 a1 (IntKind.u64.wrap (t452))) 4294967295) (IntKind.u64.wrap (Int.tdiv (Go.bits .or .u64 (shl .u64 a0 (IntKind.u64.wrap (t452))) (shr .u64 a1 (IntKind.u64.wrap (64 - (IntKind.u64.wrap (t452)))))) ((shl .u64 a2 (IntKind.u64.wrap (t452))) / 4294967296))) (IntKind.u64.wrap ((Go.bits .or .u64 (shl .u64 a0 (IntKind.u64.wrap (t452))) (shr .u64 a1 (IntKind.u64.wrap (64 - (IntKind.u64.wrap (t452)))))) - (IntKind.u64.wrap ((IntKind.u64.wrap (Int.tdiv (Go.bits .or .u64 (shl .u64 a0 (IntKind.u64.wrap (t452))) (shr .u64 a1 (IntKind.u64.wrap (64 - (IntKind.u64.wrap (t452)))))) ((shl .u64 a2 (IntKind.u64.wrap (t452))) / 4294967296))) * ((shl .u64 a2 (IntKind.u64.wrap (t452))) / 4294967296))))))) else (none)) else (none)) = some (r1, r2) := H
 have A7 := Aside0.mk A70
 clear A70
 obtain ⟨ji8, hji8⟩ : ∃ j_ : Int, (IntKind.u64.wrap (t452)) = j_ := ⟨_, rfl⟩
 replace H : (if 0 ≤ (ji8) then (if 0 ≤ (IntKind.u64.wrap (64 - (ji8))) then (if ((shl .u64 a2 (ji8)) / 4294967296) = 0 then (none) else (Qax.l0 k (shl .u64 a2 (ji8)) ji8 ((shl .u64 a2 (ji8)) / 4294967296) (Go.bits .and .u64 (shl .u64 a2 (ji8)) 4294967295) (Go.bits .or .u64 (shl .u64 a0 (ji8)) (shr .u64 a1 (IntKind.u64.wrap (64 - (ji8))))) ((shl .u64 a1 (ji8)) / 4294967296) (Go.bits .and .u64 (shl .u64 a1 (ji8)) 4294967295) (IntKind.u64.wrap (Int.tdiv (Go.bits .or .u64 (shl .u64 a0 (ji8)) (shr .u64 a1 (IntKind.u64.wrap (64 - (ji8))))) ((shl .u64 a2 (ji8)) / 4294967296))) (IntKind.u64.wrap ((Go.bits .or .u64 (shl .u64 a0 (ji8)) (shr .u64 a1 (IntKind.u64.wrap (64 - (ji8))))) - (IntKind.u64.wrap ((IntKind.u64.wrap (Int.tdiv (Go.bits .or .u64 (shl .u64 a0 (ji8)) (shr .u64 a1 (IntKind.u64.wrap (64 - (ji8))))) ((shl .u64 a2 (ji8)) / 4294967296))) * ((shl .u64 a2 (ji8)) / 4294967296))))))) else (none)) else (none)) = some (r1, r2) := by first | (rw [hji8] at H; exact H) | (simp only [hji8] at H ⊢; exact H)
 (try rw [hji8] at A7)
 by_cases c9 : 0 ≤ (ji8)
 ·rw [if_pos c9] at H
  have c9b0 := eq_true c9
  have c9b1 : decide (0 ≤ (ji8)) = T := decide_eq_true c9
  clear c9
  obtain ⟨ji10, hji10⟩ : ∃ j_ : Int, (shl .u64 a2 (ji8)) = j_ := ⟨_, rfl⟩
  replace H : (if 0 ≤ (IntKind.u64.wrap (64 - (ji8))) then (if ((ji10) / 4294967296) = 0 then (none) else (Qax.l0 k ji10 ji8 ((ji10) / 4294967296) (Go.bits .and .u64 (ji10) 4294967295) (Go.bits .or .u64 (shl .u64 a0 (ji8)) (shr .u64 a1 (IntKind.u64.wrap (64 - (ji8))))) ((shl .u64 a1 (ji8)) / 4294967296) (Go.bits .and .u64 (shl .u64 a1 (ji8)) 4294967295) (IntKind.u64.wrap (Int.tdiv (Go.bits .or .u64 (shl .u64 a0 (ji8)) (shr .u64 a1 (IntKind.u64.wrap (64 - (ji8))))) ((ji10) / 4294967296))) (IntKind.u64.wrap ((Go.bits .or .u64 (shl .u64 a0 (ji8)) (shr .u64 a1 (IntKind.u64.wrap (64 - (ji8))))) - (IntKind.u64.wrap ((IntKind.u64.wrap (Int.tdiv (Go.bits .or .u64 (shl .u64 a0 (ji8)) (shr .u64 a1 (IntKind.u64.wrap (64 - (ji8))))) ((ji10) / 4294967296))) * ((ji10) / 4294967296))))))) else (none)) = some (r1, r2) := by first | (rw [hji10] at H; exact H) | (simp only [hji10] at H ⊢; exact H)
  (try rw [hji10] at A7)
  have hji10_ : (IntKind.u64.wrap (a2 * 2 ^ min (ji8).toNat 64)) = ji10 := hji10
  have hji10z : (ji8) ≤ 64 → (IntKind.u64.wrap (a2 * 2 ^ (ji8).toNat)) = ji10 := Qc6 hji10
  have c11b0 := eq_true (Ze : 0 ≤ (ji8))
  obtain ⟨ji12, hji12⟩ : ∃ j_ : Int, (shl .u64 a0 (ji8)) = j_ := ⟨_, rfl⟩
  replace H : (if 0 ≤ (IntKind.u64.wrap (64 - (ji8))) then (if ((ji10) / 4294967296) = 0 then (none) else (Qax.l0 k ji10 ji8 ((ji10) / 4294967296) (Go.bits .and .u64 (ji10) 4294967295) (Go.bits .or .u64 (ji12) (shr .u64 a1 (IntKind.u64.wrap (64 - (ji8))))) ((shl .u64 a1 (ji8)) / 4294967296) (Go.bits .and .u64 (shl .u64 a1 (ji8)) 4294967295) (IntKind.u64.wrap (Int.tdiv (Go.bits .or .u64 (ji12) (shr .u64 a1 (IntKind.u64.wrap (64 - (ji8))))) ((ji10) / 4294967296))) (IntKind.u64.wrap ((Go.bits .or .u64 (ji12) (shr .u64 a1 (IntKind.u64.wrap (64 - (ji8))))) - (IntKind.u64.wrap ((IntKind.u64.wrap (Int.tdiv (Go.bits .or .u64 (ji12) (shr .u64 a1 (IntKind.u64.wrap (64 - (ji8))))) ((ji10) / 4294967296))) * ((ji10) / 4294967296))))))) else (none)) = some (r1, r2) := by first | (rw [hji12] at H; exact H) | (simp only [hji12] at H ⊢; exact H)
  (try rw [hji12] at A7)
  have hji12_ : (IntKind.u64.wrap (a0 * 2 ^ min (ji8).toNat 64)) = ji12 := hji12
  have hji12z : (ji8) ≤ 64 → (IntKind.u64.wrap (a0 * 2 ^ (ji8).toNat)) = ji12 := Qc6 hji12
  obtain ⟨ji13, hji13⟩ : ∃ j_ : Int, (IntKind.u64.wrap (64 - (ji8))) = j_ := ⟨_, rfl⟩
  replace H : (if 0 ≤ (ji13) then (if ((ji10) / 4294967296) = 0 then (none) else (Qax.l0 k ji10 ji8 ((ji10) / 4294967296) (Go.bits .and .u64 (ji10) 4294967295) (Go.bits .or .u64 (ji12) (shr .u64 a1 (ji13))) ((shl .u64 a1 (ji8)) / 4294967296) (Go.bits .and .u64 (shl .u64 a1 (ji8)) 4294967295) (IntKind.u64.wrap (Int.tdiv (Go.bits .or .u64 (ji12) (shr .u64 a1 (ji13))) ((ji10) / 4294967296))) (IntKind.u64.wrap ((Go.bits .or .u64 (ji12) (shr .u64 a1 (ji13))) - (IntKind.u64.wrap ((IntKind.u64.wrap (Int.tdiv (Go.bits .or .u64 (ji12) (shr .u64 a1 (ji13))) ((ji10) / 4294967296))) * ((ji10) / 4294967296))))))) else (none)) = some (r1, r2) := by first | (rw [hji13] at H; exact H) | (simp only [hji13] at H ⊢; exact H)
  (try rw [hji13] at A7)
  by_cases c14 : 0 ≤ (ji13)
  ·rw [if_pos c14] at H
   have c14b0 := eq_true c14
   have c14b1 : decide (0 ≤ (ji13)) = T := decide_eq_true c14
   clear c14
   obtain ⟨ji15, hji15⟩ : ∃ j_ : Int, (shr .u64 a1 (ji13)) = j_ := ⟨_, rfl⟩
   replace H : (if ((ji10) / 4294967296) = 0 then (none) else (Qax.l0 k ji10 ji8 ((ji10) / 4294967296) (Go.bits .and .u64 (ji10) 4294967295) (Go.bits .or .u64 (ji12) (ji15)) ((shl .u64 a1 (ji8)) / 4294967296) (Go.bits .and .u64 (shl .u64 a1 (ji8)) 4294967295) (IntKind.u64.wrap (Int.tdiv (Go.bits .or .u64 (ji12) (ji15)) ((ji10) / 4294967296))) (IntKind.u64.wrap ((Go.bits .or .u64 (ji12) (ji15)) - (IntKind.u64.wrap ((IntKind.u64.wrap (Int.tdiv (Go.bits .or .u64 (ji12) (ji15)) ((ji10) / 4294967296))) * ((ji10) / 4294967296))))))) = some (r1, r2) := by first | (rw [hji15] at H; exact H) | (simp only [hji15] at H ⊢; exact H)
   (try rw [hji15] at A7)
   have hji15_ : (a1 / 2 ^ min (ji13).toNat 64) = ji15 := hji15
   have hji15z : (ji13) ≤ 64 → (a1 / 2 ^ (ji13).toNat) = ji15 := Qc7 hji15
   have c16b0 := eq_true (Ze : 0 ≤ (ji8))
   obtain ⟨ji17, hji17⟩ : ∃ j_ : Int, (shl .u64 a1 (ji8)) = j_ := ⟨_, rfl⟩
   replace H : (if ((ji10) / 4294967296) = 0 then (none) else (Qax.l0 k ji10 ji8 ((ji10) / 4294967296) (Go.bits .and .u64 (ji10) 4294967295) (Go.bits .or .u64 (ji12) (ji15)) ((ji17) / 4294967296) (Go.bits .and .u64 (ji17) 4294967295) (IntKind.u64.wrap (Int.tdiv (Go.bits .or .u64 (ji12) (ji15)) ((ji10) / 4294967296))) (IntKind.u64.wrap ((Go.bits .or .u64 (ji12) (ji15)) - (IntKind.u64.wrap ((IntKind.u64.wrap (Int.tdiv (Go.bits .or .u64 (ji12) (ji15)) ((ji10) / 4294967296))) * ((ji10) / 4294967296))))))) = some (r1, r2) := by first | (rw [hji17] at H; exact H) | (simp only [hji17] at H ⊢; exact H)
   (try rw [hji17] at A7)
   have hji17_ : (IntKind.u64.wrap (a1 * 2 ^ min (ji8).toNat 64)) = ji17 := hji17
   have hji17z : (ji8) ≤ 64 → (IntKind.u64.wrap (a1 * 2 ^ (ji8).toNat)) = ji17 := Qc6 hji17
   by_cases c18 : ((ji10) / 4294967296) = 0
   ·rw [if_pos c18] at H
    exact absurd H (by simp)
   rw [if_neg c18] at H
   have c18b0 : (((ji10) / 4294967296) == 0) = J := beq_eq_false_iff_ne.mpr c18
   have c18b1 : (((ji10) / 4294967296) != 0) = T := bne_iff_ne.mpr c18
   have HC19 := Aside0.mk H
   clear H
   go_enter Try.func191, Try.ntmps191
   go_upto_block 0 with (first | (go_at_call 220; (with_reducible refine (QbA.calls a2 t452 _ A7.out).mono ?_); rintro e w' ⟨rfl, ⟨nd, rfl⟩⟩; (try first | exact ⟨rfl, _, World.drewN_drewN _ _ _⟩ | exact ⟨rfl, _, Eq.trans (World.drewN_drewN _ _ _) (congrArg (World.drewN _) (Nat.add_assoc _ _ _))⟩)))
   repeat (go_quiet (first | (go_at_call 220; (with_reducible refine (QbA.calls a2 t452 _ A7.out).mono ?_); rintro e w' ⟨rfl, ⟨nd, rfl⟩⟩; (try first | exact ⟨rfl, _, World.drewN_drewN _ _ _⟩ | exact ⟨rfl, _, Eq.trans (World.drewN_drewN _ _ _) (congrArg (World.drewN _) (Nat.add_assoc _ _ _))⟩))); go_upto_block 0 with (first | (go_at_call 220; (with_reducible refine (QbA.calls a2 t452 _ A7.out).mono ?_); rintro e w' ⟨rfl, ⟨nd, rfl⟩⟩; (try first | exact ⟨rfl, _, World.drewN_drewN _ _ _⟩ | exact ⟨rfl, _, Eq.trans (World.drewN_drewN _ _ _) (congrArg (World.drewN _) (Nat.add_assoc _ _ _))⟩))))
   (try simp only [Act.put, Zj, Zk, Zm])
   go_cut [15] (fun v15 wc => ∃ (kq : Nat) (x15_18 : Int), v15 = .int .u64 x15_18 ∧ Aside0 (Qax.j2 kq ji10 ji8 ((ji10) / 4294967296) (Go.bits .and .u64 (ji10) 4294967295) (Go.bits .or .u64 (ji12) (ji15)) ((ji17) / 4294967296) (Go.bits .and .u64 (ji17) 4294967295) x15_18 = some (r1, r2)) ∧ Aside0 (kq ≤ k) ∧ Drawn0 w wc)
   case first =>
    have H := HC19.out
    clear HC19
    have H' := Aside0.mk H
    clear H
    go_wp2
    repeat (go_quiet (fail); try go_wp2)
    go_loopg [15, 16] k (fun kq v15 v16 w' => ∃ (x15_1 : Int) (x16_1 : Int), v15 = .int .u64 x15_1 ∧ v16 = .int .u64 x16_1 ∧ Aside0 (Qax.l0 kq ji10 ji8 ((ji10) / 4294967296) (Go.bits .and .u64 (ji10) 4294967295) (Go.bits .or .u64 (ji12) (ji15)) ((ji17) / 4294967296) (Go.bits .and .u64 (ji17) 4294967295) x15_1 x16_1 = some (r1, r2)) ∧ Aside0 (kq ≤ k) ∧ Drawn0 w w')
    case atStart => exact ⟨(IntKind.u64.wrap (Int.tdiv (Go.bits .or .u64 (ji12) (ji15)) ((ji10) / 4294967296))), (IntKind.u64.wrap ((Go.bits .or .u64 (ji12) (ji15)) - (IntKind.u64.wrap ((IntKind.u64.wrap (Int.tdiv (Go.bits .or .u64 (ji12) (ji15)) ((ji10) / 4294967296))) * ((ji10) / 4294967296))))), (by first | rfl | (simp; done) | (simp only [← hji10, ← hji12, ← hji15] <;> (first | rfl | simp)) | (simp [*]; done)), (by first | rfl | (simp; done) | (simp only [← hji10, ← hji12, ← hji15] <;> (first | rfl | simp)) | (simp [*]; done)), H', ⟨Nat.le_refl _⟩, Zd⟩
    case round =>
     clear H'
     try clear c1
     try clear p2
     try clear c4
     try clear c4b0
     try clear c4b1
     try clear c5
     try clear c5b0
     try clear c6
     try clear c6b0
     try clear c6b1
     try clear c9
     try clear c9b0
     try clear c9b1
     try clear c11
     try clear c11b0
     try clear c14
     try clear c14b0
     try clear c14b1
     try clear c16
     try clear c16b0
     try clear c18
     try clear c18b0
     try clear c18b1
     try clear c19
     obtain ⟨x15_1, x16_1, rfl, rfl, HA, HK1, ⟨m1, rfl⟩⟩ := hrel
     cases gk with
     | zero => exact absurd HA.out (by simp [Qax.l0])
     | succ k1 =>
      have H := HA.out
      clear HA
      simp only [Qax.l0] at H
      have HC20 := Aside0.mk H
      clear H
      go_upto_region 17 with (fail)
      repeat (go_quiet (fail); go_upto_region 17 with (fail))
      go_cut [78] (fun v78 wc => ∃ (kq : Nat) (x78_19 : Bool), v78 = .bool x78_19 ∧ Aside0 (Qax.j1 kq ji10 ji8 ((ji10) / 4294967296) (Go.bits .and .u64 (ji10) 4294967295) (Go.bits .or .u64 (ji12) (ji15)) ((ji17) / 4294967296) (Go.bits .and .u64 (ji17) 4294967295) x15_1 x16_1 x78_19 = some (r1, r2)) ∧ Aside0 (kq ≤ k1) ∧ Drawn0 w wc)
      case first =>
       have H := HC20.out
       clear HC20
       by_cases c21 : x15_1 ≥ 4294967296
       ·rw [if_pos c21] at H
        have c21b0 : decide (4294967296 ≤ x15_1) = T := decide_eq_true c21
        clear c21
        have H' := Aside0.mk H
        clear H
        go_wp2
        repeat (go_quiet (fail); try go_wp2)
        go_meet
        case rel => exact ⟨_, (T), (Zs), H', ⟨by have := HK1.out; first | omega | exact Nat.le_refl _⟩, Zd⟩
       rw [if_neg c21] at H
       have c21b0 : decide (4294967296 ≤ x15_1) = J := decide_eq_false c21
       clear c21
       have H' := Aside0.mk H
       clear H
       go_wp2
       repeat (go_quiet (fail); try go_wp2)
       go_meet
       case rel => exact ⟨_, (decide ((IntKind.u64.wrap (x15_1 * (Go.bits .and .u64 (ji10) 4294967295))) > (IntKind.u64.wrap ((IntKind.u64.wrap (4294967296 * x16_1)) + ((ji17) / 4294967296))))), (by first | rfl | (simp; done) | (simp only [← hji10, ← hji17] <;> (first | rfl | simp)) | (simp [*]; done)), H', ⟨by have := HK1.out; first | omega | exact Nat.le_refl _⟩, Zd⟩
      case rest =>
       clear HC20
       try clear c1
       try clear c2
       try clear p2
       try clear c4
       try clear c4b0
       try clear c4b1
       try clear c5
       try clear c5b0
       try clear c6
       try clear c6b0
       try clear c6b1
       try clear c9
       try clear c9b0
       try clear c9b1
       try clear c11
       try clear c11b0
       try clear c14
       try clear c14b0
       try clear c14b1
       try clear c16
       try clear c16b0
       try clear c18
       try clear c18b0
       try clear c18b1
       try clear c19
       try clear c21
       try clear c21b0
       try clear p2
       obtain ⟨kq, x78_19, rfl, HA, HJ19, ⟨mc19, rfl⟩⟩ := hcut
       cases kq with
       | zero => exact absurd HA.out (by simp [Qax.j1])
       | succ kj19 =>
        have H := HA.out
        clear HA
        simp only [Qax.j1] at H
        by_cases c22 : x78_19 = T
        ·subst c22
         have H1 : (if (IntKind.u64.wrap (x16_1 + ((ji10) / 4294967296))) ≥ 4294967296 then (Qax.j2 kj19 ji10 ji8 ((ji10) / 4294967296) (Go.bits .and .u64 (ji10) 4294967295) (Go.bits .or .u64 (ji12) (ji15)) ((ji17) / 4294967296) (Go.bits .and .u64 (ji17) 4294967295) (IntKind.u64.wrap (x15_1 - 1))) else (Qax.l0 kj19 ji10 ji8 ((ji10) / 4294967296) (Go.bits .and .u64 (ji10) 4294967295) (Go.bits .or .u64 (ji12) (ji15)) ((ji17) / 4294967296) (Go.bits .and .u64 (ji17) 4294967295) (IntKind.u64.wrap (x15_1 - 1)) (IntKind.u64.wrap (x16_1 + ((ji10) / 4294967296))))) = some (r1, r2) := by rw [if_pos rfl] at H; exact H
         clear H
         have H := H1
         clear H1
         by_cases c23 : (IntKind.u64.wrap (x16_1 + ((ji10) / 4294967296))) ≥ 4294967296
         ·rw [if_pos c23] at H
          have c23b0 : decide (4294967296 ≤ (IntKind.u64.wrap (x16_1 + ((ji10) / 4294967296)))) = T := decide_eq_true c23
          clear c23
          (try simp only [c23b0])
          have H' := Aside0.mk H
          clear H
          go_wp2
          repeat (go_quiet (fail); try go_wp2)
          go_meet
          case rel => exact ⟨_, (IntKind.u64.wrap (x15_1 - 1)), (Zs), H', ⟨by have := HK1.out; have := HJ19.out; first | omega | exact Nat.le_refl _⟩, Zd⟩
         rw [if_neg c23] at H
         have c23b0 : decide (4294967296 ≤ (IntKind.u64.wrap (x16_1 + ((ji10) / 4294967296)))) = J := decide_eq_false c23
         clear c23
         (try simp only [c23b0])
         have H' := Aside0.mk H
         clear H
         go_wp2
         repeat (go_quiet (fail); try go_wp2)
         go_roundg kj19
         case measure => have := HK1.out; have := HJ19.out; omega
         case rel => exact ⟨(IntKind.u64.wrap (x15_1 - 1)), (IntKind.u64.wrap (x16_1 + ((ji10) / 4294967296))), (Zs), (by first | rfl | (simp; done) | (simp only [← hji10] <;> (first | rfl | simp)) | (simp [*]; done)), H', ⟨by have := HK1.out; have := HJ19.out; omega⟩, Zd⟩
        replace c22 := Bool.eq_false_iff.mpr c22
        subst c22
        have H1 : (Qax.j2 kj19 ji10 ji8 ((ji10) / 4294967296) (Go.bits .and .u64 (ji10) 4294967295) (Go.bits .or .u64 (ji12) (ji15)) ((ji17) / 4294967296) (Go.bits .and .u64 (ji17) 4294967295) x15_1) = some (r1, r2) := by rw [if_neg (show ¬ (J = T) by decide)] at H; exact H
        clear H
        have H := H1
        clear H1
        have H' := Aside0.mk H
        clear H
        go_wp2
        repeat (go_quiet (fail); try go_wp2)
        go_meet
        case rel => exact ⟨_, (x15_1), (Zs), H', ⟨by have := HK1.out; have := HJ19.out; first | omega | exact Nat.le_refl _⟩, Zd⟩
   case rest =>
    clear HC19
    try clear c1
    try clear c2
    try clear p2
    try clear c4
    try clear c4b0
    try clear c4b1
    try clear c5
    try clear c5b0
    try clear c6
    try clear c6b0
    try clear c6b1
    try clear c9
    try clear c9b0
    try clear c9b1
    try clear c11
    try clear c11b0
    try clear c14
    try clear c14b0
    try clear c14b1
    try clear c16
    try clear c16b0
    try clear c18
    try clear c18b0
    try clear c18b1
    try clear c19
    try clear c21
    try clear c21b0
    try clear c22
    try clear c23
    try clear c23b0
    try clear p2
    obtain ⟨kq, x15_18, rfl, HA, HJ18, ⟨mc18, rfl⟩⟩ := hcut
    cases kq with
    | zero => exact absurd HA.out (by simp [Qax.j2])
    | succ kj18 =>
     have H := HA.out
     clear HA
     simp only [Qax.j2] at H
     by_cases c24 : ((ji10) / 4294967296) = 0
     ·rw [if_pos c24] at H
      exact absurd H (by simp)
     rw [if_neg c24] at H
     have c24b0 : (((ji10) / 4294967296) == 0) = J := beq_eq_false_iff_ne.mpr c24
     have c24b1 : (((ji10) / 4294967296) != 0) = T := bne_iff_ne.mpr c24
     have H' := Aside0.mk H
     clear H
     go_wp2
     repeat (go_quiet (fail); try go_wp2)
     go_loopg [16, 18] kj18 (fun kq v16 v18 w' => ∃ (x16_2 : Int) (x18_2 : Int), v16 = .int .u64 x16_2 ∧ v18 = .int .u64 x18_2 ∧ Aside0 (Qax.l1 kq ji10 ji8 ((ji10) / 4294967296) (Go.bits .and .u64 (ji10) 4294967295) (Go.bits .and .u64 (ji17) 4294967295) x15_18 x16_2 (IntKind.u64.wrap ((IntKind.u64.wrap ((IntKind.u64.wrap ((Go.bits .or .u64 (ji12) (ji15)) * 4294967296)) + ((ji17) / 4294967296))) - (IntKind.u64.wrap (x15_18 * ji10)))) x18_2 = some (r1, r2)) ∧ Aside0 (kq ≤ kj18) ∧ Drawn0 w w')
     case atStart => exact ⟨(IntKind.u64.wrap ((IntKind.u64.wrap ((IntKind.u64.wrap ((IntKind.u64.wrap ((Go.bits .or .u64 (ji12) (ji15)) * 4294967296)) + ((ji17) / 4294967296))) - (IntKind.u64.wrap (x15_18 * ji10)))) - (IntKind.u64.wrap ((IntKind.u64.wrap (Int.tdiv (IntKind.u64.wrap ((IntKind.u64.wrap ((IntKind.u64.wrap ((Go.bits .or .u64 (ji12) (ji15)) * 4294967296)) + ((ji17) / 4294967296))) - (IntKind.u64.wrap (x15_18 * ji10)))) ((ji10) / 4294967296))) * ((ji10) / 4294967296))))), (IntKind.u64.wrap (Int.tdiv (IntKind.u64.wrap ((IntKind.u64.wrap ((IntKind.u64.wrap ((Go.bits .or .u64 (ji12) (ji15)) * 4294967296)) + ((ji17) / 4294967296))) - (IntKind.u64.wrap (x15_18 * ji10)))) ((ji10) / 4294967296))), (by first | rfl | (simp; done) | (simp only [← hji10, ← hji12, ← hji15, ← hji17] <;> (first | rfl | simp)) | (simp [*]; done)), (by first | rfl | (simp; done) | (simp only [← hji10, ← hji12, ← hji15, ← hji17] <;> (first | rfl | simp)) | (simp [*]; done)), H', ⟨Nat.le_refl _⟩, Zd⟩
     case round =>
      clear H'
      try clear c1
      try clear c2
      try clear p2
      try clear c4
      try clear c4b0
      try clear c4b1
      try clear c5
      try clear c5b0
      try clear c6
      try clear c6b0
      try clear c6b1
      try clear c9
      try clear c9b0
      try clear c9b1
      try clear c11
      try clear c11b0
      try clear c14
      try clear c14b0
      try clear c14b1
      try clear c16
      try clear c16b0
      try clear c18
      try clear c18b0
      try clear c18b1
      try clear c19
      try clear c21
      try clear c21b0
      try clear c22
      try clear c23
      try clear c23b0
      try clear c24
      try clear c24b0
      try clear c24b1
      try clear p2
      obtain ⟨x16_2, x18_2, rfl, rfl, HA, HK2, ⟨m2, rfl⟩⟩ := hrel
      cases gk with
      | zero => exact absurd HA.out (by simp [Qax.l1])
      | succ k2 =>
       have H := HA.out
       clear HA
       simp only [Qax.l1] at H
       have HC25 := Aside0.mk H
       clear H
       go_upto_region 24 with (fail)
       repeat (go_quiet (fail); go_upto_region 24 with (fail))
       go_cut [113] (fun v113 wc => ∃ (kq : Nat) (x113_24 : Bool), v113 = .bool x113_24 ∧ Aside0 (Qax.j4 kq ji10 ji8 ((ji10) / 4294967296) (Go.bits .and .u64 (ji10) 4294967295) (Go.bits .and .u64 (ji17) 4294967295) x15_18 x16_2 (IntKind.u64.wrap ((IntKind.u64.wrap ((IntKind.u64.wrap ((Go.bits .or .u64 (ji12) (ji15)) * 4294967296)) + ((ji17) / 4294967296))) - (IntKind.u64.wrap (x15_18 * ji10)))) x18_2 x113_24 = some (r1, r2)) ∧ Aside0 (kq ≤ k2) ∧ Drawn0 w wc)
       case first =>
        have H := HC25.out
        clear HC25
        by_cases c26 : x18_2 ≥ 4294967296
        ·rw [if_pos c26] at H
         have c26b0 : decide (4294967296 ≤ x18_2) = T := decide_eq_true c26
         clear c26
         have H' := Aside0.mk H
         clear H
         go_wp2
         repeat (go_quiet (fail); try go_wp2)
         go_meet
         case rel => exact ⟨_, (T), (Zs), H', ⟨by have := HJ18.out; have := HK2.out; first | omega | exact Nat.le_refl _⟩, Zd⟩
        rw [if_neg c26] at H
        have c26b0 : decide (4294967296 ≤ x18_2) = J := decide_eq_false c26
        clear c26
        have H' := Aside0.mk H
        clear H
        go_wp2
        repeat (go_quiet (fail); try go_wp2)
        go_meet
        case rel => exact ⟨_, (decide ((IntKind.u64.wrap (x18_2 * (Go.bits .and .u64 (ji10) 4294967295))) > (IntKind.u64.wrap ((IntKind.u64.wrap (4294967296 * x16_2)) + (Go.bits .and .u64 (ji17) 4294967295))))), (by first | rfl | (simp; done) | (simp only [← hji10, ← hji17] <;> (first | rfl | simp)) | (simp [*]; done)), H', ⟨by have := HJ18.out; have := HK2.out; first | omega | exact Nat.le_refl _⟩, Zd⟩
       case rest =>
        clear HC25
        try clear c1
        try clear c2
        try clear p2
        try clear c4
        try clear c4b0
        try clear c4b1
        try clear c5
        try clear c5b0
        try clear c6
        try clear c6b0
        try clear c6b1
        try clear c9
        try clear c9b0
        try clear c9b1
        try clear c11
        try clear c11b0
        try clear c14
        try clear c14b0
        try clear c14b1
        try clear c16
        try clear c16b0
        try clear c18
        try clear c18b0
        try clear c18b1
        try clear c19
        try clear c21
        try clear c21b0
        try clear c22
        try clear c23
        try clear c23b0
        try clear c24
        try clear c24b0
        try clear c24b1
        try clear c26
        try clear c26b0
        try clear p2
        obtain ⟨kq, x113_24, rfl, HA, HJ24, ⟨mc24, rfl⟩⟩ := hcut
        cases kq with
        | zero => exact absurd HA.out (by simp [Qax.j4])
        | succ kj24 =>
         have H := HA.out
         clear HA
         simp only [Qax.j4] at H
         by_cases c27 : x113_24 = T
         ·subst c27
          have H1 : (if (IntKind.u64.wrap (x16_2 + ((ji10) / 4294967296))) ≥ 4294967296 then (if 0 ≤ ji8 then (some (IntKind.u64.wrap ((IntKind.u64.wrap (x15_18 * 4294967296)) + (IntKind.u64.wrap (x18_2 - 1))), shr .u64 (IntKind.u64.wrap ((IntKind.u64.wrap ((IntKind.u64.wrap ((IntKind.u64.wrap ((IntKind.u64.wrap ((IntKind.u64.wrap ((Go.bits .or .u64 (ji12) (ji15)) * 4294967296)) + ((ji17) / 4294967296))) - (IntKind.u64.wrap (x15_18 * ji10)))) * 4294967296)) + (Go.bits .and .u64 (ji17) 4294967295))) - (IntKind.u64.wrap ((IntKind.u64.wrap (x18_2 - 1)) * ji10)))) ji8)) else (none)) else (Qax.l1 kj24 ji10 ji8 ((ji10) / 4294967296) (Go.bits .and .u64 (ji10) 4294967295) (Go.bits .and .u64 (ji17) 4294967295) x15_18 (IntKind.u64.wrap (x16_2 + ((ji10) / 4294967296))) (IntKind.u64.wrap ((IntKind.u64.wrap ((IntKind.u64.wrap ((Go.bits .or .u64 (ji12) (ji15)) * 4294967296)) + ((ji17) / 4294967296))) - (IntKind.u64.wrap (x15_18 * ji10)))) (IntKind.u64.wrap (x18_2 - 1)))) = some (r1, r2) := by rw [if_pos rfl] at H; exact H
          clear H
          have H := H1
          clear H1
          by_cases c28 : (IntKind.u64.wrap (x16_2 + ((ji10) / 4294967296))) ≥ 4294967296
          ·rw [if_pos c28] at H
           have c28b0 : decide (4294967296 ≤ (IntKind.u64.wrap (x16_2 + ((ji10) / 4294967296)))) = T := decide_eq_true c28
           clear c28
           (try simp only [c28b0])
           by_cases c29 : 0 ≤ ji8
           ·rw [if_pos c29] at H
            have c29b0 := eq_true c29
            have c29b1 : decide (0 ≤ ji8) = T := decide_eq_true c29
            clear c29
            obtain ⟨ji30, hji30⟩ : ∃ j_ : Int, (shr .u64 (IntKind.u64.wrap ((IntKind.u64.wrap ((IntKind.u64.wrap ((IntKind.u64.wrap ((IntKind.u64.wrap ((IntKind.u64.wrap ((Go.bits .or .u64 (ji12) (ji15)) * 4294967296)) + ((ji17) / 4294967296))) - (IntKind.u64.wrap (x15_18 * ji10)))) * 4294967296)) + (Go.bits .and .u64 (ji17) 4294967295))) - (IntKind.u64.wrap ((IntKind.u64.wrap (x18_2 - 1)) * ji10)))) ji8) = j_ := ⟨_, rfl⟩
            replace H : (some (IntKind.u64.wrap ((IntKind.u64.wrap (x15_18 * 4294967296)) + (IntKind.u64.wrap (x18_2 - 1))), ji30)) = some (r1, r2) := by first | (rw [hji30] at H; exact H) | (simp only [hji30] at H ⊢; exact H)
            have hji30_ : ((IntKind.u64.wrap ((IntKind.u64.wrap ((IntKind.u64.wrap ((IntKind.u64.wrap ((IntKind.u64.wrap ((IntKind.u64.wrap ((Go.bits .or .u64 (ji12) (ji15)) * 4294967296)) + ((ji17) / 4294967296))) - (IntKind.u64.wrap (x15_18 * ji10)))) * 4294967296)) + (Go.bits .and .u64 (ji17) 4294967295))) - (IntKind.u64.wrap ((IntKind.u64.wrap (x18_2 - 1)) * ji10)))) / 2 ^ min ji8.toNat 64) = ji30 := hji30
            have hji30z : ji8 ≤ 64 → ((IntKind.u64.wrap ((IntKind.u64.wrap ((IntKind.u64.wrap ((IntKind.u64.wrap ((IntKind.u64.wrap ((IntKind.u64.wrap ((Go.bits .or .u64 (ji12) (ji15)) * 4294967296)) + ((ji17) / 4294967296))) - (IntKind.u64.wrap (x15_18 * ji10)))) * 4294967296)) + (Go.bits .and .u64 (ji17) 4294967295))) - (IntKind.u64.wrap ((IntKind.u64.wrap (x18_2 - 1)) * ji10)))) / 2 ^ ji8.toNat) = ji30 := Qc7 hji30
            simp only [Option.some.injEq, Prod.mk.injEq] at H
            obtain ⟨rfl, rfl⟩ := H
            go_wp2
            repeat (go_quiet (fail); try go_wp2)
            go_ret2
            exact ⟨by first | rfl | (simp; done) | (simp only [← hji8, ← hji10, ← hji12, ← hji13, ← hji15, ← hji17, ← hji30] <;> (first | rfl | simp)) | (simp [*]; done), Zd⟩
           rw [if_neg c29] at H
           exact absurd H (by simp)
          rw [if_neg c28] at H
          have c28b0 : decide (4294967296 ≤ (IntKind.u64.wrap (x16_2 + ((ji10) / 4294967296)))) = J := decide_eq_false c28
          clear c28
          (try simp only [c28b0])
          have H' := Aside0.mk H
          clear H
          go_wp2
          repeat (go_quiet (fail); try go_wp2)
          go_roundg kj24
          case measure => have := HJ18.out; have := HK2.out; have := HJ24.out; omega
          case rel => exact ⟨(IntKind.u64.wrap (x16_2 + ((ji10) / 4294967296))), (IntKind.u64.wrap (x18_2 - 1)), (by first | rfl | (simp; done) | (simp only [← hji10] <;> (first | rfl | simp)) | (simp [*]; done)), (Zs), H', ⟨by have := HJ18.out; have := HK2.out; have := HJ24.out; omega⟩, Zd⟩
         replace c27 := Bool.eq_false_iff.mpr c27
         subst c27
         have H1 : (if 0 ≤ ji8 then (some (IntKind.u64.wrap ((IntKind.u64.wrap (x15_18 * 4294967296)) + x18_2), shr .u64 (IntKind.u64.wrap ((IntKind.u64.wrap ((IntKind.u64.wrap ((IntKind.u64.wrap ((IntKind.u64.wrap ((IntKind.u64.wrap ((Go.bits .or .u64 (ji12) (ji15)) * 4294967296)) + ((ji17) / 4294967296))) - (IntKind.u64.wrap (x15_18 * ji10)))) * 4294967296)) + (Go.bits .and .u64 (ji17) 4294967295))) - (IntKind.u64.wrap (x18_2 * ji10)))) ji8)) else (none)) = some (r1, r2) := by rw [if_neg (show ¬ (J = T) by decide)] at H; exact H
         clear H
         have H := H1
         clear H1
         by_cases c31 : 0 ≤ ji8
         ·rw [if_pos c31] at H
          have c31b0 := eq_true c31
          have c31b1 : decide (0 ≤ ji8) = T := decide_eq_true c31
          clear c31
          obtain ⟨ji32, hji32⟩ : ∃ j_ : Int, (shr .u64 (IntKind.u64.wrap ((IntKind.u64.wrap ((IntKind.u64.wrap ((IntKind.u64.wrap ((IntKind.u64.wrap ((IntKind.u64.wrap ((Go.bits .or .u64 (ji12) (ji15)) * 4294967296)) + ((ji17) / 4294967296))) - (IntKind.u64.wrap (x15_18 * ji10)))) * 4294967296)) + (Go.bits .and .u64 (ji17) 4294967295))) - (IntKind.u64.wrap (x18_2 * ji10)))) ji8) = j_ := ⟨_, rfl⟩
          replace H : (some (IntKind.u64.wrap ((IntKind.u64.wrap (x15_18 * 4294967296)) + x18_2), ji32)) = some (r1, r2) := by first | (rw [hji32] at H; exact H) | (simp only [hji32] at H ⊢; exact H)
          have hji32_ : ((IntKind.u64.wrap ((IntKind.u64.wrap ((IntKind.u64.wrap ((IntKind.u64.wrap ((IntKind.u64.wrap ((IntKind.u64.wrap ((Go.bits .or .u64 (ji12) (ji15)) * 4294967296)) + ((ji17) / 4294967296))) - (IntKind.u64.wrap (x15_18 * ji10)))) * 4294967296)) + (Go.bits .and .u64 (ji17) 4294967295))) - (IntKind.u64.wrap (x18_2 * ji10)))) / 2 ^ min ji8.toNat 64) = ji32 := hji32
          have hji32z : ji8 ≤ 64 → ((IntKind.u64.wrap ((IntKind.u64.wrap ((IntKind.u64.wrap ((IntKind.u64.wrap ((IntKind.u64.wrap ((IntKind.u64.wrap ((Go.bits .or .u64 (ji12) (ji15)) * 4294967296)) + ((ji17) / 4294967296))) - (IntKind.u64.wrap (x15_18 * ji10)))) * 4294967296)) + (Go.bits .and .u64 (ji17) 4294967295))) - (IntKind.u64.wrap (x18_2 * ji10)))) / 2 ^ ji8.toNat) = ji32 := Qc7 hji32
          simp only [Option.some.injEq, Prod.mk.injEq] at H
          obtain ⟨rfl, rfl⟩ := H
          go_wp2
          repeat (go_quiet (fail); try go_wp2)
          go_ret2
          exact ⟨by first | rfl | (simp; done) | (simp only [← hji8, ← hji10, ← hji12, ← hji13, ← hji15, ← hji17, ← hji32] <;> (first | rfl | simp)) | (simp [*]; done), Zd⟩
         rw [if_neg c31] at H
         exact absurd H (by simp)
  rw [if_neg c14] at H
  exact absurd H (by simp)
 rw [if_neg c9] at H
 exact absurd H (by simp)
theorem d64_wr (x : Int) : IntKind.u64.wrap x = x % 18446744073709551616 := IntKind.wrap_u64 x
theorem QdV (U y q1 : Int) (hy : 0 < y) (h : q1 * y ≤ U) : q1 ≤ U / y := (Int.le_ediv_iff_mul_le hy).2 h
theorem QdW (U y q1 : Int) (hy : 0 < y) (h : U < q1 * y) : U / y < q1 := (Int.ediv_lt_iff_lt_mul hy).2 h
theorem QcB (q yn1 yn0 : Int) : q * (yn1 * 4294967296 + yn0) = q * yn1 * 4294967296 + q * yn0 := by grind
structure Qb9 (y yn1 yn0 un32 un1 q1 rhat : Int) : Prop where
 hy : y = yn1 * 4294967296 + yn0
 h1 : 2147483648 ≤ yn1
 h1' : yn1 < 4294967296
 h0 : 0 ≤ yn0
 h0' : yn0 < 4294967296
 hu : 0 ≤ un32
 hu' : un32 < y
 hn : 0 ≤ un1
 hn' : un1 < 4294967296
 hr : 0 ≤ rhat
 hr' : rhat < 4294967296
 hq : q1 * yn1 + rhat = un32
 hle : (un32 * 4294967296 + un1) / y ≤ q1
 hub : q1 ≤ 4294967297
theorem Qdr {y un32 un1 : Int} (hy : 0 < y) (hu : un32 < y) (hn : un1 < 4294967296) : (un32 * 4294967296 + un1) / y < 4294967296 := QdW _ _ _ hy (by omega)
theorem Qcl {y un32 un1 : Int} (hy : 0 < y) (hu : 0 ≤ un32) (hn : 0 ≤ un1) : 0 ≤ (un32 * 4294967296 + un1) / y := Int.ediv_nonneg (by omega) (by omega)
theorem Qdz {a b A B : Int} (ha : 0 ≤ a) (hb : 0 ≤ b) (hA : a ≤ A) (hB : b ≤ B) : 0 ≤ a * b ∧ a * b ≤ A * B := ⟨Int.mul_nonneg ha hb, Int.mul_le_mul hA hB hb (by omega)⟩
theorem QcQ {y yn1 yn0 un32 un1 q1 rhat : Int} (I : Qb9 y yn1 yn0 un32 un1 q1 rhat) (h : 4294967296 ≤ q1 ∨ 4294967296 * rhat + un1 < q1 * yn0) : (un32 * 4294967296 + un1) / y ≤ q1 - 1 := by
 obtain ⟨hy, h1, h1', h0, h0', hu, hu', hn, hn', hr, hr', hq, hle, hub⟩ := I
 rcases h with h | h
 ·have := Qdr (y := y) (un32 := un32) (un1 := un1) (by omega) hu' hn'
  omega
 have e := QcB q1 yn1 yn0
 have := QdW (un32 * 4294967296 + un1) y q1 (by omega) (by rw [hy, e]; omega)
 omega
theorem Qeb {y yn1 yn0 un32 un1 q1 rhat : Int} (I : Qb9 y yn1 yn0 un32 un1 q1 rhat) (h : q1 * yn0 ≤ 4294967296 * rhat + un1) : (un32 * 4294967296 + un1) / y = q1 := by
 obtain ⟨hy, h1, h1', h0, h0', hu, hu', hn, hn', hr, hr', hq, hle, hub⟩ := I
 have e := QcB q1 yn1 yn0
 have := QdV (un32 * 4294967296 + un1) y q1 (by omega) (by rw [hy, e]; omega)
 omega
theorem Qex {y yn1 yn0 un32 un1 q1 rhat : Int} (I : Qb9 y yn1 yn0 un32 un1 q1 rhat) (h : (un32 * 4294967296 + un1) / y ≤ q1 - 1) (hb : 4294967296 ≤ rhat + yn1) : (un32 * 4294967296 + un1) / y = q1 - 1 := by
 obtain ⟨hy, h1, h1', h0, h0', hu, hu', hn, hn', hr, hr', hq, hle, hub⟩ := I
 have e := QcB (q1 - 1) yn1 yn0
 have e2 : (q1 - 1) * yn1 = q1 * yn1 - yn1 := by grind
 have hq0 := Qcl (y := y) (un32 := un32) (un1 := un1) (by omega) hu hn
 have hm := (Qdz (a := q1 - 1) (b := yn0) (A := 4294967296) (B := 4294967295) (by omega) h0 (by omega) (by omega)).2
 have := QdV (un32 * 4294967296 + un1) y (q1 - 1) (by omega) (by rw [hy, e, e2]; omega)
 omega
theorem Qea {y yn1 yn0 un32 un1 q1 rhat : Int} (I : Qb9 y yn1 yn0 un32 un1 q1 rhat) (h : (un32 * 4294967296 + un1) / y ≤ q1 - 1) (hb : rhat + yn1 < 4294967296) : Qb9 y yn1 yn0 un32 un1 (q1 - 1) (rhat + yn1) := by
 obtain ⟨hy, h1, h1', h0, h0', hu, hu', hn, hn', hr, hr', hq, hle, hub⟩ := I
 exact ⟨hy, h1, h1', h0, h0', hu, hu', hn, hn', by omega, hb, by grind, h, by omega⟩
theorem QdU {y yn1 yn0 un32 un1 : Int} (hy : y = yn1 * 4294967296 + yn0) (h1 : 2147483648 ≤ yn1) (h1' : yn1 < 4294967296) (h0 : 0 ≤ yn0) (h0' : yn0 < 4294967296) (hu : 0 ≤ un32) (hu' : un32 < y) (hn : 0 ≤ un1) (hn' : un1 < 4294967296) :
  Qb9 y yn1 yn0 un32 un1 (un32 / yn1) (un32 % yn1) := by
 have a := Int.emod_nonneg un32 (b := yn1) (by omega)
 have b := Int.emod_lt_of_pos un32 (b := yn1) (by omega)
 have c := Int.mul_ediv_add_emod un32 yn1
 have c' : un32 / yn1 * yn1 = yn1 * (un32 / yn1) := Int.mul_comm _ _
 refine ⟨hy, h1, h1', h0, h0', hu, hu', hn, hn', a, by omega, by omega, ?_, ?_⟩
 ·have hy0 : 0 < y := by omega
  have hq0 := Qcl (y := y) (un32 := un32) (un1 := un1) hy0 hu hn
  generalize hq : (un32 * 4294967296 + un1) / y = q at *
  have h := Int.ediv_mul_le (un32 * 4294967296 + un1) (b := y) (by omega)
  rw [hq, hy, QcB] at h
  have hz := Int.mul_nonneg hq0 h0
  exact (Int.le_ediv_iff_mul_le (by omega)).2 (by omega)
 have : un32 / yn1 < 4294967298 := (Int.ediv_lt_iff_lt_mul (by omega)).2 (by omega)
 omega
theorem Qcy {y yn1 yn0 un32 un1 q1 rhat : Int} (I : Qb9 y yn1 yn0 un32 un1 q1 rhat) (hq : ¬ 4294967296 ≤ q1) :
  IntKind.u64.wrap (q1 * yn0) = q1 * yn0 ∧ IntKind.u64.wrap (IntKind.u64.wrap (4294967296 * rhat) + un1) = 4294967296 * rhat + un1 := by
 obtain ⟨hy, h1, h1', h0, h0', hu, hu', hn, hn', hr, hr', hqq, hle, hub⟩ := I
 have hq0 := Qcl (y := y) (un32 := un32) (un1 := un1) (by omega) hu hn
 have hm := Qdz (a := q1) (b := yn0) (A := 4294967295) (B := 4294967295) (by omega) h0 (by omega) (by omega)
 simp only [d64_wr]
 omega
theorem Qe5 (K : Nat) (ans : Option (Int × Int)) {y s yn1 yn0 un32 un1 un0 : Int} (hans : ∀ k, K ≤ k → Qax.j2 k y s yn1 yn0 un32 un1 un0 ((un32 * 4294967296 + un1) / y) = ans) :
  ∀ (n : Nat) (q1 rhat : Int) (k : Nat), Qb9 y yn1 yn0 un32 un1 q1 rhat → 4294967296 - rhat ≤ n * 2147483648 → K + 2 * n + 2 ≤ k → Qax.l0 k y s yn1 yn0 un32 un1 un0 q1 rhat = ans := by
 intro n
 induction n with
 | zero => intro q1 rhat k I hm; have := I.hr'; omega
 | succ n ih =>
  intro q1 rhat k I hm hk
  obtain ⟨k, rfl⟩ : ∃ m, k = m + 2 := ⟨k - 2, by omega⟩
  have hq0 := Qcl (y := y) (un32 := un32) (un1 := un1) (by have := I.hy; have := I.h1; have := I.h0; omega) I.hu I.hn
  have hub := I.hub
  have hle := I.hle
  have hr := I.hr
  have hr' := I.hr'
  have h1 := I.h1
  have h1' := I.h1'
  have w1 : IntKind.u64.wrap (rhat + yn1) = rhat + yn1 := by rw [d64_wr]; omega
  have yes : (un32 * 4294967296 + un1) / y ≤ q1 - 1 → Qax.j1 (k + 1) y s yn1 yn0 un32 un1 un0 q1 rhat T = ans := by
   intro h
   have w2 : IntKind.u64.wrap (q1 - 1) = q1 - 1 := by rw [d64_wr]; omega
   simp only [Qax.j1, if_true]
   rw [w1, w2]
   by_cases c : rhat + yn1 ≥ 4294967296
   ·rw [if_pos c, ← Qex I h c]
    exact hans k (by omega)
   rw [if_neg c]
   exact ih (q1 - 1) (rhat + yn1) k (Qea I h (by omega)) (by omega) (by omega)
  simp only [Qax.l0]
  by_cases c : q1 ≥ 4294967296
  ·rw [if_pos c]
   exact yes (QcQ I (.inl c))
  rw [if_neg c, (Qcy I c).1, (Qcy I c).2]
  by_cases d : q1 * yn0 > 4294967296 * rhat + un1
  ·rw [decide_eq_true d]
   exact yes (QcQ I (.inr d))
  rw [decide_eq_false d]
  simp only [Qax.j1, Bool.false_eq_true, if_false]
  rw [← Qeb I (by omega)]
  exact hans k (by omega)
theorem Qe6 {y s yn1 yn0 un21 un0 : Int} (q1 : Int) (hs : 0 ≤ s) (hq1 : 0 ≤ q1) (hq1' : q1 < 4294967296) (hyb : y < 18446744073709551616) :
  ∀ (n : Nat) (q0 rhat : Int) (k : Nat), Qb9 y yn1 yn0 un21 un0 q0 rhat → 4294967296 - rhat ≤ n * 2147483648 → 2 * n + 2 ≤ k →
   Qax.l1 k y s yn1 yn0 un0 q1 rhat un21 q0 = some (q1 * 4294967296 + (un21 * 4294967296 + un0) / y, shr .u64 ((un21 * 4294967296 + un0) % y) s) := by
 intro n
 induction n with
 | zero => intro q1 rhat k I hm; have := I.hr'; omega
 | succ n ih =>
  intro q0 rhat k I hm hk
  obtain ⟨k, rfl⟩ : ∃ m, k = m + 2 := ⟨k - 2, by omega⟩
  have hy0 : 0 < y := by have := I.hy; have := I.h1; have := I.h0; omega
  have hq0 := Qcl (y := y) (un32 := un21) (un1 := un0) hy0 I.hu I.hn
  have hql := Qdr (y := y) (un32 := un21) (un1 := un0) hy0 I.hu' I.hn'
  have hub := I.hub
  have hle := I.hle
  have hr := I.hr
  have hr' := I.hr'
  have h1 := I.h1
  have h1' := I.h1'
  have w1 : IntKind.u64.wrap (rhat + yn1) = rhat + yn1 := by rw [d64_wr]; omega
  have e1 := Int.emod_nonneg (un21 * 4294967296 + un0) (b := y) (by omega)
  have e2 := Int.emod_lt_of_pos (un21 * 4294967296 + un0) hy0
  have e3 := Int.mul_ediv_add_emod (un21 * 4294967296 + un0) y
  have e4 : (un21 * 4294967296 + un0) / y * y = y * ((un21 * 4294967296 + un0) / y) := Int.mul_comm _ _
  have fin : IntKind.u64.wrap (IntKind.u64.wrap (q1 * 4294967296) + (un21 * 4294967296 + un0) / y) = q1 * 4294967296 + (un21 * 4294967296 + un0) / y := by
   simp only [d64_wr]; omega
  have fin2 : IntKind.u64.wrap (IntKind.u64.wrap (IntKind.u64.wrap (un21 * 4294967296) + un0) - IntKind.u64.wrap ((un21 * 4294967296 + un0) / y * y)) = (un21 * 4294967296 + un0) % y := by
   simp only [d64_wr]; omega
  have yes : (un21 * 4294967296 + un0) / y ≤ q0 - 1 → Qax.j4 (k + 1) y s yn1 yn0 un0 q1 rhat un21 q0 T = some (q1 * 4294967296 + (un21 * 4294967296 + un0) / y, shr .u64 ((un21 * 4294967296 + un0) % y) s) := by
   intro h
   have w2 : IntKind.u64.wrap (q0 - 1) = q0 - 1 := by rw [d64_wr]; omega
   simp only [Qax.j4, if_true]
   rw [w1, w2]
   by_cases c : rhat + yn1 ≥ 4294967296
   ·rw [if_pos c, if_pos hs, ← Qex I h c, fin, fin2]
   rw [if_neg c]
   exact ih (q0 - 1) (rhat + yn1) k (Qea I h (by omega)) (by omega) (by omega)
  simp only [Qax.l1]
  by_cases c : q0 ≥ 4294967296
  ·rw [if_pos c]
   exact yes (QcQ I (.inl c))
  rw [if_neg c, (Qcy I c).1, (Qcy I c).2]
  by_cases d : q0 * yn0 > 4294967296 * rhat + un0
  ·rw [decide_eq_true d]
   exact yes (QcQ I (.inr d))
  rw [decide_eq_false d]
  simp only [Qax.j4, Bool.false_eq_true, if_false]
  rw [if_pos hs, ← Qeb I (by omega), fin, fin2]
theorem QcG {a b : Int} (h : 0 ≤ a) : Int.tdiv a b = a / b := Int.tdiv_eq_ediv_of_nonneg h
theorem Qdq {y s yn1 yn0 un32 un1 un0 : Int} (hy : y = yn1 * 4294967296 + yn0) (h1 : 2147483648 ≤ yn1) (h1' : yn1 < 4294967296) (h0 : 0 ≤ yn0) (h0' : yn0 < 4294967296) (hu : 0 ≤ un32) (hu' : un32 < y) (hn : 0 ≤ un1) (hn' : un1 < 4294967296) (hm : 0 ≤ un0) (hm' : un0 < 4294967296) (hs : 0 ≤ s) (k : Nat) (hk : 20 ≤ k) :
  Qax.l0 k y s yn1 yn0 un32 un1 un0 (un32 / yn1) (un32 % yn1) = some ((un32 * 18446744073709551616 + un1 * 4294967296 + un0) / y, shr .u64 ((un32 * 18446744073709551616 + un1 * 4294967296 + un0) % y) s) := by
 have hy0 : 0 < y := by omega
 have hyb : y < 18446744073709551616 := by omega
 have f1 := Qcl (y := y) (un32 := un32) (un1 := un1) hy0 hu hn
 have f2 := Qdr (y := y) (un32 := un32) (un1 := un1) hy0 hu' hn'
 have e1 := Int.emod_nonneg (un32 * 4294967296 + un1) (b := y) (by omega)
 have e2 := Int.emod_lt_of_pos (un32 * 4294967296 + un1) hy0
 have e3 := Int.mul_ediv_add_emod (un32 * 4294967296 + un1) y
 have e4 : (un32 * 4294967296 + un1) / y * y = y * ((un32 * 4294967296 + un1) / y) := Int.mul_comm _ _
 refine Qe5 12 _ ?_ 2 _ _ k (QdU hy h1 h1' h0 h0' hu hu' hn hn') (by have := Int.emod_nonneg un32 (b := yn1) (by omega); omega) (by omega)
 intro k hk
 obtain ⟨k, rfl⟩ : ∃ m, k = m + 1 := ⟨k - 1, by omega⟩
 simp only [Qax.j2]
 rw [if_neg (by omega)]
 have g1 : IntKind.u64.wrap (IntKind.u64.wrap (IntKind.u64.wrap (un32 * 4294967296) + un1) - IntKind.u64.wrap ((un32 * 4294967296 + un1) / y * y)) = (un32 * 4294967296 + un1) % y := by
  simp only [d64_wr]; omega
 rw [g1, QcG e1]
 generalize hr : (un32 * 4294967296 + un1) % y = r at *
 generalize hq : (un32 * 4294967296 + un1) / y = q at *
 have c := Int.mul_ediv_add_emod r yn1
 have c' : r / yn1 * yn1 = yn1 * (r / yn1) := Int.mul_comm _ _
 have a := Int.emod_nonneg r (b := yn1) (by omega)
 have b := Int.emod_lt_of_pos r (b := yn1) (by omega)
 have d0 : 0 ≤ r / yn1 := Int.ediv_nonneg e1 (by omega)
 have d1 : r / yn1 ≤ r := Int.ediv_le_self _ e1
 have g2 : IntKind.u64.wrap (r / yn1) = r / yn1 := by rw [d64_wr]; omega
 have g3 : IntKind.u64.wrap (r - IntKind.u64.wrap (r / yn1 * yn1)) = r % yn1 := by simp only [d64_wr]; omega
 rw [g2, g3]
 rw [Qe6 q hs f1 f2 hyb 2 _ _ k (QdU hy h1 h1' h0 h0' e1 e2 hm hm') (by omega) (by omega)]
 have h5 : un32 * 18446744073709551616 + un1 * 4294967296 + un0 = (r * 4294967296 + un0) + (q * 4294967296) * y := by
  have : (q * 4294967296) * y = 4294967296 * (y * q) := by grind
  omega
 rw [h5, Int.add_mul_ediv_right _ _ (by omega), Int.add_mul_emod_self_right]
 rw [Int.add_comm]
theorem Qdj (a : Int) (h : 0 ≤ a) (h' : a < 18446744073709551616) : Go.bits .and .u64 a 4294967295 = a % 4294967296 := by
 obtain ⟨n, rfl⟩ := Int.eq_ofNat_of_zero_le h
 have h2 := bits_and_u64_nat n 4294967295 (by omega) (by omega)
 have e : n &&& 4294967295 = n % 4294967296 := Nat.and_two_pow_sub_one_eq_mod n 32
 rw [e] at h2
 rw [show ((4294967295 : Nat) : Int) = 4294967295 from rfl] at h2
 rw [h2]
 omega
theorem QeM (a b S : Nat) (hb : b < 2 ^ S) (h : a * 2 ^ S + b < 18446744073709551616) : Go.bits .or .u64 ((a * 2 ^ S : Nat) : Int) (b : Int) = ((a * 2 ^ S + b : Nat) : Int) := by
 rw [bits_or_u64_nat _ _ (by omega) (by omega)]
 have e := Nat.shiftLeft_add_eq_or_of_lt hb a
 rw [Nat.shiftLeft_eq] at e
 rw [e]
theorem Qcx (S : Nat) : (2 : Int) ^ S = ((2 ^ S : Nat) : Int) := by simp
theorem QcF (x S : Nat) (hS : S ≤ 64) : shl .u64 (x : Int) (S : Int) = ((x * 2 ^ S % 18446744073709551616 : Nat) : Int) := by
 unfold shl
 rw [Int.toNat_natCast, Nat.min_eq_left (by exact hS), Qcx, d64_wr]
 omega
theorem Qeo (x S : Nat) (hS : S ≤ 64) : shr .u64 (x : Int) (S : Int) = ((x / 2 ^ S : Nat) : Int) := by
 unfold shr
 rw [Int.toNat_natCast, Nat.min_eq_left (by exact hS), Qcx]
 omega
theorem QfC (y : Nat) (h0 : y ≠ 0) (h : y < 18446744073709551616) : 1 ≤ Lib.bitLen y ∧ Lib.bitLen y ≤ 64 ∧ 9223372036854775808 ≤ y * 2 ^ (64 - Lib.bitLen y) ∧ y * 2 ^ (64 - Lib.bitLen y) < 18446744073709551616 := by
 obtain ⟨a, b, c⟩ := Lib.bitLenAux_bounds 64 y h h0
 have d := Lib.bitLen_le y 64 (by omega) h
 change 1 ≤ Lib.bitLen y at a
 change 2 ^ (Lib.bitLen y - 1) ≤ y at b
 change y < 2 ^ Lib.bitLen y at c
 generalize Lib.bitLen y = L at *
 refine ⟨a, d, ?_, ?_⟩
 ·have := Nat.mul_le_mul_right (2 ^ (64 - L)) b
  rw [← Nat.pow_add, show L - 1 + (64 - L) = 63 by omega] at this
  omega
 have := Nat.mul_lt_mul_of_pos_right c (Nat.two_pow_pos (64 - L))
 rw [← Nat.pow_add, show L + (64 - L) = 64 by omega] at this
 omega
theorem Qax.eq (hi lo y : Int) (h0 : 0 ≤ hi) (h1 : hi < y) (hy : y < 18446744073709551616) (hl : 0 ≤ lo) (hl' : lo < 18446744073709551616) (k : Nat) (hk : 20 ≤ k) :
  Qax.f k hi lo y = some ((hi * 18446744073709551616 + lo) / y, (hi * 18446744073709551616 + lo) % y) := by
 unfold Qax.f
 rw [if_neg (by omega), if_neg (by omega)]
 by_cases c : hi = 0
 ·rw [if_pos c]
  subst c
  have a := Int.ediv_nonneg hl (show 0 ≤ y by omega)
  have b := Int.ediv_le_self y hl
  rw [QcG hl, Int.tmod_eq_emod_of_nonneg hl, d64_wr, show (0 : Int) * 18446744073709551616 + lo = lo by omega, Int.emod_eq_of_lt a (by omega)]
 rw [if_neg c]
 obtain ⟨H, rfl⟩ := Int.eq_ofNat_of_zero_le h0
 obtain ⟨Lo, rfl⟩ := Int.eq_ofNat_of_zero_le hl
 obtain ⟨Y, rfl⟩ := Int.eq_ofNat_of_zero_le (show 0 ≤ y by omega)
 obtain ⟨n1, n2, n3, n4⟩ := QfC Y (by omega) (by omega)
 unfold QbA.f Qbn.f
 rw [if_pos (by omega), Int.toNat_natCast]
 simp only [Option.bind_some]
 generalize Lib.bitLen Y = L at *
 obtain ⟨S, hS, hS63⟩ : ∃ S : Nat, S = 64 - L ∧ S ≤ 63 := ⟨64 - L, rfl, by omega⟩
 have e1 : IntKind.u64.wrap (wrap64 (64 - (L : Int))) = (S : Int) := by rw [d64_wr]; unfold wrap64; omega
 have e2 : IntKind.u64.wrap (64 - (S : Int)) = ((64 - S : Nat) : Int) := by rw [d64_wr]; omega
 rw [e1, e2, if_pos (by omega), if_pos (by omega)]
 rw [← hS] at n3 n4
 have hHS : H * 2 ^ S + 2 ^ S ≤ Y * 2 ^ S := by
  have := Nat.mul_le_mul_right (2 ^ S) (show H + 1 ≤ Y by omega)
  rw [Nat.add_mul] at this
  omega
 have hp : 2 ^ (64 - S) * 2 ^ S = 18446744073709551616 := by rw [← Nat.pow_add, show 64 - S + S = 64 by omega]
 have hd : Lo * 2 ^ S / 18446744073709551616 = Lo / 2 ^ (64 - S) := by rw [← hp, Nat.mul_div_mul_right _ _ (Nat.two_pow_pos S)]
 have hpos := Nat.two_pow_pos S
 have hlow : Lo / 2 ^ (64 - S) < 2 ^ S := by
  rw [Nat.div_lt_iff_lt_mul (Nat.two_pow_pos _), Nat.mul_comm, hp]
  omega
 rw [QcF Y S (by omega), QcF H S (by omega), QcF Lo S (by omega), Qeo Lo (64 - S) (by omega)]
 rw [Nat.mod_eq_of_lt n4, Nat.mod_eq_of_lt (show H * 2 ^ S < 18446744073709551616 by omega)]
 rw [QeM H _ S hlow (by omega)]
 rw [Qdj _ (by omega) (by omega), Qdj _ (by omega) (by omega)]
 have hmod := Nat.div_add_mod (Lo * 2 ^ S) 18446744073709551616
 rw [hd] at hmod
 have key : (H * 2 ^ S + Lo / 2 ^ (64 - S)) * 18446744073709551616 + Lo * 2 ^ S % 18446744073709551616 = (H * 18446744073709551616 + Lo) * 2 ^ S := by
  have t1 : (H * 18446744073709551616 + Lo) * 2 ^ S = (H * 2 ^ S) * 18446744073709551616 + Lo * 2 ^ S := by grind
  omega
 generalize hP : 2 ^ S = P at *
 generalize hA : H * P + Lo / 2 ^ (64 - S) = un32 at *
 generalize hB : Lo * P % 18446744073709551616 = un10 at *
 have hun32 : un32 < Y * P := by omega
 have hun10 : un10 < 18446744073709551616 := by omega
 rw [if_neg (by omega)]
 have t0 : (0 : Int) ≤ (un32 : Int) := by omega
 rw [QcG t0]
 have q0 : (0 : Int) ≤ (un32 : Int) / (((Y * P : Nat) : Int) / 4294967296) := Int.ediv_nonneg t0 (by omega)
 have q1 := Int.ediv_le_self (((Y * P : Nat) : Int) / 4294967296) t0
 have m1 := Int.mul_ediv_add_emod (un32 : Int) (((Y * P : Nat) : Int) / 4294967296)
 have m2 := Int.emod_nonneg (un32 : Int) (b := ((Y * P : Nat) : Int) / 4294967296) (by omega)
 have m3 := Int.emod_lt_of_pos (un32 : Int) (b := ((Y * P : Nat) : Int) / 4294967296) (by omega)
 have m4 : (un32 : Int) / (((Y * P : Nat) : Int) / 4294967296) * (((Y * P : Nat) : Int) / 4294967296) = (((Y * P : Nat) : Int) / 4294967296) * ((un32 : Int) / (((Y * P : Nat) : Int) / 4294967296)) := Int.mul_comm _ _
 have g2 : IntKind.u64.wrap ((un32 : Int) / (((Y * P : Nat) : Int) / 4294967296)) = (un32 : Int) / (((Y * P : Nat) : Int) / 4294967296) := by rw [d64_wr]; omega
 have g3 : IntKind.u64.wrap ((un32 : Int) - IntKind.u64.wrap ((un32 : Int) / (((Y * P : Nat) : Int) / 4294967296) * (((Y * P : Nat) : Int) / 4294967296))) = (un32 : Int) % (((Y * P : Nat) : Int) / 4294967296) := by simp only [d64_wr]; omega
 rw [g2, g3]
 rw [Qdq (by omega) (by omega) (by omega) (by omega) (by omega) (by omega) (by omega) (by omega) (by omega) (by omega) (by omega) (by omega) k hk]
 have key2 : (un32 : Int) * 18446744073709551616 + (un10 : Int) / 4294967296 * 4294967296 + (un10 : Int) % 4294967296 = ((H : Int) * 18446744073709551616 + (Lo : Int)) * (P : Int) := by
  have := congrArg (fun z : Nat => (z : Int)) key
  simp only [Int.natCast_add, Int.natCast_mul, show ((18446744073709551616 : Nat) : Int) = 18446744073709551616 from rfl] at this
  omega
 have hP0 : (0 : Int) < (P : Int) := by omega
 have r2 : ((H : Int) * 18446744073709551616 + (Lo : Int)) * (P : Int) % ((Y : Int) * (P : Int)) = ((H : Int) * 18446744073709551616 + (Lo : Int)) % (Y : Int) * (P : Int) := by
  rw [Int.mul_comm _ (P : Int), Int.mul_comm (Y : Int) (P : Int), Int.mul_emod_mul_of_pos _ _ hP0, Int.mul_comm]
 rw [key2, Int.natCast_mul, Int.mul_ediv_mul_of_pos_left _ _ hP0, r2]
 have f1 : shr .u64 (((H : Int) * 18446744073709551616 + (Lo : Int)) % (Y : Int) * (P : Int)) (S : Int) = ((H : Int) * 18446744073709551616 + (Lo : Int)) % (Y : Int) := by
  unfold shr
  rw [Int.toNat_natCast, Nat.min_eq_left (show S ≤ IntKind.u64.bits by show S ≤ 64; omega), Qcx, hP, Int.mul_ediv_cancel _ (by omega)]
 rw [f1]
set_option maxHeartbeats 4000000 in
theorem QaU.bad (a0 a1 a2 a3 : Int) (w : World) (h : ¬ (mdFits a0 ∧ mdFits a1 ∧ mdFits a2 ∧ 1 ≤ a3 ∧ a3 ≤ 5)) :
  Calls Try.prog 120 #[.int .i64 a0, .int .i64 a1, .int .i64 a2, .int .i64 a3] w fun e w' => e = .returned (.tuple #[.int .i64 0, .int .i64 2]) ∧ w' = w := by
 rcases Qed a0 a1 a2 a3 h with h1 | h1 | ⟨⟨h1, h2⟩, h3⟩ | ⟨⟨h1, h2⟩, h3⟩ | ⟨⟨h1, h2⟩, ⟨h3, h4⟩, h5⟩ | ⟨⟨h1, h2⟩, ⟨h3, h4⟩, h5⟩ | ⟨⟨h1, h2⟩, ⟨h3, h4⟩, ⟨h5, h6⟩, h7⟩ | ⟨⟨h1, h2⟩, ⟨h3, h4⟩, ⟨h5, h6⟩, h7⟩
 all_goals
  clear h
  go_enter Try.func120, Try.ntmps120
  go_wp2
  go_ret2
  exact ⟨rfl, rfl⟩
theorem Qax.walkp (p y : Nat) (h : p / 18446744073709551616 < y) (hy : y < 18446744073709551616) (w : World) :
  Calls Try.prog 191 #[.int .u64 ((p / 18446744073709551616 : Nat) : Int), .int .u64 ((p % 18446744073709551616 : Nat) : Int), .int .u64 (y : Int)] w fun e w' =>
   e = .returned (.tuple #[.int .u64 ((p / y : Nat) : Int), .int .u64 ((p % y : Nat) : Int)]) ∧ Drawn0 w w' := by
 have e := Qax.eq ((p / 18446744073709551616 : Nat) : Int) ((p % 18446744073709551616 : Nat) : Int) (y : Int) (by omega) (by omega) (by omega) (by omega) (by omega) 20 (by omega)
 have e2 : ((p / 18446744073709551616 : Nat) : Int) * 18446744073709551616 + ((p % 18446744073709551616 : Nat) : Int) = (p : Int) := by omega
 rw [e2] at e
 exact Qax.calls 20 _ _ _ _ _ w (by rw [e]; rfl)
def mdHalf (q r c : Int) : Bool := decide (c - r < r) || (decide (r = c - r) && decide (q % 2 = 1))
set_option maxHeartbeats 1000000 in
theorem Qen.half (q r c : Int) (b1 b2 : Nat) (w : World) (hm : w.cell? ⟨b1, 0, none⟩ = some (.int .i64 5)) (h0 : 0 ≤ q) (h1 : 0 ≤ r) (h2 : r < c) (h3 : c ≤ 1152921504606846976) :
  Calls Try.prog 221 #[.int .u64 q, .int .u64 r, .int .u64 c, .pointer (some ⟨b1, 0, none⟩), .pointer (some ⟨b2, 0, none⟩)] w fun e w' => e = .returned (.bool (mdHalf q r c)) ∧ w' = w := by
 by_cases g1 : c - r < r
 ·have e : mdHalf q r c = T := by unfold mdHalf; rw [decide_eq_true g1]; rfl
  rw [e]
  go_enter Try.func221, Try.ntmps221
  go_wp2
  go_ret
  exact ⟨rfl, rfl⟩
 by_cases g2 : r = c - r
 ·have f2 : (r == c - r) = T := beq_iff_eq.mpr g2
  by_cases g3 : q % 2 = 1
  ·have f3 : (q % 2 == 1) = T := beq_iff_eq.mpr g3
   have e : mdHalf q r c = T := by unfold mdHalf; rw [decide_eq_true g2, decide_eq_true g3, decide_eq_false g1]; rfl
   rw [e]
   clear g2 g3 e
   go_enter Try.func221, Try.ntmps221
   go_wp2
   go_ret
   exact ⟨rfl, rfl⟩
  have f3 : (q % 2 == 1) = J := beq_eq_false_iff_ne.mpr g3
  have e : mdHalf q r c = J := by unfold mdHalf; rw [decide_eq_true g2, decide_eq_false g3, decide_eq_false g1]; rfl
  rw [e]
  clear g2 g3 e
  go_enter Try.func221, Try.ntmps221
  go_wp2
  go_ret
  exact ⟨rfl, rfl⟩
 have f2 : (r == c - r) = J := beq_eq_false_iff_ne.mpr g2
 have e : mdHalf q r c = J := by unfold mdHalf; rw [decide_eq_false g2, decide_eq_false g1]; rfl
 rw [e]
 clear e
 go_enter Try.func221, Try.ntmps221
 go_wp2
 go_ret
 exact ⟨rfl, rfl⟩
def mdSgn (q : Int) (b : Bool) : Int × Int := if q > 1152921504606846976 then (0, 3) else if b = T then (wrap64 (-(wrap64 q)), 0) else (wrap64 q, 0)
theorem md_sgn (q : Int) (b : Bool) : Qbl.f q b = some ((mdSgn q b).1, (mdSgn q b).2) := by
 unfold Qbl.f mdSgn
 repeat' split
 all_goals rfl
theorem QdZ (q : Int) (b : Bool) (h : 0 ≤ q) : mdSgn q b = if 1152921504606846976 < q then (0, 3) else (if b = T then -q else q, 0) := by
 unfold mdSgn
 by_cases c : q > 1152921504606846976
 ·rw [if_pos c, if_pos c]
 rw [if_neg c, if_neg c]
 cases b <;> simp [wrap64] <;> omega
set_option maxHeartbeats 4000000 in
theorem QaU.m0 (a0 a1 a2 a3 : Int) (w : World) (h1 : -1152921504606846976 ≤ a0) (h2 : a0 ≤ 1152921504606846976) (h3 : -1152921504606846976 ≤ a1) (h4 : a1 ≤ 1152921504606846976)
  (h5 : -1152921504606846976 ≤ a2) (h6 : a2 ≤ 1152921504606846976) (hc : (a2 == 0) = J) (m1 : 1 ≤ a3) (m2 : a3 ≤ 5)
  (hh : a0.natAbs * a1.natAbs / 18446744073709551616 < a2.natAbs) (hq : (a0.natAbs : Int) * a1.natAbs / a2.natAbs ≤ 1152921504606846976) (hr : (a0.natAbs : Int) * a1.natAbs % a2.natAbs ≤ 0) :
  Calls Try.prog 120 #[.int .i64 a0, .int .i64 a1, .int .i64 a2, .int .i64 a3] w fun e w' => e = .returned (.tuple #[.int .i64 (mdSgn ((a0.natAbs : Int) * a1.natAbs / a2.natAbs) (QbH a0 a1 a2)).1, .int .i64 (mdSgn ((a0.natAbs : Int) * a1.natAbs / a2.natAbs) (QbH a0 a1 a2)).2]) ∧ Below w.heap.size w w' := by
 have hmf : ∀ (fn : Fn) (first cap : Array Value) (w : World), (Instr.makeFunc fn first cap).run Try.prog w = .ok (.func fn first cap) w := fun _ _ _ _ => rfl
 go_enter Try.func120, Try.ntmps120
 go_wp2_with (first | (go_at_call 190; refine (Qbq.walk _ _ (by omega) (by omega)).mono ?_; rintro e w' ⟨rfl, rfl⟩) | (go_at_call 189; refine (Qbu.walk _ _ (by omega) (by omega) _).mono ?_; rintro e w' ⟨rfl, rfl⟩) | (go_at_call 191; refine (Qax.walkp _ _ hh (by omega) _).mono ?_; rintro e w1 ⟨rfl, hd⟩) | (go_at_call 193; refine (Qbl.calls _ _ _ _ _ (md_sgn _ _)).mono ?_; rintro e w2 ⟨rfl, hd2⟩) | (go_at_call 136; go_in) | (go_at_call 192; go_in))
 go_ret2
 exact ⟨rfl, QbR hd.below hd.below.size hd2.below⟩
set_option maxHeartbeats 4000000 in
theorem QaU.o1 (a0 a1 a2 a3 : Int) (w : World) (h1 : -1152921504606846976 ≤ a0) (h2 : a0 ≤ 1152921504606846976) (h3 : -1152921504606846976 ≤ a1) (h4 : a1 ≤ 1152921504606846976)
  (h5 : -1152921504606846976 ≤ a2) (h6 : a2 ≤ 1152921504606846976) (hc : (a2 == 0) = J) (m1 : 1 ≤ a3) (m2 : a3 ≤ 5)
  (hh : (a2.natAbs : Int) ≤ (a0.natAbs : Int) * a1.natAbs / 18446744073709551616) :
  Calls Try.prog 120 #[.int .i64 a0, .int .i64 a1, .int .i64 a2, .int .i64 a3] w fun e w' => e = .returned (.tuple #[.int .i64 0, .int .i64 3]) ∧ Below w.heap.size w w' := by
 go_enter Try.func120, Try.ntmps120
 go_wp2_with (first | (go_at_call 190; refine (Qbq.walk _ _ (by omega) (by omega)).mono ?_; rintro e w' ⟨rfl, rfl⟩) | (go_at_call 189; refine (Qbu.walk _ _ (by omega) (by omega) _).mono ?_; rintro e w' ⟨rfl, rfl⟩) | (go_at_call 191; refine (Qax.walkp _ _ hh (by omega) _).mono ?_; rintro e w1 ⟨rfl, hd⟩) | (go_at_call 193; refine (Qbl.calls _ _ _ _ _ (md_sgn _ _)).mono ?_; rintro e w2 ⟨rfl, hd2⟩) | (go_at_call 136; go_in) | (go_at_call 192; go_in))
 go_ret2
 exact ⟨rfl, Below.refl _ _⟩
set_option maxHeartbeats 4000000 in
theorem QaU.o2 (a0 a1 a2 a3 : Int) (w : World) (h1 : -1152921504606846976 ≤ a0) (h2 : a0 ≤ 1152921504606846976) (h3 : -1152921504606846976 ≤ a1) (h4 : a1 ≤ 1152921504606846976)
  (h5 : -1152921504606846976 ≤ a2) (h6 : a2 ≤ 1152921504606846976) (hc : (a2 == 0) = J) (m1 : 1 ≤ a3) (m2 : a3 ≤ 5)
  (hh : a0.natAbs * a1.natAbs / 18446744073709551616 < a2.natAbs) (hq : 1152921504606846976 < (a0.natAbs : Int) * a1.natAbs / a2.natAbs) :
  Calls Try.prog 120 #[.int .i64 a0, .int .i64 a1, .int .i64 a2, .int .i64 a3] w fun e w' => e = .returned (.tuple #[.int .i64 0, .int .i64 3]) ∧ Below w.heap.size w w' := by
 go_enter Try.func120, Try.ntmps120
 go_wp2_with (first | (go_at_call 190; refine (Qbq.walk _ _ (by omega) (by omega)).mono ?_; rintro e w' ⟨rfl, rfl⟩) | (go_at_call 189; refine (Qbu.walk _ _ (by omega) (by omega) _).mono ?_; rintro e w' ⟨rfl, rfl⟩) | (go_at_call 191; refine (Qax.walkp _ _ hh (by omega) _).mono ?_; rintro e w1 ⟨rfl, hd⟩) | (go_at_call 193; refine (Qbl.calls _ _ _ _ _ (md_sgn _ _)).mono ?_; rintro e w2 ⟨rfl, hd2⟩) | (go_at_call 136; go_in) | (go_at_call 192; go_in))
 go_ret2
 exact ⟨rfl, hd.below⟩
set_option maxHeartbeats 4000000 in
theorem QaU.z (a0 a1 a2 a3 : Int) (w : World) (h1 : -1152921504606846976 ≤ a0) (h2 : a0 ≤ 1152921504606846976) (h3 : -1152921504606846976 ≤ a1) (h4 : a1 ≤ 1152921504606846976)
  (h5 : -1152921504606846976 ≤ a2) (h6 : a2 ≤ 1152921504606846976) (hc : (a2 == 0) = T) (m1 : 1 ≤ a3) (m2 : a3 ≤ 5) :
  Calls Try.prog 120 #[.int .i64 a0, .int .i64 a1, .int .i64 a2, .int .i64 a3] w fun e w' => e = .returned (.tuple #[.int .i64 0, .int .i64 4]) ∧ Below w.heap.size w w' := by
 go_enter Try.func120, Try.ntmps120
 go_wp2_with (go_at_call 136; go_in)
 go_ret2
 exact ⟨rfl, Below.refl _ _⟩
theorem md_end {w w1 w2 : World} {o1 o2 : Obj} (hd : Drawn0 w w1) (hd2 : Drawn0 ((w1.alloc o1).alloc o2) w2) : Below w.heap.size w w2 :=
 QbR (Qag (Qag hd.below _) _) (Nat.le_trans hd.below.size (by simp; omega)) hd2.below
set_option maxHeartbeats 4000000 in
theorem QaU.r1 (a0 a1 a2 : Int) (w : World) (h1 : -1152921504606846976 ≤ a0) (h2 : a0 ≤ 1152921504606846976) (h3 : -1152921504606846976 ≤ a1) (h4 : a1 ≤ 1152921504606846976)
  (h5 : -1152921504606846976 ≤ a2) (h6 : a2 ≤ 1152921504606846976) (hc : (a2 == 0) = J)
  (hh : a0.natAbs * a1.natAbs / 18446744073709551616 < a2.natAbs) (hq : (a0.natAbs : Int) * a1.natAbs / a2.natAbs ≤ 1152921504606846976) (hr : 0 < (a0.natAbs : Int) * a1.natAbs % a2.natAbs) :
  Calls Try.prog 120 #[.int .i64 a0, .int .i64 a1, .int .i64 a2, .int .i64 1] w fun e w' => e = .returned (.tuple #[.int .i64 (mdSgn ((a0.natAbs : Int) * a1.natAbs / a2.natAbs) (QbH a0 a1 a2)).1, .int .i64 (mdSgn ((a0.natAbs : Int) * a1.natAbs / a2.natAbs) (QbH a0 a1 a2)).2]) ∧ Below w.heap.size w w' := by
 have hmf : ∀ (fn : Fn) (first cap : Array Value) (w : World), (Instr.makeFunc fn first cap).run Try.prog w = .ok (.func fn first cap) w := fun _ _ _ _ => rfl
 go_enter Try.func120, Try.ntmps120
 go_wp2_with (first | (go_at_call 190; refine (Qbq.walk _ _ (by omega) (by omega)).mono ?_; rintro e w' ⟨rfl, rfl⟩) | (go_at_call 189; refine (Qbu.walk _ _ (by omega) (by omega) _).mono ?_; rintro e w' ⟨rfl, rfl⟩) | (go_at_call 191; refine (Qax.walkp _ _ hh (by omega) _).mono ?_; rintro e w1 ⟨rfl, hd⟩) | (go_at_call 193; refine (Qbl.calls _ _ _ _ _ (md_sgn _ _)).mono ?_; rintro e w2 ⟨rfl, hd2⟩) | (go_at_call 136; go_in) | (go_at_call 192; go_in) | (go_at_call 221; go_in))
 go_ret2
 exact ⟨rfl, md_end hd hd2⟩
set_option maxHeartbeats 4000000 in
theorem QaU.r2 (a0 a1 a2 : Int) (w : World) (h1 : -1152921504606846976 ≤ a0) (h2 : a0 ≤ 1152921504606846976) (h3 : -1152921504606846976 ≤ a1) (h4 : a1 ≤ 1152921504606846976)
  (h5 : -1152921504606846976 ≤ a2) (h6 : a2 ≤ 1152921504606846976) (hc : (a2 == 0) = J)
  (hh : a0.natAbs * a1.natAbs / 18446744073709551616 < a2.natAbs) (hq : (a0.natAbs : Int) * a1.natAbs / a2.natAbs ≤ 1152921504606846976) (hr : 0 < (a0.natAbs : Int) * a1.natAbs % a2.natAbs) :
  Calls Try.prog 120 #[.int .i64 a0, .int .i64 a1, .int .i64 a2, .int .i64 2] w fun e w' => e = .returned (.tuple #[.int .i64 (mdSgn ((a0.natAbs : Int) * a1.natAbs / a2.natAbs + 1) (QbH a0 a1 a2)).1, .int .i64 (mdSgn ((a0.natAbs : Int) * a1.natAbs / a2.natAbs + 1) (QbH a0 a1 a2)).2]) ∧ Below w.heap.size w w' := by
 have hmf : ∀ (fn : Fn) (first cap : Array Value) (w : World), (Instr.makeFunc fn first cap).run Try.prog w = .ok (.func fn first cap) w := fun _ _ _ _ => rfl
 have hw : IntKind.u64.wrap ((a0.natAbs : Int) * a1.natAbs / a2.natAbs + 1) = (a0.natAbs : Int) * a1.natAbs / a2.natAbs + 1 := by
  have : 0 ≤ (a0.natAbs : Int) * a1.natAbs / a2.natAbs := Int.ediv_nonneg (Int.mul_nonneg (by omega) (by omega)) (by omega)
  rw [IntKind.wrap_u64]; omega
 go_enter Try.func120, Try.ntmps120
 go_wp2_with (first | (go_at_call 190; refine (Qbq.walk _ _ (by omega) (by omega)).mono ?_; rintro e w' ⟨rfl, rfl⟩) | (go_at_call 189; refine (Qbu.walk _ _ (by omega) (by omega) _).mono ?_; rintro e w' ⟨rfl, rfl⟩) | (go_at_call 191; refine (Qax.walkp _ _ hh (by omega) _).mono ?_; rintro e w1 ⟨rfl, hd⟩) | (go_at_call 193; refine (Qbl.calls _ _ _ _ _ (md_sgn _ _)).mono ?_; rintro e w2 ⟨rfl, hd2⟩) | (go_at_call 136; go_in) | (go_at_call 192; go_in) | (go_at_call 221; go_in))
 go_ret2
 exact ⟨rfl, md_end hd hd2⟩
set_option maxHeartbeats 4000000 in
theorem QaU.r3t (a0 a1 a2 : Int) (w : World) (h1 : -1152921504606846976 ≤ a0) (h2 : a0 ≤ 1152921504606846976) (h3 : -1152921504606846976 ≤ a1) (h4 : a1 ≤ 1152921504606846976)
  (h5 : -1152921504606846976 ≤ a2) (h6 : a2 ≤ 1152921504606846976) (hc : (a2 == 0) = J) (fb : (!((!(decide (a0 < 0) == decide (a1 < 0))) == decide (a2 < 0))) = T)
  (hh : a0.natAbs * a1.natAbs / 18446744073709551616 < a2.natAbs) (hq : (a0.natAbs : Int) * a1.natAbs / a2.natAbs ≤ 1152921504606846976) (hr : 0 < (a0.natAbs : Int) * a1.natAbs % a2.natAbs) :
  Calls Try.prog 120 #[.int .i64 a0, .int .i64 a1, .int .i64 a2, .int .i64 3] w fun e w' => e = .returned (.tuple #[.int .i64 (mdSgn ((a0.natAbs : Int) * a1.natAbs / a2.natAbs + 1) T).1, .int .i64 (mdSgn ((a0.natAbs : Int) * a1.natAbs / a2.natAbs + 1) T).2]) ∧ Below w.heap.size w w' := by
 have hmf : ∀ (fn : Fn) (first cap : Array Value) (w : World), (Instr.makeFunc fn first cap).run Try.prog w = .ok (.func fn first cap) w := fun _ _ _ _ => rfl
 have hw : IntKind.u64.wrap ((a0.natAbs : Int) * a1.natAbs / a2.natAbs + 1) = (a0.natAbs : Int) * a1.natAbs / a2.natAbs + 1 := by
  have : 0 ≤ (a0.natAbs : Int) * a1.natAbs / a2.natAbs := Int.ediv_nonneg (Int.mul_nonneg (by omega) (by omega)) (by omega)
  rw [IntKind.wrap_u64]; omega
 go_enter Try.func120, Try.ntmps120
 go_wp2_with (first | (go_at_call 190; refine (Qbq.walk _ _ (by omega) (by omega)).mono ?_; rintro e w' ⟨rfl, rfl⟩) | (go_at_call 189; refine (Qbu.walk _ _ (by omega) (by omega) _).mono ?_; rintro e w' ⟨rfl, rfl⟩) | (go_at_call 191; refine (Qax.walkp _ _ hh (by omega) _).mono ?_; rintro e w1 ⟨rfl, hd⟩) | (go_at_call 193; refine (Qbl.calls _ _ _ _ _ (md_sgn _ _)).mono ?_; rintro e w2 ⟨rfl, hd2⟩) | (go_at_call 136; go_in) | (go_at_call 192; go_in) | (go_at_call 221; go_in))
 go_ret2
 exact ⟨rfl, md_end hd hd2⟩
set_option maxHeartbeats 4000000 in
theorem QaU.r3f (a0 a1 a2 : Int) (w : World) (h1 : -1152921504606846976 ≤ a0) (h2 : a0 ≤ 1152921504606846976) (h3 : -1152921504606846976 ≤ a1) (h4 : a1 ≤ 1152921504606846976)
  (h5 : -1152921504606846976 ≤ a2) (h6 : a2 ≤ 1152921504606846976) (hc : (a2 == 0) = J) (fb : (!((!(decide (a0 < 0) == decide (a1 < 0))) == decide (a2 < 0))) = J)
  (hh : a0.natAbs * a1.natAbs / 18446744073709551616 < a2.natAbs) (hq : (a0.natAbs : Int) * a1.natAbs / a2.natAbs ≤ 1152921504606846976) (hr : 0 < (a0.natAbs : Int) * a1.natAbs % a2.natAbs) :
  Calls Try.prog 120 #[.int .i64 a0, .int .i64 a1, .int .i64 a2, .int .i64 3] w fun e w' => e = .returned (.tuple #[.int .i64 (mdSgn ((a0.natAbs : Int) * a1.natAbs / a2.natAbs) J).1, .int .i64 (mdSgn ((a0.natAbs : Int) * a1.natAbs / a2.natAbs) J).2]) ∧ Below w.heap.size w w' := by
 have hmf : ∀ (fn : Fn) (first cap : Array Value) (w : World), (Instr.makeFunc fn first cap).run Try.prog w = .ok (.func fn first cap) w := fun _ _ _ _ => rfl
 go_enter Try.func120, Try.ntmps120
 go_wp2_with (first | (go_at_call 190; refine (Qbq.walk _ _ (by omega) (by omega)).mono ?_; rintro e w' ⟨rfl, rfl⟩) | (go_at_call 189; refine (Qbu.walk _ _ (by omega) (by omega) _).mono ?_; rintro e w' ⟨rfl, rfl⟩) | (go_at_call 191; refine (Qax.walkp _ _ hh (by omega) _).mono ?_; rintro e w1 ⟨rfl, hd⟩) | (go_at_call 193; refine (Qbl.calls _ _ _ _ _ (md_sgn _ _)).mono ?_; rintro e w2 ⟨rfl, hd2⟩) | (go_at_call 136; go_in) | (go_at_call 192; go_in) | (go_at_call 221; go_in))
 go_ret2
 exact ⟨rfl, md_end hd hd2⟩
set_option maxHeartbeats 4000000 in
theorem QaU.r4t (a0 a1 a2 : Int) (w : World) (h1 : -1152921504606846976 ≤ a0) (h2 : a0 ≤ 1152921504606846976) (h3 : -1152921504606846976 ≤ a1) (h4 : a1 ≤ 1152921504606846976)
  (h5 : -1152921504606846976 ≤ a2) (h6 : a2 ≤ 1152921504606846976) (hc : (a2 == 0) = J) (fb : (!((!(decide (a0 < 0) == decide (a1 < 0))) == decide (a2 < 0))) = T)
  (hh : a0.natAbs * a1.natAbs / 18446744073709551616 < a2.natAbs) (hq : (a0.natAbs : Int) * a1.natAbs / a2.natAbs ≤ 1152921504606846976) (hr : 0 < (a0.natAbs : Int) * a1.natAbs % a2.natAbs) :
  Calls Try.prog 120 #[.int .i64 a0, .int .i64 a1, .int .i64 a2, .int .i64 4] w fun e w' => e = .returned (.tuple #[.int .i64 (mdSgn ((a0.natAbs : Int) * a1.natAbs / a2.natAbs) T).1, .int .i64 (mdSgn ((a0.natAbs : Int) * a1.natAbs / a2.natAbs) T).2]) ∧ Below w.heap.size w w' := by
 have hmf : ∀ (fn : Fn) (first cap : Array Value) (w : World), (Instr.makeFunc fn first cap).run Try.prog w = .ok (.func fn first cap) w := fun _ _ _ _ => rfl
 go_enter Try.func120, Try.ntmps120
 go_wp2_with (first | (go_at_call 190; refine (Qbq.walk _ _ (by omega) (by omega)).mono ?_; rintro e w' ⟨rfl, rfl⟩) | (go_at_call 189; refine (Qbu.walk _ _ (by omega) (by omega) _).mono ?_; rintro e w' ⟨rfl, rfl⟩) | (go_at_call 191; refine (Qax.walkp _ _ hh (by omega) _).mono ?_; rintro e w1 ⟨rfl, hd⟩) | (go_at_call 193; refine (Qbl.calls _ _ _ _ _ (md_sgn _ _)).mono ?_; rintro e w2 ⟨rfl, hd2⟩) | (go_at_call 136; go_in) | (go_at_call 192; go_in) | (go_at_call 221; go_in))
 go_ret2
 exact ⟨rfl, md_end hd hd2⟩
set_option maxHeartbeats 4000000 in
theorem QaU.r4f (a0 a1 a2 : Int) (w : World) (h1 : -1152921504606846976 ≤ a0) (h2 : a0 ≤ 1152921504606846976) (h3 : -1152921504606846976 ≤ a1) (h4 : a1 ≤ 1152921504606846976)
  (h5 : -1152921504606846976 ≤ a2) (h6 : a2 ≤ 1152921504606846976) (hc : (a2 == 0) = J) (fb : (!((!(decide (a0 < 0) == decide (a1 < 0))) == decide (a2 < 0))) = J)
  (hh : a0.natAbs * a1.natAbs / 18446744073709551616 < a2.natAbs) (hq : (a0.natAbs : Int) * a1.natAbs / a2.natAbs ≤ 1152921504606846976) (hr : 0 < (a0.natAbs : Int) * a1.natAbs % a2.natAbs) :
  Calls Try.prog 120 #[.int .i64 a0, .int .i64 a1, .int .i64 a2, .int .i64 4] w fun e w' => e = .returned (.tuple #[.int .i64 (mdSgn ((a0.natAbs : Int) * a1.natAbs / a2.natAbs + 1) J).1, .int .i64 (mdSgn ((a0.natAbs : Int) * a1.natAbs / a2.natAbs + 1) J).2]) ∧ Below w.heap.size w w' := by
 have hmf : ∀ (fn : Fn) (first cap : Array Value) (w : World), (Instr.makeFunc fn first cap).run Try.prog w = .ok (.func fn first cap) w := fun _ _ _ _ => rfl
 have hw : IntKind.u64.wrap ((a0.natAbs : Int) * a1.natAbs / a2.natAbs + 1) = (a0.natAbs : Int) * a1.natAbs / a2.natAbs + 1 := by
  have : 0 ≤ (a0.natAbs : Int) * a1.natAbs / a2.natAbs := Int.ediv_nonneg (Int.mul_nonneg (by omega) (by omega)) (by omega)
  rw [IntKind.wrap_u64]; omega
 go_enter Try.func120, Try.ntmps120
 go_wp2_with (first | (go_at_call 190; refine (Qbq.walk _ _ (by omega) (by omega)).mono ?_; rintro e w' ⟨rfl, rfl⟩) | (go_at_call 189; refine (Qbu.walk _ _ (by omega) (by omega) _).mono ?_; rintro e w' ⟨rfl, rfl⟩) | (go_at_call 191; refine (Qax.walkp _ _ hh (by omega) _).mono ?_; rintro e w1 ⟨rfl, hd⟩) | (go_at_call 193; refine (Qbl.calls _ _ _ _ _ (md_sgn _ _)).mono ?_; rintro e w2 ⟨rfl, hd2⟩) | (go_at_call 136; go_in) | (go_at_call 192; go_in) | (go_at_call 221; go_in))
 go_ret2
 exact ⟨rfl, md_end hd hd2⟩
set_option maxHeartbeats 4000000 in
theorem QaU.r5 (a0 a1 a2 : Int) (w : World) (h1 : -1152921504606846976 ≤ a0) (h2 : a0 ≤ 1152921504606846976) (h3 : -1152921504606846976 ≤ a1) (h4 : a1 ≤ 1152921504606846976)
  (h5 : -1152921504606846976 ≤ a2) (h6 : a2 ≤ 1152921504606846976) (hc : (a2 == 0) = J) (hb : Bool) (hhalf : Aside0 (mdHalf ((a0.natAbs : Int) * a1.natAbs / a2.natAbs) ((a0.natAbs : Int) * a1.natAbs % a2.natAbs) a2.natAbs = hb))
  (hh : a0.natAbs * a1.natAbs / 18446744073709551616 < a2.natAbs) (hq : (a0.natAbs : Int) * a1.natAbs / a2.natAbs ≤ 1152921504606846976) (hr : 0 < (a0.natAbs : Int) * a1.natAbs % a2.natAbs) :
  Calls Try.prog 120 #[.int .i64 a0, .int .i64 a1, .int .i64 a2, .int .i64 5] w fun e w' => e = .returned (.tuple #[.int .i64 (mdSgn (if hb = T then (a0.natAbs : Int) * a1.natAbs / a2.natAbs + 1 else (a0.natAbs : Int) * a1.natAbs / a2.natAbs) (QbH a0 a1 a2)).1, .int .i64 (mdSgn (if hb = T then (a0.natAbs : Int) * a1.natAbs / a2.natAbs + 1 else (a0.natAbs : Int) * a1.natAbs / a2.natAbs) (QbH a0 a1 a2)).2]) ∧ Below w.heap.size w w' := by
 have hmf : ∀ (fn : Fn) (first cap : Array Value) (w : World), (Instr.makeFunc fn first cap).run Try.prog w = .ok (.func fn first cap) w := fun _ _ _ _ => rfl
 have hw : IntKind.u64.wrap ((a0.natAbs : Int) * a1.natAbs / a2.natAbs + 1) = (a0.natAbs : Int) * a1.natAbs / a2.natAbs + 1 := by
  have : 0 ≤ (a0.natAbs : Int) * a1.natAbs / a2.natAbs := Int.ediv_nonneg (Int.mul_nonneg (by omega) (by omega)) (by omega)
  rw [IntKind.wrap_u64]; omega
 have hq0 : 0 ≤ (a0.natAbs : Int) * a1.natAbs / a2.natAbs := Int.ediv_nonneg (Int.mul_nonneg (by omega) (by omega)) (by omega)
 have hrc : (a0.natAbs : Int) * a1.natAbs % a2.natAbs < a2.natAbs := Int.emod_lt_of_pos _ (by omega)
 go_enter Try.func120, Try.ntmps120
 go_wp2_with (first | (go_at_call 190; refine (Qbq.walk _ _ (by omega) (by omega)).mono ?_; rintro e w' ⟨rfl, rfl⟩) | (go_at_call 189; refine (Qbu.walk _ _ (by omega) (by omega) _).mono ?_; rintro e w' ⟨rfl, rfl⟩) | (go_at_call 191; refine (Qax.walkp _ _ hh (by omega) _).mono ?_; rintro e w1 ⟨rfl, hd⟩) | (go_at_call 193; refine (Qbl.calls _ _ _ _ _ (md_sgn _ _)).mono ?_; rintro e w2 ⟨rfl, hd2⟩) | (go_at_call 136; go_in) | (go_at_call 192; go_in))
 refine (Qen.half _ _ _ _ _ _ (by go_simp) (by omega) (by omega) (by omega) (by omega)).mono ?_
 rw [hhalf.out]
 rintro e w' ⟨rfl, rfl⟩
 cases hb
 ·go_wp2_with (go_at_call 193; refine (Qbl.calls _ _ _ _ _ (md_sgn _ _)).mono ?_; rintro e w2 ⟨rfl, hd2⟩)
  go_ret2
  exact ⟨rfl, md_end hd hd2⟩
 go_wp2_with (go_at_call 193; refine (Qbl.calls _ _ _ _ _ (md_sgn _ _)).mono ?_; rintro e w2 ⟨rfl, hd2⟩)
 go_ret2
 exact ⟨rfl, md_end hd hd2⟩
theorem Qca {a b c mode : Int} (q : Int) (h : mdQ a b c mode = q) (h0 : 0 ≤ q) : mdSgn q (QbH a b c) = mdRes a b c mode := by
 unfold mdRes
 rw [h, QdZ q _ h0]
def QaU.f (a0 a1 a2 a3 : Int) : Option (Int × Int) :=
 if mdFits a0 ∧ mdFits a1 ∧ mdFits a2 ∧ 1 ≤ a3 ∧ a3 ≤ 5 then
  if a2 = 0 then some (0, 4) else some (mdRes a0 a1 a2 a3)
 else some (0, 2)
theorem QaU.res (a0 a1 a2 a3 : Int) (w : World) (h1 : -1152921504606846976 ≤ a0) (h2 : a0 ≤ 1152921504606846976) (h3 : -1152921504606846976 ≤ a1) (h4 : a1 ≤ 1152921504606846976)
  (h5 : -1152921504606846976 ≤ a2) (h6 : a2 ≤ 1152921504606846976) (hc : (a2 == 0) = J) (m1 : 1 ≤ a3) (m2 : a3 ≤ 5) :
  Calls Try.prog 120 #[.int .i64 a0, .int .i64 a1, .int .i64 a2, .int .i64 a3] w fun e w' => e = .returned (.tuple #[.int .i64 (mdRes a0 a1 a2 a3).1, .int .i64 (mdRes a0 a1 a2 a3).2]) ∧ Below w.heap.size w w' := by
 have hc' : a2 ≠ 0 := by simpa using hc
 have hq0 : 0 ≤ (a0.natAbs : Int) * a1.natAbs / a2.natAbs := Int.ediv_nonneg (Int.mul_nonneg (by omega) (by omega)) (by omega)
 by_cases hh : a0.natAbs * a1.natAbs / 18446744073709551616 < a2.natAbs
 ·by_cases hq : (a0.natAbs : Int) * a1.natAbs / a2.natAbs ≤ 1152921504606846976
  ·by_cases hr : 0 < (a0.natAbs : Int) * a1.natAbs % a2.natAbs
   ·have up : mdAway a3 (QbH a0 a1 a2) ((a0.natAbs : Int) * a1.natAbs / a2.natAbs) ((a0.natAbs : Int) * a1.natAbs % a2.natAbs) a2.natAbs = T → mdQ a0 a1 a2 a3 = (a0.natAbs : Int) * a1.natAbs / a2.natAbs + 1 := fun h => by unfold mdQ; rw [if_pos ⟨hr, h⟩]
    have dn : mdAway a3 (QbH a0 a1 a2) ((a0.natAbs : Int) * a1.natAbs / a2.natAbs) ((a0.natAbs : Int) * a1.natAbs % a2.natAbs) a2.natAbs = J → mdQ a0 a1 a2 a3 = (a0.natAbs : Int) * a1.natAbs / a2.natAbs := fun h => by unfold mdQ; rw [if_neg (fun h' => by rw [h] at h'; cases h'.2)]
    obtain rfl | rfl | rfl | rfl | rfl : a3 = 1 ∨ a3 = 2 ∨ a3 = 3 ∨ a3 = 4 ∨ a3 = 5 := by omega
    ·rw [← Qca _ (dn (by unfold mdAway; rfl)) hq0]
     exact QaU.r1 a0 a1 a2 w h1 h2 h3 h4 h5 h6 hc hh hq hr
    ·rw [← Qca _ (up (by unfold mdAway; rfl)) (by omega)]
     exact QaU.r2 a0 a1 a2 w h1 h2 h3 h4 h5 h6 hc hh hq hr
    ·cases fb : QbH a0 a1 a2
     ·rw [← Qca _ (dn (by unfold mdAway; rw [fb]; rfl)) hq0, fb]
      exact QaU.r3f a0 a1 a2 w h1 h2 h3 h4 h5 h6 hc fb hh hq hr
     rw [← Qca _ (up (by unfold mdAway; rw [fb]; rfl)) (by omega), fb]
     exact QaU.r3t a0 a1 a2 w h1 h2 h3 h4 h5 h6 hc fb hh hq hr
    ·cases fb : QbH a0 a1 a2
     ·rw [← Qca _ (up (by unfold mdAway; rw [fb]; rfl)) (by omega), fb]
      exact QaU.r4f a0 a1 a2 w h1 h2 h3 h4 h5 h6 hc fb hh hq hr
     rw [← Qca _ (dn (by unfold mdAway; rw [fb]; rfl)) hq0, fb]
     exact QaU.r4t a0 a1 a2 w h1 h2 h3 h4 h5 h6 hc fb hh hq hr
    cases hb : mdHalf ((a0.natAbs : Int) * a1.natAbs / a2.natAbs) ((a0.natAbs : Int) * a1.natAbs % a2.natAbs) a2.natAbs
    ·rw [← Qca _ (dn (by unfold mdAway; exact hb)) hq0]
     exact QaU.r5 a0 a1 a2 w h1 h2 h3 h4 h5 h6 hc J (Aside0.mk hb) hh hq hr
    rw [← Qca _ (up (by unfold mdAway; exact hb)) (by omega)]
    exact QaU.r5 a0 a1 a2 w h1 h2 h3 h4 h5 h6 hc T (Aside0.mk hb) hh hq hr
   have e : mdQ a0 a1 a2 a3 = (a0.natAbs : Int) * a1.natAbs / a2.natAbs := by unfold mdQ; rw [if_neg (fun h => hr h.1)]
   rw [← Qca _ e hq0]
   exact QaU.m0 a0 a1 a2 a3 w h1 h2 h3 h4 h5 h6 hc m1 m2 hh hq (by omega)
  have e : mdRes a0 a1 a2 a3 = (0, 3) := by unfold mdRes; rw [if_pos (by unfold mdQ; split <;> omega)]
  rw [e]
  exact QaU.o2 a0 a1 a2 a3 w h1 h2 h3 h4 h5 h6 hc m1 m2 hh (by omega)
 have hbig : 1152921504606846976 < (a0.natAbs : Int) * a1.natAbs / a2.natAbs := by
  have h7 : a2.natAbs * 18446744073709551616 ≤ a0.natAbs * a1.natAbs := (Nat.le_div_iff_mul_le (by omega)).1 (by omega)
  have h8 : 18446744073709551616 ≤ a0.natAbs * a1.natAbs / a2.natAbs := (Nat.le_div_iff_mul_le (by omega)).2 (by rw [Nat.mul_comm]; exact h7)
  have h9 : ((a0.natAbs * a1.natAbs / a2.natAbs : Nat) : Int) = (a0.natAbs : Int) * a1.natAbs / a2.natAbs := by simp
  omega
 have e : mdRes a0 a1 a2 a3 = (0, 3) := by unfold mdRes; rw [if_pos (by unfold mdQ; split <;> omega)]
 rw [e]
 have h9 : ((a0.natAbs * a1.natAbs : Nat) : Int) = (a0.natAbs : Int) * a1.natAbs := Int.natCast_mul _ _
 exact QaU.o1 a0 a1 a2 a3 w h1 h2 h3 h4 h5 h6 hc m1 m2 (by omega)
theorem QaU.calls (a0 a1 a2 a3 r1 r2 : Int) (w : World) (h : QaU.f a0 a1 a2 a3 = some (r1, r2)) :
  Calls Try.prog 120 #[.int .i64 a0, .int .i64 a1, .int .i64 a2, .int .i64 a3] w fun e w' => e = .returned (.tuple #[.int .i64 r1, .int .i64 r2]) ∧ Below w.heap.size w w' := by
 unfold QaU.f at h
 by_cases c : mdFits a0 ∧ mdFits a1 ∧ mdFits a2 ∧ 1 ≤ a3 ∧ a3 ≤ 5
 ·rw [if_pos c] at h
  obtain ⟨⟨c1, c2⟩, ⟨c3, c4⟩, ⟨c5, c6⟩, c7, c8⟩ := c
  by_cases d : a2 = 0
  ·rw [if_pos d] at h
   have h' := Option.some.inj h
   simp only [Prod.mk.injEq] at h'
   obtain ⟨rfl, rfl⟩ := h'
   exact QaU.z a0 a1 a2 a3 w c1 c2 c3 c4 c5 c6 (by simpa using d) c7 c8
  rw [if_neg d] at h
  have h' := Option.some.inj h
  have e1 : (mdRes a0 a1 a2 a3).1 = r1 := by rw [h']
  have e2 : (mdRes a0 a1 a2 a3).2 = r2 := by rw [h']
  rw [← e1, ← e2]
  exact QaU.res a0 a1 a2 a3 w c1 c2 c3 c4 c5 c6 (by simpa using d) c7 c8
 rw [if_neg c] at h
 have h' := Option.some.inj h
 simp only [Prod.mk.injEq] at h'
 obtain ⟨rfl, rfl⟩ := h'
 refine (QaU.bad a0 a1 a2 a3 w c).mono ?_
 rintro e w' ⟨rfl, rfl⟩
 exact ⟨rfl, Below.refl _ _⟩
mutual
def QaG.j0 : Nat → Bool → ByteArray → Int → Int → Int → Int → Int → Option (Int)
 | 0, _, _, _, _, _, _, _ => none
 | k + 1, x8, x952000, x952001, x952002, x952003, x952004, x952005 => if x8 = T then (some 2) else (if x952002 < 0 then (QaG.j1 k T x952000 x952001 x952002 x952003 x952004 x952005) else (QaG.j1 k (decide (x952002 ≥ 8)) x952000 x952001 x952002 x952003 x952004 x952005))
def QaG.j1 : Nat → Bool → ByteArray → Int → Int → Int → Int → Int → Option (Int)
 | 0, _, _, _, _, _, _, _ => none
 | k + 1, x17, x952000, x952001, x952002, x952003, x952004, x952005 => if x17 = T then (some 25) else (if x952003 < 1 then (some 2) else (if x952003 > 68719476736 then (some 2) else (if x952001 = 1 then (if x952003 = 1 then ((Qbt.f x952004).bind fun t953 => (if t953 = T then ((Qbt.f x952005).bind fun t954 => (if t954 = T then (some 0) else (some 2))) else (some 2))) else (some 2)) else ((Qbt.f x952004).bind fun t955 => (if t955 = T then ((Qbt.f x952005).bind fun t956 => (if t956 = T then (some 0) else (some 2))) else (some 2))))))
end
def QaG.f (k : Nat) (a0_0 : ByteArray) (a0_1 : Int) (a0_2 : Int) (a0_3 : Int) (a0_4 : Int) (a0_5 : Int) : Option (Int) := (QaB.f k a0_0).bind fun t952 => (if t952 = T then (if a0_1 < 1 then (QaG.j0 k T a0_0 a0_1 a0_2 a0_3 a0_4 a0_5) else (QaG.j0 k (decide (a0_1 > 3)) a0_0 a0_1 a0_2 a0_3 a0_4 a0_5)) else (some 10))
theorem QaG.mono_l : ∀ k, (∀ y0 y1 y2 y3 y4 y5 y6, LeO (QaG.j0 k y0 y1 y2 y3 y4 y5 y6) (QaG.j0 (k + 1) y0 y1 y2 y3 y4 y5 y6)) ∧ (∀ y0 y1 y2 y3 y4 y5 y6, LeO (QaG.j1 k y0 y1 y2 y3 y4 y5 y6) (QaG.j1 (k + 1) y0 y1 y2 y3 y4 y5 y6))
 | 0 => ⟨fun _ _ _ _ _ _ _ r h => by simp [QaG.j0] at h, fun _ _ _ _ _ _ _ r h => by simp [QaG.j1] at h⟩
 | k + 1 => by
  obtain ⟨ih0, ih1⟩ := QaG.mono_l k
  refine ⟨?_, ?_⟩
  ·intro y0 y1 y2 y3 y4 y5 y6
   unfold QaG.j0
   exact ZM3 ih0 ih1 QaB.mono
  intro y0 y1 y2 y3 y4 y5 y6
  unfold QaG.j1
  exact ZM3 ih0 ih1 QaB.mono
theorem QaG.mono : ∀ a0 a1 a2 a3 a4 a5 k, LeO (QaG.f k a0 a1 a2 a3 a4 a5) (QaG.f (k + 1) a0 a1 a2 a3 a4 a5) := by
 intro a0 a1 a2 a3 a4 a5 k
 obtain ⟨ih0, ih1⟩ := QaG.mono_l k
 unfold QaG.f
 exact ZM3 ih0 ih1 QaB.mono
set_option maxHeartbeats 8000000 in
theorem QaG.calls (k : Nat) (a0_0 : ByteArray) (a0_1 : Int) (a0_2 : Int) (a0_3 : Int) (a0_4 : Int) (a0_5 : Int) (r : Int) (w : World) (h : QaG.f k a0_0 a0_1 a0_2 a0_3 a0_4 a0_5 = some r) :
  Calls Try.prog 111 #[.agg #[.string a0_0, .int .i64 a0_1, .int .i64 a0_2, .int .i64 a0_3, .int .i64 a0_4, .int .i64 a0_5]] w fun e w' => e = .returned (.int .i64 r) ∧ Below w.heap.size w w' := by
 have hu112 := Try.underlying112
 have HB := Aside0.mk (Below.refl w.heap.size w)
 have H : ((QaB.f k a0_0).bind fun t952 => (if t952 = T then (if a0_1 < 1 then (QaG.j0 k T a0_0 a0_1 a0_2 a0_3 a0_4 a0_5) else (QaG.j0 k (decide (a0_1 > 3)) a0_0 a0_1 a0_2 a0_3 a0_4 a0_5)) else (some 10))) = some r := h
 clear h
 replace H := Option.bind_eq_some_iff.mp H
 obtain ⟨t952, A20, H⟩ := H
 replace H : (if t952 = T then (if a0_1 < 1 then (QaG.j0 k T a0_0 a0_1 a0_2 a0_3 a0_4 a0_5) else (QaG.j0 k (decide (a0_1 > 3)) a0_0 a0_1 a0_2 a0_3 a0_4 a0_5)) else (some 10)) = some r := H
 have A2 := Aside0.mk A20
 clear A20
 go_enter Try.func111, Try.ntmps111
 go_upto_if 3 with (first | ((with_reducible refine QaT (N := 1) rfl ?_); refine Zbx (N := 1) (cs := #[.string a0_0, .int .i64 a0_1, .int .i64 a0_2, .int .i64 a0_3, .int .i64 a0_4, .int .i64 a0_5]) (t := 112) ?_; intro gb951 hg w3 hbox hb; have BK951 := Aside0.mk (hbox); have GW951 := Aside0.mk (Zt w hg (Zb)); have GE951 := GW951; replace HB := Aside0.mk (Qap (Zb) hb); clear hb hbox hg; obtain ⟨hcz4_0, hfz4_0⟩ := Zy (v := (.string a0_0)) BK951.out 0; obtain ⟨hcz4_1, hfz4_1⟩ := Zy (v := (.int .i64 a0_1)) BK951.out 1; obtain ⟨hcz4_2, hfz4_2⟩ := Zy (v := (.int .i64 a0_2)) BK951.out 2; obtain ⟨hcz4_3, hfz4_3⟩ := Zy (v := (.int .i64 a0_3)) BK951.out 3; obtain ⟨hcz4_4, hfz4_4⟩ := Zy (v := (.int .i64 a0_4)) BK951.out 4; obtain ⟨hcz4_5, hfz4_5⟩ := Zy (v := (.int .i64 a0_5)) BK951.out 5) | ((with_reducible refine Qay (f := 146) rfl ?_); refine goesL_ (some 6) rfl rfl Try.func146 (by kernel_rfl) rfl #[.string a0_0] rfl (Zl) ?_; (with_reducible refine (QaB.calls k a0_0 t952 _ A2.out).mono ?_); rintro e w' ⟨rfl, ⟨nd, rfl⟩⟩; refine ⟨_, rfl, ?_⟩))
 (try simp only [Act.put, Zj, Zk, Zm])
 by_cases c5 : t952 = T
 ·subst c5
  have H1 : (if a0_1 < 1 then (QaG.j0 k T a0_0 a0_1 a0_2 a0_3 a0_4 a0_5) else (QaG.j0 k (decide (a0_1 > 3)) a0_0 a0_1 a0_2 a0_3 a0_4 a0_5)) = some r := by rw [if_pos rfl] at H; exact H
  clear H
  have H := H1
  clear H1
  have HC6 := Aside0.mk H
  clear H
  go_upto_region 3 with (fail)
  go_cut [8] (fun v8 wc => ∃ (kq : Nat) (x8_5 : Bool), v8 = .bool x8_5 ∧ Aside0 (QaG.j0 kq x8_5 a0_0 a0_1 a0_2 a0_3 a0_4 a0_5 = some r) ∧ Aside0 (kq ≤ k) ∧ Aside0 (wc.heap[gb951]? = some (.cells #[.string a0_0, .int .i64 a0_1, .int .i64 a0_2, .int .i64 a0_3, .int .i64 a0_4, .int .i64 a0_5] 112 (0, 0))) ∧ Aside0 (Below w.heap.size w wc))
  case first =>
   have H := HC6.out
   clear HC6
   by_cases c7 : a0_1 < 1
   ·rw [if_pos c7] at H
    have c7b0 : decide (a0_1 < 1) = T := decide_eq_true c7
    clear c7
    have H' := Aside0.mk H
    clear H
    obtain ⟨hcz8_0, hfz8_0⟩ := Zy (v := (.string a0_0)) BK951.out 0
    obtain ⟨hcz8_1, hfz8_1⟩ := Zy (v := (.int .i64 a0_1)) BK951.out 1
    obtain ⟨hcz8_2, hfz8_2⟩ := Zy (v := (.int .i64 a0_2)) BK951.out 2
    obtain ⟨hcz8_3, hfz8_3⟩ := Zy (v := (.int .i64 a0_3)) BK951.out 3
    obtain ⟨hcz8_4, hfz8_4⟩ := Zy (v := (.int .i64 a0_4)) BK951.out 4
    obtain ⟨hcz8_5, hfz8_5⟩ := Zy (v := (.int .i64 a0_5)) BK951.out 5
    go_wp2
    go_meet
    case rel => exact ⟨_, (T), (Zs), H', ⟨by first | omega | exact Nat.le_refl _⟩, ⟨Zu BK951.out⟩, ⟨Zc1 GE951.out⟩⟩
   rw [if_neg c7] at H
   have c7b0 : decide (a0_1 < 1) = J := decide_eq_false c7
   clear c7
   have H' := Aside0.mk H
   clear H
   obtain ⟨hcz9_0, hfz9_0⟩ := Zy (v := (.string a0_0)) BK951.out 0
   obtain ⟨hcz9_1, hfz9_1⟩ := Zy (v := (.int .i64 a0_1)) BK951.out 1
   obtain ⟨hcz9_2, hfz9_2⟩ := Zy (v := (.int .i64 a0_2)) BK951.out 2
   obtain ⟨hcz9_3, hfz9_3⟩ := Zy (v := (.int .i64 a0_3)) BK951.out 3
   obtain ⟨hcz9_4, hfz9_4⟩ := Zy (v := (.int .i64 a0_4)) BK951.out 4
   obtain ⟨hcz9_5, hfz9_5⟩ := Zy (v := (.int .i64 a0_5)) BK951.out 5
   go_wp2
   go_meet
   case rel => exact ⟨_, (decide (a0_1 > 3)), (Zs), H', ⟨by first | omega | exact Nat.le_refl _⟩, ⟨Zu BK951.out⟩, ⟨Zc1 GE951.out⟩⟩
  case rest =>
   clear HC6
   try clear c1
   try clear p2
   try clear c5
   try clear c7
   try clear c7b0
   try clear hcz4_0
   try clear hcz4_1
   try clear hcz4_2
   try clear hcz4_3
   try clear hcz4_4
   try clear hcz4_5
   try clear hcz8_0
   try clear hcz8_1
   try clear hcz8_2
   try clear hcz8_3
   try clear hcz8_4
   try clear hcz8_5
   try clear hcz9_0
   try clear hcz9_1
   try clear hcz9_2
   try clear hcz9_3
   try clear hcz9_4
   try clear hcz9_5
   try clear hfz4_0
   try clear hfz4_1
   try clear hfz4_2
   try clear hfz4_3
   try clear hfz4_4
   try clear hfz4_5
   try clear hfz8_0
   try clear hfz8_1
   try clear hfz8_2
   try clear hfz8_3
   try clear hfz8_4
   try clear hfz8_5
   try clear hfz9_0
   try clear hfz9_1
   try clear hfz9_2
   try clear hfz9_3
   try clear hfz9_4
   try clear hfz9_5
   obtain ⟨kq, x8_5, rfl, HA, HJ5, BK951, HB⟩ := hcut
   cases kq with
   | zero => exact absurd HA.out (by simp [QaG.j0])
   | succ kj5 =>
    have H := HA.out
    clear HA
    simp only [QaG.j0] at H
    by_cases c10 : x8_5 = T
    ·subst c10
     have H1 : (some 2) = some r := by rw [if_pos rfl] at H; exact H
     clear H
     have H := H1
     clear H1
     obtain rfl := Option.some.inj H
     go_wp2
     go_ret
     exact ⟨Zq, Zc1 GE951.out⟩
    replace c10 := Bool.eq_false_iff.mpr c10
    subst c10
    have H1 : (if a0_2 < 0 then (QaG.j1 kj5 T a0_0 a0_1 a0_2 a0_3 a0_4 a0_5) else (QaG.j1 kj5 (decide (a0_2 ≥ 8)) a0_0 a0_1 a0_2 a0_3 a0_4 a0_5)) = some r := by rw [if_neg (show ¬ (J = T) by decide)] at H; exact H
    clear H
    have H := H1
    clear H1
    have HC11 := Aside0.mk H
    clear H
    go_upto_region 5 with (fail)
    go_cut [17] (fun v17 wc => ∃ (kq : Nat) (x17_10 : Bool), v17 = .bool x17_10 ∧ Aside0 (QaG.j1 kq x17_10 a0_0 a0_1 a0_2 a0_3 a0_4 a0_5 = some r) ∧ Aside0 (kq ≤ kj5) ∧ Aside0 (wc.heap[gb951]? = some (.cells #[.string a0_0, .int .i64 a0_1, .int .i64 a0_2, .int .i64 a0_3, .int .i64 a0_4, .int .i64 a0_5] 112 (0, 0))) ∧ Aside0 (Below w.heap.size w wc))
    case first =>
     have H := HC11.out
     clear HC11
     by_cases c12 : a0_2 < 0
     ·rw [if_pos c12] at H
      have c12b0 : decide (a0_2 < 0) = T := decide_eq_true c12
      clear c12
      have H' := Aside0.mk H
      clear H
      obtain ⟨hcz13_0, hfz13_0⟩ := Zy (v := (.string a0_0)) BK951.out 0
      obtain ⟨hcz13_1, hfz13_1⟩ := Zy (v := (.int .i64 a0_1)) BK951.out 1
      obtain ⟨hcz13_2, hfz13_2⟩ := Zy (v := (.int .i64 a0_2)) BK951.out 2
      obtain ⟨hcz13_3, hfz13_3⟩ := Zy (v := (.int .i64 a0_3)) BK951.out 3
      obtain ⟨hcz13_4, hfz13_4⟩ := Zy (v := (.int .i64 a0_4)) BK951.out 4
      obtain ⟨hcz13_5, hfz13_5⟩ := Zy (v := (.int .i64 a0_5)) BK951.out 5
      go_wp2
      go_meet
      case rel => exact ⟨_, (T), (Zs), H', ⟨by have := HJ5.out; first | omega | exact Nat.le_refl _⟩, ⟨Zu BK951.out⟩, ⟨Zc1 GE951.out⟩⟩
     rw [if_neg c12] at H
     have c12b0 : decide (a0_2 < 0) = J := decide_eq_false c12
     clear c12
     have H' := Aside0.mk H
     clear H
     obtain ⟨hcz14_0, hfz14_0⟩ := Zy (v := (.string a0_0)) BK951.out 0
     obtain ⟨hcz14_1, hfz14_1⟩ := Zy (v := (.int .i64 a0_1)) BK951.out 1
     obtain ⟨hcz14_2, hfz14_2⟩ := Zy (v := (.int .i64 a0_2)) BK951.out 2
     obtain ⟨hcz14_3, hfz14_3⟩ := Zy (v := (.int .i64 a0_3)) BK951.out 3
     obtain ⟨hcz14_4, hfz14_4⟩ := Zy (v := (.int .i64 a0_4)) BK951.out 4
     obtain ⟨hcz14_5, hfz14_5⟩ := Zy (v := (.int .i64 a0_5)) BK951.out 5
     go_wp2
     go_meet
     case rel => exact ⟨_, (decide (a0_2 ≥ 8)), (Zs), H', ⟨by have := HJ5.out; first | omega | exact Nat.le_refl _⟩, ⟨Zu BK951.out⟩, ⟨Zc1 GE951.out⟩⟩
    case rest =>
     clear HC11
     try clear c1
     try clear p2
     try clear c5
     try clear c7
     try clear c7b0
     try clear c10
     try clear c11
     try clear c12
     try clear c12b0
     try clear c14
     try clear hcz13_0
     try clear hcz13_1
     try clear hcz13_2
     try clear hcz13_3
     try clear hcz13_4
     try clear hcz13_5
     try clear hcz14_0
     try clear hcz14_1
     try clear hcz14_2
     try clear hcz14_3
     try clear hcz14_4
     try clear hcz14_5
     try clear hcz4_0
     try clear hcz4_1
     try clear hcz4_2
     try clear hcz4_3
     try clear hcz4_4
     try clear hcz4_5
     try clear hcz8_0
     try clear hcz8_1
     try clear hcz8_2
     try clear hcz8_3
     try clear hcz8_4
     try clear hcz8_5
     try clear hcz9_0
     try clear hcz9_1
     try clear hcz9_2
     try clear hcz9_3
     try clear hcz9_4
     try clear hcz9_5
     try clear hfz13_0
     try clear hfz13_1
     try clear hfz13_2
     try clear hfz13_3
     try clear hfz13_4
     try clear hfz13_5
     try clear hfz14_0
     try clear hfz14_1
     try clear hfz14_2
     try clear hfz14_3
     try clear hfz14_4
     try clear hfz14_5
     try clear hfz4_0
     try clear hfz4_1
     try clear hfz4_2
     try clear hfz4_3
     try clear hfz4_4
     try clear hfz4_5
     try clear hfz8_0
     try clear hfz8_1
     try clear hfz8_2
     try clear hfz8_3
     try clear hfz8_4
     try clear hfz8_5
     try clear hfz9_0
     try clear hfz9_1
     try clear hfz9_2
     try clear hfz9_3
     try clear hfz9_4
     try clear hfz9_5
     try clear p2
     obtain ⟨kq, x17_10, rfl, HA, HJ10, BK951, HB⟩ := hcut
     cases kq with
     | zero => exact absurd HA.out (by simp [QaG.j1])
     | succ kj10 =>
      have H := HA.out
      clear HA
      simp only [QaG.j1] at H
      by_cases c15 : x17_10 = T
      ·subst c15
       have H1 : (some 25) = some r := by rw [if_pos rfl] at H; exact H
       clear H
       have H := H1
       clear H1
       obtain rfl := Option.some.inj H
       go_wp2
       go_ret
       exact ⟨Zq, Zc1 GE951.out⟩
      replace c15 := Bool.eq_false_iff.mpr c15
      subst c15
      have H1 : (if a0_3 < 1 then (some 2) else (if a0_3 > 68719476736 then (some 2) else (if a0_1 = 1 then (if a0_3 = 1 then ((Qbt.f a0_4).bind fun t953 => (if t953 = T then ((Qbt.f a0_5).bind fun t954 => (if t954 = T then (some 0) else (some 2))) else (some 2))) else (some 2)) else ((Qbt.f a0_4).bind fun t955 => (if t955 = T then ((Qbt.f a0_5).bind fun t956 => (if t956 = T then (some 0) else (some 2))) else (some 2)))))) = some r := by rw [if_neg (show ¬ (J = T) by decide)] at H; exact H
      clear H
      have H := H1
      clear H1
      by_cases c16 : a0_3 < 1
      ·rw [if_pos c16] at H
       have c16b0 : decide (a0_3 < 1) = T := decide_eq_true c16
       clear c16
       obtain rfl := Option.some.inj H
       obtain ⟨hcz17_0, hfz17_0⟩ := Zy (v := (.string a0_0)) BK951.out 0
       obtain ⟨hcz17_1, hfz17_1⟩ := Zy (v := (.int .i64 a0_1)) BK951.out 1
       obtain ⟨hcz17_2, hfz17_2⟩ := Zy (v := (.int .i64 a0_2)) BK951.out 2
       obtain ⟨hcz17_3, hfz17_3⟩ := Zy (v := (.int .i64 a0_3)) BK951.out 3
       obtain ⟨hcz17_4, hfz17_4⟩ := Zy (v := (.int .i64 a0_4)) BK951.out 4
       obtain ⟨hcz17_5, hfz17_5⟩ := Zy (v := (.int .i64 a0_5)) BK951.out 5
       go_wp2
       go_ret
       exact ⟨Zq, Zc1 GE951.out⟩
      rw [if_neg c16] at H
      have c16b0 : decide (a0_3 < 1) = J := decide_eq_false c16
      clear c16
      by_cases c18 : a0_3 > 68719476736
      ·rw [if_pos c18] at H
       have c18b0 : decide (68719476736 < a0_3) = T := decide_eq_true c18
       clear c18
       obtain rfl := Option.some.inj H
       obtain ⟨hcz19_0, hfz19_0⟩ := Zy (v := (.string a0_0)) BK951.out 0
       obtain ⟨hcz19_1, hfz19_1⟩ := Zy (v := (.int .i64 a0_1)) BK951.out 1
       obtain ⟨hcz19_2, hfz19_2⟩ := Zy (v := (.int .i64 a0_2)) BK951.out 2
       obtain ⟨hcz19_3, hfz19_3⟩ := Zy (v := (.int .i64 a0_3)) BK951.out 3
       obtain ⟨hcz19_4, hfz19_4⟩ := Zy (v := (.int .i64 a0_4)) BK951.out 4
       obtain ⟨hcz19_5, hfz19_5⟩ := Zy (v := (.int .i64 a0_5)) BK951.out 5
       go_wp2
       go_ret
       exact ⟨Zq, Zc1 GE951.out⟩
      rw [if_neg c18] at H
      have c18b0 : decide (68719476736 < a0_3) = J := decide_eq_false c18
      clear c18
      by_cases c20 : a0_1 = 1
      ·rw [if_pos c20] at H
       have c20b0 : (a0_1 == 1) = T := beq_iff_eq.mpr c20
       have c20b1 : (a0_1 != 1) = J := bne_eq_false_iff_eq.mpr c20
       clear c20
       by_cases c21 : a0_3 = 1
       ·rw [if_pos c21] at H
        have c21b0 : (a0_3 == 1) = T := beq_iff_eq.mpr c21
        have c21b1 : (a0_3 != 1) = J := bne_eq_false_iff_eq.mpr c21
        clear c21
        replace H := Option.bind_eq_some_iff.mp H
        obtain ⟨t953, A220, H⟩ := H
        replace H : (if t953 = T then ((Qbt.f a0_5).bind fun t954 => (if t954 = T then (some 0) else (some 2))) else (some 2)) = some r := H
        have A22 := Aside0.mk A220
        clear A220
        by_cases c23 : t953 = T
        ·subst c23
         have H1 : ((Qbt.f a0_5).bind fun t954 => (if t954 = T then (some 0) else (some 2))) = some r := by rw [if_pos rfl] at H; exact H
         clear H
         have H := H1
         clear H1
         replace H := Option.bind_eq_some_iff.mp H
         obtain ⟨t954, A240, H⟩ := H
         replace H : (if t954 = T then (some 0) else (some 2)) = some r := H
         have A24 := Aside0.mk A240
         clear A240
         obtain ⟨hcz25_0, hfz25_0⟩ := Zy (v := (.string a0_0)) BK951.out 0
         obtain ⟨hcz25_1, hfz25_1⟩ := Zy (v := (.int .i64 a0_1)) BK951.out 1
         obtain ⟨hcz25_2, hfz25_2⟩ := Zy (v := (.int .i64 a0_2)) BK951.out 2
         obtain ⟨hcz25_3, hfz25_3⟩ := Zy (v := (.int .i64 a0_3)) BK951.out 3
         obtain ⟨hcz25_4, hfz25_4⟩ := Zy (v := (.int .i64 a0_4)) BK951.out 4
         obtain ⟨hcz25_5, hfz25_5⟩ := Zy (v := (.int .i64 a0_5)) BK951.out 5
         go_upto_if 26 with (first | (go_at_call 182; (with_reducible refine (Qbt.calls a0_4 T _ A22.out).mono ?_); rintro e w' ⟨rfl, ⟨nd, rfl⟩⟩) | (go_at_call 182; (with_reducible refine (Qbt.calls a0_5 t954 _ A24.out).mono ?_); rintro e w' ⟨rfl, ⟨nd, rfl⟩⟩))
         (try simp only [Act.put, Zj, Zk, Zm])
         by_cases c26 : t954 = T
         ·subst c26
          have H1 : (some 0) = some r := by rw [if_pos rfl] at H; exact H
          clear H
          have H := H1
          clear H1
          obtain rfl := Option.some.inj H
          go_wp2
          go_ret
          exact ⟨Zq, Zc1 GE951.out⟩
         replace c26 := Bool.eq_false_iff.mpr c26
         subst c26
         have H1 : (some 2) = some r := by rw [if_neg (show ¬ (J = T) by decide)] at H; exact H
         clear H
         have H := H1
         clear H1
         obtain rfl := Option.some.inj H
         go_wp2
         go_ret
         exact ⟨Zq, Zc1 GE951.out⟩
        replace c23 := Bool.eq_false_iff.mpr c23
        subst c23
        have H1 : (some 2) = some r := by rw [if_neg (show ¬ (J = T) by decide)] at H; exact H
        clear H
        have H := H1
        clear H1
        obtain rfl := Option.some.inj H
        obtain ⟨hcz27_0, hfz27_0⟩ := Zy (v := (.string a0_0)) BK951.out 0
        obtain ⟨hcz27_1, hfz27_1⟩ := Zy (v := (.int .i64 a0_1)) BK951.out 1
        obtain ⟨hcz27_2, hfz27_2⟩ := Zy (v := (.int .i64 a0_2)) BK951.out 2
        obtain ⟨hcz27_3, hfz27_3⟩ := Zy (v := (.int .i64 a0_3)) BK951.out 3
        obtain ⟨hcz27_4, hfz27_4⟩ := Zy (v := (.int .i64 a0_4)) BK951.out 4
        obtain ⟨hcz27_5, hfz27_5⟩ := Zy (v := (.int .i64 a0_5)) BK951.out 5
        go_wp2_with (first | (go_at_call 182; (with_reducible refine (Qbt.calls a0_4 J _ A22.out).mono ?_); rintro e w' ⟨rfl, ⟨nd, rfl⟩⟩))
        go_ret
        exact ⟨Zq, Zc1 GE951.out⟩
       rw [if_neg c21] at H
       have c21b0 : (a0_3 == 1) = J := beq_eq_false_iff_ne.mpr c21
       have c21b1 : (a0_3 != 1) = T := bne_iff_ne.mpr c21
       obtain rfl := Option.some.inj H
       obtain ⟨hcz28_0, hfz28_0⟩ := Zy (v := (.string a0_0)) BK951.out 0
       obtain ⟨hcz28_1, hfz28_1⟩ := Zy (v := (.int .i64 a0_1)) BK951.out 1
       obtain ⟨hcz28_2, hfz28_2⟩ := Zy (v := (.int .i64 a0_2)) BK951.out 2
       obtain ⟨hcz28_3, hfz28_3⟩ := Zy (v := (.int .i64 a0_3)) BK951.out 3
       obtain ⟨hcz28_4, hfz28_4⟩ := Zy (v := (.int .i64 a0_4)) BK951.out 4
       obtain ⟨hcz28_5, hfz28_5⟩ := Zy (v := (.int .i64 a0_5)) BK951.out 5
       go_wp2
       go_ret
       exact ⟨Zq, Zc1 GE951.out⟩
      rw [if_neg c20] at H
      have c20b0 : (a0_1 == 1) = J := beq_eq_false_iff_ne.mpr c20
      have c20b1 : (a0_1 != 1) = T := bne_iff_ne.mpr c20
      replace H := Option.bind_eq_some_iff.mp H
      obtain ⟨t955, A290, H⟩ := H
      replace H : (if t955 = T then ((Qbt.f a0_5).bind fun t956 => (if t956 = T then (some 0) else (some 2))) else (some 2)) = some r := H
      have A29 := Aside0.mk A290
      clear A290
      by_cases c30 : t955 = T
      ·subst c30
       have H1 : ((Qbt.f a0_5).bind fun t956 => (if t956 = T then (some 0) else (some 2))) = some r := by rw [if_pos rfl] at H; exact H
       clear H
       have H := H1
       clear H1
       replace H := Option.bind_eq_some_iff.mp H
       obtain ⟨t956, A310, H⟩ := H
       replace H : (if t956 = T then (some 0) else (some 2)) = some r := H
       have A31 := Aside0.mk A310
       clear A310
       obtain ⟨hcz32_0, hfz32_0⟩ := Zy (v := (.string a0_0)) BK951.out 0
       obtain ⟨hcz32_1, hfz32_1⟩ := Zy (v := (.int .i64 a0_1)) BK951.out 1
       obtain ⟨hcz32_2, hfz32_2⟩ := Zy (v := (.int .i64 a0_2)) BK951.out 2
       obtain ⟨hcz32_3, hfz32_3⟩ := Zy (v := (.int .i64 a0_3)) BK951.out 3
       obtain ⟨hcz32_4, hfz32_4⟩ := Zy (v := (.int .i64 a0_4)) BK951.out 4
       obtain ⟨hcz32_5, hfz32_5⟩ := Zy (v := (.int .i64 a0_5)) BK951.out 5
       go_upto_if 26 with (first | (go_at_call 182; (with_reducible refine (Qbt.calls a0_4 T _ A29.out).mono ?_); rintro e w' ⟨rfl, ⟨nd, rfl⟩⟩) | (go_at_call 182; (with_reducible refine (Qbt.calls a0_5 t956 _ A31.out).mono ?_); rintro e w' ⟨rfl, ⟨nd, rfl⟩⟩))
       (try simp only [Act.put, Zj, Zk, Zm])
       by_cases c33 : t956 = T
       ·subst c33
        have H1 : (some 0) = some r := by rw [if_pos rfl] at H; exact H
        clear H
        have H := H1
        clear H1
        obtain rfl := Option.some.inj H
        go_wp2
        go_ret
        exact ⟨Zq, Zc1 GE951.out⟩
       replace c33 := Bool.eq_false_iff.mpr c33
       subst c33
       have H1 : (some 2) = some r := by rw [if_neg (show ¬ (J = T) by decide)] at H; exact H
       clear H
       have H := H1
       clear H1
       obtain rfl := Option.some.inj H
       go_wp2
       go_ret
       exact ⟨Zq, Zc1 GE951.out⟩
      replace c30 := Bool.eq_false_iff.mpr c30
      subst c30
      have H1 : (some 2) = some r := by rw [if_neg (show ¬ (J = T) by decide)] at H; exact H
      clear H
      have H := H1
      clear H1
      obtain rfl := Option.some.inj H
      obtain ⟨hcz34_0, hfz34_0⟩ := Zy (v := (.string a0_0)) BK951.out 0
      obtain ⟨hcz34_1, hfz34_1⟩ := Zy (v := (.int .i64 a0_1)) BK951.out 1
      obtain ⟨hcz34_2, hfz34_2⟩ := Zy (v := (.int .i64 a0_2)) BK951.out 2
      obtain ⟨hcz34_3, hfz34_3⟩ := Zy (v := (.int .i64 a0_3)) BK951.out 3
      obtain ⟨hcz34_4, hfz34_4⟩ := Zy (v := (.int .i64 a0_4)) BK951.out 4
      obtain ⟨hcz34_5, hfz34_5⟩ := Zy (v := (.int .i64 a0_5)) BK951.out 5
      go_wp2_with (first | (go_at_call 182; (with_reducible refine (Qbt.calls a0_4 J _ A29.out).mono ?_); rintro e w' ⟨rfl, ⟨nd, rfl⟩⟩))
      go_ret
      exact ⟨Zq, Zc1 GE951.out⟩
 replace c5 := Bool.eq_false_iff.mpr c5
 subst c5
 have H1 : (some 10) = some r := by rw [if_neg (show ¬ (J = T) by decide)] at H; exact H
 clear H
 have H := H1
 clear H1
 obtain rfl := Option.some.inj H
 go_wp2
 go_ret
 exact ⟨Zq, Zc1 GE951.out⟩
def QbC.f (k : Nat) (a0_0 : ByteArray) (a0_1 : Int) (a0_2 : Int) (a0_3 : Int) (a0_4 : Int) (a0_5 : Int) (a1 : Int) : Option (Int × Int) := (QaG.f k a0_0 a0_1 a0_2 a0_3 a0_4 a0_5).bind fun t958 => (if t958 = 0 then ((QbG.f a1).bind fun t959 => (if t959 = T then ((Qa6.f k a1 a0_3).bind fun bt960 => (some (bt960.1, bt960.2))) else (some (0, 18)))) else (some (0, t958)))
theorem QbC.mono : ∀ a0 a1 a2 a3 a4 a5 a6 k, LeO (QbC.f k a0 a1 a2 a3 a4 a5 a6) (QbC.f (k + 1) a0 a1 a2 a3 a4 a5 a6) := by
 intro a0 a1 a2 a3 a4 a5 a6 k
 unfold QbC.f
 exact ZM2 QaG.mono Qa6.mono
set_option maxHeartbeats 8000000 in
theorem QbC.calls (k : Nat) (a0_0 : ByteArray) (a0_1 : Int) (a0_2 : Int) (a0_3 : Int) (a0_4 : Int) (a0_5 : Int) (a1 : Int) (r1 : Int) (r2 : Int) (w : World) (h : QbC.f k a0_0 a0_1 a0_2 a0_3 a0_4 a0_5 a1 = some (r1, r2)) :
  Calls Try.prog 118 #[.agg #[.string a0_0, .int .i64 a0_1, .int .i64 a0_2, .int .i64 a0_3, .int .i64 a0_4, .int .i64 a0_5], .int .i64 a1] w fun e w' => e = .returned (.tuple #[.int .i64 r1, .int .i64 r2]) ∧ Below w.heap.size w w' := by
 have hu112 := Try.underlying112
 have HB := Aside0.mk (Below.refl w.heap.size w)
 have H : ((QaG.f k a0_0 a0_1 a0_2 a0_3 a0_4 a0_5).bind fun t958 => (if t958 = 0 then ((QbG.f a1).bind fun t959 => (if t959 = T then ((Qa6.f k a1 a0_3).bind fun bt960 => (some (bt960.1, bt960.2))) else (some (0, 18)))) else (some (0, t958)))) = some (r1, r2) := h
 clear h
 replace H := Option.bind_eq_some_iff.mp H
 obtain ⟨t958, A30, H⟩ := H
 replace H : (if t958 = 0 then ((QbG.f a1).bind fun t959 => (if t959 = T then ((Qa6.f k a1 a0_3).bind fun bt960 => (some (bt960.1, bt960.2))) else (some (0, 18)))) else (some (0, t958))) = some (r1, r2) := H
 have A3 := Aside0.mk A30
 clear A30
 go_enter Try.func118, Try.ntmps118
 go_upto_if 10 with (first | ((with_reducible refine QaT (N := 2) rfl ?_); refine Zbx (N := 2) (cs := #[.string a0_0, .int .i64 a0_1, .int .i64 a0_2, .int .i64 a0_3, .int .i64 a0_4, .int .i64 a0_5]) (t := 112) ?_; intro gb957 hg w4 hbox hb; have BK957 := Aside0.mk (hbox); have GW957 := Aside0.mk (Zt w hg (Zb)); have GE957 := GW957; replace HB := Aside0.mk (Qap (Zb) hb); clear hb hbox hg; obtain ⟨hcz5_0, hfz5_0⟩ := Zy (v := (.string a0_0)) BK957.out 0; obtain ⟨hcz5_1, hfz5_1⟩ := Zy (v := (.int .i64 a0_1)) BK957.out 1; obtain ⟨hcz5_2, hfz5_2⟩ := Zy (v := (.int .i64 a0_2)) BK957.out 2; obtain ⟨hcz5_3, hfz5_3⟩ := Zy (v := (.int .i64 a0_3)) BK957.out 3; obtain ⟨hcz5_4, hfz5_4⟩ := Zy (v := (.int .i64 a0_4)) BK957.out 4; obtain ⟨hcz5_5, hfz5_5⟩ := Zy (v := (.int .i64 a0_5)) BK957.out 5) | ((with_reducible refine Qay (f := 111) rfl ?_); refine goesL_ (some 8) rfl rfl Try.func111 (by kernel_rfl) rfl #[.agg #[.string a0_0, .int .i64 a0_1, .int .i64 a0_2, .int .i64 a0_3, .int .i64 a0_4, .int .i64 a0_5]] rfl (Zl) ?_; (with_reducible refine (QaG.calls k a0_0 a0_1 a0_2 a0_3 a0_4 a0_5 t958 _ A3.out).mono ?_); rintro e w6 ⟨rfl, hb⟩; refine ⟨_, rfl, ?_⟩; replace BK957 := Aside0.mk (Zi BK957.out hb); replace HB := Aside0.mk (Qap (Zc1 GE957.out) hb); (try clear hb); (try clear hb2); (try clear hk); (try clear hi)))
 (try simp only [Act.put, Zj, Zk, Zm])
 by_cases c7 : t958 = 0
 ·rw [if_pos c7] at H
  have c7b0 : (t958 == 0) = T := beq_iff_eq.mpr c7
  have c7b1 : (t958 != 0) = J := bne_eq_false_iff_eq.mpr c7
  clear c7
  (try simp only [c7b0, c7b1])
  replace H := Option.bind_eq_some_iff.mp H
  obtain ⟨t959, A80, H⟩ := H
  replace H : (if t959 = T then ((Qa6.f k a1 a0_3).bind fun bt960 => (some (bt960.1, bt960.2))) else (some (0, 18))) = some (r1, r2) := H
  have A8 := Aside0.mk A80
  clear A80
  go_upto_if 14 with (first | ((with_reducible refine Qay (f := 113) rfl ?_); refine goesL_ (some 13) rfl rfl Try.func113 (by kernel_rfl) rfl #[.int .i64 a1] rfl (Zl) ?_; (with_reducible refine (QbG.calls a1 t959 _ A8.out).mono ?_); rintro e w' ⟨rfl, ⟨nd, rfl⟩⟩; refine ⟨_, rfl, ?_⟩))
  (try simp only [Act.put, Zj, Zk, Zm])
  by_cases c9 : t959 = T
  ·subst c9
   have H1 : ((Qa6.f k a1 a0_3).bind fun bt960 => (some (bt960.1, bt960.2))) = some (r1, r2) := by rw [if_pos rfl] at H; exact H
   clear H
   have H := H1
   clear H1
   replace H := Option.bind_eq_some_iff.mp H
   obtain ⟨⟨t960, t961⟩, A100, H⟩ := H
   replace H : (some (t960, t961)) = some (r1, r2) := H
   have A10 := Aside0.mk A100
   clear A100
   simp only [Option.some.injEq, Prod.mk.injEq] at H
   obtain ⟨rfl, rfl⟩ := H
   obtain ⟨hcz11_0, hfz11_0⟩ := Zy (v := (.string a0_0)) BK957.out 0
   obtain ⟨hcz11_1, hfz11_1⟩ := Zy (v := (.int .i64 a0_1)) BK957.out 1
   obtain ⟨hcz11_2, hfz11_2⟩ := Zy (v := (.int .i64 a0_2)) BK957.out 2
   obtain ⟨hcz11_3, hfz11_3⟩ := Zy (v := (.int .i64 a0_3)) BK957.out 3
   obtain ⟨hcz11_4, hfz11_4⟩ := Zy (v := (.int .i64 a0_4)) BK957.out 4
   obtain ⟨hcz11_5, hfz11_5⟩ := Zy (v := (.int .i64 a0_5)) BK957.out 5
   go_wp2_with (first | ((with_reducible refine Qay (f := 187) rfl ?_); refine goesL_ (some 18) rfl rfl Try.func187 (by kernel_rfl) rfl #[.int .i64 a1, .int .i64 a0_3] rfl (Zl) ?_; (with_reducible refine (Qa6.calls k a1 a0_3 t960 t961 _ A10.out).mono ?_); rintro e w' ⟨rfl, ⟨nd, rfl⟩⟩; refine ⟨_, rfl, ?_⟩))
   go_ret2
   exact ⟨Zq, Zc1 GE957.out⟩
  replace c9 := Bool.eq_false_iff.mpr c9
  subst c9
  have H1 : (some (0, 18)) = some (r1, r2) := by rw [if_neg (show ¬ (J = T) by decide)] at H; exact H
  clear H
  have H := H1
  clear H1
  simp only [Option.some.injEq, Prod.mk.injEq] at H
  obtain ⟨rfl, rfl⟩ := H
  go_wp2
  go_ret2
  exact ⟨Zq, Zc1 GE957.out⟩
 rw [if_neg c7] at H
 have c7b0 : (t958 == 0) = J := beq_eq_false_iff_ne.mpr c7
 have c7b1 : (t958 != 0) = T := bne_iff_ne.mpr c7
 (try simp only [c7b0, c7b1])
 simp only [Option.some.injEq, Prod.mk.injEq] at H
 obtain ⟨rfl, rfl⟩ := H
 go_wp2
 go_ret2
 exact ⟨Zq, Zc1 GE957.out⟩
def Qb0.f (a0 : Int) : Option (Bool) := if a0 ≥ 1 then (some (decide (a0 ≤ 1152921504606846976))) else (some J)
set_option maxHeartbeats 8000000 in
theorem Qb0.calls (a0 : Int) (r : Bool) (w : World) (h : Qb0.f a0 = some r) :
  Calls Try.prog 274 #[.int .i64 a0] w fun e w' => e = .returned (.bool r) ∧ Drawn0 w w' := by
 have H : (if a0 ≥ 1 then (some (decide (a0 ≤ 1152921504606846976))) else (some J)) = some r := h
 clear h
 by_cases c2 : a0 ≥ 1
 ·rw [if_pos c2] at H
  have c2b0 : decide (1 ≤ a0) = T := decide_eq_true c2
  clear c2
  obtain rfl := Option.some.inj H
  go_enter Try.func274, Try.ntmps274
  go_wp2
  go_ret
  exact ⟨Zs, Zd⟩
 rw [if_neg c2] at H
 have c2b0 : decide (1 ≤ a0) = J := decide_eq_false c2
 clear c2
 obtain rfl := Option.some.inj H
 go_enter Try.func274, Try.ntmps274
 go_wp2
 go_ret
 exact ⟨Zs, Zd⟩
end Go.Proofs.Ytgnmhfjfefgbfaa.Pr
