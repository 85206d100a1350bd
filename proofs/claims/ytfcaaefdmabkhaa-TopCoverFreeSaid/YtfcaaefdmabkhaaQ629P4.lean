/- Functions' values and contracts, as the print wrote them. -/
import Derived.Test.YtfcaaefdmabkhaaQ629P0
import Derived.Test.YtfcaaefdmabkhaaQ629P3
import Derived.Test.YtfcaaefdmabkhaaQ629P2
import Derived.Test.YtfcaaefdmabkhaaQ629P1
namespace Go.Proofs.Ytfcaaefdmabkhaa.Pr
open Go.RowKit Go.Proofs.YtfcaaefdmabkhaaW.PrintWords Go.Proofs.YtfcaaefdmabkhaaW.PrintLast Go.Proofs.YtfcaaefdmabkhaaW.PrintMore
attribute [local go_sem] QaN QaP QaW QaX QaI QaJ QaO QaQ   -- for this text's walks alone
set_option linter.unusedVariables false
set_option linter.unusedSimpArgs false
def QaK.l0 : Nat → List (S84) → List (S84) → Int → Int → Option (Int)
 | 0, _, _, _, _ => none
 | k + 1, x0, x9, x10, x11 => if x11 < x10 then (if 0 ≤ x11 then (if x11 < (x9.length : Int) then ((QaC.f k ((rd_T84 x9 x11).f0) ((rd_T84 x9 x11).f1) ((rd_T84 x9 x11).f2) ((rd_T84 x9 x11).f3) ((rd_T84 x9 x11).f4) ((rd_T84 x9 x11).f5)).bind fun t205 => (if t205 = 0 then (if x11 > 0 then (if 0 ≤ (wrap64 (x11 - 1)) then (if (wrap64 (x11 - 1)) < (x0.length : Int) then (if (Op.bytesLess (((rd_T84 x9 x11).f0).toList) (((rd_T84 x0 (wrap64 (x11 - 1))).f0).toList)) = true then (some 12) else (if (((rd_T84 x9 x11).f0).toList) = (((rd_T84 x0 (wrap64 (x11 - 1))).f0).toList) then (some 12) else (QaK.l0 k x0 x9 x10 (wrap64 (x11 + 1))))) else (none)) else (none)) else (QaK.l0 k x0 x9 x10 (wrap64 (x11 + 1)))) else (some t205))) else (none)) else (none)) else (some 0)
def QaK.f (k : Nat) (l0 : List (S84)) : Option (Int) := if (l0.length : Int) > 1024 then (some 8) else (QaK.l0 k l0 l0 (l0.length : Int) 0)
theorem QaK.mono_l : ∀ k, (∀ y0 y1 y2 y3, LeO (QaK.l0 k y0 y1 y2 y3) (QaK.l0 (k + 1) y0 y1 y2 y3))
 | 0 => fun _ _ _ _ r h => by simp [QaK.l0] at h
 | k + 1 => by
  have ih0 := QaK.mono_l k
  ·intro y0 y1 y2 y3
   unfold QaK.l0
   repeat' first
   | (with_reducible exact ih0 _ _ _ _)
   | (with_reducible exact QaC.mono _ _ _ _ _ _ _)
   | (with_reducible exact LeO.refl _)
   | (with_reducible exact LeO.none _)
   | (with_reducible refine LeO.ite ?_ ?_)
   | (with_reducible refine LeO.bind ?_ (fun _ => ?_))
   | exact ih0 _ _ _ _
   | exact QaC.mono _ _ _ _ _ _ _
   | exact LeO.none _
   | refine LeO.ite ?_ ?_
   | refine LeO.bind ?_ (fun _ => ?_)
theorem QaK.mono : ∀ a0 k, LeO (QaK.f k a0) (QaK.f (k + 1) a0) := by
 intro a0 k
 have ih0 := QaK.mono_l k
 unfold QaK.f
 repeat' first
   | (with_reducible exact ih0 _ _ _ _)
   | (with_reducible exact QaC.mono _ _ _ _ _ _ _)
   | (with_reducible exact LeO.refl _)
   | (with_reducible exact LeO.none _)
   | (with_reducible refine LeO.ite ?_ ?_)
   | (with_reducible refine LeO.bind ?_ (fun _ => ?_))
   | exact ih0 _ _ _ _
   | exact QaC.mono _ _ _ _ _ _ _
   | exact LeO.none _
   | refine LeO.ite ?_ ?_
   | refine LeO.bind ?_ (fun _ => ?_)
set_option maxHeartbeats 8000000 in
set_option maxRecDepth 100000 in
theorem QaK.calls (k : Nat) (A0 : Option Addr) (c0 : Nat) (l0 : List (S84)) (r : Int) (w : World) (hr0 : Kd.C k84 w A0 l0.length l0) (hc0 : l0.length ≤ c0) (h : QaK.f k l0 = some r) :
  Calls Try.prog 116 #[.slice A0 l0.length c0] w fun e w' => e = .returned (.int .i64 r) ∧ Below w.heap.size w w' := by
 have hu84 := Try.underlying84
 have HR0 := Aside0.mk hr0
 have HC0 := Aside0.mk hc0
 clear hr0 hc0
 have HB := Aside0.mk (Below.refl w.heap.size w)
 have H : (if (l0.length : Int) > 1024 then (some 8) else (QaK.l0 k l0 l0 (l0.length : Int) 0)) = some r := h
 clear h
 by_cases c2 : (l0.length : Int) > 1024
 ·rw [if_pos c2] at H
  have c2b0 : decide (1024 < (l0.length : Int)) = true := decide_eq_true c2
  have c2b1 : decide (1024 < l0.length) = true := decide_eq_true (by omega)
  clear c2
  obtain rfl := Option.some.inj H
  go_enter Try.func116, Try.ntmps116
  go_wp2
  repeat (go_quiet (fail); try go_wp2)
  go_ret
  exact ⟨Zq, Zb⟩
 ·rw [if_neg c2] at H
  have c2b0 : decide (1024 < (l0.length : Int)) = false := decide_eq_false c2
  have c2b1 : decide (1024 < l0.length) = false := decide_eq_false (by omega)
  clear c2
  have H' := Aside0.mk H
  clear H
  go_enter Try.func116, Try.ntmps116
  go_wp2
  repeat (go_quiet (fail); try go_wp2)
  go_loopg [11] k (fun kq v11 w' => ∃ (x11_1 : Int), v11 = .int .i64 x11_1 ∧ Aside0 (QaK.l0 kq l0 l0 (l0.length : Int) x11_1 = some r) ∧ Aside0 (kq ≤ k) ∧ Aside0 (Below w.heap.size w w'))
  case atStart => exact ⟨(0), (Zs), H', ⟨Nat.le_refl _⟩, ⟨Zb⟩⟩
  case round =>
   clear H'
   try clear c1
   try clear c2
   try clear c2b0
   try clear c2b1
   try clear p2
   obtain ⟨x11_1, rfl, HA, HK1, HB⟩ := hrel
   cases gk with
   | zero => exact absurd HA.out (by simp [QaK.l0])
   | succ k1 =>
    have H := HA.out
    clear HA
    simp only [QaK.l0] at H
    by_cases c3 : x11_1 < (l0.length : Int)
    ·rw [if_pos c3] at H
     have c3b0 : decide (x11_1 < (l0.length : Int)) = true := decide_eq_true c3
     clear c3
     (try simp only [c3b0])
     by_cases c4 : 0 ≤ x11_1
     ·rw [if_pos c4] at H
      have c4b0 : decide (0 ≤ x11_1) = true := decide_eq_true c4
      clear c4
      by_cases c5 : x11_1 < (l0.length : Int)
      ·rw [if_pos c5] at H
       have c5b0 : decide (x11_1 < (l0.length : Int)) = true := decide_eq_true c5
       clear c5
       replace H := Option.bind_eq_some_iff.mp H
       obtain ⟨t205, A60, H⟩ := H
       replace H : (if t205 = 0 then (if x11_1 > 0 then (if 0 ≤ (wrap64 (x11_1 - 1)) then (if (wrap64 (x11_1 - 1)) < (l0.length : Int) then (if (Op.bytesLess (((rd_T84 l0 x11_1).f0).toList) (((rd_T84 l0 (wrap64 (x11_1 - 1))).f0).toList)) = true then (some 12) else (if (((rd_T84 l0 x11_1).f0).toList) = (((rd_T84 l0 (wrap64 (x11_1 - 1))).f0).toList) then (some 12) else (QaK.l0 k1 l0 l0 (l0.length : Int) (wrap64 (x11_1 + 1))))) else (none)) else (none)) else (QaK.l0 k1 l0 l0 (l0.length : Int) (wrap64 (x11_1 + 1)))) else (some t205)) = some r := H
       have A6 := Aside0.mk A60
       clear A60
       have p203 : 0 ≤ (x11_1 : Int) := Ze
       have q203 : x11_1 < (l0.length : Int) := Ze
       obtain ⟨ad203, e203, hx203_0, hx203_1, hx203_2, hx203_3, hx203_4, hx203_5⟩ := at_T84 HR0.out x11_1 p203 q203
       cases e203
       replace hx203_0 := (HB.out.cell (World.block_lt_of_cell? w _ hx203_0)).trans hx203_0
       replace hx203_1 := (HB.out.cell (World.block_lt_of_cell? w _ hx203_1)).trans hx203_1
       replace hx203_2 := (HB.out.cell (World.block_lt_of_cell? w _ hx203_2)).trans hx203_2
       replace hx203_3 := (HB.out.cell (World.block_lt_of_cell? w _ hx203_3)).trans hx203_3
       replace hx203_4 := (HB.out.cell (World.block_lt_of_cell? w _ hx203_4)).trans hx203_4
       replace hx203_5 := (HB.out.cell (World.block_lt_of_cell? w _ hx203_5)).trans hx203_5
       replace p203 := eq_true p203
       replace q203 := eq_true q203
       go_upto_if 19 with (first | ((with_reducible refine QaD (N := 4) rfl ?_); refine QaL ?hg (N := 4) ?hd (cs := #[.string (⟨#[]⟩ : ByteArray), .int .i64 0, .int .i64 0, .int .i64 0, .int .i64 0, .int .i64 0]) (t := 84) ?hr ?_; (case hd => rfl); (case hg => rfl); (case hr => first | (go_simp; done) | (go_simp; rfl)); intro gb204 hg w7 hbox hb; have n0_ := Aside0.mk (Qaq (Zb) hb); have n1_ := Aside0.mk (hbox); have n2_ := Aside0.mk ((by rw [hg]; exact (Qan (Zb)) : w.heap.size ≤ gb204)); have n3_ := Aside0.mk ((by rw [hg]; exact (Qan (Zb)) : w.heap.size ≤ gb204)); clear HB; have HB := n0_; have BK204 := n1_; have GW204 := n2_; have GE204 := n3_; clear n0_ n1_ n2_ n3_; clear hb hbox hg; have hcz8_0 : w7.cell? ⟨gb204, 0, none⟩ = some (.string (⟨#[]⟩ : ByteArray)) := (Qah BK204.out 0).trans rfl; have hcz8_1 : w7.cell? ⟨gb204, 1, none⟩ = some (.int .i64 0) := (Qah BK204.out 1).trans rfl; have hcz8_2 : w7.cell? ⟨gb204, 2, none⟩ = some (.int .i64 0) := (Qah BK204.out 2).trans rfl; have hcz8_3 : w7.cell? ⟨gb204, 3, none⟩ = some (.int .i64 0) := (Qah BK204.out 3).trans rfl; have hcz8_4 : w7.cell? ⟨gb204, 4, none⟩ = some (.int .i64 0) := (Qah BK204.out 4).trans rfl; have hcz8_5 : w7.cell? ⟨gb204, 5, none⟩ = some (.int .i64 0) := (Qah BK204.out 5).trans rfl; have hfz8_0 := Qaf BK204.out 0; have hfz8_1 := Qaf BK204.out 1; have hfz8_2 := Qaf BK204.out 2; have hfz8_3 := Qaf BK204.out 3; have hfz8_4 := Qaf BK204.out 4; have hfz8_5 := Qaf BK204.out 5) | (go_at_call 78; (with_reducible refine (QaC.calls k1 ((rd_T84 l0 x11_1).f0) ((rd_T84 l0 x11_1).f1) ((rd_T84 l0 x11_1).f2) ((rd_T84 l0 x11_1).f3) ((rd_T84 l0 x11_1).f4) ((rd_T84 l0 x11_1).f5) t205 _ A6.out).mono ?_); rintro e w9 ⟨rfl, hb⟩; have n0_ := Aside0.mk (Qaj (g := gb204) (o := .cells #[.string ((rd_T84 l0 x11_1).f0), .int .i64 ((rd_T84 l0 x11_1).f1), .int .i64 ((rd_T84 l0 x11_1).f2), .int .i64 ((rd_T84 l0 x11_1).f3), .int .i64 ((rd_T84 l0 x11_1).f4), .int .i64 ((rd_T84 l0 x11_1).f5)] 84 (0, 0)) (by (with_reducible repeat (first | refine Qab ?_ _ | refine Qad ?_ | refine Qaa ?_ _)); refine Qas (cs := #[.string ((rd_T84 l0 x11_1).f0), .int .i64 ((rd_T84 l0 x11_1).f1), .int .i64 ((rd_T84 l0 x11_1).f2), .int .i64 ((rd_T84 l0 x11_1).f3), .int .i64 ((rd_T84 l0 x11_1).f4), .int .i64 0]) ?_ 5 _ rfl; (with_reducible repeat (first | refine Qab ?_ _ | refine Qad ?_ | refine Qaa ?_ _)); refine Qas (cs := #[.string ((rd_T84 l0 x11_1).f0), .int .i64 ((rd_T84 l0 x11_1).f1), .int .i64 ((rd_T84 l0 x11_1).f2), .int .i64 ((rd_T84 l0 x11_1).f3), .int .i64 0, .int .i64 0]) ?_ 4 _ rfl; (with_reducible repeat (first | refine Qab ?_ _ | refine Qad ?_ | refine Qaa ?_ _)); refine Qas (cs := #[.string ((rd_T84 l0 x11_1).f0), .int .i64 ((rd_T84 l0 x11_1).f1), .int .i64 ((rd_T84 l0 x11_1).f2), .int .i64 0, .int .i64 0, .int .i64 0]) ?_ 3 _ rfl; (with_reducible repeat (first | refine Qab ?_ _ | refine Qad ?_ | refine Qaa ?_ _)); refine Qas (cs := #[.string ((rd_T84 l0 x11_1).f0), .int .i64 ((rd_T84 l0 x11_1).f1), .int .i64 0, .int .i64 0, .int .i64 0, .int .i64 0]) ?_ 2 _ rfl; (with_reducible repeat (first | refine Qab ?_ _ | refine Qad ?_ | refine Qaa ?_ _)); refine Qas (cs := #[.string ((rd_T84 l0 x11_1).f0), .int .i64 0, .int .i64 0, .int .i64 0, .int .i64 0, .int .i64 0]) ?_ 1 _ rfl; (with_reducible repeat (first | refine Qab ?_ _ | refine Qad ?_ | refine Qaa ?_ _)); refine Qas (cs := #[.string (⟨#[]⟩ : ByteArray), .int .i64 0, .int .i64 0, .int .i64 0, .int .i64 0, .int .i64 0]) ?_ 0 _ rfl; (with_reducible repeat (first | refine Qab ?_ _ | refine Qad ?_ | refine Qaa ?_ _)); exact BK204.out) hb); have n1_ := Aside0.mk (Qaq (Zc1 GE204.out) hb); clear BK204; clear HB; have BK204 := n0_; have HB := n1_; clear n0_ n1_; (try clear hb); (try clear hb2); (try clear hk); (try clear hi)))
       repeat (go_quiet (first | ((with_reducible refine QaD (N := 4) rfl ?_); refine QaL ?hg (N := 4) ?hd (cs := #[.string (⟨#[]⟩ : ByteArray), .int .i64 0, .int .i64 0, .int .i64 0, .int .i64 0, .int .i64 0]) (t := 84) ?hr ?_; (case hd => rfl); (case hg => rfl); (case hr => first | (go_simp; done) | (go_simp; rfl)); intro gb204 hg w7 hbox hb; have n0_ := Aside0.mk (Qaq (Zb) hb); have n1_ := Aside0.mk (hbox); have n2_ := Aside0.mk ((by rw [hg]; exact (Qan (Zb)) : w.heap.size ≤ gb204)); have n3_ := Aside0.mk ((by rw [hg]; exact (Qan (Zb)) : w.heap.size ≤ gb204)); clear HB; have HB := n0_; have BK204 := n1_; have GW204 := n2_; have GE204 := n3_; clear n0_ n1_ n2_ n3_; clear hb hbox hg; have hcz8_0 : w7.cell? ⟨gb204, 0, none⟩ = some (.string (⟨#[]⟩ : ByteArray)) := (Qah BK204.out 0).trans rfl; have hcz8_1 : w7.cell? ⟨gb204, 1, none⟩ = some (.int .i64 0) := (Qah BK204.out 1).trans rfl; have hcz8_2 : w7.cell? ⟨gb204, 2, none⟩ = some (.int .i64 0) := (Qah BK204.out 2).trans rfl; have hcz8_3 : w7.cell? ⟨gb204, 3, none⟩ = some (.int .i64 0) := (Qah BK204.out 3).trans rfl; have hcz8_4 : w7.cell? ⟨gb204, 4, none⟩ = some (.int .i64 0) := (Qah BK204.out 4).trans rfl; have hcz8_5 : w7.cell? ⟨gb204, 5, none⟩ = some (.int .i64 0) := (Qah BK204.out 5).trans rfl; have hfz8_0 := Qaf BK204.out 0; have hfz8_1 := Qaf BK204.out 1; have hfz8_2 := Qaf BK204.out 2; have hfz8_3 := Qaf BK204.out 3; have hfz8_4 := Qaf BK204.out 4; have hfz8_5 := Qaf BK204.out 5) | (go_at_call 78; (with_reducible refine (QaC.calls k1 ((rd_T84 l0 x11_1).f0) ((rd_T84 l0 x11_1).f1) ((rd_T84 l0 x11_1).f2) ((rd_T84 l0 x11_1).f3) ((rd_T84 l0 x11_1).f4) ((rd_T84 l0 x11_1).f5) t205 _ A6.out).mono ?_); rintro e w9 ⟨rfl, hb⟩; have n0_ := Aside0.mk (Qaj (g := gb204) (o := .cells #[.string ((rd_T84 l0 x11_1).f0), .int .i64 ((rd_T84 l0 x11_1).f1), .int .i64 ((rd_T84 l0 x11_1).f2), .int .i64 ((rd_T84 l0 x11_1).f3), .int .i64 ((rd_T84 l0 x11_1).f4), .int .i64 ((rd_T84 l0 x11_1).f5)] 84 (0, 0)) (by (with_reducible repeat (first | refine Qab ?_ _ | refine Qad ?_ | refine Qaa ?_ _)); refine Qas (cs := #[.string ((rd_T84 l0 x11_1).f0), .int .i64 ((rd_T84 l0 x11_1).f1), .int .i64 ((rd_T84 l0 x11_1).f2), .int .i64 ((rd_T84 l0 x11_1).f3), .int .i64 ((rd_T84 l0 x11_1).f4), .int .i64 0]) ?_ 5 _ rfl; (with_reducible repeat (first | refine Qab ?_ _ | refine Qad ?_ | refine Qaa ?_ _)); refine Qas (cs := #[.string ((rd_T84 l0 x11_1).f0), .int .i64 ((rd_T84 l0 x11_1).f1), .int .i64 ((rd_T84 l0 x11_1).f2), .int .i64 ((rd_T84 l0 x11_1).f3), .int .i64 0, .int .i64 0]) ?_ 4 _ rfl; (with_reducible repeat (first | refine Qab ?_ _ | refine Qad ?_ | refine Qaa ?_ _)); refine Qas (cs := #[.string ((rd_T84 l0 x11_1).f0), .int .i64 ((rd_T84 l0 x11_1).f1), .int .i64 ((rd_T84 l0 x11_1).f2), .int .i64 0, .int .i64 0, .int .i64 0]) ?_ 3 _ rfl; (with_reducible repeat (first | refine Qab ?_ _ | refine Qad ?_ | refine Qaa ?_ _)); refine Qas (cs := #[.string ((rd_T84 l0 x11_1).f0), .int .i64 ((rd_T84 l0 x11_1).f1), .int .i64 0, .int .i64 0, .int .i64 0, .int .i64 0]) ?_ 2 _ rfl; (with_reducible repeat (first | refine Qab ?_ _ | refine Qad ?_ | refine Qaa ?_ _)); refine Qas (cs := #[.string ((rd_T84 l0 x11_1).f0), .int .i64 0, .int .i64 0, .int .i64 0, .int .i64 0, .int .i64 0]) ?_ 1 _ rfl; (with_reducible repeat (first | refine Qab ?_ _ | refine Qad ?_ | refine Qaa ?_ _)); refine Qas (cs := #[.string (⟨#[]⟩ : ByteArray), .int .i64 0, .int .i64 0, .int .i64 0, .int .i64 0, .int .i64 0]) ?_ 0 _ rfl; (with_reducible repeat (first | refine Qab ?_ _ | refine Qad ?_ | refine Qaa ?_ _)); exact BK204.out) hb); have n1_ := Aside0.mk (Qaq (Zc1 GE204.out) hb); clear BK204; clear HB; have BK204 := n0_; have HB := n1_; clear n0_ n1_; (try clear hb); (try clear hb2); (try clear hk); (try clear hi))); go_upto_if 19 with (first | ((with_reducible refine QaD (N := 4) rfl ?_); refine QaL ?hg (N := 4) ?hd (cs := #[.string (⟨#[]⟩ : ByteArray), .int .i64 0, .int .i64 0, .int .i64 0, .int .i64 0, .int .i64 0]) (t := 84) ?hr ?_; (case hd => rfl); (case hg => rfl); (case hr => first | (go_simp; done) | (go_simp; rfl)); intro gb204 hg w7 hbox hb; have n0_ := Aside0.mk (Qaq (Zb) hb); have n1_ := Aside0.mk (hbox); have n2_ := Aside0.mk ((by rw [hg]; exact (Qan (Zb)) : w.heap.size ≤ gb204)); have n3_ := Aside0.mk ((by rw [hg]; exact (Qan (Zb)) : w.heap.size ≤ gb204)); clear HB; have HB := n0_; have BK204 := n1_; have GW204 := n2_; have GE204 := n3_; clear n0_ n1_ n2_ n3_; clear hb hbox hg; have hcz8_0 : w7.cell? ⟨gb204, 0, none⟩ = some (.string (⟨#[]⟩ : ByteArray)) := (Qah BK204.out 0).trans rfl; have hcz8_1 : w7.cell? ⟨gb204, 1, none⟩ = some (.int .i64 0) := (Qah BK204.out 1).trans rfl; have hcz8_2 : w7.cell? ⟨gb204, 2, none⟩ = some (.int .i64 0) := (Qah BK204.out 2).trans rfl; have hcz8_3 : w7.cell? ⟨gb204, 3, none⟩ = some (.int .i64 0) := (Qah BK204.out 3).trans rfl; have hcz8_4 : w7.cell? ⟨gb204, 4, none⟩ = some (.int .i64 0) := (Qah BK204.out 4).trans rfl; have hcz8_5 : w7.cell? ⟨gb204, 5, none⟩ = some (.int .i64 0) := (Qah BK204.out 5).trans rfl; have hfz8_0 := Qaf BK204.out 0; have hfz8_1 := Qaf BK204.out 1; have hfz8_2 := Qaf BK204.out 2; have hfz8_3 := Qaf BK204.out 3; have hfz8_4 := Qaf BK204.out 4; have hfz8_5 := Qaf BK204.out 5) | (go_at_call 78; (with_reducible refine (QaC.calls k1 ((rd_T84 l0 x11_1).f0) ((rd_T84 l0 x11_1).f1) ((rd_T84 l0 x11_1).f2) ((rd_T84 l0 x11_1).f3) ((rd_T84 l0 x11_1).f4) ((rd_T84 l0 x11_1).f5) t205 _ A6.out).mono ?_); rintro e w9 ⟨rfl, hb⟩; have n0_ := Aside0.mk (Qaj (g := gb204) (o := .cells #[.string ((rd_T84 l0 x11_1).f0), .int .i64 ((rd_T84 l0 x11_1).f1), .int .i64 ((rd_T84 l0 x11_1).f2), .int .i64 ((rd_T84 l0 x11_1).f3), .int .i64 ((rd_T84 l0 x11_1).f4), .int .i64 ((rd_T84 l0 x11_1).f5)] 84 (0, 0)) (by (with_reducible repeat (first | refine Qab ?_ _ | refine Qad ?_ | refine Qaa ?_ _)); refine Qas (cs := #[.string ((rd_T84 l0 x11_1).f0), .int .i64 ((rd_T84 l0 x11_1).f1), .int .i64 ((rd_T84 l0 x11_1).f2), .int .i64 ((rd_T84 l0 x11_1).f3), .int .i64 ((rd_T84 l0 x11_1).f4), .int .i64 0]) ?_ 5 _ rfl; (with_reducible repeat (first | refine Qab ?_ _ | refine Qad ?_ | refine Qaa ?_ _)); refine Qas (cs := #[.string ((rd_T84 l0 x11_1).f0), .int .i64 ((rd_T84 l0 x11_1).f1), .int .i64 ((rd_T84 l0 x11_1).f2), .int .i64 ((rd_T84 l0 x11_1).f3), .int .i64 0, .int .i64 0]) ?_ 4 _ rfl; (with_reducible repeat (first | refine Qab ?_ _ | refine Qad ?_ | refine Qaa ?_ _)); refine Qas (cs := #[.string ((rd_T84 l0 x11_1).f0), .int .i64 ((rd_T84 l0 x11_1).f1), .int .i64 ((rd_T84 l0 x11_1).f2), .int .i64 0, .int .i64 0, .int .i64 0]) ?_ 3 _ rfl; (with_reducible repeat (first | refine Qab ?_ _ | refine Qad ?_ | refine Qaa ?_ _)); refine Qas (cs := #[.string ((rd_T84 l0 x11_1).f0), .int .i64 ((rd_T84 l0 x11_1).f1), .int .i64 0, .int .i64 0, .int .i64 0, .int .i64 0]) ?_ 2 _ rfl; (with_reducible repeat (first | refine Qab ?_ _ | refine Qad ?_ | refine Qaa ?_ _)); refine Qas (cs := #[.string ((rd_T84 l0 x11_1).f0), .int .i64 0, .int .i64 0, .int .i64 0, .int .i64 0, .int .i64 0]) ?_ 1 _ rfl; (with_reducible repeat (first | refine Qab ?_ _ | refine Qad ?_ | refine Qaa ?_ _)); refine Qas (cs := #[.string (⟨#[]⟩ : ByteArray), .int .i64 0, .int .i64 0, .int .i64 0, .int .i64 0, .int .i64 0]) ?_ 0 _ rfl; (with_reducible repeat (first | refine Qab ?_ _ | refine Qad ?_ | refine Qaa ?_ _)); exact BK204.out) hb); have n1_ := Aside0.mk (Qaq (Zc1 GE204.out) hb); clear BK204; clear HB; have BK204 := n0_; have HB := n1_; clear n0_ n1_; (try clear hb); (try clear hb2); (try clear hk); (try clear hi))))
       (try simp only [Act.put, List.setIfInBounds_toArray, List.set_cons_zero, List.set_cons_succ])
       by_cases c10 : t205 = 0
       ·rw [if_pos c10] at H
        have c10b0 : (t205 == 0) = true := beq_iff_eq.mpr c10
        have c10b1 : (t205 != 0) = false := bne_eq_false_iff_eq.mpr c10
        clear c10
        (try simp only [c10b0, c10b1])
        by_cases c11 : x11_1 > 0
        ·rw [if_pos c11] at H
         have c11b0 : decide (0 < x11_1) = true := decide_eq_true c11
         clear c11
         obtain ⟨ji12, hji12⟩ : ∃ j_ : Int, (wrap64 (x11_1 - 1)) = j_ := ⟨_, rfl⟩
         replace H : (if 0 ≤ (ji12) then (if (ji12) < (l0.length : Int) then (if (Op.bytesLess (((rd_T84 l0 x11_1).f0).toList) (((rd_T84 l0 (ji12)).f0).toList)) = true then (some 12) else (if (((rd_T84 l0 x11_1).f0).toList) = (((rd_T84 l0 (ji12)).f0).toList) then (some 12) else (QaK.l0 k1 l0 l0 (l0.length : Int) (wrap64 (x11_1 + 1))))) else (none)) else (none)) = some r := by first | (rw [hji12] at H; exact H) | (simp only [hji12] at H ⊢; exact H)
         have hji12w : (IntKind.i64.wrap (x11_1 - 1)) = ji12 := (i64_w _).trans hji12
         by_cases c13 : 0 ≤ (ji12)
         ·rw [if_pos c13] at H
          have c13b0 : decide (0 ≤ (ji12)) = true := decide_eq_true c13
          clear c13
          by_cases c14 : (ji12) < (l0.length : Int)
          ·rw [if_pos c14] at H
           have c14b0 : decide ((ji12) < (l0.length : Int)) = true := decide_eq_true c14
           clear c14
           by_cases c15 : (Op.bytesLess (((rd_T84 l0 x11_1).f0).toList) (((rd_T84 l0 (ji12)).f0).toList)) = true
           ·rw [if_pos c15] at H
            have c15b0 : (Op.bytesLess (((rd_T84 l0 x11_1).f0).toList) (((rd_T84 l0 (ji12)).f0).toList)) = true := c15
            clear c15
            obtain rfl := Option.some.inj H
            have hcz16_0 : w9.cell? ⟨gb204, 0, none⟩ = some (.string ((rd_T84 l0 x11_1).f0)) := (Qah BK204.out 0).trans rfl
            have hcz16_1 : w9.cell? ⟨gb204, 1, none⟩ = some (.int .i64 ((rd_T84 l0 x11_1).f1)) := (Qah BK204.out 1).trans rfl
            have hcz16_2 : w9.cell? ⟨gb204, 2, none⟩ = some (.int .i64 ((rd_T84 l0 x11_1).f2)) := (Qah BK204.out 2).trans rfl
            have hcz16_3 : w9.cell? ⟨gb204, 3, none⟩ = some (.int .i64 ((rd_T84 l0 x11_1).f3)) := (Qah BK204.out 3).trans rfl
            have hcz16_4 : w9.cell? ⟨gb204, 4, none⟩ = some (.int .i64 ((rd_T84 l0 x11_1).f4)) := (Qah BK204.out 4).trans rfl
            have hcz16_5 : w9.cell? ⟨gb204, 5, none⟩ = some (.int .i64 ((rd_T84 l0 x11_1).f5)) := (Qah BK204.out 5).trans rfl
            have hfz16_0 := Qaf BK204.out 0
            have hfz16_1 := Qaf BK204.out 1
            have hfz16_2 := Qaf BK204.out 2
            have hfz16_3 := Qaf BK204.out 3
            have hfz16_4 := Qaf BK204.out 4
            have hfz16_5 := Qaf BK204.out 5
            have p206 : 0 ≤ ((ji12) : Int) := Ze
            have q206 : (ji12) < (l0.length : Int) := Ze
            obtain ⟨ad206, e206, hx206_0, hx206_1, hx206_2, hx206_3, hx206_4, hx206_5⟩ := at_T84 HR0.out (ji12) p206 q206
            obtain rfl : ad203 = ad206 := (by injection e206)
            replace hx206_0 := (HB.out.cell (World.block_lt_of_cell? w _ hx206_0)).trans hx206_0
            replace hx206_1 := (HB.out.cell (World.block_lt_of_cell? w _ hx206_1)).trans hx206_1
            replace hx206_2 := (HB.out.cell (World.block_lt_of_cell? w _ hx206_2)).trans hx206_2
            replace hx206_3 := (HB.out.cell (World.block_lt_of_cell? w _ hx206_3)).trans hx206_3
            replace hx206_4 := (HB.out.cell (World.block_lt_of_cell? w _ hx206_4)).trans hx206_4
            replace hx206_5 := (HB.out.cell (World.block_lt_of_cell? w _ hx206_5)).trans hx206_5
            replace p206 := eq_true p206
            replace q206 := eq_true q206
            go_wp2
            repeat (go_quiet (fail); try go_wp2)
            go_ret
            exact ⟨by first | rfl | (simp [Qak, Qal] <;> rfl) | (simp only [← hji12]; first | rfl | (simp [Qak, Qal] <;> rfl)) | (simp [*, Qak, Qal] <;> rfl), Zc1 GE204.out⟩
           ·rw [if_neg c15] at H
            have c15b0 : (Op.bytesLess (((rd_T84 l0 x11_1).f0).toList) (((rd_T84 l0 (ji12)).f0).toList)) = false := by simpa using c15
            clear c15
            by_cases c17 : (((rd_T84 l0 x11_1).f0).toList) = (((rd_T84 l0 (ji12)).f0).toList)
            ·rw [if_pos c17] at H
             have c17b0 : ((((rd_T84 l0 x11_1).f0).toList) == (((rd_T84 l0 (ji12)).f0).toList)) = true := beq_iff_eq.mpr c17
             have c17b1 : ((((rd_T84 l0 x11_1).f0).toList) != (((rd_T84 l0 (ji12)).f0).toList)) = false := bne_eq_false_iff_eq.mpr c17
             clear c17
             obtain rfl := Option.some.inj H
             have hcz18_0 : w9.cell? ⟨gb204, 0, none⟩ = some (.string ((rd_T84 l0 x11_1).f0)) := (Qah BK204.out 0).trans rfl
             have hcz18_1 : w9.cell? ⟨gb204, 1, none⟩ = some (.int .i64 ((rd_T84 l0 x11_1).f1)) := (Qah BK204.out 1).trans rfl
             have hcz18_2 : w9.cell? ⟨gb204, 2, none⟩ = some (.int .i64 ((rd_T84 l0 x11_1).f2)) := (Qah BK204.out 2).trans rfl
             have hcz18_3 : w9.cell? ⟨gb204, 3, none⟩ = some (.int .i64 ((rd_T84 l0 x11_1).f3)) := (Qah BK204.out 3).trans rfl
             have hcz18_4 : w9.cell? ⟨gb204, 4, none⟩ = some (.int .i64 ((rd_T84 l0 x11_1).f4)) := (Qah BK204.out 4).trans rfl
             have hcz18_5 : w9.cell? ⟨gb204, 5, none⟩ = some (.int .i64 ((rd_T84 l0 x11_1).f5)) := (Qah BK204.out 5).trans rfl
             have hfz18_0 := Qaf BK204.out 0
             have hfz18_1 := Qaf BK204.out 1
             have hfz18_2 := Qaf BK204.out 2
             have hfz18_3 := Qaf BK204.out 3
             have hfz18_4 := Qaf BK204.out 4
             have hfz18_5 := Qaf BK204.out 5
             have p206 : 0 ≤ ((ji12) : Int) := Ze
             have q206 : (ji12) < (l0.length : Int) := Ze
             obtain ⟨ad206, e206, hx206_0, hx206_1, hx206_2, hx206_3, hx206_4, hx206_5⟩ := at_T84 HR0.out (ji12) p206 q206
             obtain rfl : ad203 = ad206 := (by injection e206)
             replace hx206_0 := (HB.out.cell (World.block_lt_of_cell? w _ hx206_0)).trans hx206_0
             replace hx206_1 := (HB.out.cell (World.block_lt_of_cell? w _ hx206_1)).trans hx206_1
             replace hx206_2 := (HB.out.cell (World.block_lt_of_cell? w _ hx206_2)).trans hx206_2
             replace hx206_3 := (HB.out.cell (World.block_lt_of_cell? w _ hx206_3)).trans hx206_3
             replace hx206_4 := (HB.out.cell (World.block_lt_of_cell? w _ hx206_4)).trans hx206_4
             replace hx206_5 := (HB.out.cell (World.block_lt_of_cell? w _ hx206_5)).trans hx206_5
             replace p206 := eq_true p206
             replace q206 := eq_true q206
             go_wp2
             repeat (go_quiet (fail); try go_wp2)
             go_ret
             exact ⟨by first | rfl | (simp [Qak, Qal] <;> rfl) | (simp only [← hji12]; first | rfl | (simp [Qak, Qal] <;> rfl)) | (simp [*, Qak, Qal] <;> rfl), Zc1 GE204.out⟩
            ·rw [if_neg c17] at H
             have c17b0 : ((((rd_T84 l0 x11_1).f0).toList) == (((rd_T84 l0 (ji12)).f0).toList)) = false := beq_eq_false_iff_ne.mpr c17
             have c17b1 : ((((rd_T84 l0 x11_1).f0).toList) != (((rd_T84 l0 (ji12)).f0).toList)) = true := bne_iff_ne.mpr c17
             have H' := Aside0.mk H
             clear H
             have hcz19_0 : w9.cell? ⟨gb204, 0, none⟩ = some (.string ((rd_T84 l0 x11_1).f0)) := (Qah BK204.out 0).trans rfl
             have hcz19_1 : w9.cell? ⟨gb204, 1, none⟩ = some (.int .i64 ((rd_T84 l0 x11_1).f1)) := (Qah BK204.out 1).trans rfl
             have hcz19_2 : w9.cell? ⟨gb204, 2, none⟩ = some (.int .i64 ((rd_T84 l0 x11_1).f2)) := (Qah BK204.out 2).trans rfl
             have hcz19_3 : w9.cell? ⟨gb204, 3, none⟩ = some (.int .i64 ((rd_T84 l0 x11_1).f3)) := (Qah BK204.out 3).trans rfl
             have hcz19_4 : w9.cell? ⟨gb204, 4, none⟩ = some (.int .i64 ((rd_T84 l0 x11_1).f4)) := (Qah BK204.out 4).trans rfl
             have hcz19_5 : w9.cell? ⟨gb204, 5, none⟩ = some (.int .i64 ((rd_T84 l0 x11_1).f5)) := (Qah BK204.out 5).trans rfl
             have hfz19_0 := Qaf BK204.out 0
             have hfz19_1 := Qaf BK204.out 1
             have hfz19_2 := Qaf BK204.out 2
             have hfz19_3 := Qaf BK204.out 3
             have hfz19_4 := Qaf BK204.out 4
             have hfz19_5 := Qaf BK204.out 5
             have p206 : 0 ≤ ((ji12) : Int) := Ze
             have q206 : (ji12) < (l0.length : Int) := Ze
             obtain ⟨ad206, e206, hx206_0, hx206_1, hx206_2, hx206_3, hx206_4, hx206_5⟩ := at_T84 HR0.out (ji12) p206 q206
             obtain rfl : ad203 = ad206 := (by injection e206)
             replace hx206_0 := (HB.out.cell (World.block_lt_of_cell? w _ hx206_0)).trans hx206_0
             replace hx206_1 := (HB.out.cell (World.block_lt_of_cell? w _ hx206_1)).trans hx206_1
             replace hx206_2 := (HB.out.cell (World.block_lt_of_cell? w _ hx206_2)).trans hx206_2
             replace hx206_3 := (HB.out.cell (World.block_lt_of_cell? w _ hx206_3)).trans hx206_3
             replace hx206_4 := (HB.out.cell (World.block_lt_of_cell? w _ hx206_4)).trans hx206_4
             replace hx206_5 := (HB.out.cell (World.block_lt_of_cell? w _ hx206_5)).trans hx206_5
             replace p206 := eq_true p206
             replace q206 := eq_true q206
             go_wp2
             repeat (go_quiet (fail); try go_wp2)
             go_roundg k1
             case measure => have := HK1.out; omega
             case rel => exact ⟨(wrap64 (x11_1 + 1)), (Zs), H', ⟨by have := HK1.out; omega⟩, ⟨Zc1 GE204.out⟩⟩
          ·rw [if_neg c14] at H
           exact absurd H (by simp)
         ·rw [if_neg c13] at H
          exact absurd H (by simp)
        ·rw [if_neg c11] at H
         have c11b0 : decide (0 < x11_1) = false := decide_eq_false c11
         clear c11
         have H' := Aside0.mk H
         clear H
         go_wp2
         repeat (go_quiet (fail); try go_wp2)
         go_roundg k1
         case measure => have := HK1.out; omega
         case rel => exact ⟨(wrap64 (x11_1 + 1)), (Zs), H', ⟨by have := HK1.out; omega⟩, ⟨Zc1 GE204.out⟩⟩
       ·rw [if_neg c10] at H
        have c10b0 : (t205 == 0) = false := beq_eq_false_iff_ne.mpr c10
        have c10b1 : (t205 != 0) = true := bne_iff_ne.mpr c10
        (try simp only [c10b0, c10b1])
        obtain rfl := Option.some.inj H
        go_wp2
        repeat (go_quiet (fail); try go_wp2)
        go_ret
        exact ⟨Zq, Zc1 GE204.out⟩
      ·rw [if_neg c5] at H
       exact absurd H (by simp)
     ·rw [if_neg c4] at H
      exact absurd H (by simp)
    ·rw [if_neg c3] at H
     have c3b0 : decide (x11_1 < (l0.length : Int)) = false := decide_eq_false c3
     clear c3
     (try simp only [c3b0])
     obtain rfl := Option.some.inj H
     go_wp2
     repeat (go_quiet (fail); try go_wp2)
     go_ret
     exact ⟨Zq, Zb⟩
def QaG.l0 : Nat → List (S84) → List (S98) → List Int → List (S46) → Int → Int → Option (Int × Int)
 | 0, _, _, _, _, _, _ => none
 | k + 1, x2, x3, x10, x29, x30, x31 => if x31 < x30 then (if 0 ≤ x31 then (if x31 < (x29.length : Int) then ((Qa3.f k x2 ((rd_T46 x29 x31).f1)).bind fun bt217 => (if bt217.2.2.2.2.2.2 = true then ((Qa6.f k bt217.1 bt217.2.1 bt217.2.2.1 bt217.2.2.2.1 bt217.2.2.2.2.1 bt217.2.2.2.2.2.1 ((rd_T46 x29 x31).f2) x3).bind fun bt225 => (if bt225.2 = 0 then (if x10.length < 17592186044416 then (QaG.l0 k x2 x3 (x10 ++ [bt225.1]) x29 x30 (wrap64 (x31 + 1))) else (none)) else (some (0, bt225.2)))) else (some (0, 11)))) else (none)) else (none)) else ((QaZ.f k x10).bind fun bt213 => (some (bt213.1, bt213.2)))
def QaG.f (k : Nat) (l0 : List (S46)) (a1_0 : ByteArray) (a1_1 : ByteArray) (l2 : List (S84)) (l3 : List (S98)) : Option (Int × Int) := (Qaw.f k l0).bind fun t208 => (if t208 = 0 then ((QaK.f k l2).bind fun t209 => (if t209 = 0 then ((QaV.f k l0 a1_0 a1_1).bind fun t210 => (QaG.l0 k l2 l3 ([] : List Int) t210 (t210.length : Int) 0)) else (some (0, t209)))) else (some (0, t208)))
theorem QaG.mono_l : ∀ k, (∀ y0 y1 y2 y3 y4 y5, LeO (QaG.l0 k y0 y1 y2 y3 y4 y5) (QaG.l0 (k + 1) y0 y1 y2 y3 y4 y5))
 | 0 => fun _ _ _ _ _ _ r h => by simp [QaG.l0] at h
 | k + 1 => by
  have ih0 := QaG.mono_l k
  ·intro y0 y1 y2 y3 y4 y5
   unfold QaG.l0
   repeat' first
   | (with_reducible exact ih0 _ _ _ _ _ _)
   | (with_reducible exact QaK.mono _ _)
   | (with_reducible exact Qa3.mono _ _ _)
   | (with_reducible exact Qa6.mono _ _ _ _ _ _ _ _ _)
   | (with_reducible exact QaZ.mono _ _)
   | (with_reducible exact Qaw.mono _ _)
   | (with_reducible exact QaV.mono _ _ _ _)
   | (with_reducible exact LeO.refl _)
   | (with_reducible exact LeO.none _)
   | (with_reducible refine LeO.ite ?_ ?_)
   | (with_reducible refine LeO.bind ?_ (fun _ => ?_))
   | exact ih0 _ _ _ _ _ _
   | exact QaK.mono _ _
   | exact Qa3.mono _ _ _
   | exact Qa6.mono _ _ _ _ _ _ _ _ _
   | exact QaZ.mono _ _
   | exact Qaw.mono _ _
   | exact QaV.mono _ _ _ _
   | exact LeO.none _
   | refine LeO.ite ?_ ?_
   | refine LeO.bind ?_ (fun _ => ?_)
theorem QaG.mono : ∀ a0 a1 a2 a3 a4 k, LeO (QaG.f k a0 a1 a2 a3 a4) (QaG.f (k + 1) a0 a1 a2 a3 a4) := by
 intro a0 a1 a2 a3 a4 k
 have ih0 := QaG.mono_l k
 unfold QaG.f
 repeat' first
   | (with_reducible exact ih0 _ _ _ _ _ _)
   | (with_reducible exact QaK.mono _ _)
   | (with_reducible exact Qa3.mono _ _ _)
   | (with_reducible exact Qa6.mono _ _ _ _ _ _ _ _ _)
   | (with_reducible exact QaZ.mono _ _)
   | (with_reducible exact Qaw.mono _ _)
   | (with_reducible exact QaV.mono _ _ _ _)
   | (with_reducible exact LeO.refl _)
   | (with_reducible exact LeO.none _)
   | (with_reducible refine LeO.ite ?_ ?_)
   | (with_reducible refine LeO.bind ?_ (fun _ => ?_))
   | exact ih0 _ _ _ _ _ _
   | exact QaK.mono _ _
   | exact Qa3.mono _ _ _
   | exact Qa6.mono _ _ _ _ _ _ _ _ _
   | exact QaZ.mono _ _
   | exact Qaw.mono _ _
   | exact QaV.mono _ _ _ _
   | exact LeO.none _
   | refine LeO.ite ?_ ?_
   | refine LeO.bind ?_ (fun _ => ?_)
set_option maxHeartbeats 8000000 in
set_option maxRecDepth 100000 in
theorem QaG.calls (k : Nat) (A0 : Option Addr) (c0 : Nat) (l0 : List (S46)) (a1_0 : ByteArray) (a1_1 : ByteArray) (A2 : Option Addr) (c2 : Nat) (l2 : List (S84)) (A3 : Option Addr) (c3 : Nat) (l3 : List (S98)) (r1 : Int) (r2 : Int) (w : World) (hr0 : Kd.C k46 w A0 l0.length l0) (hc0 : l0.length ≤ c0) (hr2 : Kd.C k84 w A2 l2.length l2) (hc2 : l2.length ≤ c2) (hr3 : Kd.C k98 w A3 l3.length l3) (hc3 : l3.length ≤ c3) (h : QaG.f k l0 a1_0 a1_1 l2 l3 = some (r1, r2)) :
  Calls Try.prog 85 #[.slice A0 l0.length c0, .agg #[.string a1_0, .string a1_1], .slice A2 l2.length c2, .slice A3 l3.length c3] w fun e w' => e = .returned (.tuple #[.int .i64 r1, .int .i64 r2]) ∧ Below w.heap.size w w' := by
 have hu44 := Try.underlying44
 have hu46 := Try.underlying46
 have hu84 := Try.underlying84
 have HR0 := Aside0.mk hr0
 have HC0 := Aside0.mk hc0
 clear hr0 hc0
 have HR2 := Aside0.mk hr2
 have HC2 := Aside0.mk hc2
 clear hr2 hc2
 have HR3 := Aside0.mk hr3
 have HC3 := Aside0.mk hc3
 clear hr3 hc3
 have HB := Aside0.mk (Below.refl w.heap.size w)
 have H : ((Qaw.f k l0).bind fun t208 => (if t208 = 0 then ((QaK.f k l2).bind fun t209 => (if t209 = 0 then ((QaV.f k l0 a1_0 a1_1).bind fun t210 => (QaG.l0 k l2 l3 ([] : List Int) t210 (t210.length : Int) 0)) else (some (0, t209)))) else (some (0, t208)))) = some (r1, r2) := h
 clear h
 replace H := Option.bind_eq_some_iff.mp H
 obtain ⟨t208, A50, H⟩ := H
 replace H : (if t208 = 0 then ((QaK.f k l2).bind fun t209 => (if t209 = 0 then ((QaV.f k l0 a1_0 a1_1).bind fun t210 => (QaG.l0 k l2 l3 ([] : List Int) t210 (t210.length : Int) 0)) else (some (0, t209)))) else (some (0, t208))) = some (r1, r2) := H
 have A5 := Aside0.mk A50
 clear A50
 go_enter Try.func85, Try.ntmps85
 go_upto_if 20 with (first | ((with_reducible refine QaD (N := 5) rfl ?_); refine QaL ?hg (N := 5) ?hd (cs := #[.string a1_0, .string a1_1]) (t := 44) ?hr ?_; (case hd => rfl); (case hg => rfl); (case hr => first | (go_simp; done) | (go_simp; rfl)); intro gb207 hg w6 hbox hb; have n0_ := Aside0.mk (Qaq (Zb) hb); have n1_ := Aside0.mk (hbox); have n2_ := Aside0.mk ((by rw [hg]; exact (Qan (Zb)) : w.heap.size ≤ gb207)); have n3_ := Aside0.mk ((by rw [hg]; exact (Qan (Zb)) : w.heap.size ≤ gb207)); clear HB; have HB := n0_; have BK207 := n1_; have GW207 := n2_; have GE207 := n3_; clear n0_ n1_ n2_ n3_; clear hb hbox hg) | ((with_reducible refine Qay (f := 71) rfl ?_); refine goesL_ (some 18) rfl rfl Try.func71 (by kernel_rfl) rfl #[.slice A0 l0.length c0] rfl (Zl) ?_; (with_reducible refine (Qaw.calls k _ _ l0 t208 _ ?side1 ?side2 A5.out).mono ?_); (case side1 => exact Zv (Kd.C_below HR0.out HB.out)); (case side2 => exact HC0.out); rintro e w7 ⟨rfl, hb⟩; refine ⟨_, rfl, ?_⟩; have n0_ := Aside0.mk (Qaj (g := gb207) (o := .cells #[.string a1_0, .string a1_1] 44 (0, 0)) (Zu BK207.out) hb); have n1_ := Aside0.mk (Qaq (Zc1 GE207.out) hb); clear BK207; clear HB; have BK207 := n0_; have HB := n1_; clear n0_ n1_; (try clear hb); (try clear hb2); (try clear hk); (try clear hi)))
 (try simp only [Act.put, List.setIfInBounds_toArray, List.set_cons_zero, List.set_cons_succ])
 by_cases c8 : t208 = 0
 ·rw [if_pos c8] at H
  have c8b0 : (t208 == 0) = true := beq_iff_eq.mpr c8
  have c8b1 : (t208 != 0) = false := bne_eq_false_iff_eq.mpr c8
  clear c8
  (try simp only [c8b0, c8b1])
  replace H := Option.bind_eq_some_iff.mp H
  obtain ⟨t209, A90, H⟩ := H
  replace H : (if t209 = 0 then ((QaV.f k l0 a1_0 a1_1).bind fun t210 => (QaG.l0 k l2 l3 ([] : List Int) t210 (t210.length : Int) 0)) else (some (0, t209))) = some (r1, r2) := H
  have A9 := Aside0.mk A90
  clear A90
  go_upto_if 25 with (first | ((with_reducible refine Qay (f := 116) rfl ?_); refine goesL_ (some 23) rfl rfl Try.func116 (by kernel_rfl) rfl #[.slice A2 l2.length c2] rfl (Zl) ?_; (with_reducible refine (QaK.calls k _ _ l2 t209 _ ?side1 ?side2 A9.out).mono ?_); (case side1 => exact Zv (Kd.C_below HR2.out HB.out)); (case side2 => exact HC2.out); rintro e w10 ⟨rfl, hb⟩; refine ⟨_, rfl, ?_⟩; have n0_ := Aside0.mk (Qaj (g := gb207) (o := .cells #[.string a1_0, .string a1_1] 44 (0, 0)) (Zu BK207.out) hb); have n1_ := Aside0.mk (Qaq (Zc1 GE207.out) hb); clear BK207; clear HB; have BK207 := n0_; have HB := n1_; clear n0_ n1_; (try clear hb); (try clear hb2); (try clear hk); (try clear hi)))
  (try simp only [Act.put, List.setIfInBounds_toArray, List.set_cons_zero, List.set_cons_succ])
  by_cases c11 : t209 = 0
  ·rw [if_pos c11] at H
   have c11b0 : (t209 == 0) = true := beq_iff_eq.mpr c11
   have c11b1 : (t209 != 0) = false := bne_eq_false_iff_eq.mpr c11
   clear c11
   (try simp only [c11b0, c11b1])
   replace H := Option.bind_eq_some_iff.mp H
   obtain ⟨t210, A120, H⟩ := H
   replace H : (QaG.l0 k l2 l3 ([] : List Int) t210 (t210.length : Int) 0) = some (r1, r2) := H
   have A12 := Aside0.mk A120
   clear A120
   have H' := Aside0.mk H
   clear H
   have hcz13_0 : w10.cell? ⟨gb207, 0, none⟩ = some (.string a1_0) := (Qah BK207.out 0).trans rfl
   have hcz13_1 : w10.cell? ⟨gb207, 1, none⟩ = some (.string a1_1) := (Qah BK207.out 1).trans rfl
   have hfz13_0 := Qaf BK207.out 0
   have hfz13_1 := Qaf BK207.out 1
   go_wp2_with (first | ((with_reducible refine Qay (f := 86) rfl ?_); refine goesL_ (some 29) rfl rfl Try.func86 (by kernel_rfl) rfl #[.slice A0 l0.length c0, .agg #[.string a1_0, .string a1_1]] rfl (Zl) ?_; (with_reducible refine (QaV.calls k _ _ l0 a1_0 a1_1 t210 _ ?side1 ?side2 A12.out).mono ?_); (case side1 => exact Zv (Kd.C_below HR0.out HB.out)); (case side2 => exact HC0.out); rintro e w14 ⟨v211, rfl, ho0, hb⟩; refine ⟨_, rfl, ?_⟩; have n0_ := Aside0.mk (Kd.R_lower ho0 (Qan (Zc1 GE207.out))); have n1_ := Aside0.mk (Qaj (g := gb207) (o := .cells #[.string a1_0, .string a1_1] 44 (0, 0)) (Zu BK207.out) hb); have n2_ := Aside0.mk (Qaq (Zc1 GE207.out) hb); clear BK207; clear HB; have HO212 := n0_; have BK207 := n1_; have HB := n2_; clear n0_ n1_ n2_; (try clear hb); (try clear hb2); (try clear hk); (try clear hi); (try clear ho0); obtain ⟨Ao15, co15, eo15⟩ := Kd.R_slice HO212.out; subst eo15))
   go_loopg [10, 31] k (fun kq v10 v31 w' => ∃ (x10_1 : List Int) (x31_1 : Int), v31 = .int .i64 x31_1 ∧ Aside0 (QaG.l0 kq l2 l3 x10_1 t210 (t210.length : Int) x31_1 = some (r1, r2)) ∧ Aside0 (kq ≤ k) ∧ Aside0 (Kd.R (Kd.int .i64) 3 w' w.heap.size (fun _ => True) v10 x10_1) ∧ Aside0 (Kd.R k46 46 w' w.heap.size (fun _ => True) (.slice Ao15 t210.length co15) t210) ∧ Aside0 (w'.heap[gb207]? = some (.cells #[.string a1_0, .string a1_1] 44 (0, 0))) ∧ Aside0 (Below w.heap.size w w'))
   case atStart => exact ⟨(([] : List Int)), (0), (Zs), H', ⟨Nat.le_refl _⟩, ⟨by first | exact Kd.R_nil _ _ _ _ _ | exact Kd.N_nil _ _ _ _ _ | exact Kd.V_nil _ _ _ _ _ | exact Kd.Q_nil _ _ _ _ _ | exact Kd.S_nil _ _ _ _ _⟩, ⟨Zr HO212.out⟩, ⟨Zu BK207.out⟩, ⟨Zc1 GE207.out⟩⟩
   case round =>
    clear H'
    try clear c1
    try clear c2
    try clear p2
    try clear c3
    try clear c7
    try clear c8
    try clear c8b0
    try clear c8b1
    try clear c11
    try clear c11b0
    try clear c11b1
    try clear hcz13_0
    try clear hcz13_1
    try clear hfz13_0
    try clear hfz13_1
    obtain ⟨x10_1, x31_1, rfl, HA, HK1, HO_10, HO_29, BK207, HB⟩ := hrel
    cases gk with
    | zero => exact absurd HA.out (by simp [QaG.l0])
    | succ k1 =>
     have H := HA.out
     clear HA
     simp only [QaG.l0] at H
     by_cases c16 : x31_1 < (t210.length : Int)
     ·rw [if_pos c16] at H
      have c16b0 : decide (x31_1 < (t210.length : Int)) = true := decide_eq_true c16
      clear c16
      (try simp only [c16b0])
      by_cases c17 : 0 ≤ x31_1
      ·rw [if_pos c17] at H
       have c17b0 : decide (0 ≤ x31_1) = true := decide_eq_true c17
       clear c17
       by_cases c18 : x31_1 < (t210.length : Int)
       ·rw [if_pos c18] at H
        have c18b0 : decide (x31_1 < (t210.length : Int)) = true := decide_eq_true c18
        clear c18
        replace H := Option.bind_eq_some_iff.mp H
        obtain ⟨⟨t217, t218, t219, t220, t221, t222, t223⟩, A190, H⟩ := H
        replace H : (if t223 = true then ((Qa6.f k1 t217 t218 t219 t220 t221 t222 ((rd_T46 t210 x31_1).f2) l3).bind fun bt225 => (if bt225.2 = 0 then (if x10_1.length < 17592186044416 then (QaG.l0 k1 l2 l3 (x10_1 ++ [bt225.1]) t210 (t210.length : Int) (wrap64 (x31_1 + 1))) else (none)) else (some (0, bt225.2)))) else (some (0, 11))) = some (r1, r2) := H
        have A19 := Aside0.mk A190
        clear A190
        have p215 : 0 ≤ (x31_1 : Int) := Ze
        have q215 : x31_1 < (t210.length : Int) := Ze
        obtain ⟨ad215, e215, hx215_0, hx215_1, hx215_2, hx215_3⟩ := at_T46 (Kd.R_reads' HO_29.out).2.2 x31_1 p215 q215
        cases e215
        replace p215 := eq_true p215
        replace q215 := eq_true q215
        go_upto_if 43 with (first | ((with_reducible refine QaD (N := 12) rfl ?_); refine QaL ?hg (N := 12) ?hd (cs := #[.string (⟨#[]⟩ : ByteArray), .string (⟨#[]⟩ : ByteArray), .string (⟨#[]⟩ : ByteArray), .int .i64 0]) (t := 46) ?hr ?_; (case hd => rfl); (case hg => rfl); (case hr => first | (go_simp; done) | (go_simp; rfl)); intro gb216 hg w20 hbox hb; have n0_ := Aside0.mk (Kd.R_below (Zr HO_10.out) hb); have n1_ := Aside0.mk (Kd.R_below (Kd.R_elderB (Zr HO_29.out) gb216 (Nat.le_of_eq hg.symm)) hb); have n2_ := Aside0.mk (Qaj (g := gb207) (o := .cells #[.string a1_0, .string a1_1] 44 (0, 0)) (Zu BK207.out) hb); have n3_ := Aside0.mk (Qaq (Zc1 GE207.out) hb); have n4_ := Aside0.mk (hbox); have n5_ := Aside0.mk ((by rw [hg]; exact (Qan (Zc1 GE207.out)) : w.heap.size ≤ gb216)); have n6_ := Aside0.mk ((by rw [hg]; exact (Qan (Zc1 GE207.out)) : w.heap.size ≤ gb216)); have n7_ := Aside0.mk ((by rw [hg]; exact Nat.ne_of_lt (blk_lt (g := gb207) (o := .cells #[.string a1_0, .string a1_1] 44 (0, 0)) (Zu BK207.out)) : gb207 ≠ gb216)); have n8_ := Aside0.mk ((by rw [hg]; exact Nat.ne_of_gt (blk_lt (g := gb207) (o := .cells #[.string a1_0, .string a1_1] 44 (0, 0)) (Zu BK207.out)) : gb216 ≠ gb207)); clear HO_10; clear HO_29; clear BK207; clear HB; have HO_10 := n0_; have HO_29 := n1_; have BK207 := n2_; have HB := n3_; have BK216 := n4_; have GW216 := n5_; have GE216 := n6_; have NB207_216 := n7_; have NB216_207 := n8_; clear n0_ n1_ n2_ n3_ n4_ n5_ n6_ n7_ n8_; clear hb hbox hg; have hnb21 := NB216_207.out; have hnc21 := NB207_216.out; have hcz22_0 : w20.cell? ⟨gb216, 0, none⟩ = some (.string (⟨#[]⟩ : ByteArray)) := (Qah BK216.out 0).trans rfl; have hcz22_1 : w20.cell? ⟨gb216, 1, none⟩ = some (.string (⟨#[]⟩ : ByteArray)) := (Qah BK216.out 1).trans rfl; have hcz22_2 : w20.cell? ⟨gb216, 2, none⟩ = some (.string (⟨#[]⟩ : ByteArray)) := (Qah BK216.out 2).trans rfl; have hcz22_3 : w20.cell? ⟨gb216, 3, none⟩ = some (.int .i64 0) := (Qah BK216.out 3).trans rfl; have hfz22_0 := Qaf BK216.out 0; have hfz22_1 := Qaf BK216.out 1; have hfz22_2 := Qaf BK216.out 2; have hfz22_3 := Qaf BK216.out 3) | ((with_reducible refine Qay (f := 48) rfl ?_); refine goesL_ (some 39) rfl rfl Try.func48 (by kernel_rfl) rfl #[.slice A2 l2.length c2, .string ((rd_T46 t210 x31_1).f1)] rfl (Zl) ?_; (with_reducible refine (Qa3.calls k1 _ _ l2 ((rd_T46 t210 x31_1).f1) t217 t218 t219 t220 t221 t222 t223 _ ?side1 ?side2 A19.out).mono ?_); (case side1 => exact Kd.C_below HR2.out (Zc2 GE207.out GE216.out)); (case side2 => exact HC2.out); rintro e w23 ⟨rfl, hb⟩; refine ⟨_, rfl, ?_⟩; have n0_ := Aside0.mk (Kd.R_below (by (with_reducible repeat (first | apply Kd.R_alloc | apply Kd.R_drewN | apply Kd.R_drew)); exact (Kd.R_mono (Kd.R_far (p := ⟨gb216, 3, none⟩) (Kd.R_far (p := ⟨gb216, 2, none⟩) (Kd.R_far (p := ⟨gb216, 1, none⟩) (Kd.R_far (p := ⟨gb216, 0, none⟩) (Kd.R_types HO_10.out BK216.out (by decide)) (fun _ hk => hk.2) (.string ((rd_T46 t210 x31_1).f0.f0))) (fun _ hk => hk.2) (.string ((rd_T46 t210 x31_1).f0.f1))) (fun _ hk => hk.2) (.string ((rd_T46 t210 x31_1).f1))) (fun _ hk => hk.2) (.int .i64 ((rd_T46 t210 x31_1).f2))) (fun _ h_ => h_.1))) hb); have n1_ := Aside0.mk (Kd.R_below (by (with_reducible repeat (first | apply Kd.R_alloc | apply Kd.R_drewN | apply Kd.R_drew)); exact (Kd.R_mono (Kd.R_far (p := ⟨gb216, 3, none⟩) (Kd.R_far (p := ⟨gb216, 2, none⟩) (Kd.R_far (p := ⟨gb216, 1, none⟩) (Kd.R_far (p := ⟨gb216, 0, none⟩) (Kd.R_mono HO_29.out (fun k_ hk => (⟨hk, hk.2⟩ : _ ∧ k_ ≠ gb216))) (fun _ hk => hk.2) (.string ((rd_T46 t210 x31_1).f0.f0))) (fun _ hk => hk.2) (.string ((rd_T46 t210 x31_1).f0.f1))) (fun _ hk => hk.2) (.string ((rd_T46 t210 x31_1).f1))) (fun _ hk => hk.2) (.int .i64 ((rd_T46 t210 x31_1).f2))) (fun _ h_ => h_.1))) hb); have n2_ := Aside0.mk (Qaj (g := gb207) (o := .cells #[.string a1_0, .string a1_1] 44 (0, 0)) (by (with_reducible repeat (first | refine Qab ?_ _ | refine Qad ?_ | refine Qaa ?_ _)); refine Qam ?_ NB207_216.out _; (with_reducible repeat (first | refine Qab ?_ _ | refine Qad ?_ | refine Qaa ?_ _)); refine Qam ?_ NB207_216.out _; (with_reducible repeat (first | refine Qab ?_ _ | refine Qad ?_ | refine Qaa ?_ _)); refine Qam ?_ NB207_216.out _; (with_reducible repeat (first | refine Qab ?_ _ | refine Qad ?_ | refine Qaa ?_ _)); refine Qam ?_ NB207_216.out _; (with_reducible repeat (first | refine Qab ?_ _ | refine Qad ?_ | refine Qaa ?_ _)); exact BK207.out) hb); have n3_ := Aside0.mk (Qaj (g := gb216) (o := .cells #[.string ((rd_T46 t210 x31_1).f0.f0), .string ((rd_T46 t210 x31_1).f0.f1), .string ((rd_T46 t210 x31_1).f1), .int .i64 ((rd_T46 t210 x31_1).f2)] 46 (0, 0)) (by (with_reducible repeat (first | refine Qab ?_ _ | refine Qad ?_ | refine Qaa ?_ _)); refine Qas (cs := #[.string ((rd_T46 t210 x31_1).f0.f0), .string ((rd_T46 t210 x31_1).f0.f1), .string ((rd_T46 t210 x31_1).f1), .int .i64 0]) ?_ 3 _ rfl; (with_reducible repeat (first | refine Qab ?_ _ | refine Qad ?_ | refine Qaa ?_ _)); refine Qas (cs := #[.string ((rd_T46 t210 x31_1).f0.f0), .string ((rd_T46 t210 x31_1).f0.f1), .string (⟨#[]⟩ : ByteArray), .int .i64 0]) ?_ 2 _ rfl; (with_reducible repeat (first | refine Qab ?_ _ | refine Qad ?_ | refine Qaa ?_ _)); refine Qas (cs := #[.string ((rd_T46 t210 x31_1).f0.f0), .string (⟨#[]⟩ : ByteArray), .string (⟨#[]⟩ : ByteArray), .int .i64 0]) ?_ 1 _ rfl; (with_reducible repeat (first | refine Qab ?_ _ | refine Qad ?_ | refine Qaa ?_ _)); refine Qas (cs := #[.string (⟨#[]⟩ : ByteArray), .string (⟨#[]⟩ : ByteArray), .string (⟨#[]⟩ : ByteArray), .int .i64 0]) ?_ 0 _ rfl; (with_reducible repeat (first | refine Qab ?_ _ | refine Qad ?_ | refine Qaa ?_ _)); exact BK216.out) hb); have n4_ := Aside0.mk (Qaq (Zc2 GE207.out GE216.out) hb); clear HO_10; clear HO_29; clear BK207; clear BK216; clear HB; have HO_10 := n0_; have HO_29 := n1_; have BK207 := n2_; have BK216 := n3_; have HB := n4_; clear n0_ n1_ n2_ n3_ n4_; (try clear hb); (try clear hb2); (try clear hk); (try clear hi)) | ((with_reducible refine QaD (N := 13) rfl ?_); refine QaL ?hg (N := 13) ?hd (cs := #[.string (⟨#[]⟩ : ByteArray), .int .i64 0, .int .i64 0, .int .i64 0, .int .i64 0, .int .i64 0]) (t := 84) ?hr ?_; (case hd => rfl); (case hg => rfl); (case hr => first | (go_simp; done) | (go_simp; rfl)); intro gb224 hg w24 hbox hb; have n0_ := Aside0.mk (Kd.R_below (Zr HO_10.out) hb); have n1_ := Aside0.mk (Kd.R_below (Zr HO_29.out) hb); have n2_ := Aside0.mk (Qaj (g := gb207) (o := .cells #[.string a1_0, .string a1_1] 44 (0, 0)) (Zu BK207.out) hb); have n3_ := Aside0.mk (Qaj (g := gb216) (o := .cells #[.string ((rd_T46 t210 x31_1).f0.f0), .string ((rd_T46 t210 x31_1).f0.f1), .string ((rd_T46 t210 x31_1).f1), .int .i64 ((rd_T46 t210 x31_1).f2)] 46 (0, 0)) (Zu BK216.out) hb); have n4_ := Aside0.mk (Qaq (Zc2 GE207.out GE216.out) hb); have n5_ := Aside0.mk (hbox); have n6_ := Aside0.mk ((by rw [hg]; exact (Qan (Zc2 GE207.out GE216.out)) : w.heap.size ≤ gb224)); have n7_ := Aside0.mk ((by rw [hg]; exact (Qan (Zc2 GE207.out GE216.out)) : w.heap.size ≤ gb224)); have n8_ := Aside0.mk ((by rw [hg]; exact Nat.ne_of_lt (blk_lt (g := gb207) (o := .cells #[.string a1_0, .string a1_1] 44 (0, 0)) (Zu BK207.out)) : gb207 ≠ gb224)); have n9_ := Aside0.mk ((by rw [hg]; exact Nat.ne_of_gt (blk_lt (g := gb207) (o := .cells #[.string a1_0, .string a1_1] 44 (0, 0)) (Zu BK207.out)) : gb224 ≠ gb207)); have n10_ := Aside0.mk ((by rw [hg]; exact Nat.ne_of_lt (blk_lt (g := gb216) (o := .cells #[.string ((rd_T46 t210 x31_1).f0.f0), .string ((rd_T46 t210 x31_1).f0.f1), .string ((rd_T46 t210 x31_1).f1), .int .i64 ((rd_T46 t210 x31_1).f2)] 46 (0, 0)) (Zu BK216.out)) : gb216 ≠ gb224)); have n11_ := Aside0.mk ((by rw [hg]; exact Nat.ne_of_gt (blk_lt (g := gb216) (o := .cells #[.string ((rd_T46 t210 x31_1).f0.f0), .string ((rd_T46 t210 x31_1).f0.f1), .string ((rd_T46 t210 x31_1).f1), .int .i64 ((rd_T46 t210 x31_1).f2)] 46 (0, 0)) (Zu BK216.out)) : gb224 ≠ gb216)); clear HO_10; clear HO_29; clear BK207; clear BK216; clear HB; have HO_10 := n0_; have HO_29 := n1_; have BK207 := n2_; have BK216 := n3_; have HB := n4_; have BK224 := n5_; have GW224 := n6_; have GE224 := n7_; have NB207_224 := n8_; have NB224_207 := n9_; have NB216_224 := n10_; have NB224_216 := n11_; clear n0_ n1_ n2_ n3_ n4_ n5_ n6_ n7_ n8_ n9_ n10_ n11_; clear hb hbox hg; have hnb25 := NB224_207.out; have hnc25 := NB207_224.out; have hnb26 := NB224_216.out; have hnc26 := NB216_224.out; have hcz27_0 : w24.cell? ⟨gb224, 0, none⟩ = some (.string (⟨#[]⟩ : ByteArray)) := (Qah BK224.out 0).trans rfl; have hcz27_1 : w24.cell? ⟨gb224, 1, none⟩ = some (.int .i64 0) := (Qah BK224.out 1).trans rfl; have hcz27_2 : w24.cell? ⟨gb224, 2, none⟩ = some (.int .i64 0) := (Qah BK224.out 2).trans rfl; have hcz27_3 : w24.cell? ⟨gb224, 3, none⟩ = some (.int .i64 0) := (Qah BK224.out 3).trans rfl; have hcz27_4 : w24.cell? ⟨gb224, 4, none⟩ = some (.int .i64 0) := (Qah BK224.out 4).trans rfl; have hcz27_5 : w24.cell? ⟨gb224, 5, none⟩ = some (.int .i64 0) := (Qah BK224.out 5).trans rfl; have hfz27_0 := Qaf BK224.out 0; have hfz27_1 := Qaf BK224.out 1; have hfz27_2 := Qaf BK224.out 2; have hfz27_3 := Qaf BK224.out 3; have hfz27_4 := Qaf BK224.out 4; have hfz27_5 := Qaf BK224.out 5))
        (try simp only [Act.put, List.setIfInBounds_toArray, List.set_cons_zero, List.set_cons_succ])
        by_cases c28 : t223 = true
        ·subst c28
         have H1 : ((Qa6.f k1 t217 t218 t219 t220 t221 t222 ((rd_T46 t210 x31_1).f2) l3).bind fun bt225 => (if bt225.2 = 0 then (if x10_1.length < 17592186044416 then (QaG.l0 k1 l2 l3 (x10_1 ++ [bt225.1]) t210 (t210.length : Int) (wrap64 (x31_1 + 1))) else (none)) else (some (0, bt225.2)))) = some (r1, r2) := by rw [if_pos rfl] at H; exact H
         clear H
         have H := H1
         clear H1
         replace H := Option.bind_eq_some_iff.mp H
         obtain ⟨⟨t225, t226⟩, A290, H⟩ := H
         replace H : (if t226 = 0 then (if x10_1.length < 17592186044416 then (QaG.l0 k1 l2 l3 (x10_1 ++ [t225]) t210 (t210.length : Int) (wrap64 (x31_1 + 1))) else (none)) else (some (0, t226))) = some (r1, r2) := H
         have A29 := Aside0.mk A290
         clear A290
         have hnb30 := NB224_207.out
         have hnc30 := NB207_224.out
         have hnb31 := NB224_216.out
         have hnc31 := NB216_224.out
         have hcz32_0 : w24.cell? ⟨gb224, 0, none⟩ = some (.string (⟨#[]⟩ : ByteArray)) := (Qah BK224.out 0).trans rfl
         have hcz32_1 : w24.cell? ⟨gb224, 1, none⟩ = some (.int .i64 0) := (Qah BK224.out 1).trans rfl
         have hcz32_2 : w24.cell? ⟨gb224, 2, none⟩ = some (.int .i64 0) := (Qah BK224.out 2).trans rfl
         have hcz32_3 : w24.cell? ⟨gb224, 3, none⟩ = some (.int .i64 0) := (Qah BK224.out 3).trans rfl
         have hcz32_4 : w24.cell? ⟨gb224, 4, none⟩ = some (.int .i64 0) := (Qah BK224.out 4).trans rfl
         have hcz32_5 : w24.cell? ⟨gb224, 5, none⟩ = some (.int .i64 0) := (Qah BK224.out 5).trans rfl
         have hfz32_0 := Qaf BK224.out 0
         have hfz32_1 := Qaf BK224.out 1
         have hfz32_2 := Qaf BK224.out 2
         have hfz32_3 := Qaf BK224.out 3
         have hfz32_4 := Qaf BK224.out 4
         have hfz32_5 := Qaf BK224.out 5
         have hnb33 := NB216_207.out
         have hnc33 := NB207_216.out
         have hcz34_0 : w24.cell? ⟨gb216, 0, none⟩ = some (.string ((rd_T46 t210 x31_1).f0.f0)) := (Qah BK216.out 0).trans rfl
         have hcz34_1 : w24.cell? ⟨gb216, 1, none⟩ = some (.string ((rd_T46 t210 x31_1).f0.f1)) := (Qah BK216.out 1).trans rfl
         have hcz34_2 : w24.cell? ⟨gb216, 2, none⟩ = some (.string ((rd_T46 t210 x31_1).f1)) := (Qah BK216.out 2).trans rfl
         have hcz34_3 : w24.cell? ⟨gb216, 3, none⟩ = some (.int .i64 ((rd_T46 t210 x31_1).f2)) := (Qah BK216.out 3).trans rfl
         have hfz34_0 := Qaf BK216.out 0
         have hfz34_1 := Qaf BK216.out 1
         have hfz34_2 := Qaf BK216.out 2
         have hfz34_3 := Qaf BK216.out 3
         go_upto_if 53 with (first | ((with_reducible refine Qay (f := 82) rfl ?_); refine goesL_ (some 49) rfl rfl Try.func82 (by kernel_rfl) rfl #[.agg #[.string t217, .int .i64 t218, .int .i64 t219, .int .i64 t220, .int .i64 t221, .int .i64 t222], .int .i64 ((rd_T46 t210 x31_1).f2), .slice A3 l3.length c3] rfl (Zl) ?_; (with_reducible refine (Qa6.calls k1 t217 t218 t219 t220 t221 t222 ((rd_T46 t210 x31_1).f2) _ _ l3 t225 t226 _ ?side1 ?side2 A29.out).mono ?_); (case side1 => exact Kd.C_below HR3.out (Zc3 GE207.out GE216.out GE224.out)); (case side2 => exact HC3.out); rintro e w35 ⟨rfl, hb⟩; refine ⟨_, rfl, ?_⟩; have n0_ := Aside0.mk (Kd.R_below (by (with_reducible repeat (first | apply Kd.R_alloc | apply Kd.R_drewN | apply Kd.R_drew)); exact (Kd.R_mono (Kd.R_far (p := ⟨gb224, 5, none⟩) (Kd.R_far (p := ⟨gb224, 4, none⟩) (Kd.R_far (p := ⟨gb224, 3, none⟩) (Kd.R_far (p := ⟨gb224, 2, none⟩) (Kd.R_far (p := ⟨gb224, 1, none⟩) (Kd.R_far (p := ⟨gb224, 0, none⟩) (Kd.R_types HO_10.out BK224.out (by decide)) (fun _ hk => hk.2) (.string t217)) (fun _ hk => hk.2) (.int .i64 t218)) (fun _ hk => hk.2) (.int .i64 t219)) (fun _ hk => hk.2) (.int .i64 t220)) (fun _ hk => hk.2) (.int .i64 t221)) (fun _ hk => hk.2) (.int .i64 t222)) (fun _ h_ => h_.1))) hb); have n1_ := Aside0.mk (Kd.R_below (by (with_reducible repeat (first | apply Kd.R_alloc | apply Kd.R_drewN | apply Kd.R_drew)); exact (Kd.R_mono (Kd.R_far (p := ⟨gb224, 5, none⟩) (Kd.R_far (p := ⟨gb224, 4, none⟩) (Kd.R_far (p := ⟨gb224, 3, none⟩) (Kd.R_far (p := ⟨gb224, 2, none⟩) (Kd.R_far (p := ⟨gb224, 1, none⟩) (Kd.R_far (p := ⟨gb224, 0, none⟩) (Kd.R_types HO_29.out BK224.out (by decide)) (fun _ hk => hk.2) (.string t217)) (fun _ hk => hk.2) (.int .i64 t218)) (fun _ hk => hk.2) (.int .i64 t219)) (fun _ hk => hk.2) (.int .i64 t220)) (fun _ hk => hk.2) (.int .i64 t221)) (fun _ hk => hk.2) (.int .i64 t222)) (fun _ h_ => h_.1))) hb); have n2_ := Aside0.mk (Qaj (g := gb207) (o := .cells #[.string a1_0, .string a1_1] 44 (0, 0)) (by (with_reducible repeat (first | refine Qab ?_ _ | refine Qad ?_ | refine Qaa ?_ _)); refine Qam ?_ NB207_224.out _; (with_reducible repeat (first | refine Qab ?_ _ | refine Qad ?_ | refine Qaa ?_ _)); refine Qam ?_ NB207_224.out _; (with_reducible repeat (first | refine Qab ?_ _ | refine Qad ?_ | refine Qaa ?_ _)); refine Qam ?_ NB207_224.out _; (with_reducible repeat (first | refine Qab ?_ _ | refine Qad ?_ | refine Qaa ?_ _)); refine Qam ?_ NB207_224.out _; (with_reducible repeat (first | refine Qab ?_ _ | refine Qad ?_ | refine Qaa ?_ _)); refine Qam ?_ NB207_224.out _; (with_reducible repeat (first | refine Qab ?_ _ | refine Qad ?_ | refine Qaa ?_ _)); refine Qam ?_ NB207_224.out _; (with_reducible repeat (first | refine Qab ?_ _ | refine Qad ?_ | refine Qaa ?_ _)); exact BK207.out) hb); have n3_ := Aside0.mk (Qaj (g := gb216) (o := .cells #[.string ((rd_T46 t210 x31_1).f0.f0), .string ((rd_T46 t210 x31_1).f0.f1), .string ((rd_T46 t210 x31_1).f1), .int .i64 ((rd_T46 t210 x31_1).f2)] 46 (0, 0)) (by (with_reducible repeat (first | refine Qab ?_ _ | refine Qad ?_ | refine Qaa ?_ _)); refine Qam ?_ NB216_224.out _; (with_reducible repeat (first | refine Qab ?_ _ | refine Qad ?_ | refine Qaa ?_ _)); refine Qam ?_ NB216_224.out _; (with_reducible repeat (first | refine Qab ?_ _ | refine Qad ?_ | refine Qaa ?_ _)); refine Qam ?_ NB216_224.out _; (with_reducible repeat (first | refine Qab ?_ _ | refine Qad ?_ | refine Qaa ?_ _)); refine Qam ?_ NB216_224.out _; (with_reducible repeat (first | refine Qab ?_ _ | refine Qad ?_ | refine Qaa ?_ _)); refine Qam ?_ NB216_224.out _; (with_reducible repeat (first | refine Qab ?_ _ | refine Qad ?_ | refine Qaa ?_ _)); refine Qam ?_ NB216_224.out _; (with_reducible repeat (first | refine Qab ?_ _ | refine Qad ?_ | refine Qaa ?_ _)); exact BK216.out) hb); have n4_ := Aside0.mk (Qaj (g := gb224) (o := .cells #[.string t217, .int .i64 t218, .int .i64 t219, .int .i64 t220, .int .i64 t221, .int .i64 t222] 84 (0, 0)) (by (with_reducible repeat (first | refine Qab ?_ _ | refine Qad ?_ | refine Qaa ?_ _)); refine Qas (cs := #[.string t217, .int .i64 t218, .int .i64 t219, .int .i64 t220, .int .i64 t221, .int .i64 0]) ?_ 5 _ rfl; (with_reducible repeat (first | refine Qab ?_ _ | refine Qad ?_ | refine Qaa ?_ _)); refine Qas (cs := #[.string t217, .int .i64 t218, .int .i64 t219, .int .i64 t220, .int .i64 0, .int .i64 0]) ?_ 4 _ rfl; (with_reducible repeat (first | refine Qab ?_ _ | refine Qad ?_ | refine Qaa ?_ _)); refine Qas (cs := #[.string t217, .int .i64 t218, .int .i64 t219, .int .i64 0, .int .i64 0, .int .i64 0]) ?_ 3 _ rfl; (with_reducible repeat (first | refine Qab ?_ _ | refine Qad ?_ | refine Qaa ?_ _)); refine Qas (cs := #[.string t217, .int .i64 t218, .int .i64 0, .int .i64 0, .int .i64 0, .int .i64 0]) ?_ 2 _ rfl; (with_reducible repeat (first | refine Qab ?_ _ | refine Qad ?_ | refine Qaa ?_ _)); refine Qas (cs := #[.string t217, .int .i64 0, .int .i64 0, .int .i64 0, .int .i64 0, .int .i64 0]) ?_ 1 _ rfl; (with_reducible repeat (first | refine Qab ?_ _ | refine Qad ?_ | refine Qaa ?_ _)); refine Qas (cs := #[.string (⟨#[]⟩ : ByteArray), .int .i64 0, .int .i64 0, .int .i64 0, .int .i64 0, .int .i64 0]) ?_ 0 _ rfl; (with_reducible repeat (first | refine Qab ?_ _ | refine Qad ?_ | refine Qaa ?_ _)); exact BK224.out) hb); have n5_ := Aside0.mk (Qaq (Zc3 GE207.out GE216.out GE224.out) hb); clear HO_10; clear HO_29; clear BK207; clear BK216; clear BK224; clear HB; have HO_10 := n0_; have HO_29 := n1_; have BK207 := n2_; have BK216 := n3_; have BK224 := n4_; have HB := n5_; clear n0_ n1_ n2_ n3_ n4_ n5_; (try clear hb); (try clear hb2); (try clear hk); (try clear hi)))
         (try simp only [Act.put, List.setIfInBounds_toArray, List.set_cons_zero, List.set_cons_succ])
         by_cases c36 : t226 = 0
         ·rw [if_pos c36] at H
          have c36b0 : (t226 == 0) = true := beq_iff_eq.mpr c36
          have c36b1 : (t226 != 0) = false := bne_eq_false_iff_eq.mpr c36
          clear c36
          (try simp only [c36b0, c36b1])
          by_cases c37 : x10_1.length < 17592186044416
          ·rw [if_pos c37] at H
           have LMc37 := Aside0.mk c37
           clear c37
           obtain ⟨y227, hy227⟩ : ∃ y_ : List Int, y_ = (x10_1 ++ [t225]) := ⟨_, rfl⟩
           replace H : (QaG.l0 k1 l2 l3 y227 t210 (t210.length : Int) (wrap64 (x31_1 + 1))) = some (r1, r2) := by first | (rw [hy227]; with_reducible exact H) | (have H2_ := (Option.bind_some _ _).symm.trans H; rw [hy227]; with_reducible exact H2_) | (have H2_ := (Option.bind_some _ _).symm.trans H; with_reducible exact H2_) | with_reducible exact H | (rw [hy227]; exact H) | exact H
           have Ny227 := Aside0.mk hy227
           clear hy227
           have H' := Aside0.mk H
           clear H
           go_wp2_with (first | ((with_reducible refine QbH (b := .append) (xs := #[.tmp 55, .tmp 57]) rfl ?_); at_builtin; refine Kd.R_append (Kd.int .i64) (w0 := w) w.heap.size rfl (.tmp 55) (.tmp 57) 63 3 (.int .i64 0) 8 rfl Try.underlying63 info3 rfl (by decide) (by omega) u10 x10_1 t225 [.int .i64 t225] (fun _ => True) (fun _ => False) rfl rfl ?aP (fun _ hk => hk.elim) ?aF ?aO ?aB ?aS ?aL ?_; (case aP => exact rfl); (case aB => exact (Zc3 GE207.out GE216.out GE224.out)); (case aF => exact (fun _ _ => trivial)); (case aO => exact (Zr HO_10.out)); (case aS => exact (Qan (Zc3 GE207.out GE216.out GE224.out))); (case aL => have := LMc37.out; omega); intro v228 w38 ho hb hg hat; rw [← Ny227.out] at ho; have n0_ := Aside0.mk (Kd.R_over' (Zr HO_29.out) (Kd.R_typed (Zr HO_10.out)) (by decide) hg); have n1_ := Aside0.mk (Qa1 (g := gb207) (o := .cells #[.string a1_0, .string a1_1] 44 (0, 0)) (Zu BK207.out) hg (Kd.R_ne HO_10.out BK207.out (by decide))); have n2_ := Aside0.mk (Qa1 (g := gb216) (o := .cells #[.string ((rd_T46 t210 x31_1).f0.f0), .string ((rd_T46 t210 x31_1).f0.f1), .string ((rd_T46 t210 x31_1).f1), .int .i64 ((rd_T46 t210 x31_1).f2)] 46 (0, 0)) (Zu BK216.out) hg (Kd.R_ne HO_10.out BK216.out (by decide))); have n3_ := Aside0.mk (Qa1 (g := gb224) (o := .cells #[.string t217, .int .i64 t218, .int .i64 t219, .int .i64 t220, .int .i64 t221, .int .i64 t222] 84 (0, 0)) (Zu BK224.out) hg (Kd.R_ne HO_10.out BK224.out (by decide))); have n4_ := Aside0.mk (hb); have n5_ := Aside0.mk (ho); clear HO_29; clear BK207; clear BK216; clear BK224; clear HB; clear HO_10; have HO_29 := n0_; have BK207 := n1_; have BK216 := n2_; have BK224 := n3_; have HB := n4_; have HO229 := n5_; clear n0_ n1_ n2_ n3_ n4_ n5_; clear ho hb hg hat))
           go_roundg k1
           case measure => have := HK1.out; omega
           case rel => exact ⟨(y227), (wrap64 (x31_1 + 1)), (Zs), H', ⟨by have := HK1.out; omega⟩, ⟨Zr HO229.out⟩, ⟨by (with_reducible repeat (first | apply Kd.R_alloc | apply Kd.R_drewN | apply Kd.R_drew)); exact Kd.R_mono HO_29.out (fun _ hk => trivial)⟩, ⟨Zu BK207.out⟩, ⟨Zc3 GE207.out GE216.out GE224.out⟩⟩
          ·rw [if_neg c37] at H
           exact absurd H (by simp)
         ·rw [if_neg c36] at H
          have c36b0 : (t226 == 0) = false := beq_eq_false_iff_ne.mpr c36
          have c36b1 : (t226 != 0) = true := bne_iff_ne.mpr c36
          (try simp only [c36b0, c36b1])
          simp only [Option.some.injEq, Prod.mk.injEq] at H
          obtain ⟨rfl, rfl⟩ := H
          go_wp2
          go_ret2
          exact ⟨Zq, Zc3 GE207.out GE216.out GE224.out⟩
        ·replace c28 := Bool.eq_false_iff.mpr c28
         subst c28
         have H1 : (some (0, 11)) = some (r1, r2) := by rw [if_neg (show ¬ (false = true) by decide)] at H; exact H
         clear H
         have H := H1
         clear H1
         simp only [Option.some.injEq, Prod.mk.injEq] at H
         obtain ⟨rfl, rfl⟩ := H
         go_wp2
         go_ret2
         exact ⟨Zq, Zc3 GE207.out GE216.out GE224.out⟩
       ·rw [if_neg c18] at H
        exact absurd H (by simp)
      ·rw [if_neg c17] at H
       exact absurd H (by simp)
     ·rw [if_neg c16] at H
      have c16b0 : decide (x31_1 < (t210.length : Int)) = false := decide_eq_false c16
      clear c16
      (try simp only [c16b0])
      replace H := Option.bind_eq_some_iff.mp H
      obtain ⟨⟨t213, t214⟩, A390, H⟩ := H
      replace H : (some (t213, t214)) = some (r1, r2) := H
      have A39 := Aside0.mk A390
      clear A390
      simp only [Option.some.injEq, Prod.mk.injEq] at H
      obtain ⟨rfl, rfl⟩ := H
      obtain ⟨Ao40, co40, eo40⟩ := Kd.R_slice HO_10.out
      subst eo40
      go_wp2_with (first | ((with_reducible refine Qay (f := 59) rfl ?_); refine goesL_ (some 61) rfl rfl Try.func59 (by kernel_rfl) rfl #[.slice Ao40 x10_1.length co40] rfl (Zl) ?_; (with_reducible refine (QaZ.calls k1 _ _ x10_1 t213 t214 _ ?side1 ?side2 A39.out).mono ?_); (case side1 => repeat (first | exact (Kd.R_reads' HO_10.out).2.2 | (with_reducible refine Kd.C_alloc ?_ _) | (with_reducible refine Kd.C_drewN ?_ _) | (with_reducible refine Kd.C_drew ?_))); (case side2 => exact (Kd.R_reads' HO_10.out).2.1); rintro e w' ⟨rfl, ⟨nd, rfl⟩⟩; refine ⟨_, rfl, ?_⟩))
      go_ret2
      exact ⟨Zq, Zc1 GE207.out⟩
  ·rw [if_neg c11] at H
   have c11b0 : (t209 == 0) = false := beq_eq_false_iff_ne.mpr c11
   have c11b1 : (t209 != 0) = true := bne_iff_ne.mpr c11
   (try simp only [c11b0, c11b1])
   simp only [Option.some.injEq, Prod.mk.injEq] at H
   obtain ⟨rfl, rfl⟩ := H
   go_wp2
   go_ret2
   exact ⟨Zq, Zc1 GE207.out⟩
 ·rw [if_neg c8] at H
  have c8b0 : (t208 == 0) = false := beq_eq_false_iff_ne.mpr c8
  have c8b1 : (t208 != 0) = true := bne_iff_ne.mpr c8
  (try simp only [c8b0, c8b1])
  simp only [Option.some.injEq, Prod.mk.injEq] at H
  obtain ⟨rfl, rfl⟩ := H
  go_wp2
  go_ret2
  exact ⟨Zq, Zc1 GE207.out⟩
end Go.Proofs.Ytfcaaefdmabkhaa.Pr
