/- Functions' values and contracts, as the print wrote them. -/
import Derived.Test.YtgnmhfjfefgbfaaQ5C0P0
import Derived.Test.YtgnmhfjfefgbfaaQ5C0P1
import Derived.Test.YtgnmhfjfefgbfaaQ5C0P2
namespace Go.Proofs.Ytgnmhfjfefgbfaa.Pr
open Bool renaming true → T
open Bool renaming false → F
open Go.RowKit Go.Proofs.YtgnmhfjfefgbfaaW.PrintWords Go.Proofs.YtgnmhfjfefgbfaaW.PrintLast Go.Proofs.YtgnmhfjfefgbfaaW.PrintMore
attribute [local go_sem] QaR QaT QaY QaZ QaN QaO QaS QaU   -- for this text's walks alone
set_option linter.unusedVariables false
set_option linter.unusedSimpArgs false
set_option maxRecDepth 100000
def QaJ.l0 : Nat → List (S71) → Int → Int → List (S128) → Int → Int → Option (Int × Int)
 | 0, _, _, _, _, _, _ => none
 | k + 1, x0, x4, x5, x15, x16, x17 => if x17 < x16 then (if 0 ≤ x17 then (if x17 < (x15.length : Int) then (if x17 < (x0.length : Int) then (QaJ.l0 k x0 (wrap64 (x4 + (wrap64 ((wrap64 (((rd_T71 x0 x17).f1) - ((rd_T71 x0 x17).f2))) * ((Qaa x15 x17).f2))))) x5 x15 x16 (wrap64 (x17 + 1))) else (none)) else (none)) else (none)) else (some (x4, x5))
def QaJ.f (k : Nat) (l0 : List (S71)) (l1 : List (S128)) : Option (Int × Int) := (QaD.f k l0 l1).bind fun bt391 => (QaJ.l0 k l0 0 bt391.2 bt391.1 (bt391.1.length : Int) 0)
theorem QaJ.mono_l : ∀ k, (∀ y0 y1 y2 y3 y4 y5, LeO (QaJ.l0 k y0 y1 y2 y3 y4 y5) (QaJ.l0 (k + 1) y0 y1 y2 y3 y4 y5))
 | 0 => fun _ _ _ _ _ _ r h => by simp [QaJ.l0] at h
 | k + 1 => by
  have ih0 := QaJ.mono_l k
  intro y0 y1 y2 y3 y4 y5
  unfold QaJ.l0
  exact ZM2 ih0 QaD.mono
theorem QaJ.mono : ∀ a0 a1 k, LeO (QaJ.f k a0 a1) (QaJ.f (k + 1) a0 a1) := by
 intro a0 a1 k
 have ih0 := QaJ.mono_l k
 unfold QaJ.f
 exact ZM2 ih0 QaD.mono
set_option maxHeartbeats 8000000 in
theorem QaJ.calls (k : Nat) (A0 : Option Addr) (c0 : Nat) (l0 : List (S71)) (A1 : Option Addr) (c1 : Nat) (l1 : List (S128)) (r1 : Int) (r2 : Int) (w : World) (hr0 : Kd.C k71 w A0 l0.length l0) (hc0 : l0.length ≤ c0) (hr1 : Kd.C k128 w A1 l1.length l1) (hc1 : l1.length ≤ c1) (h : QaJ.f k l0 l1 = some (r1, r2)) :
  Calls Try.prog 16 #[.slice A0 l0.length c0, .slice A1 l1.length c1] w fun e w' => e = .returned (.tuple #[.int .i64 r1, .int .i64 r2]) ∧ Below w.heap.size w w' := by
 have hu128 := Try.underlying128
 have HR0 := Aside0.mk hr0
 have HC0 := Aside0.mk hc0
 clear hr0 hc0
 have HR1 := Aside0.mk hr1
 have HC1 := Aside0.mk hc1
 clear hr1 hc1
 have HB := Aside0.mk (Below.refl w.heap.size w)
 have H : ((QaD.f k l0 l1).bind fun bt391 => (QaJ.l0 k l0 0 bt391.2 bt391.1 (bt391.1.length : Int) 0)) = some (r1, r2) := h
 clear h
 replace H := Option.bind_eq_some_iff.mp H
 obtain ⟨⟨t391, t394⟩, A30, H⟩ := H
 replace H : (QaJ.l0 k l0 0 t394 t391 (t391.length : Int) 0) = some (r1, r2) := H
 have A3 := Aside0.mk A30
 clear A30
 have H' := Aside0.mk H
 clear H
 go_enter Try.func16, Try.ntmps16
 go_wp2_with (first | (go_at_call 58; (with_reducible refine (QaD.calls k _ _ l0 (fun k_ => k_ < w.heap.size) _ _ l1 t391 t394 _ ?side1 ?side2 ?side3 A3.out).mono ?_); (case side1 => exact Zv HR0.out); (case side2 => exact HC0.out); (case side3 => exact Kd.V_mk HC1.out (Kd.F_below (Kd.C_F Qb5 HR1.out) (Zb))); rintro e w4 ⟨v392, rfl, ho0, hb⟩; have HO393 := Aside0.mk (Kd.N_lower (Kd.N_mono (ok' := fun k_ => True) ho0 (fun k_ hk_ => trivial)) (Qax (Zb))); replace HB := Aside0.mk (Qav (Zb) hb); (try clear hb); (try clear hb2); (try clear hk); (try clear hi); (try clear ho0); obtain ⟨Ao5, co5, eo5⟩ := Kd.N_slice HO393.out; subst eo5))
 repeat (go_quiet (first | (go_at_call 58; (with_reducible refine (QaD.calls k _ _ l0 (fun k_ => k_ < w.heap.size) _ _ l1 t391 t394 _ ?side1 ?side2 ?side3 A3.out).mono ?_); (case side1 => exact Zv HR0.out); (case side2 => exact HC0.out); (case side3 => exact Kd.V_mk HC1.out (Kd.F_below (Kd.C_F Qb5 HR1.out) (Zb))); rintro e w4 ⟨v392, rfl, ho0, hb⟩; have HO393 := Aside0.mk (Kd.N_lower (Kd.N_mono (ok' := fun k_ => True) ho0 (fun k_ hk_ => trivial)) (Qax (Zb))); replace HB := Aside0.mk (Qav (Zb) hb); (try clear hb); (try clear hb2); (try clear hk); (try clear hi); (try clear ho0); obtain ⟨Ao5, co5, eo5⟩ := Kd.N_slice HO393.out; subst eo5)); try go_wp2_with (first | (go_at_call 58; (with_reducible refine (QaD.calls k _ _ l0 (fun k_ => k_ < w.heap.size) _ _ l1 t391 t394 _ ?side1 ?side2 ?side3 A3.out).mono ?_); (case side1 => exact Zv HR0.out); (case side2 => exact HC0.out); (case side3 => exact Kd.V_mk HC1.out (Kd.F_below (Kd.C_F Qb5 HR1.out) (Zb))); rintro e w4 ⟨v392, rfl, ho0, hb⟩; have HO393 := Aside0.mk (Kd.N_lower (Kd.N_mono (ok' := fun k_ => True) ho0 (fun k_ hk_ => trivial)) (Qax (Zb))); replace HB := Aside0.mk (Qav (Zb) hb); (try clear hb); (try clear hb2); (try clear hk); (try clear hi); (try clear ho0); obtain ⟨Ao5, co5, eo5⟩ := Kd.N_slice HO393.out; subst eo5)))
 go_loopg [4, 17] k (fun kq v4 v17 w' => ∃ (x4_1 : Int) (x17_1 : Int), v4 = .int .i64 x4_1 ∧ v17 = .int .i64 x17_1 ∧ Aside0 (QaJ.l0 kq l0 x4_1 t394 t391 (t391.length : Int) x17_1 = some (r1, r2)) ∧ Aside0 (kq ≤ k) ∧ Aside0 (Kd.N k128 128 w' w.heap.size (fun _ => True) (.slice Ao5 t391.length co5) t391) ∧ Aside0 (Below w.heap.size w w'))
 case atStart => exact ⟨(0), (0), (Zs), (Zs), H', ⟨Nat.le_refl _⟩, ⟨by (with_reducible repeat (first | apply Kd.N_alloc | apply Kd.N_drewN | apply Kd.N_drew)); exact HO393.out⟩, ⟨Zb⟩⟩
 case round =>
  clear H'
  try clear c1
  try clear p2
  obtain ⟨x4_1, x17_1, rfl, rfl, HA, HK1, HO_15, HB⟩ := hrel
  cases gk with
  | zero => exact absurd HA.out (by simp [QaJ.l0])
  | succ k1 =>
   have H := HA.out
   clear HA
   simp only [QaJ.l0] at H
   by_cases c6 : x17_1 < (t391.length : Int)
   ·rw [if_pos c6] at H
    have c6b0 : decide (x17_1 < (t391.length : Int)) = T := decide_eq_true c6
    clear c6
    (try simp only [c6b0])
    by_cases c7 : 0 ≤ x17_1
    ·rw [if_pos c7] at H
     have c7b0 : decide (0 ≤ x17_1) = T := decide_eq_true c7
     clear c7
     by_cases c8 : x17_1 < (t391.length : Int)
     ·rw [if_pos c8] at H
      have c8b0 : decide (x17_1 < (t391.length : Int)) = T := decide_eq_true c8
      clear c8
      by_cases c9 : x17_1 < (l0.length : Int)
      ·rw [if_pos c9] at H
       have c9b0 : decide (x17_1 < (l0.length : Int)) = T := decide_eq_true c9
       clear c9
       have H' := Aside0.mk H
       clear H
       have p395 : 0 ≤ (x17_1 : Int) := Ze
       have q395 : x17_1 < (t391.length : Int) := Ze
       obtain ⟨ad395, A395_4, c395_4, e395, hx395_0, hx395_1, hx395_2, hx395_3, hx395_4, hx395_5, hl395_4, hi395_4⟩ := QbO (Kd.N_reads' HO_15.out).2.2 x17_1 p395 q395
       cases e395
       obtain ⟨ce395, hce395, hMe395, hcc395⟩ := Kd.N_get HO_15.out z128 x17_1 p395 (by first | exact q395 | exact Ze | (have e_ := (Kd.N_reads' HO_15.out).1; omega))
       obtain ⟨ua395_4, uc395_4, rfl, ul395_4, ge395_4⟩ := QbZ hMe395
       have hv395_4 := hcc395 4 _ rfl
       rw [Qbd _ _ 4 (by omega)] at hv395_4
       replace hv395_4 := Option.some.inj (hv395_4.symm.trans hx395_4)
       injection hv395_4 with hva_ hvn_ hvc_
       rw [hva_] at ge395_4
       rw [hvc_] at ul395_4
       have HL395_4 := Aside0.mk (show Kd.V (Kd.int .i64) 3 _ w.heap.size _ _ ((Qaa t391 x17_1).f1) from Kd.V_mk ul395_4 ge395_4)
       clear hva_ hvn_ hvc_ ge395_4 ul395_4
       clear hcc395 hce395
       have HR395_4 := Aside0.mk hi395_4
       have HC395_4 := Aside0.mk hl395_4
       clear hi395_4 hl395_4
       replace p395 := eq_true p395
       replace q395 := eq_true q395
       go_wp2_with (first | ((with_reducible refine Qa2 (N := 8) rfl ?_); refine Zbx (N := 8) (cs := #[.string (⟨#[]⟩ : ByteArray), .int .i64 0, .int .i64 0, .int .i64 0, .slice none 0 0, .int .i64 0]) (t := 128) ?_; intro gb396 hg w10 hbox hb; have BK396 := Aside0.mk (hbox); have GW396 := Aside0.mk (Zt w hg (Zb)); have GE396 := GW396; replace HO_15 := Aside0.mk (Kd.N_below (Kd.N_elderB (by (with_reducible repeat (first | apply Kd.N_alloc | apply Kd.N_drewN | apply Kd.N_drew)); exact HO_15.out) gb396 (Nat.le_of_eq hg.symm)) hb); replace HL395_4 := Aside0.mk (Kd.V_below (Kd.V_elderB (by (with_reducible repeat (first | apply Kd.V_alloc | apply Kd.V_drewN | apply Kd.V_drew)); exact HL395_4.out) gb396 (Nat.le_of_eq hg.symm)) hb); replace HR395_4 := Aside0.mk (Kd.C_below (by repeat (first | (with_reducible exact HR395_4.out) | (with_reducible refine Kd.C_alloc ?_ _) | (with_reducible refine Kd.C_drewN ?_ _) | (with_reducible refine Kd.C_drew ?_) | exact HR395_4.out)) hb); replace HB := Aside0.mk (Qav (Zb) hb); clear hb hbox hg; obtain ⟨hcz11_0, hfz11_0⟩ := Zy (v := (.string (⟨#[]⟩ : ByteArray))) BK396.out 0; obtain ⟨hcz11_1, hfz11_1⟩ := Zy (v := (.int .i64 0)) BK396.out 1; obtain ⟨hcz11_2, hfz11_2⟩ := Zy (v := (.int .i64 0)) BK396.out 2; obtain ⟨hcz11_3, hfz11_3⟩ := Zy (v := (.int .i64 0)) BK396.out 3; obtain ⟨hcz11_4, hfz11_4⟩ := Zy (v := (.slice none 0 0)) BK396.out 4; obtain ⟨hcz11_5, hfz11_5⟩ := Zy (v := (.int .i64 0)) BK396.out 5) | ((with_reducible refine Qbp (t := 128) (p := 8) rfl ?_); (try (rw [QbR w10]; generalize hq_ : World.drewN w10 _ = w10; have n0_ := Aside0.mk (Kd.N_at hq_ HO_15.out); have n1_ := Aside0.mk (Kd.V_at hq_ HL395_4.out); have n2_ := Aside0.mk (blk_at hq_ BK396.out); have n3_ := Aside0.mk (Kd.C_at hq_ HR395_4.out); have n4_ := Aside0.mk (QcT hq_ HB.out); clear hq_ HO_15 HL395_4 BK396 HR395_4 HB; have HO_15 := n0_; have HL395_4 := n1_; have BK396 := n2_; have HR395_4 := n3_; have HB := n4_; clear n0_ n1_ n2_ n3_ n4_)); refine Qbl (t := 128) (p := 8) (v := ?vo_w12) (w1 := ((((((w10.setCell ⟨gb396, 0, none⟩ (.string ((Qaa t391 x17_1).f0.f0))).setCell ⟨gb396, 1, none⟩ (.int .i64 ((Qaa t391 x17_1).f0.f1))).setCell ⟨gb396, 2, none⟩ (.int .i64 ((Qaa t391 x17_1).f0.f2))).setCell ⟨gb396, 3, none⟩ (.int .i64 ((Qaa t391 x17_1).f0.f3))).setCell ⟨gb396, 4, none⟩ (.slice A395_4 ((Qaa t391 x17_1).f1).length c395_4)).setCell ⟨gb396, 5, none⟩ (.int .i64 ((Qaa t391 x17_1).f2)))) ?hg ?ho ?hn ?hr ?_; (case ho => rfl); (case hg => rfl); (case hn => rfl); (case hr => first | (exact Qbh (cs := #[.string (⟨#[]⟩ : ByteArray), .int .i64 0, .int .i64 0, .int .i64 0, .slice none 0 0, .int .i64 0]) (seg := [.string ((Qaa t391 x17_1).f0.f0), .int .i64 ((Qaa t391 x17_1).f0.f1), .int .i64 ((Qaa t391 x17_1).f0.f2), .int .i64 ((Qaa t391 x17_1).f0.f3), .slice A395_4 ((Qaa t391 x17_1).f1).length c395_4, .int .i64 ((Qaa t391 x17_1).f2)]) BK396.out rfl (by first | rfl | (go_simp; done)) (by first | rfl | (go_simp; done)) (by rfl) (by first | rfl | kernel_rfl) (by simp) (by first | rfl | simp [Value.oneCell'])) | (go_simp; done) | (go_simp; rfl)); intro w12 hw; replace HO_15 : Aside0 (Kd.N k128 128 w12 w.heap.size (fun k_ => k_ ≠ gb396) (.slice (some ad395) t391.length co5) t391) := ⟨(by rw [hw]; exact (by (with_reducible repeat (first | apply Kd.N_alloc | apply Kd.N_drewN | apply Kd.N_drew)); exact Kd.N_mono (Kd.N_far (p := ⟨gb396, 5, none⟩) (Kd.N_far (p := ⟨gb396, 4, none⟩) (Kd.N_far (p := ⟨gb396, 3, none⟩) (Kd.N_far (p := ⟨gb396, 2, none⟩) (Kd.N_far (p := ⟨gb396, 1, none⟩) (Kd.N_far (p := ⟨gb396, 0, none⟩) (Kd.N_mono HO_15.out (fun k_ hk => (⟨hk, hk.2⟩ : _ ∧ k_ ≠ gb396))) (fun _ hk => hk.2) (.string ((Qaa t391 x17_1).f0.f0))) (fun _ hk => hk.2) (.int .i64 ((Qaa t391 x17_1).f0.f1))) (fun _ hk => hk.2) (.int .i64 ((Qaa t391 x17_1).f0.f2))) (fun _ hk => hk.2) (.int .i64 ((Qaa t391 x17_1).f0.f3))) (fun _ hk => hk.2) (.slice A395_4 ((Qaa t391 x17_1).f1).length c395_4)) (fun _ hk => hk.2) (.int .i64 ((Qaa t391 x17_1).f2))) (fun _ hk => hk.1.2)))⟩; replace HL395_4 : Aside0 (Kd.V (Kd.int .i64) 3 w12 w.heap.size (fun k_ => some k_ ≠ (.slice (some ad395) t391.length co5 : Value).ownBlock ∧ k_ ≠ gb396) (.slice A395_4 ((Qaa t391 x17_1).f1).length c395_4) ((Qaa t391 x17_1).f1)) := ⟨(by rw [hw]; exact (by (with_reducible repeat (first | apply Kd.V_alloc | apply Kd.V_drewN | apply Kd.V_drew)); exact Kd.V_mono (Kd.V_far (p := ⟨gb396, 5, none⟩) (Kd.V_far (p := ⟨gb396, 4, none⟩) (Kd.V_far (p := ⟨gb396, 3, none⟩) (Kd.V_far (p := ⟨gb396, 2, none⟩) (Kd.V_far (p := ⟨gb396, 1, none⟩) (Kd.V_far (p := ⟨gb396, 0, none⟩) (Kd.V_mono HL395_4.out (fun k_ hk => (⟨hk, hk.2⟩ : _ ∧ k_ ≠ gb396))) (fun _ hk => hk.2) (.string ((Qaa t391 x17_1).f0.f0))) (fun _ hk => hk.2) (.int .i64 ((Qaa t391 x17_1).f0.f1))) (fun _ hk => hk.2) (.int .i64 ((Qaa t391 x17_1).f0.f2))) (fun _ hk => hk.2) (.int .i64 ((Qaa t391 x17_1).f0.f3))) (fun _ hk => hk.2) (.slice A395_4 ((Qaa t391 x17_1).f1).length c395_4)) (fun _ hk => hk.2) (.int .i64 ((Qaa t391 x17_1).f2))) (fun _ hk => ⟨hk.1.1.2, hk.1.2⟩)))⟩; replace BK396 : Aside0 (w12.heap[gb396]? = some (.cells #[.string ((Qaa t391 x17_1).f0.f0), .int .i64 ((Qaa t391 x17_1).f0.f1), .int .i64 ((Qaa t391 x17_1).f0.f2), .int .i64 ((Qaa t391 x17_1).f0.f3), .slice A395_4 ((Qaa t391 x17_1).f1).length c395_4, .int .i64 ((Qaa t391 x17_1).f2)] 128 (0, 0))) := ⟨(by rw [hw]; exact (Zp2 BK396.out))⟩; replace HB : Aside0 (Below w.heap.size w w12) := ⟨(by rw [hw]; exact (Zc1 GE396.out))⟩; clear hw; have p397 : 0 ≤ (x17_1 : Int) := Ze; have q397 : x17_1 < (l0.length : Int) := Ze; obtain ⟨ad397, e397, hx397_0, hx397_1, hx397_2, hx397_3, hx397_4, hx397_5⟩ := at_T71 HR0.out x17_1 p397 q397; cases e397; replace hx397_0 := Zx HB.out hx397_0; replace hx397_1 := Zx HB.out hx397_1; replace hx397_2 := Zx HB.out hx397_2; replace hx397_3 := Zx HB.out hx397_3; replace hx397_4 := Zx HB.out hx397_4; replace hx397_5 := Zx HB.out hx397_5; replace p397 := eq_true p397; replace q397 := eq_true q397; have p398 : 0 ≤ (x17_1 : Int) := Ze; have q398 : x17_1 < (l0.length : Int) := Ze; obtain ⟨ad398, e398, hx398_0, hx398_1, hx398_2, hx398_3, hx398_4, hx398_5⟩ := at_T71 HR0.out x17_1 p398 q398; obtain rfl : ad397 = ad398 := (by injection e398); replace hx398_0 := Zx HB.out hx398_0; replace hx398_1 := Zx HB.out hx398_1; replace hx398_2 := Zx HB.out hx398_2; replace hx398_3 := Zx HB.out hx398_3; replace hx398_4 := Zx HB.out hx398_4; replace hx398_5 := Zx HB.out hx398_5; replace p398 := eq_true p398; replace q398 := eq_true q398; obtain ⟨hcz13_0, hfz13_0⟩ := Zy (v := (.string ((Qaa t391 x17_1).f0.f0))) BK396.out 0; obtain ⟨hcz13_1, hfz13_1⟩ := Zy (v := (.int .i64 ((Qaa t391 x17_1).f0.f1))) BK396.out 1; obtain ⟨hcz13_2, hfz13_2⟩ := Zy (v := (.int .i64 ((Qaa t391 x17_1).f0.f2))) BK396.out 2; obtain ⟨hcz13_3, hfz13_3⟩ := Zy (v := (.int .i64 ((Qaa t391 x17_1).f0.f3))) BK396.out 3; obtain ⟨hcz13_4, hfz13_4⟩ := Zy (v := (.slice A395_4 ((Qaa t391 x17_1).f1).length c395_4)) BK396.out 4; obtain ⟨hcz13_5, hfz13_5⟩ := Zy (v := (.int .i64 ((Qaa t391 x17_1).f2))) BK396.out 5))
       repeat (go_quiet (first | ((with_reducible refine Qa2 (N := 8) rfl ?_); refine Zbx (N := 8) (cs := #[.string (⟨#[]⟩ : ByteArray), .int .i64 0, .int .i64 0, .int .i64 0, .slice none 0 0, .int .i64 0]) (t := 128) ?_; intro gb396 hg w10 hbox hb; have BK396 := Aside0.mk (hbox); have GW396 := Aside0.mk (Zt w hg (Zb)); have GE396 := GW396; replace HO_15 := Aside0.mk (Kd.N_below (Kd.N_elderB (by (with_reducible repeat (first | apply Kd.N_alloc | apply Kd.N_drewN | apply Kd.N_drew)); exact HO_15.out) gb396 (Nat.le_of_eq hg.symm)) hb); replace HL395_4 := Aside0.mk (Kd.V_below (Kd.V_elderB (by (with_reducible repeat (first | apply Kd.V_alloc | apply Kd.V_drewN | apply Kd.V_drew)); exact HL395_4.out) gb396 (Nat.le_of_eq hg.symm)) hb); replace HR395_4 := Aside0.mk (Kd.C_below (by repeat (first | (with_reducible exact HR395_4.out) | (with_reducible refine Kd.C_alloc ?_ _) | (with_reducible refine Kd.C_drewN ?_ _) | (with_reducible refine Kd.C_drew ?_) | exact HR395_4.out)) hb); replace HB := Aside0.mk (Qav (Zb) hb); clear hb hbox hg; obtain ⟨hcz11_0, hfz11_0⟩ := Zy (v := (.string (⟨#[]⟩ : ByteArray))) BK396.out 0; obtain ⟨hcz11_1, hfz11_1⟩ := Zy (v := (.int .i64 0)) BK396.out 1; obtain ⟨hcz11_2, hfz11_2⟩ := Zy (v := (.int .i64 0)) BK396.out 2; obtain ⟨hcz11_3, hfz11_3⟩ := Zy (v := (.int .i64 0)) BK396.out 3; obtain ⟨hcz11_4, hfz11_4⟩ := Zy (v := (.slice none 0 0)) BK396.out 4; obtain ⟨hcz11_5, hfz11_5⟩ := Zy (v := (.int .i64 0)) BK396.out 5) | ((with_reducible refine Qbp (t := 128) (p := 8) rfl ?_); (try (rw [QbR w10]; generalize hq_ : World.drewN w10 _ = w10; have n0_ := Aside0.mk (Kd.N_at hq_ HO_15.out); have n1_ := Aside0.mk (Kd.V_at hq_ HL395_4.out); have n2_ := Aside0.mk (blk_at hq_ BK396.out); have n3_ := Aside0.mk (Kd.C_at hq_ HR395_4.out); have n4_ := Aside0.mk (QcT hq_ HB.out); clear hq_ HO_15 HL395_4 BK396 HR395_4 HB; have HO_15 := n0_; have HL395_4 := n1_; have BK396 := n2_; have HR395_4 := n3_; have HB := n4_; clear n0_ n1_ n2_ n3_ n4_)); refine Qbl (t := 128) (p := 8) (v := ?vo_w12) (w1 := ((((((w10.setCell ⟨gb396, 0, none⟩ (.string ((Qaa t391 x17_1).f0.f0))).setCell ⟨gb396, 1, none⟩ (.int .i64 ((Qaa t391 x17_1).f0.f1))).setCell ⟨gb396, 2, none⟩ (.int .i64 ((Qaa t391 x17_1).f0.f2))).setCell ⟨gb396, 3, none⟩ (.int .i64 ((Qaa t391 x17_1).f0.f3))).setCell ⟨gb396, 4, none⟩ (.slice A395_4 ((Qaa t391 x17_1).f1).length c395_4)).setCell ⟨gb396, 5, none⟩ (.int .i64 ((Qaa t391 x17_1).f2)))) ?hg ?ho ?hn ?hr ?_; (case ho => rfl); (case hg => rfl); (case hn => rfl); (case hr => first | (exact Qbh (cs := #[.string (⟨#[]⟩ : ByteArray), .int .i64 0, .int .i64 0, .int .i64 0, .slice none 0 0, .int .i64 0]) (seg := [.string ((Qaa t391 x17_1).f0.f0), .int .i64 ((Qaa t391 x17_1).f0.f1), .int .i64 ((Qaa t391 x17_1).f0.f2), .int .i64 ((Qaa t391 x17_1).f0.f3), .slice A395_4 ((Qaa t391 x17_1).f1).length c395_4, .int .i64 ((Qaa t391 x17_1).f2)]) BK396.out rfl (by first | rfl | (go_simp; done)) (by first | rfl | (go_simp; done)) (by rfl) (by first | rfl | kernel_rfl) (by simp) (by first | rfl | simp [Value.oneCell'])) | (go_simp; done) | (go_simp; rfl)); intro w12 hw; replace HO_15 : Aside0 (Kd.N k128 128 w12 w.heap.size (fun k_ => k_ ≠ gb396) (.slice (some ad395) t391.length co5) t391) := ⟨(by rw [hw]; exact (by (with_reducible repeat (first | apply Kd.N_alloc | apply Kd.N_drewN | apply Kd.N_drew)); exact Kd.N_mono (Kd.N_far (p := ⟨gb396, 5, none⟩) (Kd.N_far (p := ⟨gb396, 4, none⟩) (Kd.N_far (p := ⟨gb396, 3, none⟩) (Kd.N_far (p := ⟨gb396, 2, none⟩) (Kd.N_far (p := ⟨gb396, 1, none⟩) (Kd.N_far (p := ⟨gb396, 0, none⟩) (Kd.N_mono HO_15.out (fun k_ hk => (⟨hk, hk.2⟩ : _ ∧ k_ ≠ gb396))) (fun _ hk => hk.2) (.string ((Qaa t391 x17_1).f0.f0))) (fun _ hk => hk.2) (.int .i64 ((Qaa t391 x17_1).f0.f1))) (fun _ hk => hk.2) (.int .i64 ((Qaa t391 x17_1).f0.f2))) (fun _ hk => hk.2) (.int .i64 ((Qaa t391 x17_1).f0.f3))) (fun _ hk => hk.2) (.slice A395_4 ((Qaa t391 x17_1).f1).length c395_4)) (fun _ hk => hk.2) (.int .i64 ((Qaa t391 x17_1).f2))) (fun _ hk => hk.1.2)))⟩; replace HL395_4 : Aside0 (Kd.V (Kd.int .i64) 3 w12 w.heap.size (fun k_ => some k_ ≠ (.slice (some ad395) t391.length co5 : Value).ownBlock ∧ k_ ≠ gb396) (.slice A395_4 ((Qaa t391 x17_1).f1).length c395_4) ((Qaa t391 x17_1).f1)) := ⟨(by rw [hw]; exact (by (with_reducible repeat (first | apply Kd.V_alloc | apply Kd.V_drewN | apply Kd.V_drew)); exact Kd.V_mono (Kd.V_far (p := ⟨gb396, 5, none⟩) (Kd.V_far (p := ⟨gb396, 4, none⟩) (Kd.V_far (p := ⟨gb396, 3, none⟩) (Kd.V_far (p := ⟨gb396, 2, none⟩) (Kd.V_far (p := ⟨gb396, 1, none⟩) (Kd.V_far (p := ⟨gb396, 0, none⟩) (Kd.V_mono HL395_4.out (fun k_ hk => (⟨hk, hk.2⟩ : _ ∧ k_ ≠ gb396))) (fun _ hk => hk.2) (.string ((Qaa t391 x17_1).f0.f0))) (fun _ hk => hk.2) (.int .i64 ((Qaa t391 x17_1).f0.f1))) (fun _ hk => hk.2) (.int .i64 ((Qaa t391 x17_1).f0.f2))) (fun _ hk => hk.2) (.int .i64 ((Qaa t391 x17_1).f0.f3))) (fun _ hk => hk.2) (.slice A395_4 ((Qaa t391 x17_1).f1).length c395_4)) (fun _ hk => hk.2) (.int .i64 ((Qaa t391 x17_1).f2))) (fun _ hk => ⟨hk.1.1.2, hk.1.2⟩)))⟩; replace BK396 : Aside0 (w12.heap[gb396]? = some (.cells #[.string ((Qaa t391 x17_1).f0.f0), .int .i64 ((Qaa t391 x17_1).f0.f1), .int .i64 ((Qaa t391 x17_1).f0.f2), .int .i64 ((Qaa t391 x17_1).f0.f3), .slice A395_4 ((Qaa t391 x17_1).f1).length c395_4, .int .i64 ((Qaa t391 x17_1).f2)] 128 (0, 0))) := ⟨(by rw [hw]; exact (Zp2 BK396.out))⟩; replace HB : Aside0 (Below w.heap.size w w12) := ⟨(by rw [hw]; exact (Zc1 GE396.out))⟩; clear hw; have p397 : 0 ≤ (x17_1 : Int) := Ze; have q397 : x17_1 < (l0.length : Int) := Ze; obtain ⟨ad397, e397, hx397_0, hx397_1, hx397_2, hx397_3, hx397_4, hx397_5⟩ := at_T71 HR0.out x17_1 p397 q397; cases e397; replace hx397_0 := Zx HB.out hx397_0; replace hx397_1 := Zx HB.out hx397_1; replace hx397_2 := Zx HB.out hx397_2; replace hx397_3 := Zx HB.out hx397_3; replace hx397_4 := Zx HB.out hx397_4; replace hx397_5 := Zx HB.out hx397_5; replace p397 := eq_true p397; replace q397 := eq_true q397; have p398 : 0 ≤ (x17_1 : Int) := Ze; have q398 : x17_1 < (l0.length : Int) := Ze; obtain ⟨ad398, e398, hx398_0, hx398_1, hx398_2, hx398_3, hx398_4, hx398_5⟩ := at_T71 HR0.out x17_1 p398 q398; obtain rfl : ad397 = ad398 := (by injection e398); replace hx398_0 := Zx HB.out hx398_0; replace hx398_1 := Zx HB.out hx398_1; replace hx398_2 := Zx HB.out hx398_2; replace hx398_3 := Zx HB.out hx398_3; replace hx398_4 := Zx HB.out hx398_4; replace hx398_5 := Zx HB.out hx398_5; replace p398 := eq_true p398; replace q398 := eq_true q398; obtain ⟨hcz13_0, hfz13_0⟩ := Zy (v := (.string ((Qaa t391 x17_1).f0.f0))) BK396.out 0; obtain ⟨hcz13_1, hfz13_1⟩ := Zy (v := (.int .i64 ((Qaa t391 x17_1).f0.f1))) BK396.out 1; obtain ⟨hcz13_2, hfz13_2⟩ := Zy (v := (.int .i64 ((Qaa t391 x17_1).f0.f2))) BK396.out 2; obtain ⟨hcz13_3, hfz13_3⟩ := Zy (v := (.int .i64 ((Qaa t391 x17_1).f0.f3))) BK396.out 3; obtain ⟨hcz13_4, hfz13_4⟩ := Zy (v := (.slice A395_4 ((Qaa t391 x17_1).f1).length c395_4)) BK396.out 4; obtain ⟨hcz13_5, hfz13_5⟩ := Zy (v := (.int .i64 ((Qaa t391 x17_1).f2))) BK396.out 5)); try go_wp2_with (first | ((with_reducible refine Qa2 (N := 8) rfl ?_); refine Zbx (N := 8) (cs := #[.string (⟨#[]⟩ : ByteArray), .int .i64 0, .int .i64 0, .int .i64 0, .slice none 0 0, .int .i64 0]) (t := 128) ?_; intro gb396 hg w10 hbox hb; have BK396 := Aside0.mk (hbox); have GW396 := Aside0.mk (Zt w hg (Zb)); have GE396 := GW396; replace HO_15 := Aside0.mk (Kd.N_below (Kd.N_elderB (by (with_reducible repeat (first | apply Kd.N_alloc | apply Kd.N_drewN | apply Kd.N_drew)); exact HO_15.out) gb396 (Nat.le_of_eq hg.symm)) hb); replace HL395_4 := Aside0.mk (Kd.V_below (Kd.V_elderB (by (with_reducible repeat (first | apply Kd.V_alloc | apply Kd.V_drewN | apply Kd.V_drew)); exact HL395_4.out) gb396 (Nat.le_of_eq hg.symm)) hb); replace HR395_4 := Aside0.mk (Kd.C_below (by repeat (first | (with_reducible exact HR395_4.out) | (with_reducible refine Kd.C_alloc ?_ _) | (with_reducible refine Kd.C_drewN ?_ _) | (with_reducible refine Kd.C_drew ?_) | exact HR395_4.out)) hb); replace HB := Aside0.mk (Qav (Zb) hb); clear hb hbox hg; obtain ⟨hcz11_0, hfz11_0⟩ := Zy (v := (.string (⟨#[]⟩ : ByteArray))) BK396.out 0; obtain ⟨hcz11_1, hfz11_1⟩ := Zy (v := (.int .i64 0)) BK396.out 1; obtain ⟨hcz11_2, hfz11_2⟩ := Zy (v := (.int .i64 0)) BK396.out 2; obtain ⟨hcz11_3, hfz11_3⟩ := Zy (v := (.int .i64 0)) BK396.out 3; obtain ⟨hcz11_4, hfz11_4⟩ := Zy (v := (.slice none 0 0)) BK396.out 4; obtain ⟨hcz11_5, hfz11_5⟩ := Zy (v := (.int .i64 0)) BK396.out 5) | ((with_reducible refine Qbp (t := 128) (p := 8) rfl ?_); (try (rw [QbR w10]; generalize hq_ : World.drewN w10 _ = w10; have n0_ := Aside0.mk (Kd.N_at hq_ HO_15.out); have n1_ := Aside0.mk (Kd.V_at hq_ HL395_4.out); have n2_ := Aside0.mk (blk_at hq_ BK396.out); have n3_ := Aside0.mk (Kd.C_at hq_ HR395_4.out); have n4_ := Aside0.mk (QcT hq_ HB.out); clear hq_ HO_15 HL395_4 BK396 HR395_4 HB; have HO_15 := n0_; have HL395_4 := n1_; have BK396 := n2_; have HR395_4 := n3_; have HB := n4_; clear n0_ n1_ n2_ n3_ n4_)); refine Qbl (t := 128) (p := 8) (v := ?vo_w12) (w1 := ((((((w10.setCell ⟨gb396, 0, none⟩ (.string ((Qaa t391 x17_1).f0.f0))).setCell ⟨gb396, 1, none⟩ (.int .i64 ((Qaa t391 x17_1).f0.f1))).setCell ⟨gb396, 2, none⟩ (.int .i64 ((Qaa t391 x17_1).f0.f2))).setCell ⟨gb396, 3, none⟩ (.int .i64 ((Qaa t391 x17_1).f0.f3))).setCell ⟨gb396, 4, none⟩ (.slice A395_4 ((Qaa t391 x17_1).f1).length c395_4)).setCell ⟨gb396, 5, none⟩ (.int .i64 ((Qaa t391 x17_1).f2)))) ?hg ?ho ?hn ?hr ?_; (case ho => rfl); (case hg => rfl); (case hn => rfl); (case hr => first | (exact Qbh (cs := #[.string (⟨#[]⟩ : ByteArray), .int .i64 0, .int .i64 0, .int .i64 0, .slice none 0 0, .int .i64 0]) (seg := [.string ((Qaa t391 x17_1).f0.f0), .int .i64 ((Qaa t391 x17_1).f0.f1), .int .i64 ((Qaa t391 x17_1).f0.f2), .int .i64 ((Qaa t391 x17_1).f0.f3), .slice A395_4 ((Qaa t391 x17_1).f1).length c395_4, .int .i64 ((Qaa t391 x17_1).f2)]) BK396.out rfl (by first | rfl | (go_simp; done)) (by first | rfl | (go_simp; done)) (by rfl) (by first | rfl | kernel_rfl) (by simp) (by first | rfl | simp [Value.oneCell'])) | (go_simp; done) | (go_simp; rfl)); intro w12 hw; replace HO_15 : Aside0 (Kd.N k128 128 w12 w.heap.size (fun k_ => k_ ≠ gb396) (.slice (some ad395) t391.length co5) t391) := ⟨(by rw [hw]; exact (by (with_reducible repeat (first | apply Kd.N_alloc | apply Kd.N_drewN | apply Kd.N_drew)); exact Kd.N_mono (Kd.N_far (p := ⟨gb396, 5, none⟩) (Kd.N_far (p := ⟨gb396, 4, none⟩) (Kd.N_far (p := ⟨gb396, 3, none⟩) (Kd.N_far (p := ⟨gb396, 2, none⟩) (Kd.N_far (p := ⟨gb396, 1, none⟩) (Kd.N_far (p := ⟨gb396, 0, none⟩) (Kd.N_mono HO_15.out (fun k_ hk => (⟨hk, hk.2⟩ : _ ∧ k_ ≠ gb396))) (fun _ hk => hk.2) (.string ((Qaa t391 x17_1).f0.f0))) (fun _ hk => hk.2) (.int .i64 ((Qaa t391 x17_1).f0.f1))) (fun _ hk => hk.2) (.int .i64 ((Qaa t391 x17_1).f0.f2))) (fun _ hk => hk.2) (.int .i64 ((Qaa t391 x17_1).f0.f3))) (fun _ hk => hk.2) (.slice A395_4 ((Qaa t391 x17_1).f1).length c395_4)) (fun _ hk => hk.2) (.int .i64 ((Qaa t391 x17_1).f2))) (fun _ hk => hk.1.2)))⟩; replace HL395_4 : Aside0 (Kd.V (Kd.int .i64) 3 w12 w.heap.size (fun k_ => some k_ ≠ (.slice (some ad395) t391.length co5 : Value).ownBlock ∧ k_ ≠ gb396) (.slice A395_4 ((Qaa t391 x17_1).f1).length c395_4) ((Qaa t391 x17_1).f1)) := ⟨(by rw [hw]; exact (by (with_reducible repeat (first | apply Kd.V_alloc | apply Kd.V_drewN | apply Kd.V_drew)); exact Kd.V_mono (Kd.V_far (p := ⟨gb396, 5, none⟩) (Kd.V_far (p := ⟨gb396, 4, none⟩) (Kd.V_far (p := ⟨gb396, 3, none⟩) (Kd.V_far (p := ⟨gb396, 2, none⟩) (Kd.V_far (p := ⟨gb396, 1, none⟩) (Kd.V_far (p := ⟨gb396, 0, none⟩) (Kd.V_mono HL395_4.out (fun k_ hk => (⟨hk, hk.2⟩ : _ ∧ k_ ≠ gb396))) (fun _ hk => hk.2) (.string ((Qaa t391 x17_1).f0.f0))) (fun _ hk => hk.2) (.int .i64 ((Qaa t391 x17_1).f0.f1))) (fun _ hk => hk.2) (.int .i64 ((Qaa t391 x17_1).f0.f2))) (fun _ hk => hk.2) (.int .i64 ((Qaa t391 x17_1).f0.f3))) (fun _ hk => hk.2) (.slice A395_4 ((Qaa t391 x17_1).f1).length c395_4)) (fun _ hk => hk.2) (.int .i64 ((Qaa t391 x17_1).f2))) (fun _ hk => ⟨hk.1.1.2, hk.1.2⟩)))⟩; replace BK396 : Aside0 (w12.heap[gb396]? = some (.cells #[.string ((Qaa t391 x17_1).f0.f0), .int .i64 ((Qaa t391 x17_1).f0.f1), .int .i64 ((Qaa t391 x17_1).f0.f2), .int .i64 ((Qaa t391 x17_1).f0.f3), .slice A395_4 ((Qaa t391 x17_1).f1).length c395_4, .int .i64 ((Qaa t391 x17_1).f2)] 128 (0, 0))) := ⟨(by rw [hw]; exact (Zp2 BK396.out))⟩; replace HB : Aside0 (Below w.heap.size w w12) := ⟨(by rw [hw]; exact (Zc1 GE396.out))⟩; clear hw; have p397 : 0 ≤ (x17_1 : Int) := Ze; have q397 : x17_1 < (l0.length : Int) := Ze; obtain ⟨ad397, e397, hx397_0, hx397_1, hx397_2, hx397_3, hx397_4, hx397_5⟩ := at_T71 HR0.out x17_1 p397 q397; cases e397; replace hx397_0 := Zx HB.out hx397_0; replace hx397_1 := Zx HB.out hx397_1; replace hx397_2 := Zx HB.out hx397_2; replace hx397_3 := Zx HB.out hx397_3; replace hx397_4 := Zx HB.out hx397_4; replace hx397_5 := Zx HB.out hx397_5; replace p397 := eq_true p397; replace q397 := eq_true q397; have p398 : 0 ≤ (x17_1 : Int) := Ze; have q398 : x17_1 < (l0.length : Int) := Ze; obtain ⟨ad398, e398, hx398_0, hx398_1, hx398_2, hx398_3, hx398_4, hx398_5⟩ := at_T71 HR0.out x17_1 p398 q398; obtain rfl : ad397 = ad398 := (by injection e398); replace hx398_0 := Zx HB.out hx398_0; replace hx398_1 := Zx HB.out hx398_1; replace hx398_2 := Zx HB.out hx398_2; replace hx398_3 := Zx HB.out hx398_3; replace hx398_4 := Zx HB.out hx398_4; replace hx398_5 := Zx HB.out hx398_5; replace p398 := eq_true p398; replace q398 := eq_true q398; obtain ⟨hcz13_0, hfz13_0⟩ := Zy (v := (.string ((Qaa t391 x17_1).f0.f0))) BK396.out 0; obtain ⟨hcz13_1, hfz13_1⟩ := Zy (v := (.int .i64 ((Qaa t391 x17_1).f0.f1))) BK396.out 1; obtain ⟨hcz13_2, hfz13_2⟩ := Zy (v := (.int .i64 ((Qaa t391 x17_1).f0.f2))) BK396.out 2; obtain ⟨hcz13_3, hfz13_3⟩ := Zy (v := (.int .i64 ((Qaa t391 x17_1).f0.f3))) BK396.out 3; obtain ⟨hcz13_4, hfz13_4⟩ := Zy (v := (.slice A395_4 ((Qaa t391 x17_1).f1).length c395_4)) BK396.out 4; obtain ⟨hcz13_5, hfz13_5⟩ := Zy (v := (.int .i64 ((Qaa t391 x17_1).f2))) BK396.out 5)))
       go_roundg k1
       case measure => have := HK1.out; omega
       case rel => exact ⟨(wrap64 (x4_1 + (wrap64 ((wrap64 (((rd_T71 l0 x17_1).f1) - ((rd_T71 l0 x17_1).f2))) * ((Qaa t391 x17_1).f2))))), (wrap64 (x17_1 + 1)), (Zs), (Zs), H', ⟨by have := HK1.out; omega⟩, ⟨by (with_reducible repeat (first | apply Kd.N_alloc | apply Kd.N_drewN | apply Kd.N_drew)); exact Kd.N_mono HO_15.out (fun _ hk => trivial)⟩, ⟨Zc1 GE396.out⟩⟩
      rw [if_neg c9] at H
      exact absurd H (by simp)
     rw [if_neg c8] at H
     exact absurd H (by simp)
    rw [if_neg c7] at H
    exact absurd H (by simp)
   rw [if_neg c6] at H
   have c6b0 : decide (x17_1 < (t391.length : Int)) = F := decide_eq_false c6
   clear c6
   (try simp only [c6b0])
   simp only [Option.some.injEq, Prod.mk.injEq] at H
   obtain ⟨rfl, rfl⟩ := H
   go_wp2
   repeat (go_quiet (fail); try go_wp2)
   go_ret2
   exact ⟨Zq, Zb⟩
def Qay.l0 : Nat → List Int → List Int → List (S128) → List (S71) → Int → Int → Option (List Int × List Int × Int)
 | 0, _, _, _, _, _, _ => none
 | k + 1, x4, x5, x7, x21, x22, x23 => if x23 < x22 then (if 0 ≤ x23 then (if x23 < (x21.length : Int) then ((Qal.f k x4 ((rd_T71 x21 x23).f0.f2)).bind fun bt428 => (if bt428.2 = T then (if 0 ≤ bt428.1 then (if bt428.1 < (x5.length : Int) then (if x23 < (x7.length : Int) then (Qay.l0 k x4 (x5.set (bt428.1 : Int).toNat (wrap64 ((rd x5 bt428.1) + (wrap64 ((wrap64 (((rd_T71 x21 x23).f1) - ((rd_T71 x21 x23).f2))) * ((Qaa x7 x23).f2)))))) x7 x21 x22 (wrap64 (x23 + 1))) else (none)) else (none)) else (none)) else (if insOk x4 bt428.1 then (if insOk x5 bt428.1 then ((some (insA x5 bt428.1 (0) : List Int)).bind fun y436 => (if 0 ≤ bt428.1 then (if bt428.1 < (y436.length : Int) then (if x23 < (x7.length : Int) then (Qay.l0 k (insA x4 bt428.1 ((rd_T71 x21 x23).f0.f2)) (y436.set (bt428.1 : Int).toNat (wrap64 ((rd y436 bt428.1) + (wrap64 ((wrap64 (((rd_T71 x21 x23).f1) - ((rd_T71 x21 x23).f2))) * ((Qaa x7 x23).f2)))))) x7 x21 x22 (wrap64 (x23 + 1))) else (none)) else (none)) else (none))) else (none)) else (none)))) else (none)) else (none)) else (some (x4, x5, 0))
def Qay.f (k : Nat) (l0 : List (S71)) (l1 : List (S128)) : Option (List Int × List Int × Int) := (QaD.f k l0 l1).bind fun bt422 => (if bt422.2 = 0 then (Qay.l0 k ([] : List Int) ([] : List Int) bt422.1 l0 (l0.length : Int) 0) else (some (([] : List Int), ([] : List Int), bt422.2)))
theorem Qay.mono_l : ∀ k, (∀ y0 y1 y2 y3 y4 y5, LeO (Qay.l0 k y0 y1 y2 y3 y4 y5) (Qay.l0 (k + 1) y0 y1 y2 y3 y4 y5))
 | 0 => fun _ _ _ _ _ _ r h => by simp [Qay.l0] at h
 | k + 1 => by
  have ih0 := Qay.mono_l k
  intro y0 y1 y2 y3 y4 y5
  unfold Qay.l0
  exact ZM3 ih0 QaD.mono Qal.mono
theorem Qay.mono : ∀ a0 a1 k, LeO (Qay.f k a0 a1) (Qay.f (k + 1) a0 a1) := by
 intro a0 a1 k
 have ih0 := Qay.mono_l k
 unfold Qay.f
 exact ZM3 ih0 QaD.mono Qal.mono
def Qay.T11 : Bool × List (List Nat × List Nat) := (T, [([], []), ([], []), ([0, 1], [0, 1]), ([2], [2]), ([], []), ([4], [4]), ([], []), ([6], [6]), ([5, 7], [5, 7]), ([], []), ([], []), ([9, 10], [9, 10]), ([11], [11]), ([12], [12]), ([8, 13], [8, 13]), ([3, 14], [3, 14]), ([0, 1, 0, 1, 2, 3, 4, 5, 6, 7, 8, 9, 10, 11, 12, 13, 14, 15], [0, 1]), ([16, 15, 0, 1, 2, 3, 4, 5, 6, 7, 8, 9, 10, 11, 12, 13, 14, 15], [15, 16])])
def Qay.B11 : List Nat := [0, 0, 3, 7, 0, 16, 0, 64, 240, 0, 0, 1536, 3584, 7680, 16368, 32767, 65535, 131071]
theorem Qay.tab11 : rtab .any (opsOf Try.f17 11) = Qay.T11 := by kernel_rfl
theorem Qay.bits11 : Qbb Qay.T11.2 Qay.B11 = T := by kernel_rfl
set_option maxHeartbeats 8000000 in
theorem Qay.calls (k : Nat) (A0 : Option Addr) (c0 : Nat) (l0 : List (S71)) (A1 : Option Addr) (c1 : Nat) (l1 : List (S128)) (r1 : List Int) (r2 : List Int) (r3 : Int) (w : World) (hr0 : Kd.C k71 w A0 l0.length l0) (hc0 : l0.length ≤ c0) (hr1 : Kd.C k128 w A1 l1.length l1) (hc1 : l1.length ≤ c1) (h : Qay.f k l0 l1 = some (r1, r2, r3)) :
  Calls Try.prog 17 #[.slice A0 l0.length c0, .slice A1 l1.length c1] w fun e w' => ∃ v0_ v1_ : Value, e = .returned (.tuple #[v0_, v1_, .int .i64 r3]) ∧ Kd.R (Kd.int .i64) 3 w' w.heap.size (fun k_ => some k_ ≠ (v1_ : Value).ownBlock) v0_ r1 ∧ Kd.R (Kd.int .i64) 3 w' w.heap.size (fun k_ => some k_ ≠ (v0_ : Value).ownBlock) v1_ r2 ∧ Below w.heap.size w w' := by
 have hu71 := Try.underlying71
 have HR0 := Aside0.mk hr0
 have HC0 := Aside0.mk hc0
 clear hr0 hc0
 have HR1 := Aside0.mk hr1
 have HC1 := Aside0.mk hc1
 clear hr1 hc1
 have HB := Aside0.mk (Below.refl w.heap.size w)
 have H : ((QaD.f k l0 l1).bind fun bt422 => (if bt422.2 = 0 then (Qay.l0 k ([] : List Int) ([] : List Int) bt422.1 l0 (l0.length : Int) 0) else (some (([] : List Int), ([] : List Int), bt422.2)))) = some (r1, r2, r3) := h
 clear h
 replace H := Option.bind_eq_some_iff.mp H
 obtain ⟨⟨t422, t425⟩, A30, H⟩ := H
 replace H : (if t425 = 0 then (Qay.l0 k ([] : List Int) ([] : List Int) t422 l0 (l0.length : Int) 0) else (some (([] : List Int), ([] : List Int), t425))) = some (r1, r2, r3) := H
 have A3 := Aside0.mk A30
 clear A30
 go_enter Try.func17, Try.ntmps17
 go_upto_if 19 with (first | ((with_reducible refine QaH (f := 58) rfl ?_); refine goesL_ (some 15) rfl rfl Try.func58 (by kernel_rfl) rfl #[.slice A0 l0.length c0, .slice A1 l1.length c1] rfl (Zl) ?_; (with_reducible refine (QaD.calls k _ _ l0 (fun k_ => k_ < w.heap.size) _ _ l1 t422 t425 _ ?side1 ?side2 ?side3 A3.out).mono ?_); (case side1 => exact Zv HR0.out); (case side2 => exact HC0.out); (case side3 => exact Kd.V_mk HC1.out (Kd.F_below (Kd.C_F Qb5 HR1.out) (Zb))); rintro e w4 ⟨v423, rfl, ho0, hb⟩; refine ⟨_, rfl, ?_⟩; have HO424 := Aside0.mk (Kd.N_lower (Kd.N_mono (ok' := fun k_ => True) ho0 (fun k_ hk_ => trivial)) (Qax (Zb))); replace HB := Aside0.mk (Qav (Zb) hb); (try clear hb); (try clear hb2); (try clear hk); (try clear hi); (try clear ho0)))
 (try simp only [Act.put, Zj, Zk, Zm])
 by_cases c5 : t425 = 0
 ·rw [if_pos c5] at H
  have c5b0 : (t425 == 0) = T := beq_iff_eq.mpr c5
  have c5b1 : (t425 != 0) = F := bne_eq_false_iff_eq.mpr c5
  clear c5
  (try simp only [c5b0, c5b1])
  have H' := Aside0.mk H
  clear H
  go_wp2
  go_loopg [4, 5, 23] k (fun kq v4 v5 v23 w' => ∃ (x4_1 : List Int) (x5_1 : List Int) (x23_1 : Int), v23 = .int .i64 x23_1 ∧ Aside0 (Qay.l0 kq x4_1 x5_1 t422 l0 (l0.length : Int) x23_1 = some (r1, r2, r3)) ∧ Aside0 (kq ≤ k) ∧ Aside0 (Kd.R (Kd.int .i64) 3 w' w.heap.size (fun k_ => some k_ ≠ (v5 : Value).ownBlock) v4 x4_1) ∧ Aside0 (Kd.R (Kd.int .i64) 3 w' w.heap.size (fun k_ => some k_ ≠ (v4 : Value).ownBlock) v5 x5_1) ∧ Aside0 (Kd.N k128 128 w' w.heap.size (fun k_ => some k_ ≠ (v4 : Value).ownBlock ∧ some k_ ≠ (v5 : Value).ownBlock) v423 t422) ∧ Aside0 (Below w.heap.size w w'))
  case atStart => exact ⟨(([] : List Int)), (([] : List Int)), (0), (Zs), H', ⟨Nat.le_refl _⟩, ⟨by first | exact Kd.R_nil _ _ _ _ _ | exact Kd.N_nil _ _ _ _ _ | exact Kd.V_nil _ _ _ _ _ | exact Kd.Q_nil _ _ _ _ _ | exact Kd.S_nil _ _ _ _ _⟩, ⟨by first | exact Kd.R_nil _ _ _ _ _ | exact Kd.N_nil _ _ _ _ _ | exact Kd.V_nil _ _ _ _ _ | exact Kd.Q_nil _ _ _ _ _ | exact Kd.S_nil _ _ _ _ _⟩, ⟨by (with_reducible repeat (first | apply Kd.N_alloc | apply Kd.N_drewN | apply Kd.N_drew)); exact Kd.N_mono HO424.out (fun _ hk => ⟨(by simp [Value.ownBlock]), (by simp [Value.ownBlock])⟩)⟩, ⟨Zb⟩⟩
  case round =>
   clear H'
   try clear c1
   try clear p2
   try clear c5
   try clear c5b0
   try clear c5b1
   obtain ⟨x4_1, x5_1, x23_1, rfl, HA, HK1, HO_4, HO_5, HO_7, HB⟩ := hrel
   cases gk with
   | zero => exact absurd HA.out (by simp [Qay.l0])
   | succ k1 =>
    have H := HA.out
    clear HA
    simp only [Qay.l0] at H
    by_cases c6 : x23_1 < (l0.length : Int)
    ·rw [if_pos c6] at H
     have c6b0 : decide (x23_1 < (l0.length : Int)) = T := decide_eq_true c6
     clear c6
     (try simp only [c6b0])
     by_cases c7 : 0 ≤ x23_1
     ·rw [if_pos c7] at H
      have c7b0 : decide (0 ≤ x23_1) = T := decide_eq_true c7
      clear c7
      by_cases c8 : x23_1 < (l0.length : Int)
      ·rw [if_pos c8] at H
       have c8b0 : decide (x23_1 < (l0.length : Int)) = T := decide_eq_true c8
       clear c8
       replace H := Option.bind_eq_some_iff.mp H
       obtain ⟨⟨t428, t429⟩, A90, H⟩ := H
       replace H : (if t429 = T then (if 0 ≤ t428 then (if t428 < (x5_1.length : Int) then (if x23_1 < (t422.length : Int) then (Qay.l0 k1 x4_1 (x5_1.set (t428 : Int).toNat (wrap64 ((rd x5_1 t428) + (wrap64 ((wrap64 (((rd_T71 l0 x23_1).f1) - ((rd_T71 l0 x23_1).f2))) * ((Qaa t422 x23_1).f2)))))) t422 l0 (l0.length : Int) (wrap64 (x23_1 + 1))) else (none)) else (none)) else (none)) else (if insOk x4_1 t428 then (if insOk x5_1 t428 then ((some (insA x5_1 t428 (0) : List Int)).bind fun y436 => (if 0 ≤ t428 then (if t428 < (y436.length : Int) then (if x23_1 < (t422.length : Int) then (Qay.l0 k1 (insA x4_1 t428 ((rd_T71 l0 x23_1).f0.f2)) (y436.set (t428 : Int).toNat (wrap64 ((rd y436 t428) + (wrap64 ((wrap64 (((rd_T71 l0 x23_1).f1) - ((rd_T71 l0 x23_1).f2))) * ((Qaa t422 x23_1).f2)))))) t422 l0 (l0.length : Int) (wrap64 (x23_1 + 1))) else (none)) else (none)) else (none))) else (none)) else (none))) = some (r1, r2, r3) := H
       have A9 := Aside0.mk A90
       clear A90
       have p426 : 0 ≤ (x23_1 : Int) := Ze
       have q426 : x23_1 < (l0.length : Int) := Ze
       obtain ⟨ad426, e426, hx426_0, hx426_1, hx426_2, hx426_3, hx426_4, hx426_5⟩ := at_T71 HR0.out x23_1 p426 q426
       cases e426
       replace hx426_0 := Zx HB.out hx426_0
       replace hx426_1 := Zx HB.out hx426_1
       replace hx426_2 := Zx HB.out hx426_2
       replace hx426_3 := Zx HB.out hx426_3
       replace hx426_4 := Zx HB.out hx426_4
       replace hx426_5 := Zx HB.out hx426_5
       replace p426 := eq_true p426
       replace q426 := eq_true q426
       go_upto_if 37 with (first | ((with_reducible refine Qa2 (N := 9) rfl ?_); refine Zbx (N := 9) (cs := #[.string (⟨#[]⟩ : ByteArray), .int .i64 0, .int .i64 0, .int .i64 0, .int .i64 0, .int .i64 0]) (t := 71) ?_; intro gb427 hg w10 hbox hb; have BK427 := Aside0.mk (hbox); have GW427 := Aside0.mk (Zt w hg (Zb)); have GE427 := GW427; replace HO_4 := Aside0.mk (Kd.R_below (Zr HO_4.out) hb); replace HO_5 := Aside0.mk (Kd.R_below (Zr HO_5.out) hb); replace HO_7 := Aside0.mk (Kd.N_below (Kd.N_elderB (by (with_reducible repeat (first | apply Kd.N_alloc | apply Kd.N_drewN | apply Kd.N_drew)); exact HO_7.out) gb427 (Nat.le_of_eq hg.symm)) hb); replace HB := Aside0.mk (Qav (Zb) hb); clear hb hbox hg; obtain ⟨hcz11_0, hfz11_0⟩ := Zy (v := (.string (⟨#[]⟩ : ByteArray))) BK427.out 0; obtain ⟨hcz11_1, hfz11_1⟩ := Zy (v := (.int .i64 0)) BK427.out 1; obtain ⟨hcz11_2, hfz11_2⟩ := Zy (v := (.int .i64 0)) BK427.out 2; obtain ⟨hcz11_3, hfz11_3⟩ := Zy (v := (.int .i64 0)) BK427.out 3; obtain ⟨hcz11_4, hfz11_4⟩ := Zy (v := (.int .i64 0)) BK427.out 4; obtain ⟨hcz11_5, hfz11_5⟩ := Zy (v := (.int .i64 0)) BK427.out 5) | ((with_reducible refine Qbp (t := 71) (p := 9) rfl ?_); refine Qbl (t := 71) (p := 9) (v := ?vo_w12) (w1 := ((((((w10.setCell ⟨gb427, 0, none⟩ (.string ((rd_T71 l0 x23_1).f0.f0))).setCell ⟨gb427, 1, none⟩ (.int .i64 ((rd_T71 l0 x23_1).f0.f1))).setCell ⟨gb427, 2, none⟩ (.int .i64 ((rd_T71 l0 x23_1).f0.f2))).setCell ⟨gb427, 3, none⟩ (.int .i64 ((rd_T71 l0 x23_1).f0.f3))).setCell ⟨gb427, 4, none⟩ (.int .i64 ((rd_T71 l0 x23_1).f1))).setCell ⟨gb427, 5, none⟩ (.int .i64 ((rd_T71 l0 x23_1).f2)))) ?hg ?ho ?hn ?hr ?_; (case ho => rfl); (case hg => rfl); (case hn => rfl); (case hr => first | (exact Qbh (cs := #[.string (⟨#[]⟩ : ByteArray), .int .i64 0, .int .i64 0, .int .i64 0, .int .i64 0, .int .i64 0]) (seg := [.string ((rd_T71 l0 x23_1).f0.f0), .int .i64 ((rd_T71 l0 x23_1).f0.f1), .int .i64 ((rd_T71 l0 x23_1).f0.f2), .int .i64 ((rd_T71 l0 x23_1).f0.f3), .int .i64 ((rd_T71 l0 x23_1).f1), .int .i64 ((rd_T71 l0 x23_1).f2)]) BK427.out rfl (by first | rfl | (go_simp; done)) (by first | rfl | (go_simp; done)) (by rfl) (by first | rfl | kernel_rfl) (by simp) (by first | rfl | simp [Value.oneCell'])) | (go_simp; done) | (go_simp; rfl)); intro w12 hw; replace HO_4 : Aside0 (Kd.R (Kd.int .i64) 3 w12 w.heap.size (fun k_ => some k_ ≠ (u5 : Value).ownBlock) u4 x4_1) := ⟨(by rw [hw]; exact (by (with_reducible repeat (first | apply Kd.R_alloc | apply Kd.R_drewN | apply Kd.R_drew)); exact Kd.R_mono (Kd.R_far (p := ⟨gb427, 5, none⟩) (Kd.R_far (p := ⟨gb427, 4, none⟩) (Kd.R_far (p := ⟨gb427, 3, none⟩) (Kd.R_far (p := ⟨gb427, 2, none⟩) (Kd.R_far (p := ⟨gb427, 1, none⟩) (Kd.R_far (p := ⟨gb427, 0, none⟩) (Kd.R_types HO_4.out BK427.out (by decide)) (fun _ hk => hk.2) (.string ((rd_T71 l0 x23_1).f0.f0))) (fun _ hk => hk.2) (.int .i64 ((rd_T71 l0 x23_1).f0.f1))) (fun _ hk => hk.2) (.int .i64 ((rd_T71 l0 x23_1).f0.f2))) (fun _ hk => hk.2) (.int .i64 ((rd_T71 l0 x23_1).f0.f3))) (fun _ hk => hk.2) (.int .i64 ((rd_T71 l0 x23_1).f1))) (fun _ hk => hk.2) (.int .i64 ((rd_T71 l0 x23_1).f2))) (fun _ hk => hk.1)))⟩; replace HO_5 : Aside0 (Kd.R (Kd.int .i64) 3 w12 w.heap.size (fun k_ => some k_ ≠ (u4 : Value).ownBlock) u5 x5_1) := ⟨(by rw [hw]; exact (by (with_reducible repeat (first | apply Kd.R_alloc | apply Kd.R_drewN | apply Kd.R_drew)); exact Kd.R_mono (Kd.R_far (p := ⟨gb427, 5, none⟩) (Kd.R_far (p := ⟨gb427, 4, none⟩) (Kd.R_far (p := ⟨gb427, 3, none⟩) (Kd.R_far (p := ⟨gb427, 2, none⟩) (Kd.R_far (p := ⟨gb427, 1, none⟩) (Kd.R_far (p := ⟨gb427, 0, none⟩) (Kd.R_types HO_5.out BK427.out (by decide)) (fun _ hk => hk.2) (.string ((rd_T71 l0 x23_1).f0.f0))) (fun _ hk => hk.2) (.int .i64 ((rd_T71 l0 x23_1).f0.f1))) (fun _ hk => hk.2) (.int .i64 ((rd_T71 l0 x23_1).f0.f2))) (fun _ hk => hk.2) (.int .i64 ((rd_T71 l0 x23_1).f0.f3))) (fun _ hk => hk.2) (.int .i64 ((rd_T71 l0 x23_1).f1))) (fun _ hk => hk.2) (.int .i64 ((rd_T71 l0 x23_1).f2))) (fun _ hk => hk.1)))⟩; replace HO_7 : Aside0 (Kd.N k128 128 w12 w.heap.size (fun k_ => some k_ ≠ (u4 : Value).ownBlock ∧ some k_ ≠ (u5 : Value).ownBlock ∧ k_ ≠ gb427) v423 t422) := ⟨(by rw [hw]; exact (by (with_reducible repeat (first | apply Kd.N_alloc | apply Kd.N_drewN | apply Kd.N_drew)); exact Kd.N_mono (Kd.N_far (p := ⟨gb427, 5, none⟩) (Kd.N_far (p := ⟨gb427, 4, none⟩) (Kd.N_far (p := ⟨gb427, 3, none⟩) (Kd.N_far (p := ⟨gb427, 2, none⟩) (Kd.N_far (p := ⟨gb427, 1, none⟩) (Kd.N_far (p := ⟨gb427, 0, none⟩) (Kd.N_mono HO_7.out (fun k_ hk => (⟨hk, hk.2⟩ : _ ∧ k_ ≠ gb427))) (fun _ hk => hk.2) (.string ((rd_T71 l0 x23_1).f0.f0))) (fun _ hk => hk.2) (.int .i64 ((rd_T71 l0 x23_1).f0.f1))) (fun _ hk => hk.2) (.int .i64 ((rd_T71 l0 x23_1).f0.f2))) (fun _ hk => hk.2) (.int .i64 ((rd_T71 l0 x23_1).f0.f3))) (fun _ hk => hk.2) (.int .i64 ((rd_T71 l0 x23_1).f1))) (fun _ hk => hk.2) (.int .i64 ((rd_T71 l0 x23_1).f2))) (fun _ hk => ⟨hk.1.1.1, ⟨hk.1.1.2, hk.1.2⟩⟩)))⟩; replace BK427 : Aside0 (w12.heap[gb427]? = some (.cells #[.string ((rd_T71 l0 x23_1).f0.f0), .int .i64 ((rd_T71 l0 x23_1).f0.f1), .int .i64 ((rd_T71 l0 x23_1).f0.f2), .int .i64 ((rd_T71 l0 x23_1).f0.f3), .int .i64 ((rd_T71 l0 x23_1).f1), .int .i64 ((rd_T71 l0 x23_1).f2)] 71 (0, 0))) := ⟨(by rw [hw]; exact (Zp2 BK427.out))⟩; replace HB : Aside0 (Below w.heap.size w w12) := ⟨(by rw [hw]; exact (Zc1 GE427.out))⟩; clear hw; obtain ⟨hcz13_0, hfz13_0⟩ := Zy (v := (.string ((rd_T71 l0 x23_1).f0.f0))) BK427.out 0; obtain ⟨hcz13_1, hfz13_1⟩ := Zy (v := (.int .i64 ((rd_T71 l0 x23_1).f0.f1))) BK427.out 1; obtain ⟨hcz13_2, hfz13_2⟩ := Zy (v := (.int .i64 ((rd_T71 l0 x23_1).f0.f2))) BK427.out 2; obtain ⟨hcz13_3, hfz13_3⟩ := Zy (v := (.int .i64 ((rd_T71 l0 x23_1).f0.f3))) BK427.out 3; obtain ⟨hcz13_4, hfz13_4⟩ := Zy (v := (.int .i64 ((rd_T71 l0 x23_1).f1))) BK427.out 4; obtain ⟨hcz13_5, hfz13_5⟩ := Zy (v := (.int .i64 ((rd_T71 l0 x23_1).f2))) BK427.out 5; obtain ⟨Ao14, co14, eo14⟩ := Kd.R_slice HO_4.out; subst eo14) | ((with_reducible refine QaH (f := 59) rfl ?_); refine goesL_ (some 33) rfl rfl Try.func59 (by kernel_rfl) rfl #[.slice Ao14 x4_1.length co14, .int .i64 ((rd_T71 l0 x23_1).f0.f2)] rfl (Zl) ?_; (with_reducible refine (Qal.calls k1 _ _ x4_1 ((rd_T71 l0 x23_1).f0.f2) t428 t429 _ ?side1 ?side2 A9.out).mono ?_); (case side1 => exact Zv (Kd.R_reads' HO_4.out).2.2); (case side2 => exact (Kd.R_reads' HO_4.out).2.1); rintro e w' ⟨rfl, ⟨nd, rfl⟩⟩; refine ⟨_, rfl, ?_⟩))
       (try simp only [Act.put, Zj, Zk, Zm])
       by_cases c15 : t429 = T
       ·subst c15
        have H1 : (if 0 ≤ t428 then (if t428 < (x5_1.length : Int) then (if x23_1 < (t422.length : Int) then (Qay.l0 k1 x4_1 (x5_1.set (t428 : Int).toNat (wrap64 ((rd x5_1 t428) + (wrap64 ((wrap64 (((rd_T71 l0 x23_1).f1) - ((rd_T71 l0 x23_1).f2))) * ((Qaa t422 x23_1).f2)))))) t422 l0 (l0.length : Int) (wrap64 (x23_1 + 1))) else (none)) else (none)) else (none)) = some (r1, r2, r3) := by rw [if_pos rfl] at H; exact H
        clear H
        have H := H1
        clear H1
        by_cases c16 : 0 ≤ t428
        ·rw [if_pos c16] at H
         have c16b0 : decide (0 ≤ t428) = T := decide_eq_true c16
         clear c16
         (try simp only [c16b0])
         by_cases c17 : t428 < (x5_1.length : Int)
         ·rw [if_pos c17] at H
          have c17b0 : decide (t428 < (x5_1.length : Int)) = T := decide_eq_true c17
          clear c17
          by_cases c18 : x23_1 < (t422.length : Int)
          ·rw [if_pos c18] at H
           have c18b0 : decide (x23_1 < (t422.length : Int)) = T := decide_eq_true c18
           clear c18
           obtain ⟨y432, hy432⟩ : ∃ y_ : List Int, y_ = (x5_1.set (t428 : Int).toNat (wrap64 ((rd x5_1 t428) + (wrap64 ((wrap64 (((rd_T71 l0 x23_1).f1) - ((rd_T71 l0 x23_1).f2))) * ((Qaa t422 x23_1).f2)))))) := ⟨_, rfl⟩
           replace H : (Qay.l0 k1 x4_1 y432 t422 l0 (l0.length : Int) (wrap64 (x23_1 + 1))) = some (r1, r2, r3) := by first | (rw [hy432]; with_reducible exact H) | (have H2_ := (Option.bind_some _ _).symm.trans H; rw [hy432]; with_reducible exact H2_) | (have H2_ := (Option.bind_some _ _).symm.trans H; with_reducible exact H2_) | with_reducible exact H | (rw [hy432]; exact H) | exact H
           have Ny432 := Aside0.mk hy432
           clear hy432
           have H' := Aside0.mk H
           clear H
           try go_wp2
           (try (rw [QbR w12]; generalize hq_ : World.drewN w12 _ = w12; have n0_ : Aside0 (Kd.R (Kd.int .i64) 3 w12 w.heap.size (fun k_ => some k_ ≠ (u5 : Value).ownBlock) (.slice Ao14 x4_1.length co14) x4_1) := ⟨by rw [← hq_]; exact (Zr HO_4.out)⟩; have n1_ : Aside0 (Kd.R (Kd.int .i64) 3 w12 w.heap.size (fun k_ => some k_ ≠ (.slice Ao14 x4_1.length co14 : Value).ownBlock) u5 x5_1) := ⟨by rw [← hq_]; exact (Zr HO_5.out)⟩; have n2_ : Aside0 (Kd.N k128 128 w12 w.heap.size (fun k_ => some k_ ≠ (.slice Ao14 x4_1.length co14 : Value).ownBlock ∧ some k_ ≠ (u5 : Value).ownBlock ∧ k_ ≠ gb427) v423 t422) := ⟨by rw [← hq_]; exact (by (with_reducible repeat (first | apply Kd.N_alloc | apply Kd.N_drewN | apply Kd.N_drew)); exact HO_7.out)⟩; have n3_ : Aside0 (w12.heap[gb427]? = some (.cells #[.string ((rd_T71 l0 x23_1).f0.f0), .int .i64 ((rd_T71 l0 x23_1).f0.f1), .int .i64 ((rd_T71 l0 x23_1).f0.f2), .int .i64 ((rd_T71 l0 x23_1).f0.f3), .int .i64 ((rd_T71 l0 x23_1).f1), .int .i64 ((rd_T71 l0 x23_1).f2)] 71 (0, 0))) := ⟨by rw [← hq_]; exact (Zu BK427.out)⟩; have n4_ : Aside0 (Below w.heap.size w w12) := ⟨by rw [← hq_]; exact (Zc1 GE427.out)⟩; clear HO_4 HO_5 HO_7 BK427 HB hq_; have HO_4 := n0_; have HO_5 := n1_; have HO_7 := n2_; have BK427 := n3_; have HB := n4_; clear n0_ n1_ n2_ n3_ n4_))
           replace HO_4 := Aside0.mk (Kd.R_drew HO_4.out)
           replace HO_5 := Aside0.mk (Kd.R_drew HO_5.out)
           replace HO_7 := Aside0.mk (Kd.N_drew HO_7.out)
           replace BK427 := Aside0.mk (Qai BK427.out)
           replace HB := Aside0.mk (Qac HB.out)
           obtain ⟨Ao21, co21, eo21⟩ := Kd.R_slice HO_5.out
           (first | subst eo21 | (injection eo21 with f1_ f2_ f3_; have f4_ := f1_.symm; have f5_ := f3_.symm; clear f1_ f2_ f3_; subst f4_; subst f5_))
           have p430 : 0 ≤ (t428 : Int) := Ze
           have q430 : t428 < (x5_1.length : Int) := Ze
           obtain ⟨ad430, e430, hx430_0⟩ := Kd.at_int (Kd.R_reads' HO_5.out).2.2 t428 p430 q430
           cases e430
           replace p430 := eq_true p430
           replace q430 := eq_true q430
           obtain ⟨Ao22, co22, eo22⟩ := Kd.N_slice HO_7.out
           (first | subst eo22 | (injection eo22 with f1_ f2_ f3_; have f4_ := f1_.symm; have f5_ := f3_.symm; clear f1_ f2_ f3_; subst f4_; subst f5_))
           have p431 : 0 ≤ (x23_1 : Int) := Ze
           have q431 : x23_1 < (t422.length : Int) := Ze
           obtain ⟨ad431, A431_4, c431_4, e431, hx431_0, hx431_1, hx431_2, hx431_3, hx431_4, hx431_5, hl431_4, hi431_4⟩ := QbO (Kd.N_reads' HO_7.out).2.2 x23_1 p431 q431
           cases e431
           obtain ⟨ce431, hce431, hMe431, hcc431⟩ := Kd.N_get HO_7.out z128 x23_1 p431 (by first | exact q431 | exact Ze | (have e_ := (Kd.N_reads' HO_7.out).1; omega))
           obtain ⟨ua431_4, uc431_4, rfl, ul431_4, ge431_4⟩ := QbZ hMe431
           have hv431_4 := hcc431 4 _ rfl
           rw [Qbd _ _ 4 (by omega)] at hv431_4
           replace hv431_4 := Option.some.inj (hv431_4.symm.trans hx431_4)
           injection hv431_4 with hva_ hvn_ hvc_
           rw [hva_] at ge431_4
           rw [hvc_] at ul431_4
           have HL431_4 := Aside0.mk (show Kd.V (Kd.int .i64) 3 _ w.heap.size _ _ ((Qaa t422 x23_1).f1) from Kd.V_mk ul431_4 ge431_4)
           clear hva_ hvn_ hvc_ ge431_4 ul431_4
           clear hcc431 hce431
           have HR431_4 := Aside0.mk hi431_4
           have HC431_4 := Aside0.mk hl431_4
           clear hi431_4 hl431_4
           replace p431 := eq_true p431
           replace q431 := eq_true q431
           have p19 : 0 ≤ (t428 : Int) := Ze
           have q19 : (t428 : Int) < ((x5_1.length : Int) : Int) := Ze
           obtain ⟨go19, co19, eo19, gb19, gl19, cl19, HG19⟩ := Kd.R_form HO_5.out (by omega)
           (first | cases eo19 | (injection eo19 with ea_ en_ ec_; (first | subst ea_ | (injection ea_ with ea_; subst ea_)); subst ec_; clear en_))
           have GB19 := Aside0.mk gb19
           have GG19 := Aside0.mk HG19
           clear gb19 gl19 HG19
           (first | simp only [Qa4] at hx430_0 | skip)
           obtain ⟨hx19_0, hf19_0⟩ := Kd.R_celln 0 HO_5.out (t428 : Int) p19 q19
           replace p19 := eq_true p19
           replace q19 := eq_true q19
           have HP23 := Kd.R_putn HO_5.out (t428 : Int) (wrap64 ((rd x5_1 t428) + (wrap64 ((wrap64 (((rd_T71 l0 x23_1).f1) - ((rd_T71 l0 x23_1).f2))) * ((Qaa t422 x23_1).f2)))))
           rw [← Ny432.out] at HP23
           have HQ23 := Aside0.mk HP23
           clear HP23
           refine start_ (n := 18) (S := fun w' => w'.cell? ⟨gb427, 0, none⟩ = some (.string ((rd_T71 l0 x23_1).f0.f0)) ∧ w'.cell? ⟨gb427, 1, none⟩ = some (.int .i64 ((rd_T71 l0 x23_1).f0.f1)) ∧ w'.cell? ⟨gb427, 2, none⟩ = some (.int .i64 ((rd_T71 l0 x23_1).f0.f2)) ∧ w'.cell? ⟨gb427, 3, none⟩ = some (.int .i64 ((rd_T71 l0 x23_1).f0.f3)) ∧ w'.cell? ⟨gb427, 4, none⟩ = some (.int .i64 ((rd_T71 l0 x23_1).f1)) ∧ w'.cell? ⟨gb427, 5, none⟩ = some (.int .i64 ((rd_T71 l0 x23_1).f2)) ∧ w'.cell? ⟨go19, (t428).toNat, none⟩ = some (.int .i64 (rd x5_1 t428)) ∧ w'.cell? (ad431.add ((x23_1).toNat * 6)) = some (.string ((Qaa t422 x23_1).f0.f0)) ∧ w'.cell? ⟨(ad431.add ((x23_1).toNat * 6)).block, (ad431.add ((x23_1).toNat * 6)).off + 1, none⟩ = some (.int .i64 ((Qaa t422 x23_1).f0.f1)) ∧ w'.cell? ⟨(ad431.add ((x23_1).toNat * 6)).block, (ad431.add ((x23_1).toNat * 6)).off + 2, none⟩ = some (.int .i64 ((Qaa t422 x23_1).f0.f2)) ∧ w'.cell? ⟨(ad431.add ((x23_1).toNat * 6)).block, (ad431.add ((x23_1).toNat * 6)).off + 3, none⟩ = some (.int .i64 ((Qaa t422 x23_1).f0.f3)) ∧ w'.cell? ⟨(ad431.add ((x23_1).toNat * 6)).block, (ad431.add ((x23_1).toNat * 6)).off + 4, none⟩ = some (.slice A431_4 ((Qaa t422 x23_1).f1).length c431_4) ∧ w'.cell? ⟨(ad431.add ((x23_1).toNat * 6)).block, (ad431.add ((x23_1).toNat * 6)).off + 5, none⟩ = some (.int .i64 ((Qaa t422 x23_1).f2))) (ds := [17]) #[F, F, F, F, F, F, F, F, F, F, F, F, F, F, F, F, F, F] (by kernel_rfl) rfl rfl ⟨(Qad BK427.out 0).trans rfl, (Qad BK427.out 1).trans rfl, (Qad BK427.out 2).trans rfl, (Qad BK427.out 3).trans rfl, (Qad BK427.out 4).trans rfl, (Qad BK427.out 5).trans rfl, hx430_0, hx431_0, hx431_1, hx431_2, hx431_3, hx431_4, hx431_5⟩ (fun hHeld => ?_); refine QaP Qay.tab11 Qay.bits11 (fun HT_ HW_ => ?_)
           generalize w12.drew = w20 at HO_4 HO_5 HO_7 BK427 HB GG19 HL431_4 HQ23 HR431_4 hf19_0 hx19_0 hx430_0 hx431_0 hx431_1 hx431_2 hx431_3 hx431_4 hx431_5 hHeld ⊢
           refine Zsp (i := 0) (N := some 49) (pm 18 1) HT_ ?_
           refine Zsp (i := 1) (N := some 50) (pm 18 2) HT_ ?_
           refine Zsp (i := 2) (N := some 51) (pm 18 3) HT_ ?_
           refine Zsp (i := 4) (N := some 53) #[T, T, T, F, T, F, F, F, F, F, F, F, F, F, F, F, F, F] HT_ ?_
           refine Zsp (i := 6) (N := some 55) #[T, T, T, F, T, F, T, F, F, F, F, F, F, F, F, F, F, F] HT_ ?_
           refine Zsp (i := 9) (N := some 58) #[T, T, T, F, T, F, T, F, F, T, F, F, F, F, F, F, F, F] HT_ ?_
           refine Zsp (i := 10) (N := some 59) #[T, T, T, F, T, F, T, F, F, T, T, F, F, F, F, F, F, F] HT_ ?_
           refine Zsp (i := 11) (N := some 60) #[T, T, T, F, T, F, T, F, F, T, T, T, F, F, F, F, F, F] HT_ ?_
           refine Zsp (i := 12) (N := some 61) #[T, T, T, F, T, F, T, F, F, T, T, T, T, F, F, F, F, F] HT_ ?_
           refine Zst (i := 3) (N := some 52) #[T, T, T, T, T, F, T, F, F, T, T, T, T, F, F, F, F, F] HT_ HW_ hHeld ?_ (hy := by (refine Or.inl ⟨by rfl, ?_⟩; rintro w' ⟨s0, s1, s2, s3, s4, s5, s6, s7, s8, s9, s10, s11, s12⟩; go_simp; with_reducible rfl))
           refine Zst (i := 5) (N := some 54) #[T, T, T, T, T, T, T, F, F, T, T, T, T, F, F, F, F, F] HT_ HW_ hHeld ?_ (hy := by (refine Or.inl ⟨by rfl, ?_⟩; rintro w' ⟨s0, s1, s2, s3, s4, s5, s6, s7, s8, s9, s10, s11, s12⟩; go_simp; with_reducible rfl))
           refine Zst (i := 7) (N := some 56) #[T, T, T, T, T, T, T, T, F, T, T, T, T, F, F, F, F, F] HT_ HW_ hHeld ?_ (hy := by (refine Or.inl ⟨by rfl, ?_⟩; rintro w' ⟨s0, s1, s2, s3, s4, s5, s6, s7, s8, s9, s10, s11, s12⟩; go_simp; with_reducible rfl))
           refine Zsp (i := 8) (N := some 57) (pm 18 13) HT_ ?_
           refine Zst (i := 13) (N := some 62) (pm 18 14) HT_ HW_ hHeld ?_ (hy := by (refine Or.inl ⟨by rfl, ?_⟩; rintro w' ⟨s0, s1, s2, s3, s4, s5, s6, s7, s8, s9, s10, s11, s12⟩; go_simp; with_reducible rfl))
           refine Zsp (i := 14) (N := some 63) (pm 18 15) HT_ ?_
           refine Zsp (i := 15) (N := some 64) (pm 18 16) HT_ ?_
           refine Zsp (i := 16) (N := some 65) (pm 18 17) HT_ ?_
           refine last_ (i := 17) (N := none) #[T, T, T, T, T, T, T, T, T, T, T, T, T, T, T, T, T, T] rfl rfl (one_of HT_.out (by kernel_rfl)) (by decide) (fun K hK => ?_)
           refine skip_ (w1 := ?_) (by rfl) rfl ?_ ?_
           rotate_left
           ·go_simp
            rfl
           refine hK.out _ _ ?_
           clear hK K
           refine done_ (QaX HT_.out (by kernel_rfl)) ?_
           try go_wp2
           go_roundg k1
           case measure => have := HK1.out; omega
           case rel => exact ⟨(x4_1), (y432), (wrap64 (x23_1 + 1)), (Zs), H', ⟨by have := HK1.out; omega⟩, ⟨by (with_reducible repeat (first | apply Kd.R_alloc | apply Kd.R_drewN | apply Kd.R_drew)); exact Kd.R_mono (Kd.R_far (p := ⟨go19, (t428 : Int).toNat, none⟩) (Kd.R_mono HO_4.out (fun k_ hk => (⟨hk, fun e_ => hk (by rw [e_]; rfl)⟩ : _ ∧ k_ ≠ go19))) (fun _ hk => hk.2) (.int .i64 (wrap64 ((rd x5_1 t428) + (wrap64 ((wrap64 (((rd_T71 l0 x23_1).f1) - ((rd_T71 l0 x23_1).f2))) * ((Qaa t422 x23_1).f2))))))) (fun _ hk => hk.1)⟩, ⟨by (with_reducible repeat (first | apply Kd.R_alloc | apply Kd.R_drewN | apply Kd.R_drew)); exact HQ23.out⟩, ⟨by (with_reducible repeat (first | apply Kd.N_alloc | apply Kd.N_drewN | apply Kd.N_drew)); exact Kd.N_mono (Kd.N_far (p := ⟨go19, (t428 : Int).toNat, none⟩) (Kd.N_mono HO_7.out (fun k_ hk => (⟨hk, fun e_ => hk.2.1 (by rw [e_]; rfl)⟩ : _ ∧ k_ ≠ go19))) (fun _ hk => hk.2) (.int .i64 (wrap64 ((rd x5_1 t428) + (wrap64 ((wrap64 (((rd_T71 l0 x23_1).f1) - ((rd_T71 l0 x23_1).f2))) * ((Qaa t422 x23_1).f2))))))) (fun _ hk => ⟨hk.1.1, hk.1.2.1⟩)⟩, ⟨by repeat (first | (with_reducible first | exact HB.out | apply Qae | apply Qab | apply Qac | refine Qaj ?_ GB19.out | refine Qaj ?_ GE427.out) | exact HB.out)⟩⟩
          rw [if_neg c18] at H
          exact absurd H (by simp)
         rw [if_neg c17] at H
         exact absurd H (by simp)
        rw [if_neg c16] at H
        exact absurd H (by simp)
       replace c15 := Bool.eq_false_iff.mpr c15
       subst c15
       have H1 : (if insOk x4_1 t428 then (if insOk x5_1 t428 then ((some (insA x5_1 t428 (0) : List Int)).bind fun y436 => (if 0 ≤ t428 then (if t428 < (y436.length : Int) then (if x23_1 < (t422.length : Int) then (Qay.l0 k1 (insA x4_1 t428 ((rd_T71 l0 x23_1).f0.f2)) (y436.set (t428 : Int).toNat (wrap64 ((rd y436 t428) + (wrap64 ((wrap64 (((rd_T71 l0 x23_1).f1) - ((rd_T71 l0 x23_1).f2))) * ((Qaa t422 x23_1).f2)))))) t422 l0 (l0.length : Int) (wrap64 (x23_1 + 1))) else (none)) else (none)) else (none))) else (none)) else (none)) = some (r1, r2, r3) := by rw [if_neg (show ¬ (F = T) by decide)] at H; exact H
       clear H
       have H := H1
       clear H1
       by_cases c24 : insOk x4_1 t428
       ·rw [if_pos c24] at H
        have LMc24 := Aside0.mk c24
        clear c24
        obtain ⟨y433, hy433⟩ : ∃ y_ : List Int, y_ = (insA x4_1 t428 ((rd_T71 l0 x23_1).f0.f2)) := ⟨_, rfl⟩
        replace H : (if insOk x5_1 t428 then ((some (insA x5_1 t428 (0) : List Int)).bind fun y436 => (if 0 ≤ t428 then (if t428 < (y436.length : Int) then (if x23_1 < (t422.length : Int) then (Qay.l0 k1 y433 (y436.set (t428 : Int).toNat (wrap64 ((rd y436 t428) + (wrap64 ((wrap64 (((rd_T71 l0 x23_1).f1) - ((rd_T71 l0 x23_1).f2))) * ((Qaa t422 x23_1).f2)))))) t422 l0 (l0.length : Int) (wrap64 (x23_1 + 1))) else (none)) else (none)) else (none))) else (none)) = some (r1, r2, r3) := by first | (rw [hy433]; with_reducible exact H) | (have H2_ := (Option.bind_some _ _).symm.trans H; rw [hy433]; with_reducible exact H2_) | (have H2_ := (Option.bind_some _ _).symm.trans H; with_reducible exact H2_) | with_reducible exact H | (rw [hy433]; exact H) | exact H
        have Ny433 := Aside0.mk hy433
        clear hy433
        by_cases c25 : insOk x5_1 t428
        ·rw [if_pos c25] at H
         have LMc25 := Aside0.mk c25
         clear c25
         obtain ⟨y436, hy436⟩ : ∃ y_ : List Int, y_ = (insA x5_1 t428 (0)) := ⟨_, rfl⟩
         replace H : (if 0 ≤ t428 then (if t428 < (y436.length : Int) then (if x23_1 < (t422.length : Int) then (Qay.l0 k1 y433 (y436.set (t428 : Int).toNat (wrap64 ((rd y436 t428) + (wrap64 ((wrap64 (((rd_T71 l0 x23_1).f1) - ((rd_T71 l0 x23_1).f2))) * ((Qaa t422 x23_1).f2)))))) t422 l0 (l0.length : Int) (wrap64 (x23_1 + 1))) else (none)) else (none)) else (none)) = some (r1, r2, r3) := by first | (rw [hy436]; with_reducible exact H) | (have H2_ := (Option.bind_some _ _).symm.trans H; rw [hy436]; with_reducible exact H2_) | (have H2_ := (Option.bind_some _ _).symm.trans H; with_reducible exact H2_) | with_reducible exact H | (rw [hy436]; exact H) | exact H
         have Ny436 := Aside0.mk hy436
         clear hy436
         by_cases c26 : 0 ≤ t428
         ·rw [if_pos c26] at H
          have c26b0 : decide (0 ≤ t428) = T := decide_eq_true c26
          clear c26
          by_cases c27 : t428 < (y436.length : Int)
          ·rw [if_pos c27] at H
           have c27b0 : decide (t428 < (y436.length : Int)) = T := decide_eq_true c27
           clear c27
           by_cases c28 : x23_1 < (t422.length : Int)
           ·rw [if_pos c28] at H
            have c28b0 : decide (x23_1 < (t422.length : Int)) = T := decide_eq_true c28
            clear c28
            obtain ⟨y441, hy441⟩ : ∃ y_ : List Int, y_ = (y436.set (t428 : Int).toNat (wrap64 ((rd y436 t428) + (wrap64 ((wrap64 (((rd_T71 l0 x23_1).f1) - ((rd_T71 l0 x23_1).f2))) * ((Qaa t422 x23_1).f2)))))) := ⟨_, rfl⟩
            replace H : (Qay.l0 k1 y433 y441 t422 l0 (l0.length : Int) (wrap64 (x23_1 + 1))) = some (r1, r2, r3) := by first | (rw [hy441]; with_reducible exact H) | (have H2_ := (Option.bind_some _ _).symm.trans H; rw [hy441]; with_reducible exact H2_) | (have H2_ := (Option.bind_some _ _).symm.trans H; with_reducible exact H2_) | with_reducible exact H | (rw [hy441]; exact H) | exact H
            have Ny441 := Aside0.mk hy441
            clear hy441
            have H' := Aside0.mk H
            clear H
            obtain ⟨hcz30_0, hfz30_0⟩ := Zy (v := (.string ((rd_T71 l0 x23_1).f0.f0))) BK427.out 0
            obtain ⟨hcz30_1, hfz30_1⟩ := Zy (v := (.int .i64 ((rd_T71 l0 x23_1).f0.f1))) BK427.out 1
            obtain ⟨hcz30_2, hfz30_2⟩ := Zy (v := (.int .i64 ((rd_T71 l0 x23_1).f0.f2))) BK427.out 2
            obtain ⟨hcz30_3, hfz30_3⟩ := Zy (v := (.int .i64 ((rd_T71 l0 x23_1).f0.f3))) BK427.out 3
            obtain ⟨hcz30_4, hfz30_4⟩ := Zy (v := (.int .i64 ((rd_T71 l0 x23_1).f1))) BK427.out 4
            obtain ⟨hcz30_5, hfz30_5⟩ := Zy (v := (.int .i64 ((rd_T71 l0 x23_1).f2))) BK427.out 5
            try go_wp2_with (first | (go_at_call 60; refine (Qa3.at_call (w0 := w) (base := w.heap.size) (ok := (fun k_ => some k_ ≠ (u5 : Value).ownBlock)) LMc24.out ?aG ?aF ?aO ?aB ?aS).mono ?_; (case aG => first | rfl | (go_simp; done) | (simp; done)); (case aB => exact (Zc1 GE427.out)); (case aF => exact (fun k_ hk => Kd.fresh' (Kd.R_lt (Zr HO_5.out)) k_ hk)); (case aO => exact (Zr HO_4.out)); (case aS => exact (Qax (Zc1 GE427.out))); rintro e w31 ⟨v434, rfl, ho, hb, hg, hat⟩; rw [← Ny433.out] at ho; have HO435 := Aside0.mk (ho); replace HO_5 := Aside0.mk (Kd.R_after (ok := (fun _ => True)) (by (with_reducible repeat (first | apply Kd.R_alloc | apply Kd.R_drewN | apply Kd.R_drew)); exact Kd.R_mono HO_5.out (fun _ hk => ⟨trivial, hk⟩)) hg hat); replace HO_7 := Aside0.mk (Kd.N_afterv (ok := (fun k_ => some k_ ≠ (u5 : Value).ownBlock ∧ k_ ≠ gb427)) (by (with_reducible repeat (first | apply Kd.N_alloc | apply Kd.N_drewN | apply Kd.N_drew)); exact Kd.N_mono HO_7.out (fun _ hk => ⟨⟨hk.2.1, hk.2.2⟩, hk.1⟩)) hg hat); replace BK427 := Aside0.mk (Qa0 (g := gb427) (o := .cells #[.string ((rd_T71 l0 x23_1).f0.f0), .int .i64 ((rd_T71 l0 x23_1).f0.f1), .int .i64 ((rd_T71 l0 x23_1).f0.f2), .int .i64 ((rd_T71 l0 x23_1).f0.f3), .int .i64 ((rd_T71 l0 x23_1).f1), .int .i64 ((rd_T71 l0 x23_1).f2)] 71 (0, 0)) (Zu BK427.out) hg (Kd.R_ne HO_4.out BK427.out (by decide))); replace HB := Aside0.mk (hb); clear HO_4; clear ho hb hg hat) | (go_at_call 60; refine (Qa3.at_call (w0 := w) (base := w.heap.size) (ok := (fun k_ => some k_ ≠ (v434 : Value).ownBlock)) LMc25.out ?aG ?aF ?aO ?aB ?aS).mono ?_; (case aG => first | rfl | (go_simp; done) | (simp; done)); (case aB => exact (Zc1 GE427.out)); (case aF => exact (fun k_ hk => Kd.fresh' (Kd.R_lt (Zr HO435.out)) k_ hk)); (case aO => exact (by (with_reducible repeat (first | apply Kd.R_alloc | apply Kd.R_drewN | apply Kd.R_drew)); exact Kd.R_mono HO_5.out (fun _ hk => hk.2))); (case aS => exact (Qax (Zc1 GE427.out))); rintro e w32 ⟨v437, rfl, ho, hb, hg, hat⟩; rw [← Ny436.out] at ho; have HO438 := Aside0.mk (ho); replace HO_7 := Aside0.mk (Kd.N_afterv (ok := (fun k_ => some k_ ≠ (v434 : Value).ownBlock ∧ k_ ≠ gb427)) (by (with_reducible repeat (first | apply Kd.N_alloc | apply Kd.N_drewN | apply Kd.N_drew)); exact Kd.N_mono HO_7.out (fun _ hk => ⟨⟨hk.2, hk.1.2⟩, hk.1.1⟩)) hg hat); replace BK427 := Aside0.mk (Qa0 (g := gb427) (o := .cells #[.string ((rd_T71 l0 x23_1).f0.f0), .int .i64 ((rd_T71 l0 x23_1).f0.f1), .int .i64 ((rd_T71 l0 x23_1).f0.f2), .int .i64 ((rd_T71 l0 x23_1).f0.f3), .int .i64 ((rd_T71 l0 x23_1).f1), .int .i64 ((rd_T71 l0 x23_1).f2)] 71 (0, 0)) (Zu BK427.out) hg (Kd.R_ne HO_5.out BK427.out (by decide))); replace HO435 := Aside0.mk (Kd.R_after (ok := (fun _ => True)) (by (with_reducible repeat (first | apply Kd.R_alloc | apply Kd.R_drewN | apply Kd.R_drew)); exact Kd.R_mono HO435.out (fun _ hk => ⟨trivial, hk⟩)) hg hat); replace HB := Aside0.mk (hb); clear HO_5; clear ho hb hg hat))
            (try (rw [QbR w32]; generalize hq_ : World.drewN w32 _ = w32; have n0_ : Aside0 (Kd.R (Kd.int .i64) 3 w32 w.heap.size (fun k_ => some k_ ≠ (v437 : Value).ownBlock) v434 y433) := ⟨by rw [← hq_]; exact (by (with_reducible repeat (first | apply Kd.R_alloc | apply Kd.R_drewN | apply Kd.R_drew)); exact Kd.R_mono HO435.out (fun _ hk => hk.2))⟩; have n1_ : Aside0 (Kd.R (Kd.int .i64) 3 w32 w.heap.size (fun k_ => some k_ ≠ (v434 : Value).ownBlock) v437 y436) := ⟨by rw [← hq_]; exact (Zr HO438.out)⟩; have n2_ : Aside0 (Kd.N k128 128 w32 w.heap.size (fun k_ => some k_ ≠ (v434 : Value).ownBlock ∧ some k_ ≠ (v437 : Value).ownBlock ∧ k_ ≠ gb427) v423 t422) := ⟨by rw [← hq_]; exact (by (with_reducible repeat (first | apply Kd.N_alloc | apply Kd.N_drewN | apply Kd.N_drew)); exact Kd.N_mono HO_7.out (fun _ hk => ⟨hk.1.1, ⟨hk.2, hk.1.2⟩⟩))⟩; have n3_ : Aside0 (w32.heap[gb427]? = some (.cells #[.string ((rd_T71 l0 x23_1).f0.f0), .int .i64 ((rd_T71 l0 x23_1).f0.f1), .int .i64 ((rd_T71 l0 x23_1).f0.f2), .int .i64 ((rd_T71 l0 x23_1).f0.f3), .int .i64 ((rd_T71 l0 x23_1).f1), .int .i64 ((rd_T71 l0 x23_1).f2)] 71 (0, 0))) := ⟨by rw [← hq_]; exact (Zu BK427.out)⟩; have n4_ : Aside0 (Below w.heap.size w w32) := ⟨by rw [← hq_]; exact (Zc1 GE427.out)⟩; clear HO435 HO438 HO_7 BK427 HB hq_; have HO435 := n0_; have HO438 := n1_; have HO_7 := n2_; have BK427 := n3_; have HB := n4_; clear n0_ n1_ n2_ n3_ n4_))
            replace HO_7 := Aside0.mk (Kd.N_drew HO_7.out)
            replace HO435 := Aside0.mk (Kd.R_drew HO435.out)
            replace HO438 := Aside0.mk (Kd.R_drew HO438.out)
            replace BK427 := Aside0.mk (Qai BK427.out)
            replace HB := Aside0.mk (Qac HB.out)
            obtain ⟨Ao34, co34, eo34⟩ := Kd.R_slice HO438.out
            (first | subst eo34 | (injection eo34 with f1_ f2_ f3_; have f4_ := f1_.symm; have f5_ := f3_.symm; clear f1_ f2_ f3_; subst f4_; subst f5_))
            have p439 : 0 ≤ (t428 : Int) := Ze
            have q439 : t428 < (y436.length : Int) := Ze
            obtain ⟨ad439, e439, hx439_0⟩ := Kd.at_int (Kd.R_reads' HO438.out).2.2 t428 p439 q439
            cases e439
            replace p439 := eq_true p439
            replace q439 := eq_true q439
            obtain ⟨Ao35, co35, eo35⟩ := Kd.N_slice HO_7.out
            (first | subst eo35 | (injection eo35 with f1_ f2_ f3_; have f4_ := f1_.symm; have f5_ := f3_.symm; clear f1_ f2_ f3_; subst f4_; subst f5_))
            have p440 : 0 ≤ (x23_1 : Int) := Ze
            have q440 : x23_1 < (t422.length : Int) := Ze
            obtain ⟨ad440, A440_4, c440_4, e440, hx440_0, hx440_1, hx440_2, hx440_3, hx440_4, hx440_5, hl440_4, hi440_4⟩ := QbO (Kd.N_reads' HO_7.out).2.2 x23_1 p440 q440
            cases e440
            obtain ⟨ce440, hce440, hMe440, hcc440⟩ := Kd.N_get HO_7.out z128 x23_1 p440 (by first | exact q440 | exact Ze | (have e_ := (Kd.N_reads' HO_7.out).1; omega))
            obtain ⟨ua440_4, uc440_4, rfl, ul440_4, ge440_4⟩ := QbZ hMe440
            have hv440_4 := hcc440 4 _ rfl
            rw [Qbd _ _ 4 (by omega)] at hv440_4
            replace hv440_4 := Option.some.inj (hv440_4.symm.trans hx440_4)
            injection hv440_4 with hva_ hvn_ hvc_
            rw [hva_] at ge440_4
            rw [hvc_] at ul440_4
            have HL440_4 := Aside0.mk (show Kd.V (Kd.int .i64) 3 _ w.heap.size _ _ ((Qaa t422 x23_1).f1) from Kd.V_mk ul440_4 ge440_4)
            clear hva_ hvn_ hvc_ ge440_4 ul440_4
            clear hcc440 hce440
            have HR440_4 := Aside0.mk hi440_4
            have HC440_4 := Aside0.mk hl440_4
            clear hi440_4 hl440_4
            replace p440 := eq_true p440
            replace q440 := eq_true q440
            have p29 : 0 ≤ (t428 : Int) := Ze
            have q29 : (t428 : Int) < ((y436.length : Int) : Int) := Ze
            obtain ⟨go29, co29, eo29, gb29, gl29, cl29, HG29⟩ := Kd.R_form HO438.out (by omega)
            (first | cases eo29 | (injection eo29 with ea_ en_ ec_; (first | subst ea_ | (injection ea_ with ea_; subst ea_)); subst ec_; clear en_))
            have GB29 := Aside0.mk gb29
            have GG29 := Aside0.mk HG29
            clear gb29 gl29 HG29
            (first | simp only [Qa4] at hx439_0 | skip)
            obtain ⟨hx29_0, hf29_0⟩ := Kd.R_celln 0 HO438.out (t428 : Int) p29 q29
            replace p29 := eq_true p29
            replace q29 := eq_true q29
            have HP36 := Kd.R_putn HO438.out (t428 : Int) (wrap64 ((rd y436 t428) + (wrap64 ((wrap64 (((rd_T71 l0 x23_1).f1) - ((rd_T71 l0 x23_1).f2))) * ((Qaa t422 x23_1).f2)))))
            rw [← Ny441.out] at HP36
            have HQ36 := Aside0.mk HP36
            clear HP36
            refine start_ (n := 18) (S := fun w' => w'.cell? ⟨gb427, 0, none⟩ = some (.string ((rd_T71 l0 x23_1).f0.f0)) ∧ w'.cell? ⟨gb427, 1, none⟩ = some (.int .i64 ((rd_T71 l0 x23_1).f0.f1)) ∧ w'.cell? ⟨gb427, 2, none⟩ = some (.int .i64 ((rd_T71 l0 x23_1).f0.f2)) ∧ w'.cell? ⟨gb427, 3, none⟩ = some (.int .i64 ((rd_T71 l0 x23_1).f0.f3)) ∧ w'.cell? ⟨gb427, 4, none⟩ = some (.int .i64 ((rd_T71 l0 x23_1).f1)) ∧ w'.cell? ⟨gb427, 5, none⟩ = some (.int .i64 ((rd_T71 l0 x23_1).f2)) ∧ w'.cell? ⟨go29, (t428).toNat, none⟩ = some (.int .i64 (rd y436 t428)) ∧ w'.cell? (ad440.add ((x23_1).toNat * 6)) = some (.string ((Qaa t422 x23_1).f0.f0)) ∧ w'.cell? ⟨(ad440.add ((x23_1).toNat * 6)).block, (ad440.add ((x23_1).toNat * 6)).off + 1, none⟩ = some (.int .i64 ((Qaa t422 x23_1).f0.f1)) ∧ w'.cell? ⟨(ad440.add ((x23_1).toNat * 6)).block, (ad440.add ((x23_1).toNat * 6)).off + 2, none⟩ = some (.int .i64 ((Qaa t422 x23_1).f0.f2)) ∧ w'.cell? ⟨(ad440.add ((x23_1).toNat * 6)).block, (ad440.add ((x23_1).toNat * 6)).off + 3, none⟩ = some (.int .i64 ((Qaa t422 x23_1).f0.f3)) ∧ w'.cell? ⟨(ad440.add ((x23_1).toNat * 6)).block, (ad440.add ((x23_1).toNat * 6)).off + 4, none⟩ = some (.slice A440_4 ((Qaa t422 x23_1).f1).length c440_4) ∧ w'.cell? ⟨(ad440.add ((x23_1).toNat * 6)).block, (ad440.add ((x23_1).toNat * 6)).off + 5, none⟩ = some (.int .i64 ((Qaa t422 x23_1).f2))) (ds := [17]) #[F, F, F, F, F, F, F, F, F, F, F, F, F, F, F, F, F, F] (by kernel_rfl) rfl rfl ⟨(Qad BK427.out 0).trans rfl, (Qad BK427.out 1).trans rfl, (Qad BK427.out 2).trans rfl, (Qad BK427.out 3).trans rfl, (Qad BK427.out 4).trans rfl, (Qad BK427.out 5).trans rfl, hx439_0, hx440_0, hx440_1, hx440_2, hx440_3, hx440_4, hx440_5⟩ (fun hHeld => ?_); refine QaP Qay.tab11 Qay.bits11 (fun HT_ HW_ => ?_)
            generalize w32.drew = w33 at HO_7 HO435 HO438 BK427 HB GG29 HL440_4 HQ36 HR440_4 hf29_0 hx29_0 hx439_0 hx440_0 hx440_1 hx440_2 hx440_3 hx440_4 hx440_5 hHeld ⊢
            refine Zsp (i := 0) (N := some 49) (pm 18 1) HT_ ?_
            refine Zsp (i := 1) (N := some 50) (pm 18 2) HT_ ?_
            refine Zsp (i := 2) (N := some 51) (pm 18 3) HT_ ?_
            refine Zsp (i := 4) (N := some 53) #[T, T, T, F, T, F, F, F, F, F, F, F, F, F, F, F, F, F] HT_ ?_
            refine Zsp (i := 6) (N := some 55) #[T, T, T, F, T, F, T, F, F, F, F, F, F, F, F, F, F, F] HT_ ?_
            refine Zsp (i := 9) (N := some 58) #[T, T, T, F, T, F, T, F, F, T, F, F, F, F, F, F, F, F] HT_ ?_
            refine Zsp (i := 10) (N := some 59) #[T, T, T, F, T, F, T, F, F, T, T, F, F, F, F, F, F, F] HT_ ?_
            refine Zsp (i := 11) (N := some 60) #[T, T, T, F, T, F, T, F, F, T, T, T, F, F, F, F, F, F] HT_ ?_
            refine Zsp (i := 12) (N := some 61) #[T, T, T, F, T, F, T, F, F, T, T, T, T, F, F, F, F, F] HT_ ?_
            refine Zst (i := 3) (N := some 52) #[T, T, T, T, T, F, T, F, F, T, T, T, T, F, F, F, F, F] HT_ HW_ hHeld ?_ (hy := by (refine Or.inl ⟨by rfl, ?_⟩; rintro w' ⟨s0, s1, s2, s3, s4, s5, s6, s7, s8, s9, s10, s11, s12⟩; go_simp; with_reducible rfl))
            refine Zst (i := 5) (N := some 54) #[T, T, T, T, T, T, T, F, F, T, T, T, T, F, F, F, F, F] HT_ HW_ hHeld ?_ (hy := by (refine Or.inl ⟨by rfl, ?_⟩; rintro w' ⟨s0, s1, s2, s3, s4, s5, s6, s7, s8, s9, s10, s11, s12⟩; go_simp; with_reducible rfl))
            refine Zst (i := 7) (N := some 56) #[T, T, T, T, T, T, T, T, F, T, T, T, T, F, F, F, F, F] HT_ HW_ hHeld ?_ (hy := by (refine Or.inl ⟨by rfl, ?_⟩; rintro w' ⟨s0, s1, s2, s3, s4, s5, s6, s7, s8, s9, s10, s11, s12⟩; go_simp; with_reducible rfl))
            refine Zsp (i := 8) (N := some 57) (pm 18 13) HT_ ?_
            refine Zst (i := 13) (N := some 62) (pm 18 14) HT_ HW_ hHeld ?_ (hy := by (refine Or.inl ⟨by rfl, ?_⟩; rintro w' ⟨s0, s1, s2, s3, s4, s5, s6, s7, s8, s9, s10, s11, s12⟩; go_simp; with_reducible rfl))
            refine Zsp (i := 14) (N := some 63) (pm 18 15) HT_ ?_
            refine Zsp (i := 15) (N := some 64) (pm 18 16) HT_ ?_
            refine Zsp (i := 16) (N := some 65) (pm 18 17) HT_ ?_
            refine last_ (i := 17) (N := none) #[T, T, T, T, T, T, T, T, T, T, T, T, T, T, T, T, T, T] rfl rfl (one_of HT_.out (by kernel_rfl)) (by decide) (fun K hK => ?_)
            refine skip_ (w1 := ?_) (by rfl) rfl ?_ ?_
            rotate_left
            ·go_simp
             rfl
            refine hK.out _ _ ?_
            clear hK K
            refine done_ (QaX HT_.out (by kernel_rfl)) ?_
            try go_wp2
            go_roundg k1
            case measure => have := HK1.out; omega
            case rel => exact ⟨(y433), (y441), (wrap64 (x23_1 + 1)), (Zs), H', ⟨by have := HK1.out; omega⟩, ⟨by (with_reducible repeat (first | apply Kd.R_alloc | apply Kd.R_drewN | apply Kd.R_drew)); exact Kd.R_mono (Kd.R_far (p := ⟨go29, (t428 : Int).toNat, none⟩) (Kd.R_mono HO435.out (fun k_ hk => (⟨hk, fun e_ => hk.2 (by rw [e_]; rfl)⟩ : _ ∧ k_ ≠ go29))) (fun _ hk => hk.2) (.int .i64 (wrap64 ((rd y436 t428) + (wrap64 ((wrap64 (((rd_T71 l0 x23_1).f1) - ((rd_T71 l0 x23_1).f2))) * ((Qaa t422 x23_1).f2))))))) (fun _ hk => hk.1.2)⟩, ⟨by (with_reducible repeat (first | apply Kd.R_alloc | apply Kd.R_drewN | apply Kd.R_drew)); exact HQ36.out⟩, ⟨by (with_reducible repeat (first | apply Kd.N_alloc | apply Kd.N_drewN | apply Kd.N_drew)); exact Kd.N_mono (Kd.N_far (p := ⟨go29, (t428 : Int).toNat, none⟩) (Kd.N_mono HO_7.out (fun k_ hk => (⟨hk, fun e_ => hk.2 (by rw [e_]; rfl)⟩ : _ ∧ k_ ≠ go29))) (fun _ hk => hk.2) (.int .i64 (wrap64 ((rd y436 t428) + (wrap64 ((wrap64 (((rd_T71 l0 x23_1).f1) - ((rd_T71 l0 x23_1).f2))) * ((Qaa t422 x23_1).f2))))))) (fun _ hk => ⟨hk.1.1.1, hk.1.2⟩)⟩, ⟨by repeat (first | (with_reducible first | exact HB.out | apply Qae | apply Qab | apply Qac | refine Qaj ?_ GB29.out | refine Qaj ?_ GE427.out) | exact HB.out)⟩⟩
           rw [if_neg c28] at H
           exact absurd H (by simp)
          rw [if_neg c27] at H
          exact absurd H (by simp)
         rw [if_neg c26] at H
         exact absurd H (by simp)
        rw [if_neg c25] at H
        exact absurd H (by simp)
       rw [if_neg c24] at H
       exact absurd H (by simp)
      rw [if_neg c8] at H
      exact absurd H (by simp)
     rw [if_neg c7] at H
     exact absurd H (by simp)
    rw [if_neg c6] at H
    have c6b0 : decide (x23_1 < (l0.length : Int)) = F := decide_eq_false c6
    clear c6
    (try simp only [c6b0])
    simp only [Option.some.injEq, Prod.mk.injEq] at H
    obtain ⟨rfl, rfl, rfl⟩ := H
    go_wp2
    go_ret3
    exact ⟨_, _, Zq, Zr HO_4.out, Zr HO_5.out, Zb⟩
 rw [if_neg c5] at H
 have c5b0 : (t425 == 0) = F := beq_eq_false_iff_ne.mpr c5
 have c5b1 : (t425 != 0) = T := bne_iff_ne.mpr c5
 (try simp only [c5b0, c5b1])
 simp only [Option.some.injEq, Prod.mk.injEq] at H
 obtain ⟨rfl, rfl, rfl⟩ := H
 go_wp2
 go_ret3
 exact ⟨_, _, Zq, by first | exact Kd.R_nil _ _ _ _ _ | exact Kd.N_nil _ _ _ _ _ | exact Kd.V_nil _ _ _ _ _ | exact Kd.Q_nil _ _ _ _ _ | exact Kd.S_nil _ _ _ _ _, by first | exact Kd.R_nil _ _ _ _ _ | exact Kd.N_nil _ _ _ _ _ | exact Kd.V_nil _ _ _ _ _ | exact Kd.Q_nil _ _ _ _ _ | exact Kd.S_nil _ _ _ _ _, Zb⟩
mutual
def QaF.l0 : Nat → List (S146) → Int → Int → Option (Int)
 | 0, _, _, _ => none
 | k + 1, x8, x9, x10 => if x10 < x9 then (if 0 ≤ x10 then (if x10 < (x8.length : Int) then ((QaW.f ((QaB x8 x10).f0) 0 73048).bind fun t445 => (if t445 = T then ((QaW.f ((QaB x8 x10).f1) 0 73048).bind fun t446 => (if t446 = T then (QaF.j1 k x8 x9 x10 (((QaB x8 x10).f0) == ((QaB x8 x10).f1)) ((QaB x8 x10).f0) ((QaB x8 x10).f1) ((QaB x8 x10).f2)) else (QaF.j1 k x8 x9 x10 T ((QaB x8 x10).f0) ((QaB x8 x10).f1) ((QaB x8 x10).f2)))) else (QaF.j1 k x8 x9 x10 T ((QaB x8 x10).f0) ((QaB x8 x10).f1) ((QaB x8 x10).f2)))) else (none)) else (none)) else (some 0)
def QaF.j1 : Nat → List (S146) → Int → Int → Bool → Int → Int → Int → Option (Int)
 | 0, _, _, _, _, _, _, _ => none
 | k + 1, x8, x9, x10, x14, x445000, x445001, x445002 => if x14 = T then (some 15) else ((QaW.f x445002 0 68719476736).bind fun t447 => (if t447 = T then (QaF.l0 k x8 x9 (wrap64 (x10 + 1))) else (some 2)))
end
def QaF.f (k : Nat) (l0 : List (S146)) : Option (Int) := if (l0.length : Int) > 1024 then (some 8) else (QaF.l0 k l0 (l0.length : Int) 0)
theorem QaF.mono_l : ∀ k, (∀ y0 y1 y2, LeO (QaF.l0 k y0 y1 y2) (QaF.l0 (k + 1) y0 y1 y2)) ∧ (∀ y0 y1 y2 y3 y4 y5 y6, LeO (QaF.j1 k y0 y1 y2 y3 y4 y5 y6) (QaF.j1 (k + 1) y0 y1 y2 y3 y4 y5 y6))
 | 0 => ⟨fun _ _ _ r h => by simp [QaF.l0] at h, fun _ _ _ _ _ _ _ r h => by simp [QaF.j1] at h⟩
 | k + 1 => by
  obtain ⟨ih0, ih1⟩ := QaF.mono_l k
  refine ⟨?_, ?_⟩
  ·intro y0 y1 y2
   unfold QaF.l0
   exact ZM2 ih0 ih1
  intro y0 y1 y2 y3 y4 y5 y6
  unfold QaF.j1
  exact ZM2 ih0 ih1
theorem QaF.mono : ∀ a0 k, LeO (QaF.f k a0) (QaF.f (k + 1) a0) := by
 intro a0 k
 obtain ⟨ih0, ih1⟩ := QaF.mono_l k
 unfold QaF.f
 exact ZM2 ih0 ih1
set_option maxHeartbeats 8000000 in
theorem QaF.calls (k : Nat) (A0 : Option Addr) (c0 : Nat) (l0 : List (S146)) (r : Int) (w : World) (hr0 : Kd.C k146 w A0 l0.length l0) (hc0 : l0.length ≤ c0) (h : QaF.f k l0 = some r) :
  Calls Try.prog 61 #[.slice A0 l0.length c0] w fun e w' => e = .returned (.int .i64 r) ∧ Below w.heap.size w w' := by
 have hu146 := Try.underlying146
 have HR0 := Aside0.mk hr0
 have HC0 := Aside0.mk hc0
 clear hr0 hc0
 have HB := Aside0.mk (Below.refl w.heap.size w)
 have H : (if (l0.length : Int) > 1024 then (some 8) else (QaF.l0 k l0 (l0.length : Int) 0)) = some r := h
 clear h
 by_cases c2 : (l0.length : Int) > 1024
 ·rw [if_pos c2] at H
  have c2b0 : decide (1024 < (l0.length : Int)) = T := decide_eq_true c2
  have c2b1 : decide (1024 < l0.length) = T := decide_eq_true (by omega)
  clear c2
  obtain rfl := Option.some.inj H
  go_enter Try.func61, Try.ntmps61
  go_wp2
  go_ret
  exact ⟨Zq, Zb⟩
 rw [if_neg c2] at H
 have c2b0 : decide (1024 < (l0.length : Int)) = F := decide_eq_false c2
 have c2b1 : decide (1024 < l0.length) = F := decide_eq_false (by omega)
 clear c2
 have H' := Aside0.mk H
 clear H
 go_enter Try.func61, Try.ntmps61
 go_wp2
 go_loopg [10] k (fun kq v10 w' => ∃ (x10_1 : Int), v10 = .int .i64 x10_1 ∧ Aside0 (QaF.l0 kq l0 (l0.length : Int) x10_1 = some r) ∧ Aside0 (kq ≤ k) ∧ Aside0 (Below w.heap.size w w'))
 case atStart => exact ⟨(0), (Zs), H', ⟨Nat.le_refl _⟩, ⟨Zb⟩⟩
 case round =>
  clear H'
  try clear c2
  try clear c2b0
  try clear c2b1
  try clear p2
  obtain ⟨x10_1, rfl, HA, HK1, HB⟩ := hrel
  cases gk with
  | zero => exact absurd HA.out (by simp [QaF.l0])
  | succ k1 =>
   have H := HA.out
   clear HA
   simp only [QaF.l0] at H
   by_cases c3 : x10_1 < (l0.length : Int)
   ·rw [if_pos c3] at H
    have c3b0 : decide (x10_1 < (l0.length : Int)) = T := decide_eq_true c3
    clear c3
    (try simp only [c3b0])
    by_cases c4 : 0 ≤ x10_1
    ·rw [if_pos c4] at H
     have c4b0 : decide (0 ≤ x10_1) = T := decide_eq_true c4
     clear c4
     by_cases c5 : x10_1 < (l0.length : Int)
     ·rw [if_pos c5] at H
      have c5b0 : decide (x10_1 < (l0.length : Int)) = T := decide_eq_true c5
      clear c5
      have HC6 := Aside0.mk H
      clear H
      have p443 : 0 ≤ (x10_1 : Int) := Ze
      have q443 : x10_1 < (l0.length : Int) := Ze
      obtain ⟨ad443, e443, hx443_0, hx443_1, hx443_2⟩ := Qdm HR0.out x10_1 p443 q443
      cases e443
      replace hx443_0 := Zx HB.out hx443_0
      replace hx443_1 := Zx HB.out hx443_1
      replace hx443_2 := Zx HB.out hx443_2
      replace p443 := eq_true p443
      replace q443 := eq_true q443
      go_upto_region 6 with (first | ((with_reducible refine Qa2 (N := 4) rfl ?_); refine Zbx (N := 4) (cs := #[.int .i64 0, .int .i64 0, .int .i64 0]) (t := 146) ?_; intro gb444 hg w7 hbox hb; have BK444 := Aside0.mk (hbox); have GW444 := Aside0.mk (Zt w hg (Zb)); have GE444 := GW444; replace HB := Aside0.mk (Qav (Zb) hb); clear hb hbox hg; obtain ⟨hcz8_0, hfz8_0⟩ := Zy (v := (.int .i64 0)) BK444.out 0; obtain ⟨hcz8_1, hfz8_1⟩ := Zy (v := (.int .i64 0)) BK444.out 1; obtain ⟨hcz8_2, hfz8_2⟩ := Zy (v := (.int .i64 0)) BK444.out 2))
      (try simp only [Act.put, Zj, Zk, Zm])
      go_cut [14] (fun v14 wc => ∃ (kq : Nat) (x14_5 : Bool), v14 = .bool x14_5 ∧ Aside0 (QaF.j1 kq l0 (l0.length : Int) x10_1 x14_5 ((QaB l0 x10_1).f0) ((QaB l0 x10_1).f1) ((QaB l0 x10_1).f2) = some r) ∧ Aside0 (kq ≤ k1) ∧ Aside0 (wc.heap[gb444]? = some (.cells #[.int .i64 ((QaB l0 x10_1).f0), .int .i64 ((QaB l0 x10_1).f1), .int .i64 ((QaB l0 x10_1).f2)] 146 (0, 0))) ∧ Aside0 (Below w.heap.size w wc))
      case first =>
       have H := HC6.out
       clear HC6
       replace H := Option.bind_eq_some_iff.mp H
       obtain ⟨t445, A90, H⟩ := H
       replace H : (if t445 = T then ((QaW.f ((QaB l0 x10_1).f1) 0 73048).bind fun t446 => (if t446 = T then (QaF.j1 k1 l0 (l0.length : Int) x10_1 (((QaB l0 x10_1).f0) == ((QaB l0 x10_1).f1)) ((QaB l0 x10_1).f0) ((QaB l0 x10_1).f1) ((QaB l0 x10_1).f2)) else (QaF.j1 k1 l0 (l0.length : Int) x10_1 T ((QaB l0 x10_1).f0) ((QaB l0 x10_1).f1) ((QaB l0 x10_1).f2)))) else (QaF.j1 k1 l0 (l0.length : Int) x10_1 T ((QaB l0 x10_1).f0) ((QaB l0 x10_1).f1) ((QaB l0 x10_1).f2))) = some r := H
       have A9 := Aside0.mk A90
       clear A90
       by_cases c10 : t445 = T
       ·subst c10
        have H1 : ((QaW.f ((QaB l0 x10_1).f1) 0 73048).bind fun t446 => (if t446 = T then (QaF.j1 k1 l0 (l0.length : Int) x10_1 (((QaB l0 x10_1).f0) == ((QaB l0 x10_1).f1)) ((QaB l0 x10_1).f0) ((QaB l0 x10_1).f1) ((QaB l0 x10_1).f2)) else (QaF.j1 k1 l0 (l0.length : Int) x10_1 T ((QaB l0 x10_1).f0) ((QaB l0 x10_1).f1) ((QaB l0 x10_1).f2)))) = some r := by rw [if_pos rfl] at H; exact H
        clear H
        have H := H1
        clear H1
        replace H := Option.bind_eq_some_iff.mp H
        obtain ⟨t446, A110, H⟩ := H
        replace H : (if t446 = T then (QaF.j1 k1 l0 (l0.length : Int) x10_1 (((QaB l0 x10_1).f0) == ((QaB l0 x10_1).f1)) ((QaB l0 x10_1).f0) ((QaB l0 x10_1).f1) ((QaB l0 x10_1).f2)) else (QaF.j1 k1 l0 (l0.length : Int) x10_1 T ((QaB l0 x10_1).f0) ((QaB l0 x10_1).f1) ((QaB l0 x10_1).f2))) = some r := H
        have A11 := Aside0.mk A110
        clear A110
        by_cases c12 : t446 = T
        ·subst c12
         have H1 : (QaF.j1 k1 l0 (l0.length : Int) x10_1 (((QaB l0 x10_1).f0) == ((QaB l0 x10_1).f1)) ((QaB l0 x10_1).f0) ((QaB l0 x10_1).f1) ((QaB l0 x10_1).f2)) = some r := by rw [if_pos rfl] at H; exact H
         clear H
         have H := H1
         clear H1
         have H' := Aside0.mk H
         clear H
         obtain ⟨hcz13_0, hfz13_0⟩ := Zy (v := (.int .i64 0)) BK444.out 0
         obtain ⟨hcz13_1, hfz13_1⟩ := Zy (v := (.int .i64 0)) BK444.out 1
         obtain ⟨hcz13_2, hfz13_2⟩ := Zy (v := (.int .i64 0)) BK444.out 2
         go_wp2_with (first | ((with_reducible refine QaH (f := 62) rfl ?_); refine goesL_ (some 17) rfl rfl Try.func62 (by kernel_rfl) rfl #[.int .i64 ((QaB l0 x10_1).f0), .int .i64 0, .int .i64 73048] rfl (Zl) ?_; (with_reducible refine (QaW.calls ((QaB l0 x10_1).f0) 0 73048 T _ A9.out).mono ?_); rintro e w' ⟨rfl, ⟨nd, rfl⟩⟩; refine ⟨_, rfl, ?_⟩) | (go_at_call 62; (with_reducible refine (QaW.calls ((QaB l0 x10_1).f1) 0 73048 T _ A11.out).mono ?_); rintro e w' ⟨rfl, ⟨nd, rfl⟩⟩))
         go_meet
         case rel => exact ⟨_, ((((QaB l0 x10_1).f0) == ((QaB l0 x10_1).f1))), (Zs), H', ⟨by have := HK1.out; first | omega | exact Nat.le_refl _⟩, ⟨Zp2 BK444.out⟩, ⟨Zc1 GE444.out⟩⟩
        replace c12 := Bool.eq_false_iff.mpr c12
        subst c12
        have H1 : (QaF.j1 k1 l0 (l0.length : Int) x10_1 T ((QaB l0 x10_1).f0) ((QaB l0 x10_1).f1) ((QaB l0 x10_1).f2)) = some r := by rw [if_neg (show ¬ (F = T) by decide)] at H; exact H
        clear H
        have H := H1
        clear H1
        have H' := Aside0.mk H
        clear H
        obtain ⟨hcz14_0, hfz14_0⟩ := Zy (v := (.int .i64 0)) BK444.out 0
        obtain ⟨hcz14_1, hfz14_1⟩ := Zy (v := (.int .i64 0)) BK444.out 1
        obtain ⟨hcz14_2, hfz14_2⟩ := Zy (v := (.int .i64 0)) BK444.out 2
        go_wp2_with (first | ((with_reducible refine QaH (f := 62) rfl ?_); refine goesL_ (some 17) rfl rfl Try.func62 (by kernel_rfl) rfl #[.int .i64 ((QaB l0 x10_1).f0), .int .i64 0, .int .i64 73048] rfl (Zl) ?_; (with_reducible refine (QaW.calls ((QaB l0 x10_1).f0) 0 73048 T _ A9.out).mono ?_); rintro e w' ⟨rfl, ⟨nd, rfl⟩⟩; refine ⟨_, rfl, ?_⟩) | (go_at_call 62; (with_reducible refine (QaW.calls ((QaB l0 x10_1).f1) 0 73048 F _ A11.out).mono ?_); rintro e w' ⟨rfl, ⟨nd, rfl⟩⟩))
        go_meet
        case rel => exact ⟨_, (T), (Zs), H', ⟨by have := HK1.out; first | omega | exact Nat.le_refl _⟩, ⟨Zp2 BK444.out⟩, ⟨Zc1 GE444.out⟩⟩
       replace c10 := Bool.eq_false_iff.mpr c10
       subst c10
       have H1 : (QaF.j1 k1 l0 (l0.length : Int) x10_1 T ((QaB l0 x10_1).f0) ((QaB l0 x10_1).f1) ((QaB l0 x10_1).f2)) = some r := by rw [if_neg (show ¬ (F = T) by decide)] at H; exact H
       clear H
       have H := H1
       clear H1
       have H' := Aside0.mk H
       clear H
       obtain ⟨hcz15_0, hfz15_0⟩ := Zy (v := (.int .i64 0)) BK444.out 0
       obtain ⟨hcz15_1, hfz15_1⟩ := Zy (v := (.int .i64 0)) BK444.out 1
       obtain ⟨hcz15_2, hfz15_2⟩ := Zy (v := (.int .i64 0)) BK444.out 2
       go_wp2_with (first | ((with_reducible refine QaH (f := 62) rfl ?_); refine goesL_ (some 17) rfl rfl Try.func62 (by kernel_rfl) rfl #[.int .i64 ((QaB l0 x10_1).f0), .int .i64 0, .int .i64 73048] rfl (Zl) ?_; (with_reducible refine (QaW.calls ((QaB l0 x10_1).f0) 0 73048 F _ A9.out).mono ?_); rintro e w' ⟨rfl, ⟨nd, rfl⟩⟩; refine ⟨_, rfl, ?_⟩))
       go_meet
       case rel => exact ⟨_, (T), (Zs), H', ⟨by have := HK1.out; first | omega | exact Nat.le_refl _⟩, ⟨Zp2 BK444.out⟩, ⟨Zc1 GE444.out⟩⟩
      case rest =>
       clear HC6
       try clear c1
       try clear c2
       try clear c2b0
       try clear c2b1
       try clear p2
       try clear c3
       try clear c3b0
       try clear c4
       try clear c4b0
       try clear p4
       try clear q4
       try clear hx4
       try clear c5
       try clear c5b0
       try clear c6
       try clear c10
       try clear c12
       try clear hcz13_0
       try clear hcz13_1
       try clear hcz13_2
       try clear hcz14_0
       try clear hcz14_1
       try clear hcz14_2
       try clear hcz15_0
       try clear hcz15_1
       try clear hcz15_2
       try clear hcz8_0
       try clear hcz8_1
       try clear hcz8_2
       try clear hfz13_0
       try clear hfz13_1
       try clear hfz13_2
       try clear hfz14_0
       try clear hfz14_1
       try clear hfz14_2
       try clear hfz15_0
       try clear hfz15_1
       try clear hfz15_2
       try clear hfz8_0
       try clear hfz8_1
       try clear hfz8_2
       try clear hx443_0
       try clear hx443_1
       try clear hx443_2
       try clear p2
       try clear p443
       try clear q443
       obtain ⟨kq, x14_5, rfl, HA, HJ5, BK444, HB⟩ := hcut
       cases kq with
       | zero => exact absurd HA.out (by simp [QaF.j1])
       | succ kj5 =>
        have H := HA.out
        clear HA
        simp only [QaF.j1] at H
        by_cases c16 : x14_5 = T
        ·subst c16
         have H1 : (some 15) = some r := by rw [if_pos rfl] at H; exact H
         clear H
         have H := H1
         clear H1
         obtain rfl := Option.some.inj H
         go_wp2
         go_ret
         exact ⟨Zq, Zc1 GE444.out⟩
        replace c16 := Bool.eq_false_iff.mpr c16
        subst c16
        have H1 : ((QaW.f ((QaB l0 x10_1).f2) 0 68719476736).bind fun t447 => (if t447 = T then (QaF.l0 kj5 l0 (l0.length : Int) (wrap64 (x10_1 + 1))) else (some 2))) = some r := by rw [if_neg (show ¬ (F = T) by decide)] at H; exact H
        clear H
        have H := H1
        clear H1
        replace H := Option.bind_eq_some_iff.mp H
        obtain ⟨t447, A170, H⟩ := H
        replace H : (if t447 = T then (QaF.l0 kj5 l0 (l0.length : Int) (wrap64 (x10_1 + 1))) else (some 2)) = some r := H
        have A17 := Aside0.mk A170
        clear A170
        obtain ⟨hcz18_0, hfz18_0⟩ := Zy (v := (.int .i64 ((QaB l0 x10_1).f0))) BK444.out 0
        obtain ⟨hcz18_1, hfz18_1⟩ := Zy (v := (.int .i64 ((QaB l0 x10_1).f1))) BK444.out 1
        obtain ⟨hcz18_2, hfz18_2⟩ := Zy (v := (.int .i64 ((QaB l0 x10_1).f2))) BK444.out 2
        go_upto_if 32 with (first | ((with_reducible refine QaH (f := 62) rfl ?_); refine goesL_ (some 35) rfl rfl Try.func62 (by kernel_rfl) rfl #[.int .i64 ((QaB l0 x10_1).f2), .int .i64 0, .int .i64 68719476736] rfl (Zl) ?_; (with_reducible refine (QaW.calls ((QaB l0 x10_1).f2) 0 68719476736 t447 _ A17.out).mono ?_); rintro e w' ⟨rfl, ⟨nd, rfl⟩⟩; refine ⟨_, rfl, ?_⟩))
        (try simp only [Act.put, Zj, Zk, Zm])
        by_cases c19 : t447 = T
        ·subst c19
         have H1 : (QaF.l0 kj5 l0 (l0.length : Int) (wrap64 (x10_1 + 1))) = some r := by rw [if_pos rfl] at H; exact H
         clear H
         have H := H1
         clear H1
         have H' := Aside0.mk H
         clear H
         go_wp2
         go_roundg kj5
         case measure => have := HK1.out; have := HJ5.out; omega
         case rel => exact ⟨(wrap64 (x10_1 + 1)), (Zs), H', ⟨by have := HK1.out; have := HJ5.out; omega⟩, ⟨Zc1 GE444.out⟩⟩
        replace c19 := Bool.eq_false_iff.mpr c19
        subst c19
        have H1 : (some 2) = some r := by rw [if_neg (show ¬ (F = T) by decide)] at H; exact H
        clear H
        have H := H1
        clear H1
        obtain rfl := Option.some.inj H
        go_wp2
        go_ret
        exact ⟨Zq, Zc1 GE444.out⟩
     rw [if_neg c5] at H
     exact absurd H (by simp)
    rw [if_neg c4] at H
    exact absurd H (by simp)
   rw [if_neg c3] at H
   have c3b0 : decide (x10_1 < (l0.length : Int)) = F := decide_eq_false c3
   clear c3
   (try simp only [c3b0])
   obtain rfl := Option.some.inj H
   go_wp2
   go_ret
   exact ⟨Zq, Zb⟩
mutual
def QaE.j0 : Nat → ByteArray → Bool → Option (Bool)
 | 0, _, _ => none
 | k + 1, x0, x16 => if x16 = T then (some F) else (QaE.l0 k x0 (x0.size : Int) 0)
def QaE.l0 : Nat → ByteArray → Int → Int → Option (Bool)
 | 0, _, _, _ => none
 | k + 1, x0, x18, x19 => if x19 < x18 then (if 0 ≤ x19 then (if x19 < (x0.size : Int) then ((Qbs.f (bt x0 x19)).bind fun t492 => (if t492 = T then (QaE.l0 k x0 x18 (wrap64 (x19 + 1))) else ((QbF.f (bt x0 x19)).bind fun t493 => (if t493 = T then (QaE.l0 k x0 x18 (wrap64 (x19 + 1))) else (some F))))) else (none)) else (none)) else (some T)
end
def QaE.f (k : Nat) (a0 : ByteArray) : Option (Bool) := if a0.toList = ([] : List UInt8) then (QaE.j0 k a0 T) else (if (a0.size : Int) > 12 then (QaE.j0 k a0 T) else (if 0 < (a0.size : Int) then ((Qbs.f (bt a0 0)).bind fun t491 => (QaE.j0 k a0 (!t491))) else (none)))
theorem QaE.mono_l : ∀ k, (∀ y0 y1, LeO (QaE.j0 k y0 y1) (QaE.j0 (k + 1) y0 y1)) ∧ (∀ y0 y1 y2, LeO (QaE.l0 k y0 y1 y2) (QaE.l0 (k + 1) y0 y1 y2))
 | 0 => ⟨fun _ _ r h => by simp [QaE.j0] at h, fun _ _ _ r h => by simp [QaE.l0] at h⟩
 | k + 1 => by
  obtain ⟨ih0, ih1⟩ := QaE.mono_l k
  refine ⟨?_, ?_⟩
  ·intro y0 y1
   unfold QaE.j0
   exact ZM2 ih0 ih1
  intro y0 y1 y2
  unfold QaE.l0
  exact ZM2 ih0 ih1
theorem QaE.mono : ∀ a0 k, LeO (QaE.f k a0) (QaE.f (k + 1) a0) := by
 intro a0 k
 obtain ⟨ih0, ih1⟩ := QaE.mono_l k
 unfold QaE.f
 exact ZM2 ih0 ih1
set_option maxHeartbeats 8000000 in
theorem QaE.calls (k : Nat) (a0 : ByteArray) (r : Bool) (w : World) (h : QaE.f k a0 = some r) :
  Calls Try.prog 146 #[.string a0] w fun e w' => e = .returned (.bool r) ∧ Drawn0 w w' := by
 have H : (if a0.toList = ([] : List UInt8) then (QaE.j0 k a0 T) else (if (a0.size : Int) > 12 then (QaE.j0 k a0 T) else (if 0 < (a0.size : Int) then ((Qbs.f (bt a0 0)).bind fun t491 => (QaE.j0 k a0 (!t491))) else (none)))) = some r := h
 clear h
 have HC2 := Aside0.mk H
 clear H
 go_enter Try.func146, Try.ntmps146
 go_upto_region 1 with (fail)
 go_cut [16] (fun v16 wc => ∃ (kq : Nat) (x16_1 : Bool), v16 = .bool x16_1 ∧ Aside0 (QaE.j0 kq a0 x16_1 = some r) ∧ Aside0 (kq ≤ k) ∧ Drawn0 w wc)
 case first =>
  have H := HC2.out
  clear HC2
  by_cases c3 : a0.toList = ([] : List UInt8)
  ·rw [if_pos c3] at H
   have c3b0 : (a0.toList == ([] : List UInt8)) = T := beq_iff_eq.mpr c3
   (try (have c3b3 : (a0.toList.isEmpty) = T := (by have h_ := c3b0; rw [← h_]; simp)))
   have c3b1 : (a0.toList != ([] : List UInt8)) = F := bne_eq_false_iff_eq.mpr c3
   clear c3
   have H' := Aside0.mk H
   clear H
   go_wp2
   go_meet
   case rel => exact ⟨_, (T), (Zs), H', ⟨by first | omega | exact Nat.le_refl _⟩, Zd⟩
  rw [if_neg c3] at H
  have c3b0 : (a0.toList == ([] : List UInt8)) = F := beq_eq_false_iff_ne.mpr c3
  (try (have c3b3 : (a0.toList.isEmpty) = F := (by have h_ := c3b0; rw [← h_]; simp)))
  have c3b1 : (a0.toList != ([] : List UInt8)) = T := bne_iff_ne.mpr c3
  by_cases c4 : (a0.size : Int) > 12
  ·rw [if_pos c4] at H
   have c4b0 : decide (12 < (a0.size : Int)) = T := decide_eq_true c4
   have c4b1 : decide (12 < a0.size) = T := decide_eq_true (by omega)
   clear c4
   have H' := Aside0.mk H
   clear H
   go_wp2
   go_meet
   case rel => exact ⟨_, (T), (Zs), H', ⟨by first | omega | exact Nat.le_refl _⟩, Zd⟩
  rw [if_neg c4] at H
  have c4b0 : decide (12 < (a0.size : Int)) = F := decide_eq_false c4
  have c4b1 : decide (12 < a0.size) = F := decide_eq_false (by omega)
  clear c4
  by_cases c5 : 0 < (a0.size : Int)
  ·rw [if_pos c5] at H
   have c5b0 : decide (0 < (a0.size : Int)) = T := decide_eq_true c5
   have c5b1 : decide (0 < a0.size) = T := decide_eq_true (by omega)
   clear c5
   replace H := Option.bind_eq_some_iff.mp H
   obtain ⟨t491, A70, H⟩ := H
   replace H : (QaE.j0 k a0 (!t491)) = some r := H
   have A7 := Aside0.mk A70
   clear A70
   have H' := Aside0.mk H
   clear H
   have p6 : 0 ≤ (0 : Int) := (by omega)
   have q6 : 0 < a0.size := (by have : (0 : Int) < (a0.size : Int) := Ze; omega)
   have hx6 : ∀ h : 0 < a0.size, ((a0[0]'h).toNat : Int) = bt a0 0 := bt_at a0 0
   clear p6
   have qi6 : (0 < (a0.size : Int)) = True := eq_true (Ze)
   replace q6 := eq_true q6
   go_wp2_with (first | (go_at_call 202; (with_reducible refine (Qbs.calls (bt a0 0) t491 _ A7.out).mono ?_); rintro e w' ⟨rfl, ⟨nd, rfl⟩⟩))
   go_meet
   case rel => exact ⟨_, (!t491), (Zs), H', ⟨by first | omega | exact Nat.le_refl _⟩, Zd⟩
  rw [if_neg c5] at H
  exact absurd H (by simp)
 case rest =>
  clear HC2
  try clear c1
  try clear p2
  try clear c3
  try clear c3b0
  try clear c3b1
  try clear c4
  try clear c4b0
  try clear c4b1
  try clear c5
  try clear c5b0
  try clear c5b1
  try clear p6
  try clear q6
  try clear hx6
  try clear qi6
  try clear p6
  try clear q6
  obtain ⟨kq, x16_1, rfl, HA, HJ1, ⟨mc1, rfl⟩⟩ := hcut
  cases kq with
  | zero => exact absurd HA.out (by simp [QaE.j0])
  | succ kj1 =>
   have H := HA.out
   clear HA
   simp only [QaE.j0] at H
   by_cases c8 : x16_1 = T
   ·subst c8
    have H1 : (some F) = some r := by rw [if_pos rfl] at H; exact H
    clear H
    have H := H1
    clear H1
    obtain rfl := Option.some.inj H
    go_wp2
    go_ret
    exact ⟨Zs, Zd⟩
   replace c8 := Bool.eq_false_iff.mpr c8
   subst c8
   have H1 : (QaE.l0 kj1 a0 (a0.size : Int) 0) = some r := by rw [if_neg (show ¬ (F = T) by decide)] at H; exact H
   clear H
   have H := H1
   clear H1
   have H' := Aside0.mk H
   clear H
   go_wp2
   go_loopg [19] kj1 (fun kq v19 w' => ∃ (x19_2 : Int), v19 = .int .i64 x19_2 ∧ Aside0 (QaE.l0 kq a0 (a0.size : Int) x19_2 = some r) ∧ Aside0 (kq ≤ kj1) ∧ Drawn0 w w')
   case atStart => exact ⟨(0), (Zs), H', ⟨Nat.le_refl _⟩, Zd⟩
   case round =>
    clear H'
    try clear c1
    try clear p2
    try clear c3
    try clear c3b0
    try clear c3b1
    try clear c4
    try clear c4b0
    try clear c4b1
    try clear c5
    try clear c5b0
    try clear c5b1
    try clear p6
    try clear q6
    try clear hx6
    try clear qi6
    try clear c8
    try clear p2
    try clear p6
    try clear q6
    obtain ⟨x19_2, rfl, HA, HK2, ⟨m2, rfl⟩⟩ := hrel
    cases gk with
    | zero => exact absurd HA.out (by simp [QaE.l0])
    | succ k2 =>
     have H := HA.out
     clear HA
     simp only [QaE.l0] at H
     by_cases c9 : x19_2 < (a0.size : Int)
     ·rw [if_pos c9] at H
      have c9b0 : decide (x19_2 < (a0.size : Int)) = T := decide_eq_true c9
      clear c9
      (try simp only [c9b0])
      by_cases c10 : 0 ≤ x19_2
      ·rw [if_pos c10] at H
       have c10b0 : decide (0 ≤ x19_2) = T := decide_eq_true c10
       clear c10
       by_cases c11 : x19_2 < (a0.size : Int)
       ·rw [if_pos c11] at H
        have c11b0 : decide (x19_2 < (a0.size : Int)) = T := decide_eq_true c11
        clear c11
        replace H := Option.bind_eq_some_iff.mp H
        obtain ⟨t492, A130, H⟩ := H
        replace H : (if t492 = T then (QaE.l0 k2 a0 (a0.size : Int) (wrap64 (x19_2 + 1))) else ((QbF.f (bt a0 x19_2)).bind fun t493 => (if t493 = T then (QaE.l0 k2 a0 (a0.size : Int) (wrap64 (x19_2 + 1))) else (some F)))) = some r := H
        have A13 := Aside0.mk A130
        clear A130
        by_cases c14 : t492 = T
        ·subst c14
         have H1 : (QaE.l0 k2 a0 (a0.size : Int) (wrap64 (x19_2 + 1))) = some r := by rw [if_pos rfl] at H; exact H
         clear H
         have H := H1
         clear H1
         have H' := Aside0.mk H
         clear H
         have p12 : 0 ≤ (x19_2 : Int) := Ze
         have q12 : x19_2 < (a0.size : Int) := Ze
         have hx12 := bt_at a0 x19_2
         replace p12 := eq_true p12
         replace q12 := eq_true q12
         go_wp2_with (first | ((with_reducible refine QaH (f := 202) rfl ?_); refine goesL_ (some 25) rfl rfl Try.func202 (by kernel_rfl) rfl #[.int .u8 (bt a0 x19_2)] rfl (Zl) ?_; (with_reducible refine (Qbs.calls (bt a0 x19_2) T _ A13.out).mono ?_); rintro e w' ⟨rfl, ⟨nd, rfl⟩⟩; refine ⟨_, rfl, ?_⟩))
         go_roundg k2
         case measure => have := HJ1.out; have := HK2.out; omega
         case rel => exact ⟨(wrap64 (x19_2 + 1)), (Zs), H', ⟨by have := HJ1.out; have := HK2.out; omega⟩, Zd⟩
        replace c14 := Bool.eq_false_iff.mpr c14
        subst c14
        have H1 : ((QbF.f (bt a0 x19_2)).bind fun t493 => (if t493 = T then (QaE.l0 k2 a0 (a0.size : Int) (wrap64 (x19_2 + 1))) else (some F))) = some r := by rw [if_neg (show ¬ (F = T) by decide)] at H; exact H
        clear H
        have H := H1
        clear H1
        replace H := Option.bind_eq_some_iff.mp H
        obtain ⟨t493, A160, H⟩ := H
        replace H : (if t493 = T then (QaE.l0 k2 a0 (a0.size : Int) (wrap64 (x19_2 + 1))) else (some F)) = some r := H
        have A16 := Aside0.mk A160
        clear A160
        have p12 : 0 ≤ (x19_2 : Int) := Ze
        have q12 : x19_2 < (a0.size : Int) := Ze
        have hx12 := bt_at a0 x19_2
        replace p12 := eq_true p12
        replace q12 := eq_true q12
        go_upto_if 33 with (first | ((with_reducible refine QaH (f := 202) rfl ?_); refine goesL_ (some 25) rfl rfl Try.func202 (by kernel_rfl) rfl #[.int .u8 (bt a0 x19_2)] rfl (Zl) ?_; (with_reducible refine (Qbs.calls (bt a0 x19_2) F _ A13.out).mono ?_); rintro e w' ⟨rfl, ⟨nd, rfl⟩⟩; refine ⟨_, rfl, ?_⟩; have p15 : 0 ≤ (x19_2 : Int) := Ze; have q15 : x19_2 < (a0.size : Int) := Ze; have hx15 := bt_at a0 x19_2; replace p15 := eq_true p15; replace q15 := eq_true q15) | (go_at_call 203; (with_reducible refine (QbF.calls (bt a0 x19_2) t493 _ A16.out).mono ?_); rintro e w' ⟨rfl, ⟨nd, rfl⟩⟩))
        (try simp only [Act.put, Zj, Zk, Zm])
        by_cases c17 : t493 = T
        ·subst c17
         have H1 : (QaE.l0 k2 a0 (a0.size : Int) (wrap64 (x19_2 + 1))) = some r := by rw [if_pos rfl] at H; exact H
         clear H
         have H := H1
         clear H1
         have H' := Aside0.mk H
         clear H
         go_wp2
         go_roundg k2
         case measure => have := HJ1.out; have := HK2.out; omega
         case rel => exact ⟨(wrap64 (x19_2 + 1)), (Zs), H', ⟨by have := HJ1.out; have := HK2.out; omega⟩, Zd⟩
        replace c17 := Bool.eq_false_iff.mpr c17
        subst c17
        have H1 : (some F) = some r := by rw [if_neg (show ¬ (F = T) by decide)] at H; exact H
        clear H
        have H := H1
        clear H1
        obtain rfl := Option.some.inj H
        go_wp2
        go_ret
        exact ⟨Zs, Zd⟩
       rw [if_neg c11] at H
       exact absurd H (by simp)
      rw [if_neg c10] at H
      exact absurd H (by simp)
     rw [if_neg c9] at H
     have c9b0 : decide (x19_2 < (a0.size : Int)) = F := decide_eq_false c9
     clear c9
     (try simp only [c9b0])
     obtain rfl := Option.some.inj H
     go_wp2
     go_ret
     exact ⟨Zs, Zd⟩
mutual
def QaG.l0 : Nat → List (S152) → Int → Int → Option (Int)
 | 0, _, _, _ => none
 | k + 1, x8, x9, x10 => if x10 < x9 then (if 0 ≤ x10 then (if x10 < (x8.length : Int) then ((QaE.f k ((Qan x8 x10).f0)).bind fun t496 => (if t496 = T then ((QaE.f k ((Qan x8 x10).f1)).bind fun t497 => (if t497 = T then (QaG.j1 k x8 x9 x10 (((Qan x8 x10).f0).toList == ((Qan x8 x10).f1).toList) ((Qan x8 x10).f0) ((Qan x8 x10).f1) ((Qan x8 x10).f2) ((Qan x8 x10).f3) ((Qan x8 x10).f4)) else (QaG.j1 k x8 x9 x10 T ((Qan x8 x10).f0) ((Qan x8 x10).f1) ((Qan x8 x10).f2) ((Qan x8 x10).f3) ((Qan x8 x10).f4)))) else (QaG.j1 k x8 x9 x10 T ((Qan x8 x10).f0) ((Qan x8 x10).f1) ((Qan x8 x10).f2) ((Qan x8 x10).f3) ((Qan x8 x10).f4)))) else (none)) else (none)) else (some 0)
def QaG.j1 : Nat → List (S152) → Int → Int → Bool → ByteArray → ByteArray → Int → Int → Int → Option (Int)
 | 0, _, _, _, _, _, _, _, _, _ => none
 | k + 1, x8, x9, x10, x30, x496000, x496001, x496002, x496003, x496004 => if x30 = T then (some 10) else ((Qbf.f x496002).bind fun t498 => (if t498 = T then ((Qbf.f x496003).bind fun t499 => (if t499 = T then (if x496004 < 0 then (some 2) else (if x496004 > 1000 then (some 2) else (QaG.l0 k x8 x9 (wrap64 (x10 + 1))))) else (some 2))) else (some 2)))
end
def QaG.f (k : Nat) (l0 : List (S152)) : Option (Int) := if (l0.length : Int) > 1024 then (some 8) else (QaG.l0 k l0 (l0.length : Int) 0)
theorem QaG.mono_l : ∀ k, (∀ y0 y1 y2, LeO (QaG.l0 k y0 y1 y2) (QaG.l0 (k + 1) y0 y1 y2)) ∧ (∀ y0 y1 y2 y3 y4 y5 y6 y7 y8, LeO (QaG.j1 k y0 y1 y2 y3 y4 y5 y6 y7 y8) (QaG.j1 (k + 1) y0 y1 y2 y3 y4 y5 y6 y7 y8))
 | 0 => ⟨fun _ _ _ r h => by simp [QaG.l0] at h, fun _ _ _ _ _ _ _ _ _ r h => by simp [QaG.j1] at h⟩
 | k + 1 => by
  obtain ⟨ih0, ih1⟩ := QaG.mono_l k
  refine ⟨?_, ?_⟩
  ·intro y0 y1 y2
   unfold QaG.l0
   exact ZM3 ih0 ih1 QaE.mono
  intro y0 y1 y2 y3 y4 y5 y6 y7 y8
  unfold QaG.j1
  exact ZM3 ih0 ih1 QaE.mono
theorem QaG.mono : ∀ a0 k, LeO (QaG.f k a0) (QaG.f (k + 1) a0) := by
 intro a0 k
 obtain ⟨ih0, ih1⟩ := QaG.mono_l k
 unfold QaG.f
 exact ZM3 ih0 ih1 QaE.mono
set_option maxHeartbeats 8000000 in
theorem QaG.calls (k : Nat) (A0 : Option Addr) (c0 : Nat) (l0 : List (S152)) (r : Int) (w : World) (hr0 : Kd.C k152 w A0 l0.length l0) (hc0 : l0.length ≤ c0) (h : QaG.f k l0 = some r) :
  Calls Try.prog 65 #[.slice A0 l0.length c0] w fun e w' => e = .returned (.int .i64 r) ∧ Below w.heap.size w w' := by
 have hu152 := Try.underlying152
 have HR0 := Aside0.mk hr0
 have HC0 := Aside0.mk hc0
 clear hr0 hc0
 have HB := Aside0.mk (Below.refl w.heap.size w)
 have H : (if (l0.length : Int) > 1024 then (some 8) else (QaG.l0 k l0 (l0.length : Int) 0)) = some r := h
 clear h
 by_cases c2 : (l0.length : Int) > 1024
 ·rw [if_pos c2] at H
  have c2b0 : decide (1024 < (l0.length : Int)) = T := decide_eq_true c2
  have c2b1 : decide (1024 < l0.length) = T := decide_eq_true (by omega)
  clear c2
  obtain rfl := Option.some.inj H
  go_enter Try.func65, Try.ntmps65
  go_wp2
  go_ret
  exact ⟨Zq, Zb⟩
 rw [if_neg c2] at H
 have c2b0 : decide (1024 < (l0.length : Int)) = F := decide_eq_false c2
 have c2b1 : decide (1024 < l0.length) = F := decide_eq_false (by omega)
 clear c2
 have H' := Aside0.mk H
 clear H
 go_enter Try.func65, Try.ntmps65
 go_wp2
 go_loopg [10] k (fun kq v10 w' => ∃ (x10_1 : Int), v10 = .int .i64 x10_1 ∧ Aside0 (QaG.l0 kq l0 (l0.length : Int) x10_1 = some r) ∧ Aside0 (kq ≤ k) ∧ Aside0 (Below w.heap.size w w'))
 case atStart => exact ⟨(0), (Zs), H', ⟨Nat.le_refl _⟩, ⟨Zb⟩⟩
 case round =>
  clear H'
  try clear c2
  try clear c2b0
  try clear c2b1
  try clear p2
  obtain ⟨x10_1, rfl, HA, HK1, HB⟩ := hrel
  cases gk with
  | zero => exact absurd HA.out (by simp [QaG.l0])
  | succ k1 =>
   have H := HA.out
   clear HA
   simp only [QaG.l0] at H
   by_cases c3 : x10_1 < (l0.length : Int)
   ·rw [if_pos c3] at H
    have c3b0 : decide (x10_1 < (l0.length : Int)) = T := decide_eq_true c3
    clear c3
    (try simp only [c3b0])
    by_cases c4 : 0 ≤ x10_1
    ·rw [if_pos c4] at H
     have c4b0 : decide (0 ≤ x10_1) = T := decide_eq_true c4
     clear c4
     by_cases c5 : x10_1 < (l0.length : Int)
     ·rw [if_pos c5] at H
      have c5b0 : decide (x10_1 < (l0.length : Int)) = T := decide_eq_true c5
      clear c5
      have HC6 := Aside0.mk H
      clear H
      have p494 : 0 ≤ (x10_1 : Int) := Ze
      have q494 : x10_1 < (l0.length : Int) := Ze
      obtain ⟨ad494, e494, hx494_0, hx494_1, hx494_2, hx494_3, hx494_4⟩ := Qem HR0.out x10_1 p494 q494
      cases e494
      replace hx494_0 := Zx HB.out hx494_0
      replace hx494_1 := Zx HB.out hx494_1
      replace hx494_2 := Zx HB.out hx494_2
      replace hx494_3 := Zx HB.out hx494_3
      replace hx494_4 := Zx HB.out hx494_4
      replace p494 := eq_true p494
      replace q494 := eq_true q494
      go_upto_region 6 with (first | ((with_reducible refine Qa2 (N := 4) rfl ?_); refine Zbx (N := 4) (cs := #[.string (⟨#[]⟩ : ByteArray), .string (⟨#[]⟩ : ByteArray), .int .i64 0, .int .i64 0, .int .i64 0]) (t := 152) ?_; intro gb495 hg w7 hbox hb; have BK495 := Aside0.mk (hbox); have GW495 := Aside0.mk (Zt w hg (Zb)); have GE495 := GW495; replace HB := Aside0.mk (Qav (Zb) hb); clear hb hbox hg; obtain ⟨hcz8_0, hfz8_0⟩ := Zy (v := (.string (⟨#[]⟩ : ByteArray))) BK495.out 0; obtain ⟨hcz8_1, hfz8_1⟩ := Zy (v := (.string (⟨#[]⟩ : ByteArray))) BK495.out 1; obtain ⟨hcz8_2, hfz8_2⟩ := Zy (v := (.int .i64 0)) BK495.out 2; obtain ⟨hcz8_3, hfz8_3⟩ := Zy (v := (.int .i64 0)) BK495.out 3; obtain ⟨hcz8_4, hfz8_4⟩ := Zy (v := (.int .i64 0)) BK495.out 4))
      (try simp only [Act.put, Zj, Zk, Zm])
      go_cut [30] (fun v30 wc => ∃ (kq : Nat) (x30_5 : Bool), v30 = .bool x30_5 ∧ Aside0 (QaG.j1 kq l0 (l0.length : Int) x10_1 x30_5 ((Qan l0 x10_1).f0) ((Qan l0 x10_1).f1) ((Qan l0 x10_1).f2) ((Qan l0 x10_1).f3) ((Qan l0 x10_1).f4) = some r) ∧ Aside0 (kq ≤ k1) ∧ Aside0 (wc.heap[gb495]? = some (.cells #[.string ((Qan l0 x10_1).f0), .string ((Qan l0 x10_1).f1), .int .i64 ((Qan l0 x10_1).f2), .int .i64 ((Qan l0 x10_1).f3), .int .i64 ((Qan l0 x10_1).f4)] 152 (0, 0))) ∧ Aside0 (Below w.heap.size w wc))
      case first =>
       have H := HC6.out
       clear HC6
       replace H := Option.bind_eq_some_iff.mp H
       obtain ⟨t496, A90, H⟩ := H
       replace H : (if t496 = T then ((QaE.f k1 ((Qan l0 x10_1).f1)).bind fun t497 => (if t497 = T then (QaG.j1 k1 l0 (l0.length : Int) x10_1 (((Qan l0 x10_1).f0).toList == ((Qan l0 x10_1).f1).toList) ((Qan l0 x10_1).f0) ((Qan l0 x10_1).f1) ((Qan l0 x10_1).f2) ((Qan l0 x10_1).f3) ((Qan l0 x10_1).f4)) else (QaG.j1 k1 l0 (l0.length : Int) x10_1 T ((Qan l0 x10_1).f0) ((Qan l0 x10_1).f1) ((Qan l0 x10_1).f2) ((Qan l0 x10_1).f3) ((Qan l0 x10_1).f4)))) else (QaG.j1 k1 l0 (l0.length : Int) x10_1 T ((Qan l0 x10_1).f0) ((Qan l0 x10_1).f1) ((Qan l0 x10_1).f2) ((Qan l0 x10_1).f3) ((Qan l0 x10_1).f4))) = some r := H
       have A9 := Aside0.mk A90
       clear A90
       by_cases c10 : t496 = T
       ·subst c10
        have H1 : ((QaE.f k1 ((Qan l0 x10_1).f1)).bind fun t497 => (if t497 = T then (QaG.j1 k1 l0 (l0.length : Int) x10_1 (((Qan l0 x10_1).f0).toList == ((Qan l0 x10_1).f1).toList) ((Qan l0 x10_1).f0) ((Qan l0 x10_1).f1) ((Qan l0 x10_1).f2) ((Qan l0 x10_1).f3) ((Qan l0 x10_1).f4)) else (QaG.j1 k1 l0 (l0.length : Int) x10_1 T ((Qan l0 x10_1).f0) ((Qan l0 x10_1).f1) ((Qan l0 x10_1).f2) ((Qan l0 x10_1).f3) ((Qan l0 x10_1).f4)))) = some r := by rw [if_pos rfl] at H; exact H
        clear H
        have H := H1
        clear H1
        replace H := Option.bind_eq_some_iff.mp H
        obtain ⟨t497, A110, H⟩ := H
        replace H : (if t497 = T then (QaG.j1 k1 l0 (l0.length : Int) x10_1 (((Qan l0 x10_1).f0).toList == ((Qan l0 x10_1).f1).toList) ((Qan l0 x10_1).f0) ((Qan l0 x10_1).f1) ((Qan l0 x10_1).f2) ((Qan l0 x10_1).f3) ((Qan l0 x10_1).f4)) else (QaG.j1 k1 l0 (l0.length : Int) x10_1 T ((Qan l0 x10_1).f0) ((Qan l0 x10_1).f1) ((Qan l0 x10_1).f2) ((Qan l0 x10_1).f3) ((Qan l0 x10_1).f4))) = some r := H
        have A11 := Aside0.mk A110
        clear A110
        by_cases c12 : t497 = T
        ·subst c12
         have H1 : (QaG.j1 k1 l0 (l0.length : Int) x10_1 (((Qan l0 x10_1).f0).toList == ((Qan l0 x10_1).f1).toList) ((Qan l0 x10_1).f0) ((Qan l0 x10_1).f1) ((Qan l0 x10_1).f2) ((Qan l0 x10_1).f3) ((Qan l0 x10_1).f4)) = some r := by rw [if_pos rfl] at H; exact H
         clear H
         have H := H1
         clear H1
         have H' := Aside0.mk H
         clear H
         obtain ⟨hcz13_0, hfz13_0⟩ := Zy (v := (.string (⟨#[]⟩ : ByteArray))) BK495.out 0
         obtain ⟨hcz13_1, hfz13_1⟩ := Zy (v := (.string (⟨#[]⟩ : ByteArray))) BK495.out 1
         obtain ⟨hcz13_2, hfz13_2⟩ := Zy (v := (.int .i64 0)) BK495.out 2
         obtain ⟨hcz13_3, hfz13_3⟩ := Zy (v := (.int .i64 0)) BK495.out 3
         obtain ⟨hcz13_4, hfz13_4⟩ := Zy (v := (.int .i64 0)) BK495.out 4
         go_wp2_with (first | ((with_reducible refine QaH (f := 146) rfl ?_); refine goesL_ (some 16) rfl rfl Try.func146 (by kernel_rfl) rfl #[.string ((Qan l0 x10_1).f0)] rfl (Zl) ?_; (with_reducible refine (QaE.calls k1 ((Qan l0 x10_1).f0) T _ A9.out).mono ?_); rintro e w' ⟨rfl, ⟨nd, rfl⟩⟩; refine ⟨_, rfl, ?_⟩) | (go_at_call 146; (with_reducible refine (QaE.calls k1 ((Qan l0 x10_1).f1) T _ A11.out).mono ?_); rintro e w' ⟨rfl, ⟨nd, rfl⟩⟩))
         go_meet
         case rel => exact ⟨_, ((((Qan l0 x10_1).f0).toList == ((Qan l0 x10_1).f1).toList)), (Zs), H', ⟨by have := HK1.out; first | omega | exact Nat.le_refl _⟩, ⟨Zp2 BK495.out⟩, ⟨Zc1 GE495.out⟩⟩
        replace c12 := Bool.eq_false_iff.mpr c12
        subst c12
        have H1 : (QaG.j1 k1 l0 (l0.length : Int) x10_1 T ((Qan l0 x10_1).f0) ((Qan l0 x10_1).f1) ((Qan l0 x10_1).f2) ((Qan l0 x10_1).f3) ((Qan l0 x10_1).f4)) = some r := by rw [if_neg (show ¬ (F = T) by decide)] at H; exact H
        clear H
        have H := H1
        clear H1
        have H' := Aside0.mk H
        clear H
        obtain ⟨hcz14_0, hfz14_0⟩ := Zy (v := (.string (⟨#[]⟩ : ByteArray))) BK495.out 0
        obtain ⟨hcz14_1, hfz14_1⟩ := Zy (v := (.string (⟨#[]⟩ : ByteArray))) BK495.out 1
        obtain ⟨hcz14_2, hfz14_2⟩ := Zy (v := (.int .i64 0)) BK495.out 2
        obtain ⟨hcz14_3, hfz14_3⟩ := Zy (v := (.int .i64 0)) BK495.out 3
        obtain ⟨hcz14_4, hfz14_4⟩ := Zy (v := (.int .i64 0)) BK495.out 4
        go_wp2_with (first | ((with_reducible refine QaH (f := 146) rfl ?_); refine goesL_ (some 16) rfl rfl Try.func146 (by kernel_rfl) rfl #[.string ((Qan l0 x10_1).f0)] rfl (Zl) ?_; (with_reducible refine (QaE.calls k1 ((Qan l0 x10_1).f0) T _ A9.out).mono ?_); rintro e w' ⟨rfl, ⟨nd, rfl⟩⟩; refine ⟨_, rfl, ?_⟩) | (go_at_call 146; (with_reducible refine (QaE.calls k1 ((Qan l0 x10_1).f1) F _ A11.out).mono ?_); rintro e w' ⟨rfl, ⟨nd, rfl⟩⟩))
        go_meet
        case rel => exact ⟨_, (T), (Zs), H', ⟨by have := HK1.out; first | omega | exact Nat.le_refl _⟩, ⟨Zp2 BK495.out⟩, ⟨Zc1 GE495.out⟩⟩
       replace c10 := Bool.eq_false_iff.mpr c10
       subst c10
       have H1 : (QaG.j1 k1 l0 (l0.length : Int) x10_1 T ((Qan l0 x10_1).f0) ((Qan l0 x10_1).f1) ((Qan l0 x10_1).f2) ((Qan l0 x10_1).f3) ((Qan l0 x10_1).f4)) = some r := by rw [if_neg (show ¬ (F = T) by decide)] at H; exact H
       clear H
       have H := H1
       clear H1
       have H' := Aside0.mk H
       clear H
       obtain ⟨hcz15_0, hfz15_0⟩ := Zy (v := (.string (⟨#[]⟩ : ByteArray))) BK495.out 0
       obtain ⟨hcz15_1, hfz15_1⟩ := Zy (v := (.string (⟨#[]⟩ : ByteArray))) BK495.out 1
       obtain ⟨hcz15_2, hfz15_2⟩ := Zy (v := (.int .i64 0)) BK495.out 2
       obtain ⟨hcz15_3, hfz15_3⟩ := Zy (v := (.int .i64 0)) BK495.out 3
       obtain ⟨hcz15_4, hfz15_4⟩ := Zy (v := (.int .i64 0)) BK495.out 4
       go_wp2_with (first | ((with_reducible refine QaH (f := 146) rfl ?_); refine goesL_ (some 16) rfl rfl Try.func146 (by kernel_rfl) rfl #[.string ((Qan l0 x10_1).f0)] rfl (Zl) ?_; (with_reducible refine (QaE.calls k1 ((Qan l0 x10_1).f0) F _ A9.out).mono ?_); rintro e w' ⟨rfl, ⟨nd, rfl⟩⟩; refine ⟨_, rfl, ?_⟩))
       go_meet
       case rel => exact ⟨_, (T), (Zs), H', ⟨by have := HK1.out; first | omega | exact Nat.le_refl _⟩, ⟨Zp2 BK495.out⟩, ⟨Zc1 GE495.out⟩⟩
      case rest =>
       clear HC6
       try clear c1
       try clear c2
       try clear c2b0
       try clear c2b1
       try clear p2
       try clear c3
       try clear c3b0
       try clear c4
       try clear c4b0
       try clear p4
       try clear q4
       try clear hx4
       try clear c5
       try clear c5b0
       try clear c6
       try clear c10
       try clear c12
       try clear c14
       try clear hcz13_0
       try clear hcz13_1
       try clear hcz13_2
       try clear hcz13_3
       try clear hcz13_4
       try clear hcz14_0
       try clear hcz14_1
       try clear hcz14_2
       try clear hcz14_3
       try clear hcz14_4
       try clear hcz15_0
       try clear hcz15_1
       try clear hcz15_2
       try clear hcz15_3
       try clear hcz15_4
       try clear hcz8_0
       try clear hcz8_1
       try clear hcz8_2
       try clear hcz8_3
       try clear hcz8_4
       try clear hfz13_0
       try clear hfz13_1
       try clear hfz13_2
       try clear hfz13_3
       try clear hfz13_4
       try clear hfz14_0
       try clear hfz14_1
       try clear hfz14_2
       try clear hfz14_3
       try clear hfz14_4
       try clear hfz15_0
       try clear hfz15_1
       try clear hfz15_2
       try clear hfz15_3
       try clear hfz15_4
       try clear hfz8_0
       try clear hfz8_1
       try clear hfz8_2
       try clear hfz8_3
       try clear hfz8_4
       try clear hx494_0
       try clear hx494_1
       try clear hx494_2
       try clear hx494_3
       try clear hx494_4
       try clear p2
       try clear p494
       try clear q494
       obtain ⟨kq, x30_5, rfl, HA, HJ5, BK495, HB⟩ := hcut
       cases kq with
       | zero => exact absurd HA.out (by simp [QaG.j1])
       | succ kj5 =>
        have H := HA.out
        clear HA
        simp only [QaG.j1] at H
        by_cases c16 : x30_5 = T
        ·subst c16
         have H1 : (some 10) = some r := by rw [if_pos rfl] at H; exact H
         clear H
         have H := H1
         clear H1
         obtain rfl := Option.some.inj H
         go_wp2
         go_ret
         exact ⟨Zq, Zc1 GE495.out⟩
        replace c16 := Bool.eq_false_iff.mpr c16
        subst c16
        have H1 : ((Qbf.f ((Qan l0 x10_1).f2)).bind fun t498 => (if t498 = T then ((Qbf.f ((Qan l0 x10_1).f3)).bind fun t499 => (if t499 = T then (if ((Qan l0 x10_1).f4) < 0 then (some 2) else (if ((Qan l0 x10_1).f4) > 1000 then (some 2) else (QaG.l0 kj5 l0 (l0.length : Int) (wrap64 (x10_1 + 1))))) else (some 2))) else (some 2))) = some r := by rw [if_neg (show ¬ (F = T) by decide)] at H; exact H
        clear H
        have H := H1
        clear H1
        replace H := Option.bind_eq_some_iff.mp H
        obtain ⟨t498, A170, H⟩ := H
        replace H : (if t498 = T then ((Qbf.f ((Qan l0 x10_1).f3)).bind fun t499 => (if t499 = T then (if ((Qan l0 x10_1).f4) < 0 then (some 2) else (if ((Qan l0 x10_1).f4) > 1000 then (some 2) else (QaG.l0 kj5 l0 (l0.length : Int) (wrap64 (x10_1 + 1))))) else (some 2))) else (some 2)) = some r := H
        have A17 := Aside0.mk A170
        clear A170
        by_cases c18 : t498 = T
        ·subst c18
         have H1 : ((Qbf.f ((Qan l0 x10_1).f3)).bind fun t499 => (if t499 = T then (if ((Qan l0 x10_1).f4) < 0 then (some 2) else (if ((Qan l0 x10_1).f4) > 1000 then (some 2) else (QaG.l0 kj5 l0 (l0.length : Int) (wrap64 (x10_1 + 1))))) else (some 2))) = some r := by rw [if_pos rfl] at H; exact H
         clear H
         have H := H1
         clear H1
         replace H := Option.bind_eq_some_iff.mp H
         obtain ⟨t499, A190, H⟩ := H
         replace H : (if t499 = T then (if ((Qan l0 x10_1).f4) < 0 then (some 2) else (if ((Qan l0 x10_1).f4) > 1000 then (some 2) else (QaG.l0 kj5 l0 (l0.length : Int) (wrap64 (x10_1 + 1))))) else (some 2)) = some r := H
         have A19 := Aside0.mk A190
         clear A190
         by_cases c20 : t499 = T
         ·subst c20
          have H1 : (if ((Qan l0 x10_1).f4) < 0 then (some 2) else (if ((Qan l0 x10_1).f4) > 1000 then (some 2) else (QaG.l0 kj5 l0 (l0.length : Int) (wrap64 (x10_1 + 1))))) = some r := by rw [if_pos rfl] at H; exact H
          clear H
          have H := H1
          clear H1
          by_cases c21 : ((Qan l0 x10_1).f4) < 0
          ·rw [if_pos c21] at H
           have c21b0 : decide (((Qan l0 x10_1).f4) < 0) = T := decide_eq_true c21
           clear c21
           obtain rfl := Option.some.inj H
           obtain ⟨hcz22_0, hfz22_0⟩ := Zy (v := (.string ((Qan l0 x10_1).f0))) BK495.out 0
           obtain ⟨hcz22_1, hfz22_1⟩ := Zy (v := (.string ((Qan l0 x10_1).f1))) BK495.out 1
           obtain ⟨hcz22_2, hfz22_2⟩ := Zy (v := (.int .i64 ((Qan l0 x10_1).f2))) BK495.out 2
           obtain ⟨hcz22_3, hfz22_3⟩ := Zy (v := (.int .i64 ((Qan l0 x10_1).f3))) BK495.out 3
           obtain ⟨hcz22_4, hfz22_4⟩ := Zy (v := (.int .i64 ((Qan l0 x10_1).f4))) BK495.out 4
           go_wp2_with (first | ((with_reducible refine QaH (f := 147) rfl ?_); refine goesL_ (some 33) rfl rfl Try.func147 (by kernel_rfl) rfl #[.int .i64 ((Qan l0 x10_1).f2)] rfl (Zl) ?_; (with_reducible refine (Qbf.calls ((Qan l0 x10_1).f2) T _ A17.out).mono ?_); rintro e w' ⟨rfl, ⟨nd, rfl⟩⟩; refine ⟨_, rfl, ?_⟩) | (go_at_call 147; (with_reducible refine (Qbf.calls ((Qan l0 x10_1).f3) T _ A19.out).mono ?_); rintro e w' ⟨rfl, ⟨nd, rfl⟩⟩))
           go_ret
           exact ⟨Zq, Zc1 GE495.out⟩
          rw [if_neg c21] at H
          have c21b0 : decide (((Qan l0 x10_1).f4) < 0) = F := decide_eq_false c21
          clear c21
          obtain ⟨hcz23_0, hfz23_0⟩ := Zy (v := (.string ((Qan l0 x10_1).f0))) BK495.out 0
          obtain ⟨hcz23_1, hfz23_1⟩ := Zy (v := (.string ((Qan l0 x10_1).f1))) BK495.out 1
          obtain ⟨hcz23_2, hfz23_2⟩ := Zy (v := (.int .i64 ((Qan l0 x10_1).f2))) BK495.out 2
          obtain ⟨hcz23_3, hfz23_3⟩ := Zy (v := (.int .i64 ((Qan l0 x10_1).f3))) BK495.out 3
          obtain ⟨hcz23_4, hfz23_4⟩ := Zy (v := (.int .i64 ((Qan l0 x10_1).f4))) BK495.out 4
          go_upto_if 50 with (first | ((with_reducible refine QaH (f := 147) rfl ?_); refine goesL_ (some 33) rfl rfl Try.func147 (by kernel_rfl) rfl #[.int .i64 ((Qan l0 x10_1).f2)] rfl (Zl) ?_; (with_reducible refine (Qbf.calls ((Qan l0 x10_1).f2) T _ A17.out).mono ?_); rintro e w' ⟨rfl, ⟨nd, rfl⟩⟩; refine ⟨_, rfl, ?_⟩) | (go_at_call 147; (with_reducible refine (Qbf.calls ((Qan l0 x10_1).f3) T _ A19.out).mono ?_); rintro e w' ⟨rfl, ⟨nd, rfl⟩⟩))
          (try simp only [Act.put, Zj, Zk, Zm])
          by_cases c24 : ((Qan l0 x10_1).f4) > 1000
          ·rw [if_pos c24] at H
           have c24b0 : decide (1000 < ((Qan l0 x10_1).f4)) = T := decide_eq_true c24
           clear c24
           (try simp only [c24b0])
           obtain rfl := Option.some.inj H
           go_wp2
           go_ret
           exact ⟨Zq, Zc1 GE495.out⟩
          rw [if_neg c24] at H
          have c24b0 : decide (1000 < ((Qan l0 x10_1).f4)) = F := decide_eq_false c24
          clear c24
          (try simp only [c24b0])
          have H' := Aside0.mk H
          clear H
          go_wp2
          go_roundg kj5
          case measure => have := HK1.out; have := HJ5.out; omega
          case rel => exact ⟨(wrap64 (x10_1 + 1)), (Zs), H', ⟨by have := HK1.out; have := HJ5.out; omega⟩, ⟨Zc1 GE495.out⟩⟩
         replace c20 := Bool.eq_false_iff.mpr c20
         subst c20
         have H1 : (some 2) = some r := by rw [if_neg (show ¬ (F = T) by decide)] at H; exact H
         clear H
         have H := H1
         clear H1
         obtain rfl := Option.some.inj H
         obtain ⟨hcz25_0, hfz25_0⟩ := Zy (v := (.string ((Qan l0 x10_1).f0))) BK495.out 0
         obtain ⟨hcz25_1, hfz25_1⟩ := Zy (v := (.string ((Qan l0 x10_1).f1))) BK495.out 1
         obtain ⟨hcz25_2, hfz25_2⟩ := Zy (v := (.int .i64 ((Qan l0 x10_1).f2))) BK495.out 2
         obtain ⟨hcz25_3, hfz25_3⟩ := Zy (v := (.int .i64 ((Qan l0 x10_1).f3))) BK495.out 3
         obtain ⟨hcz25_4, hfz25_4⟩ := Zy (v := (.int .i64 ((Qan l0 x10_1).f4))) BK495.out 4
         go_wp2_with (first | ((with_reducible refine QaH (f := 147) rfl ?_); refine goesL_ (some 33) rfl rfl Try.func147 (by kernel_rfl) rfl #[.int .i64 ((Qan l0 x10_1).f2)] rfl (Zl) ?_; (with_reducible refine (Qbf.calls ((Qan l0 x10_1).f2) T _ A17.out).mono ?_); rintro e w' ⟨rfl, ⟨nd, rfl⟩⟩; refine ⟨_, rfl, ?_⟩) | (go_at_call 147; (with_reducible refine (Qbf.calls ((Qan l0 x10_1).f3) F _ A19.out).mono ?_); rintro e w' ⟨rfl, ⟨nd, rfl⟩⟩))
         go_ret
         exact ⟨Zq, Zc1 GE495.out⟩
        replace c18 := Bool.eq_false_iff.mpr c18
        subst c18
        have H1 : (some 2) = some r := by rw [if_neg (show ¬ (F = T) by decide)] at H; exact H
        clear H
        have H := H1
        clear H1
        obtain rfl := Option.some.inj H
        obtain ⟨hcz26_0, hfz26_0⟩ := Zy (v := (.string ((Qan l0 x10_1).f0))) BK495.out 0
        obtain ⟨hcz26_1, hfz26_1⟩ := Zy (v := (.string ((Qan l0 x10_1).f1))) BK495.out 1
        obtain ⟨hcz26_2, hfz26_2⟩ := Zy (v := (.int .i64 ((Qan l0 x10_1).f2))) BK495.out 2
        obtain ⟨hcz26_3, hfz26_3⟩ := Zy (v := (.int .i64 ((Qan l0 x10_1).f3))) BK495.out 3
        obtain ⟨hcz26_4, hfz26_4⟩ := Zy (v := (.int .i64 ((Qan l0 x10_1).f4))) BK495.out 4
        go_wp2_with (first | ((with_reducible refine QaH (f := 147) rfl ?_); refine goesL_ (some 33) rfl rfl Try.func147 (by kernel_rfl) rfl #[.int .i64 ((Qan l0 x10_1).f2)] rfl (Zl) ?_; (with_reducible refine (Qbf.calls ((Qan l0 x10_1).f2) F _ A17.out).mono ?_); rintro e w' ⟨rfl, ⟨nd, rfl⟩⟩; refine ⟨_, rfl, ?_⟩))
        go_ret
        exact ⟨Zq, Zc1 GE495.out⟩
     rw [if_neg c5] at H
     exact absurd H (by simp)
    rw [if_neg c4] at H
    exact absurd H (by simp)
   rw [if_neg c3] at H
   have c3b0 : decide (x10_1 < (l0.length : Int)) = F := decide_eq_false c3
   clear c3
   (try simp only [c3b0])
   obtain rfl := Option.some.inj H
   go_wp2
   go_ret
   exact ⟨Zq, Zb⟩
def Qbj.f (a0 a1 : Int) : Option (Int × Int) :=
 if 0 ≤ a0 ∧ a0 ≤ 18446744073709551615 ∧ 0 ≤ a1 ∧ a1 ≤ 18446744073709551615 then some (a0 * a1 / 18446744073709551616, a0 * a1 % 18446744073709551616) else none
theorem QcD (a : Nat) (ha : a < 18446744073709551616) : Go.bits .and .u64 (a : Int) 4294967295 = ((a % 4294967296 : Nat) : Int) := by
 have h := bits_and_u64_nat a 4294967295 ha (by omega)
 have e : a &&& 4294967295 = a % 4294967296 := Nat.and_two_pow_sub_one_eq_mod a 32
 rw [e] at h
 exact h
theorem QfI (a : Nat) : (a : Int) / 4294967296 = ((a / 4294967296 : Nat) : Int) := by omega
theorem QfJ (a b : Nat) : (a : Int) * (b : Int) = ((a * b : Nat) : Int) := (Int.natCast_mul a b).symm
theorem QfH (a b : Nat) : (a : Int) + (b : Int) = ((a + b : Nat) : Int) := (Int.natCast_add a b).symm
theorem QbM (a : Nat) (ha : a < 18446744073709551616) : IntKind.u64.wrap (a : Int) = (a : Int) := by rw [IntKind.wrap_u64]; omega
theorem Qfb (a : Nat) : IntKind.u64.wrap (a : Int) = ((a % 18446744073709551616 : Nat) : Int) := by rw [IntKind.wrap_u64]; omega
set_option maxHeartbeats 1000000 in
theorem Qbj.walk (x y : Nat) (hx : x < 18446744073709551616) (hy : y < 18446744073709551616) (w : World) :
  Calls Try.prog 189 #[.int .u64 x, .int .u64 y] w fun e w' => e = .returned (.tuple #[.int .u64 ((x * y / 18446744073709551616 : Nat) : Int), .int .u64 ((x * y % 18446744073709551616 : Nat) : Int)]) ∧ w' = w := by
 obtain ⟨bd, bt, bw, hhi⟩ := Lib.mul64_hi x y hx hy
 have ba := Lib.half_mul_le (a := x / 4294967296) (b := y / 4294967296) (by omega) (by omega)
 have bb := Lib.half_mul_le (a := x / 4294967296) (b := y % 4294967296) (by omega) (by omega)
 have bc := Lib.half_mul_le (a := x % 4294967296) (b := y / 4294967296) (by omega) (by omega)
 have ba' : x / 4294967296 * (y / 4294967296) < 18446744073709551616 := by omega
 have bb' : x / 4294967296 * (y % 4294967296) < 18446744073709551616 := by omega
 have bc' : x % 4294967296 * (y / 4294967296) < 18446744073709551616 := by omega
 have bh1 : x / 4294967296 * (y / 4294967296) + (x / 4294967296 * (y % 4294967296) + x % 4294967296 * (y % 4294967296) / 4294967296) / 4294967296 < 18446744073709551616 := by omega
 have bh : x / 4294967296 * (y / 4294967296) + (x / 4294967296 * (y % 4294967296) + x % 4294967296 * (y % 4294967296) / 4294967296) / 4294967296 + ((x / 4294967296 * (y % 4294967296) + x % 4294967296 * (y % 4294967296) / 4294967296) % 4294967296 + x % 4294967296 * (y / 4294967296)) / 4294967296 < 18446744073709551616 := by omega
 go_enter Try.func189, Try.ntmps189
 go_wp2
 simp only [QcD x hx, QcD y hy, QfI, QfJ, QfH, QbM _ bd, QbM _ bb', QbM _ bt, QcD _ bt, QbM _ bc', QbM _ bw, QbM _ ba', QbM _ bh1, QbM _ bh, Qfb (x * y)]
 rw [hhi]
 go_ret2
 exact ⟨rfl, rfl⟩
theorem Qbj.calls (a0 a1 r1 r2 : Int) (w : World) (h : Qbj.f a0 a1 = some (r1, r2)) :
  Calls Try.prog 189 #[.int .u64 a0, .int .u64 a1] w fun e w' => e = .returned (.tuple #[.int .u64 r1, .int .u64 r2]) ∧ Drawn0 w w' := by
 unfold Qbj.f at h
 by_cases c : 0 ≤ a0 ∧ a0 ≤ 18446744073709551615 ∧ 0 ≤ a1 ∧ a1 ≤ 18446744073709551615
 ·rw [if_pos c] at h
  obtain ⟨c1, c2, c3, c4⟩ := c
  obtain ⟨x, rfl⟩ := Int.eq_ofNat_of_zero_le c1
  obtain ⟨y, rfl⟩ := Int.eq_ofNat_of_zero_le c3
  have h' := Option.some.inj h
  simp only [Prod.mk.injEq] at h'
  obtain ⟨rfl, rfl⟩ := h'
  refine (Qbj.walk x y (by omega) (by omega) w).mono ?_
  rintro e w' ⟨rfl, rfl⟩
  exact ⟨rfl, Drawn0.refl _⟩
 rw [if_neg c] at h
 cases h
def Qa6.f (a0 : Int) : Option Int := if 0 ≤ a0 ∧ a0 ≤ 18446744073709551615 then some (Lib.bitLen a0.toNat : Int) else none
theorem Qa6.tab (n : Nat) (h : n < Lib.len8tab.size) (hn : n ≤ 255) : ((Lib.len8tab[n]'h).toNat : Int) = (Lib.bitLen n : Int) ∧ Lib.bitLen n ≤ 8 := by
 have e := Lib.len8_of (n : Int) (by omega) (by omega)
 have l := Lib.bitLen_le8' (n : Int) (by omega) (by omega)
 rw [Int.toNat_natCast] at e l
 refine ⟨?_, l⟩
 rw [← e]
 unfold Lib.len8
 rw [Int.toNat_natCast, getElem?_pos Lib.len8tab n h]
 rfl
theorem Qa6.close (x m n k : Nat) (h : n < Lib.len8tab.size) (hn : n ≤ 255) (hx : Lib.bitLen x = k + Lib.bitLen m) (hm : n = m) (hk : k ≤ 56) :
  wrap64 ((k : Int) + wrap64 ((Lib.len8tab[n]'h).toNat : Int)) = (Lib.bitLen x : Int) := by
 obtain ⟨a, b⟩ := Qa6.tab n h hn
 subst hm
 rw [a]
 unfold wrap64
 omega
theorem Qa6.close0 (x n : Nat) (h : n < Lib.len8tab.size) (hn : n ≤ 255) (hm : n = x) :
  wrap64 (wrap64 ((Lib.len8tab[n]'h).toNat : Int)) = (Lib.bitLen x : Int) := by
 obtain ⟨a, b⟩ := Qa6.tab n h hn
 subst hm
 rw [a]
 unfold wrap64
 omega
set_option maxHeartbeats 4000000 in
theorem Qa6.walk (x : Int) (w : World) (h0 : 0 ≤ x) (h1 : x ≤ 18446744073709551615) :
  Calls Try.prog 231 #[.int .u64 x] w fun e w' => e = .returned (.int .i64 (Lib.bitLen x.toNat)) ∧ w' = w := by
 have u9 := Try.underlying9
 have u5 := Try.underlying5
 have u65 := Try.underlying283
 have u3 := Try.underlying3
 have u42 := Try.underlying63
 go_enter Try.func231, Try.ntmps231
 go_wp2
 all_goals (first | (exfalso; have := Lib.len8tab_size; omega) | skip)
 all_goals (go_ret; refine ⟨congrArg Ending.returned (congrArg (Value.int IntKind.i64) ?_), rfl⟩)
 all_goals go_light
 ·exact Qa6.close x.toNat (x.toNat / 72057594037927936) _ 56 _ (by omega) (Lib.bitLen_shift56 x.toNat (by omega) (by omega)) (by omega) (by omega)
 ·exact Qa6.close x.toNat (x.toNat / 281474976710656) _ 48 _ (by omega) (Lib.bitLen_shift48 x.toNat (by omega) (by omega)) (by omega) (by omega)
 ·exact Qa6.close x.toNat (x.toNat / 1099511627776) _ 40 _ (by omega) (Lib.bitLen_shift40 x.toNat (by omega) (by omega)) (by omega) (by omega)
 ·exact Qa6.close x.toNat (x.toNat / 4294967296) _ 32 _ (by omega) (Lib.bitLen_shift32 x.toNat (by omega) (by omega)) (by omega) (by omega)
 ·exact Qa6.close x.toNat (x.toNat / 16777216) _ 24 _ (by omega) (Lib.bitLen_shift24 x.toNat (by omega) (by omega)) (by omega) (by omega)
 ·exact Qa6.close x.toNat (x.toNat / 65536) _ 16 _ (by omega) (Lib.bitLen_shift16 x.toNat (by omega) (by omega)) (by omega) (by omega)
 ·exact Qa6.close x.toNat (x.toNat / 256) _ 8 _ (by omega) (Lib.bitLen_shift8 x.toNat (by omega) (by omega)) (by omega) (by omega)
 exact Qa6.close0 x.toNat _ _ (by omega) rfl
theorem Qa6.calls (a0 r : Int) (w : World) (h : Qa6.f a0 = some r) :
  Calls Try.prog 231 #[.int .u64 a0] w fun e w' => e = .returned (.int .i64 r) ∧ Drawn0 w w' := by
 unfold Qa6.f at h
 by_cases c : 0 ≤ a0 ∧ a0 ≤ 18446744073709551615
 ·rw [if_pos c] at h
  obtain rfl := Option.some.inj h
  refine (Qa6.walk a0 w c.1 c.2).mono ?_
  rintro e w' ⟨rfl, rfl⟩
  exact ⟨rfl, Drawn0.refl _⟩
 rw [if_neg c] at h
 cases h
def Qbg.f (a0 : Int) : Option (Int) := (Qa6.f a0).bind fun t510 => (some (wrap64 (64 - t510)))
set_option maxHeartbeats 8000000 in
theorem Qbg.calls (a0 : Int) (r : Int) (w : World) (h : Qbg.f a0 = some r) :
  Calls Try.prog 220 #[.int .u64 a0] w fun e w' => e = .returned (.int .i64 r) ∧ Drawn0 w w' := by
 have H : ((Qa6.f a0).bind fun t510 => (some (wrap64 (64 - t510)))) = some r := h
 clear h
 replace H := Option.bind_eq_some_iff.mp H
 obtain ⟨t510, A20, H⟩ := H
 replace H : (some (wrap64 (64 - t510))) = some r := H
 have A2 := Aside0.mk A20
 clear A20
 obtain rfl := Option.some.inj H
 go_enter Try.func220, Try.ntmps220
 go_wp2_with (first | ((with_reducible refine QaH (f := 231) rfl ?_); refine goesL_ (some 4) rfl rfl Try.func231 (by kernel_rfl) rfl #[.int .u64 a0] rfl (Zl) ?_; (with_reducible refine (Qa6.calls a0 t510 _ A2.out).mono ?_); rintro e w' ⟨rfl, ⟨nd, rfl⟩⟩; refine ⟨_, rfl, ?_⟩))
 go_ret
 exact ⟨Zs, Zd⟩
def Qba.f (a0 : Int) (a1 : Bool) : Option (Int × Int) := if a0 > 1152921504606846976 then (some (0, 3)) else (if a1 = T then (some (wrap64 (-(wrap64 (a0))), 0)) else (some (wrap64 (a0), 0)))
set_option maxHeartbeats 8000000 in
theorem Qba.calls (a0 : Int) (a1 : Bool) (r1 : Int) (r2 : Int) (w : World) (h : Qba.f a0 a1 = some (r1, r2)) :
  Calls Try.prog 193 #[.int .u64 a0, .bool a1] w fun e w' => e = .returned (.tuple #[.int .i64 r1, .int .i64 r2]) ∧ Drawn0 w w' := by
 have H : (if a0 > 1152921504606846976 then (some (0, 3)) else (if a1 = T then (some (wrap64 (-(wrap64 (a0))), 0)) else (some (wrap64 (a0), 0)))) = some (r1, r2) := h
 clear h
 by_cases c3 : a0 > 1152921504606846976
 ·rw [if_pos c3] at H
  have c3b0 : decide (1152921504606846976 < a0) = T := decide_eq_true c3
  clear c3
  simp only [Option.some.injEq, Prod.mk.injEq] at H
  obtain ⟨rfl, rfl⟩ := H
  go_enter Try.func193, Try.ntmps193
  go_wp2
  go_ret2
  exact ⟨Zs, Zd⟩
 rw [if_neg c3] at H
 have c3b0 : decide (1152921504606846976 < a0) = F := decide_eq_false c3
 clear c3
 by_cases c4 : a1 = T
 ·subst c4
  have H1 : (some (wrap64 (-(wrap64 (a0))), 0)) = some (r1, r2) := by rw [if_pos rfl] at H; exact H
  clear H
  have H := H1
  clear H1
  simp only [Option.some.injEq, Prod.mk.injEq] at H
  obtain ⟨rfl, rfl⟩ := H
  go_enter Try.func193, Try.ntmps193
  go_wp2
  go_ret2
  exact ⟨Zs, Zd⟩
 replace c4 := Bool.eq_false_iff.mpr c4
 subst c4
 have H1 : (some (wrap64 (a0), 0)) = some (r1, r2) := by rw [if_neg (show ¬ (F = T) by decide)] at H; exact H
 clear H
 have H := H1
 clear H1
 simp only [Option.some.injEq, Prod.mk.injEq] at H
 obtain ⟨rfl, rfl⟩ := H
 go_enter Try.func193, Try.ntmps193
 go_wp2
 go_ret2
 exact ⟨Zs, Zd⟩
end Go.Proofs.Ytgnmhfjfefgbfaa.Pr
