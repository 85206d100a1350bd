/- Functions' values and contracts, as the print wrote them. -/
import Derived.Test.YtaembbndjpebhaaQ974P0
namespace Go.Proofs.Ytaembbndjpebhaa.Pr
open Bool renaming true → T
open Bool renaming false → F
open Go.RowKit Go.Proofs.YtaembbndjpebhaaW.PrintWords Go.Proofs.YtaembbndjpebhaaW.PrintLast Go.Proofs.YtaembbndjpebhaaW.PrintMore
attribute [local go_sem] QaN QaP QaT QaU QaK QaL QaO QaQ   -- for this text's walks alone
set_option linter.unusedVariables false
set_option linter.unusedSimpArgs false
set_option maxRecDepth 100000
set_option maxHeartbeats 8000000
def wfI (x : Int) : Prop := -9223372036854775808 ≤ x ∧ x ≤ 9223372036854775807
instance (x : Int) : Decidable (wfI x) := inferInstanceAs (Decidable (_ ∧ _))
theorem wfI.lit {x : Int} (h : wfI x) : (Lit.int .i64 x).wf = T := WalkArith.wf_i64 ⟨h.1, h.2⟩
def QaF.t (k : Nat) (a1 a2 : Int) (f : Int → Int) (x8 : List Int) : Option Int :=
 (Qar.f k x8 a1).bind fun bt =>
  if bt.2 = T then (if wfI a1 then some (f a1) else none)
  else if bt.1 = 0 then (if (0 : Int) < (x8.length : Int) ∧ wfI (rd x8 0) then some (f (rd x8 0)) else none)
  else if bt.1 = (x8.length : Int) then (if 0 ≤ wrap64 (bt.1 - 1) ∧ wrap64 (bt.1 - 1) < (x8.length : Int) ∧ wfI (rd x8 (wrap64 (bt.1 - 1))) then some (f (rd x8 (wrap64 (bt.1 - 1)))) else none)
  else if (0 ≤ wrap64 (bt.1 - 1) ∧ wrap64 (bt.1 - 1) < (x8.length : Int) ∧ wfI (rd x8 (wrap64 (bt.1 - 1)))) ∧ 0 ≤ bt.1 ∧ bt.1 < (x8.length : Int) ∧ wfI (rd x8 bt.1) then
   (QaA.f (wrap64 (wrap64 (f (rd x8 (wrap64 (bt.1 - 1))) * wrap64 (rd x8 bt.1 - rd x8 (wrap64 (bt.1 - 1)))) + wrap64 (wrap64 (f (rd x8 bt.1) - f (rd x8 (wrap64 (bt.1 - 1)))) * wrap64 (a1 - rd x8 (wrap64 (bt.1 - 1)))))) 1 (wrap64 (wrap64 (rd x8 bt.1 - rd x8 (wrap64 (bt.1 - 1))) * a2)) 5).bind fun m => some (wrap64 (m.1 * a2))
  else none
def QaF.l0 : Nat → List S56 → Int → Int → (Int → Int) → Nat → List Int → Int → Option Int
 | 0, _, _, _, _, _, _, _ => none
 | k + 1, l0, a1, a2, f, n, x8, x18 =>
  if x18 < (l0.length : Int) then
   if 0 ≤ x18 then
    if (rd_T56 l0 x18).f2 = T then
     if n < 1000000 ∧ x8.length < 17592186044416 ∧ wfI (rd_T56 l0 x18).f0 ∧ wfI (rd_T56 l0 x18).f1 then
      QaF.l0 k l0 a1 a2 (fun z => if z = (rd_T56 l0 x18).f0 then (rd_T56 l0 x18).f1 else f z) (n + 1) (x8 ++ [(rd_T56 l0 x18).f0]) (wrap64 (x18 + 1))
     else none
    else QaF.l0 k l0 a1 a2 f n x8 (wrap64 (x18 + 1))
   else none
  else QaF.t k a1 a2 f x8
def QaF.f (k : Nat) (l0 : List S56) (a1 a2 : Int) : Option Int := QaF.l0 k l0 a1 a2 (fun _ => 0) 0 [] 0
theorem QaF.mono_t (k : Nat) (a1 a2 : Int) (f : Int → Int) (x8 : List Int) : LeO (QaF.t k a1 a2 f x8) (QaF.t (k + 1) a1 a2 f x8) := by
 unfold QaF.t
 exact LeO.bind (Qar.mono _ _ _) (fun _ => LeO.refl _)
theorem QaF.mono_l : ∀ k, (∀ y0 y1 y2 y3 y4 y5 y6, LeO (QaF.l0 k y0 y1 y2 y3 y4 y5 y6) (QaF.l0 (k + 1) y0 y1 y2 y3 y4 y5 y6))
 | 0 => fun _ _ _ _ _ _ _ r h => by simp [QaF.l0] at h
 | k + 1 => by
  have ih0 := QaF.mono_l k
  intro y0 y1 y2 y3 y4 y5 y6
  unfold QaF.l0
  repeat' first
   | (with_reducible exact ih0 _ _ _ _ _ _ _)
   | (with_reducible exact QaF.mono_t _ _ _ _ _)
   | (with_reducible exact LeO.none _)
   | (with_reducible refine LeO.ite ?_ ?_)
theorem QaF.mono : ∀ a0 a1 a2 k, LeO (QaF.f k a0 a1 a2) (QaF.f (k + 1) a0 a1 a2) := fun a0 a1 a2 k => QaF.mono_l k _ _ _ _ _ _ _
theorem QaF.calls (k : Nat) (A0 : Option Addr) (c0 : Nat) (l0 : List S56) (a1 a2 : Int) (r : Int) (w : World) (hr0 : Kd.C k56 w A0 l0.length l0) (hc0 : l0.length ≤ c0) (h : QaF.f k l0 a1 a2 = some r) :
  Calls Try.prog 58 #[.slice A0 l0.length c0, .int .i64 a1, .int .i64 a2] w fun e w' => e = .returned (.int .i64 r) ∧ Below w.heap.size w w' := by
 have hu56 := Try.underlying56
 have HR0 := Aside0.mk hr0
 have HC0 := Aside0.mk hc0
 clear hr0 hc0
 have HB := Aside0.mk (Below.refl w.heap.size w)
 have H' := Aside0.mk (show QaF.l0 k l0 a1 a2 (fun _ => 0) 0 [] 0 = some r from h)
 clear h
 have hze : ∀ W : World, (zeroValue 3).run Try.prog W = .ok (.int .i64 0) W := fun _ => by kernel_rfl
 have HZ := Aside0.mk hze
 clear hze
 go_enter Try.func58, Try.ntmps58
 go_wp2_with (first | ((with_reducible refine QaJ (N := 15) rfl ?_); refine Qc7 3 3 rfl 119 (N := 15) rfl rfl ?_; intro mb hg w1 hm hb; have MI := Aside0.mk hm; have n0_ := Aside0.mk (Qao HB.out hb); have GM := Aside0.mk (show w.heap.size ≤ mb by rw [hg]; exact Qaq HB.out); clear HB; have HB := n0_; clear n0_ hm hb hg))
 go_loopg [8, 18] k (fun kq v8 v18 w' => ∃ (f : Int → Int) (n : Nat) (x8 : List Int) (x18 : Int), v18 = .int .i64 x18 ∧ Aside0 (QaF.l0 kq l0 a1 a2 f n x8 x18 = some r) ∧ Aside0 (kq ≤ k) ∧ Aside0 (MapI Try.prog 3 3 w' mb n f) ∧ Aside0 (Kd.R (Kd.int .i64) 3 w' w.heap.size (fun _ => True) v8 x8) ∧ Aside0 (Below w.heap.size w w'))
 case atStart => exact ⟨_, _, _, 0, (by first | rfl | (simp; done)), H', ⟨Nat.le_refl _⟩, MI, ⟨Kd.R_nil _ _ _ _ _⟩, HB⟩
 case round =>
  clear H' MI HB
  try clear p2
  obtain ⟨f, n, x8, x18, rfl, HA, HK1, MI, HO, HB⟩ := hrel
  cases gk with
  | zero => exact absurd HA.out (by simp [QaF.l0])
  | succ k1 =>
   have H := HA.out
   clear HA
   simp only [QaF.l0] at H
   by_cases c4 : x18 < (l0.length : Int)
   ·rw [if_pos c4] at H
    have c4b0 : decide (x18 < (l0.length : Int)) = T := decide_eq_true c4
    clear c4
    by_cases c5 : 0 ≤ x18
    ·rw [if_pos c5] at H
     have c5b0 : decide (0 ≤ x18) = T := decide_eq_true c5
     clear c5
     have p1 : 0 ≤ (x18 : Int) := of_decide_eq_true c5b0
     have q1 : x18 < (l0.length : Int) := of_decide_eq_true c4b0
     obtain ⟨ad, e1, hx_0, hx_1, hx_2⟩ := at_T56 HR0.out x18 p1 q1
     cases e1
     replace hx_0 := Zx HB.out hx_0
     replace hx_1 := Zx HB.out hx_1
     replace hx_2 := Zx HB.out hx_2
     replace p1 := eq_true p1
     replace q1 := eq_true q1
     have H' := Aside0.mk H
     clear H
     obtain ⟨pe, he⟩ : ∃ z, z = (rd_T56 l0 x18).f0 := ⟨_, rfl⟩
     obtain ⟨pp, hp⟩ : ∃ z, z = (rd_T56 l0 x18).f1 := ⟨_, rfl⟩
     obtain ⟨pk, hk⟩ : ∃ z, z = (rd_T56 l0 x18).f2 := ⟨_, rfl⟩
     rw [← he] at hx_0 H'
     rw [← hp] at hx_1 H'
     rw [← hk] at hx_2 H'
     clear he hp hk
     go_upto_if 23 with (first | ((with_reducible refine QaJ (N := 10) rfl ?_); refine Zbx (N := 10) (cs := #[.int .i64 0, .int .i64 0, .bool F]) (t := 56) ?_; intro gb hg w8 hbox hb; have n0_ := Aside0.mk (Kd.R_below HO.out hb); have n1_ := Aside0.mk (MI.out.below hb); have n2_ := Aside0.mk (Qao HB.out hb); have BK := Aside0.mk hbox; have GE := Aside0.mk (show w.heap.size ≤ gb by rw [hg]; exact Qaq HB.out); clear HO MI HB; have HO := n0_; have MI := n1_; have HB := n2_; clear n0_ n1_ n2_; clear hb hbox hg; obtain ⟨hcz_0, hfz_0⟩ := Zy (v := (.int .i64 0)) BK.out 0; obtain ⟨hcz_1, hfz_1⟩ := Zy (v := (.int .i64 0)) BK.out 1; obtain ⟨hcz_2, hfz_2⟩ := Zy (v := (.bool F)) BK.out 2))
     have n0_ : Aside0 (Kd.R (Kd.int .i64) 3 (((w8.setCell ⟨gb, 0, none⟩ (.int .i64 pe)).setCell ⟨gb, 1, none⟩ (.int .i64 pp)).setCell ⟨gb, 2, none⟩ (.bool pk)) w.heap.size (fun _ => True) u8 x8) := ⟨Kd.R_mono (Kd.R_far (p := ⟨gb, 2, none⟩) (Kd.R_far (p := ⟨gb, 1, none⟩) (Kd.R_far (p := ⟨gb, 0, none⟩) (Kd.R_types HO.out BK.out (by decide)) (fun _ hk => hk.2) _) (fun _ hk => hk.2) _) (fun _ hk => hk.2) _) (fun _ _ => trivial)⟩
     have NM := Aside0.mk (MI.out.ne_blk BK.out)
     have n1_ : Aside0 (MapI Try.prog 3 3 (((w8.setCell ⟨gb, 0, none⟩ (.int .i64 pe)).setCell ⟨gb, 1, none⟩ (.int .i64 pp)).setCell ⟨gb, 2, none⟩ (.bool pk)) mb n f) := ⟨((MI.out.set (p := ⟨gb, 0, none⟩) NM.out _).set (p := ⟨gb, 1, none⟩) NM.out _).set (p := ⟨gb, 2, none⟩) NM.out _⟩
     have n2_ : Aside0 ((((w8.setCell ⟨gb, 0, none⟩ (.int .i64 pe)).setCell ⟨gb, 1, none⟩ (.int .i64 pp)).setCell ⟨gb, 2, none⟩ (.bool pk)).heap[gb]? = some (.cells #[.int .i64 pe, .int .i64 pp, .bool pk] 56 (0, 0))) := ⟨by refine Qax (cs := #[.int .i64 pe, .int .i64 pp, .bool F]) ?_ 2 _ rfl; refine Qax (cs := #[.int .i64 pe, .int .i64 0, .bool F]) ?_ 1 _ rfl; refine Qax (cs := #[.int .i64 0, .int .i64 0, .bool F]) ?_ 0 _ rfl; exact BK.out⟩
     have n3_ : Aside0 (Below w.heap.size w (((w8.setCell ⟨gb, 0, none⟩ (.int .i64 pe)).setCell ⟨gb, 1, none⟩ (.int .i64 pp)).setCell ⟨gb, 2, none⟩ (.bool pk))) := ⟨Qag (Qag (Qag HB.out GE.out) GE.out) GE.out⟩
     clear HO MI BK HB
     clear hcz_0 hcz_1 hcz_2 hfz_0 hfz_1 hfz_2
     generalize (((w8.setCell ⟨gb, 0, none⟩ (.int .i64 pe)).setCell ⟨gb, 1, none⟩ (.int .i64 pp)).setCell ⟨gb, 2, none⟩ (.bool pk)) = w9 at n0_ n1_ n2_ n3_ ⊢
     have HO := n0_
     have MI := n1_
     have BK := n2_
     have HB := n3_
     clear n0_ n1_ n2_ n3_
     have H := H'.out
     clear H'
     cases pk with
     | true =>
      rw [if_pos rfl] at H
      by_cases c7 : n < 1000000 ∧ x8.length < 17592186044416 ∧ wfI pe ∧ wfI pp
      ·rw [if_pos c7] at H
       have LM := Aside0.mk c7
       clear c7
       have H' := Aside0.mk H
       clear H
       have hcy_0 : w9.cell? ⟨gb, 0, none⟩ = some (.int .i64 pe) := (Qab BK.out 0).trans rfl
       have hcy_1 : w9.cell? ⟨gb, 1, none⟩ = some (.int .i64 pp) := (Qab BK.out 1).trans rfl
       have hfy_0 := Qaa BK.out 0
       have hfy_1 := Qaa BK.out 1
       go_wp2_with (first | (at_mapUpdate; refine Qdc MI.out rfl (.tmp 24) (.tmp 26) (.tmp 28) 119 rfl Try.underlying3 Try.underlying3 Try.underlying119 (by first | rfl | (go_simp; done)) (by have := LM.out.1; unfold maxLen; omega) pe pp (by first | rfl | (go_simp; done)) (by first | rfl | (go_simp; done)) LM.out.2.2.1.lit LM.out.2.2.2.lit ?_; intro w10 hm hg; have n0_ := Aside0.mk (Kd.R_mono (Kd.R_grown (MI.out.apart HO.out) hg (fun k_ hk e => hk.2 (Option.some.inj e))) (fun _ _ => trivial)); have n1_ := Aside0.mk (Qbn BK.out hg (fun e => MI.out.ne_blk BK.out (Option.some.inj e).symm)); have n2_ := Aside0.mk (HB.out.grown hg (Qaq HB.out) (fun j hj => by cases hj; exact GM.out)); clear MI HO BK HB hcy_0 hcy_1 hfy_0 hfy_1; have MI := Aside0.mk hm; have HO := n0_; have BK := n1_; have HB := n2_; clear n0_ n1_ n2_ hm hg; have hcy_0 : w10.cell? ⟨gb, 0, none⟩ = some (.int .i64 pe) := (Qab BK.out 0).trans rfl; have hfy_0 := Qaa BK.out 0) | ((with_reducible refine QbA (b := .append) (xs := #[.tmp 29, .tmp 32]) rfl ?_); at_builtin; refine Kd.R_append (Kd.int .i64) (w0 := w) w.heap.size rfl (.tmp 29) (.tmp 32) 40 3 (.int .i64 0) 8 rfl Try.underlying40 info3 rfl (by decide) (by omega) u8 x8 pe [.int .i64 pe] (fun _ => True) (fun _ => False) rfl (by first | (go_simp; done) | (go_simp; rfl)) ?aP (fun _ hk => hk.elim) ?aF ?aO ?aB ?aS ?aL ?_; (case aP => exact rfl); (case aB => exact (by repeat (first | exact HB.out | apply Qah))); (case aF => exact (fun _ _ => trivial)); (case aO => exact (by (with_reducible repeat (first | apply Kd.R_alloc | apply Kd.R_drewN | apply Kd.R_drew)); exact HO.out)); (case aS => exact (Qaq (by repeat (first | exact HB.out | apply Qah)))); (case aL => have := LM.out.2.1; omega); intro v11 w11 ho hb hg hat; have n0_ := Aside0.mk (MapI.grown (P := Try.prog) (K := 3) (E := 3) (f := _) (by first | exact MI.out | exact MI.out.below (Qah (Below.refl _ _) _)) hg (Kd.R_away (MI.out.apart HO.out) (fun _ hk => hk.2))); clear MI HO HB hcy_0 hfy_0; have MI := n0_; have HO := Aside0.mk ho; have HB := Aside0.mk hb; clear n0_ ho hb hg hat))
       go_roundg k1
       case measure => have := HK1.out; omega
       case rel => exact ⟨_, _, _, (wrap64 (x18 + 1)), (Zs), H', ⟨by have := HK1.out; omega⟩, MI, HO, HB⟩
      rw [if_neg c7] at H
      cases H
     | false =>
      have H1 : QaF.l0 k1 l0 a1 a2 f n x8 (wrap64 (x18 + 1)) = some r := H
      clear H
      have H' := Aside0.mk H1
      clear H1
      go_wp2
      go_roundg k1
      case measure => have := HK1.out; omega
      case rel => exact ⟨f, n, x8, (wrap64 (x18 + 1)), (Zs), H', ⟨by have := HK1.out; omega⟩, MI, HO, HB⟩
    rw [if_neg c5] at H
    cases H
   rw [if_neg c4] at H
   have c4b0 : decide (x18 < (l0.length : Int)) = F := decide_eq_false c4
   clear c4
   unfold QaF.t at H
   replace H := Option.bind_eq_some_iff.1 H
   obtain ⟨⟨b1, b2⟩, A50, H⟩ := H
   have A5 := Aside0.mk A50
   clear A50
   have H' := Aside0.mk H
   clear H
   obtain ⟨Ao, co, eo⟩ := Kd.R_slice HO.out
   subst eo
   have MIs : ∀ (a b : Unit), True := fun _ _ => trivial
   clear MIs
   go_upto_if 41 with (first | (go_at_call 79; refine (Qar.calls k1 _ _ x8 a1 b1 b2 _ (Kd.R_reads' HO.out).2.2 (Kd.R_reads' HO.out).2.1 A5.out).mono ?_; rintro e w12 ⟨rfl, hd⟩; have hb := hd.below; have n0_ := Aside0.mk (MI.out.below hb); have n1_ := Aside0.mk (Kd.R_below HO.out hb); have n2_ := Aside0.mk (Qao HB.out hb); clear MI HO HB hd hb; have MI := n0_; have HO := n1_; have HB := n2_; clear n0_ n1_ n2_))
   have H := H'.out
   clear H'
   cases b2 with
   | true =>
    rw [if_pos rfl] at H
    by_cases c : wfI a1
    ·rw [if_pos c] at H
     obtain rfl := Option.some.inj H
     have WA := Aside0.mk c
     clear c H
     go_wp2_with (first | (at_lookup; refine QbF MI.out rfl (.tmp 43) (.tmp 44) 119 rfl Try.underlying3 Try.underlying3 Try.underlying119 (HZ.out _) (by first | rfl | (go_simp; done)) a1 (by first | rfl | (go_simp; done)) WA.out.lit ?_))
     go_ret
     exact ⟨rfl, HB.out⟩
    rw [if_neg c] at H
    cases H
   | false =>
    rw [if_neg (by decide)] at H
    by_cases c6 : b1 = 0
    ·rw [if_pos c6] at H
     subst c6
     by_cases c : (0 : Int) < (x8.length : Int) ∧ wfI (rd x8 0)
     ·rw [if_pos c] at H
      obtain rfl := Option.some.inj H
      have WA := Aside0.mk c
      clear c H
      obtain ⟨ad, e0, hx⟩ := Kd.at_int (Kd.R_reads' HO.out).2.2 0 (Int.le_refl 0) WA.out.1
      cases e0
      have qi : (0 < x8.length) = True := eq_true (by have := WA.out.1; omega)
      (try rw [show ((0 : Int)).toNat = 0 from rfl] at hx)
      (try rw [Addr.add_zero'] at hx)
      go_wp2_with (first | (at_lookup; refine QbF MI.out rfl (.tmp 49) (.tmp 52) 119 rfl Try.underlying3 Try.underlying3 Try.underlying119 (HZ.out _) (by first | rfl | (go_simp; done)) (rd x8 0) (by first | rfl | (go_simp; done)) WA.out.2.lit ?_))
      go_ret
      exact ⟨rfl, HB.out⟩
     rw [if_neg c] at H
     cases H
    rw [if_neg c6] at H
    have c6b0 : (b1 == 0) = F := beq_eq_false_iff_ne.mpr c6
    clear c6
    by_cases c7 : b1 = (x8.length : Int)
    ·rw [if_pos c7] at H
     have c7b0 : (b1 == (x8.length : Int)) = T := beq_iff_eq.mpr c7
     clear c7
     by_cases c : 0 ≤ wrap64 (b1 - 1) ∧ wrap64 (b1 - 1) < (x8.length : Int) ∧ wfI (rd x8 (wrap64 (b1 - 1)))
     ·rw [if_pos c] at H
      obtain rfl := Option.some.inj H
      have WA := Aside0.mk c
      clear c H
      obtain ⟨ad, e0, hx⟩ := Kd.at_int (Kd.R_reads' HO.out).2.2 (wrap64 (b1 - 1)) WA.out.1 WA.out.2.1
      cases e0
      have p1 := decide_eq_true WA.out.1
      have q1 := decide_eq_true WA.out.2.1
      have p2 := eq_true WA.out.1
      have q2 := eq_true WA.out.2.1
      go_wp2_with (first | (at_lookup; refine QbF MI.out rfl (.tmp 59) (.tmp 64) 119 rfl Try.underlying3 Try.underlying3 Try.underlying119 (HZ.out _) (by first | rfl | (go_simp; done)) (rd x8 (wrap64 (b1 - 1))) (by first | rfl | (go_simp; done)) WA.out.2.2.lit ?_))
      go_ret
      exact ⟨rfl, HB.out⟩
     rw [if_neg c] at H
     cases H
    rw [if_neg c7] at H
    have c7b0 : (b1 == (x8.length : Int)) = F := beq_eq_false_iff_ne.mpr c7
    clear c7
    by_cases c : (0 ≤ wrap64 (b1 - 1) ∧ wrap64 (b1 - 1) < (x8.length : Int) ∧ wfI (rd x8 (wrap64 (b1 - 1)))) ∧ 0 ≤ b1 ∧ b1 < (x8.length : Int) ∧ wfI (rd x8 b1)
    ·rw [if_pos c] at H
     replace H := Option.bind_eq_some_iff.1 H
     obtain ⟨⟨m1, m2⟩, A60, H⟩ := H
     obtain rfl := Option.some.inj H
     have WA := Aside0.mk c
     clear c H
     obtain ⟨ad, e0, hx⟩ := Kd.at_int (Kd.R_reads' HO.out).2.2 (wrap64 (b1 - 1)) WA.out.1.1 WA.out.1.2.1
     cases e0
     obtain ⟨ad', e0, hx'⟩ := Kd.at_int (Kd.R_reads' HO.out).2.2 b1 WA.out.2.1 WA.out.2.2.1
     cases e0
     have p1 := decide_eq_true WA.out.1.1
     have q1 := decide_eq_true WA.out.1.2.1
     have p2 := eq_true WA.out.1.1
     have q2 := eq_true WA.out.1.2.1
     have p3 := decide_eq_true WA.out.2.1
     have q3 := decide_eq_true WA.out.2.2.1
     have p4 := eq_true WA.out.2.1
     have q4 := eq_true WA.out.2.2.1
     have WX := Aside0.mk WA.out.1.2.2
     have WY := Aside0.mk WA.out.2.2.2
     clear WA
     generalize hxa : rd x8 (wrap64 (b1 - 1)) = xa at *
     generalize hxb : rd x8 b1 = xb at *
     clear hxa hxb
     have A6 := Aside0.mk A60
     clear A60
     go_upto_region 18 with (fail)
     repeat (go_quiet (fail); go_upto_region 18 with (fail))
     have n0_ := Aside0.mk (MI.out.drewN nq)
     have n1_ := Aside0.mk (Qaf HB.out nq)
     clear MI HB
     have MI := n0_
     have HB := n1_
     clear n0_ n1_ hx hx'
     go_upto_region 2 with (first | (at_lookup; first | refine QbF MI.out rfl (.tmp 76) (.tmp 77) 119 rfl Try.underlying3 Try.underlying3 Try.underlying119 (HZ.out _) (by first | rfl | (go_simp; done)) xa (by first | rfl | (go_simp; done)) WX.out.lit ?_ | refine QbF MI.out rfl (.tmp 81) (.tmp 82) 119 rfl Try.underlying3 Try.underlying3 Try.underlying119 (HZ.out _) (by first | rfl | (go_simp; done)) xb (by first | rfl | (go_simp; done)) WY.out.lit ?_) | (go_at_call 80; go_in) | ((with_reducible refine QaJ (N := 3) rfl ?_); refine Zbx (N := 3) (cs := #[.int .i64 xa, .int .i64 (f xa), .bool F]) (t := 56) ?_; intro g3 hg w13 hbox hb; have n_ := Aside0.mk (Qao HB.out hb); have GEg3 := Aside0.mk (show w.heap.size ≤ g3 by rw [hg]; exact Qaq HB.out); clear HB; have HB := n_; clear n_; have BKg3 := Aside0.mk hbox; clear hb hbox hg) | ((with_reducible refine QaJ (N := 4) rfl ?_); refine Zbx (N := 4) (cs := #[.int .i64 xb, .int .i64 (f xb), .bool F]) (t := 56) ?_; intro g4 hg w14 hbox hb; have n_ := Aside0.mk (Qao HB.out hb); have GEg4 := Aside0.mk (show w.heap.size ≤ g4 by rw [hg]; exact Qaq HB.out); have NBg3_g4 := Aside0.mk (show g3 ≠ g4 by rw [hg]; exact Nat.ne_of_lt (blk_lt BKg3.out)); have og3 := Aside0.mk (Qam (g := g3) (o := .cells #[.int .i64 xa, .int .i64 (f xa), .bool F] 56 (0, 0)) BKg3.out hb); clear HB BKg3; have HB := n_; have BKg3 := og3; clear n_ og3; have BKg4 := Aside0.mk hbox; clear hb hbox hg) | ((with_reducible refine QaJ (N := 5) rfl ?_); refine Zbx (N := 5) (cs := #[.int .i64 a2]) (t := 3) ?_; intro g5 hg w15 hbox hb; have n_ := Aside0.mk (Qao HB.out hb); have GEg5 := Aside0.mk (show w.heap.size ≤ g5 by rw [hg]; exact Qaq HB.out); have NBg3_g5 := Aside0.mk (show g3 ≠ g5 by rw [hg]; exact Nat.ne_of_lt (blk_lt BKg3.out)); have og3 := Aside0.mk (Qam (g := g3) (o := .cells #[.int .i64 xa, .int .i64 (f xa), .bool F] 56 (0, 0)) BKg3.out hb); have NBg4_g5 := Aside0.mk (show g4 ≠ g5 by rw [hg]; exact Nat.ne_of_lt (blk_lt BKg4.out)); have og4 := Aside0.mk (Qam (g := g4) (o := .cells #[.int .i64 xb, .int .i64 (f xb), .bool F] 56 (0, 0)) BKg4.out hb); clear HB BKg3 BKg4; have HB := n_; have BKg3 := og3; have BKg4 := og4; clear n_ og3 og4; have BKg5 := Aside0.mk hbox; clear hb hbox hg; have hza : w15.cell? ⟨g4, 0, none⟩ = some (.int .i64 xb) := (Qab BKg4.out 0).trans rfl; have hzb : w15.cell? ⟨g3, 0, none⟩ = some (.int .i64 xa) := (Qab BKg3.out 0).trans rfl) | ((with_reducible refine QaJ (N := 7) rfl ?_); refine Zbx (N := 7) (cs := #[.int .i64 0]) (t := 3) ?_; intro g7 hg w16 hbox hb; have n_ := Aside0.mk (Qao HB.out hb); have GEg7 := Aside0.mk (show w.heap.size ≤ g7 by rw [hg]; exact Qaq HB.out); have NBg3_g7 := Aside0.mk (show g3 ≠ g7 by rw [hg]; exact Nat.ne_of_lt (blk_lt BKg3.out)); have og3 := Aside0.mk (Qam (g := g3) (o := .cells #[.int .i64 xa, .int .i64 (f xa), .bool F] 56 (0, 0)) BKg3.out hb); have NBg4_g7 := Aside0.mk (show g4 ≠ g7 by rw [hg]; exact Nat.ne_of_lt (blk_lt BKg4.out)); have og4 := Aside0.mk (Qam (g := g4) (o := .cells #[.int .i64 xb, .int .i64 (f xb), .bool F] 56 (0, 0)) BKg4.out hb); have NBg5_g7 := Aside0.mk (show g5 ≠ g7 by rw [hg]; exact Nat.ne_of_lt (blk_lt BKg5.out)); have og5 := Aside0.mk (Qam (g := g5) (o := .cells #[.int .i64 a2] 3 (0, 0)) BKg5.out hb); clear HB BKg3 BKg4 BKg5; have HB := n_; have BKg3 := og3; have BKg4 := og4; have BKg5 := og5; clear n_ og3 og4 og5; have BKg7 := Aside0.mk hbox; clear hb hbox hg; clear hza hzb; have hzc : w16.cell? ⟨g7, 0, none⟩ = some (.int .i64 0) := (Qab BKg7.out 0).trans rfl; have hzf := Qaa BKg7.out 0))
     have n3_ : Aside0 ((w16.setCell ⟨g7, 0, none⟩ (.int .i64 (wrap64 (xb - xa)))).heap[g3]? = some (.cells #[.int .i64 xa, .int .i64 (f xa), .bool F] 56 (0, 0))) := ⟨Qas BKg3.out NBg3_g7.out _⟩
     have n4_ : Aside0 ((w16.setCell ⟨g7, 0, none⟩ (.int .i64 (wrap64 (xb - xa)))).heap[g4]? = some (.cells #[.int .i64 xb, .int .i64 (f xb), .bool F] 56 (0, 0))) := ⟨Qas BKg4.out NBg4_g7.out _⟩
     have n5_ : Aside0 ((w16.setCell ⟨g7, 0, none⟩ (.int .i64 (wrap64 (xb - xa)))).heap[g5]? = some (.cells #[.int .i64 a2] 3 (0, 0))) := ⟨Qas BKg5.out NBg5_g7.out _⟩
     have n7_ : Aside0 ((w16.setCell ⟨g7, 0, none⟩ (.int .i64 (wrap64 (xb - xa)))).heap[g7]? = some (.cells #[.int .i64 (wrap64 (xb - xa))] 3 (0, 0))) := ⟨by refine Qax (cs := #[.int .i64 0]) ?_ 0 _ rfl; exact BKg7.out⟩
     have n0_ : Aside0 (Below w.heap.size w (w16.setCell ⟨g7, 0, none⟩ (.int .i64 (wrap64 (xb - xa))))) := ⟨Qag HB.out GEg7.out⟩
     clear BKg3 BKg4 BKg5 BKg7 HB hzc hzf
     generalize (w16.setCell ⟨g7, 0, none⟩ (.int .i64 (wrap64 (xb - xa)))) = w17 at n3_ n4_ n5_ n7_ n0_ ⊢
     have HB := n0_
     have hz0 : w17.cell? ⟨g3, 0, none⟩ = some (.int .i64 xa) := (Qab n3_.out 0).trans rfl
     have hz1 : w17.cell? ⟨g3, 1, none⟩ = some (.int .i64 (f xa)) := (Qab n3_.out 1).trans rfl
     have hz2 : w17.cell? ⟨g4, 1, none⟩ = some (.int .i64 (f xb)) := (Qab n4_.out 1).trans rfl
     have hz3 : w17.cell? ⟨g5, 0, none⟩ = some (.int .i64 a2) := (Qab n5_.out 0).trans rfl
     have hz4 : w17.cell? ⟨g7, 0, none⟩ = some (.int .i64 (wrap64 (xb - xa))) := (Qab n7_.out 0).trans rfl
     go_wp2_with (first | (go_at_call 100; go_in) | (go_at_call 53; refine (QaA.calls _ _ _ _ m1 m2 _ A6.out).mono ?_; rintro e w18 ⟨rfl, hb⟩; have hz5 : w18.cell? ⟨g5, 0, none⟩ = some (.int .i64 a2) := (Qab (Qam (o := .cells #[.int .i64 a2] 3 (0, 0)) n5_.out hb) 0).trans rfl; have n0_ := Aside0.mk (Qao HB.out hb); clear HB hb hz0 hz1 hz2 hz3 hz4; have HB := n0_; clear n0_))
     go_ret
     exact ⟨rfl, HB.out⟩
    rw [if_neg c] at H
    cases H
def Qbj.f (k : Nat) (l0 : List (S56)) (a1 : Int) (a2 : Int) : Option (Int × Int) := (Qbb.f k l0 a2).bind fun t256 => (if t256 = 0 then (if a1 < 0 then (some (0, 15)) else (if a1 > 73048 then (some (0, 15)) else ((QaF.f k l0 a1 a2).bind fun t257 => (some (t257, 0))))) else (some (0, t256)))
theorem Qbj.mono : ∀ a0 a1 a2 k, LeO (Qbj.f k a0 a1 a2) (Qbj.f (k + 1) a0 a1 a2) := by
 intro a0 a1 a2 k
 unfold Qbj.f
 exact ZM2 Qbb.mono QaF.mono
theorem Qbj.calls (k : Nat) (A0 : Option Addr) (c0 : Nat) (l0 : List (S56)) (a1 : Int) (a2 : Int) (r1 : Int) (r2 : Int) (w : World) (hr0 : Kd.C k56 w A0 l0.length l0) (hc0 : l0.length ≤ c0) (h : Qbj.f k l0 a1 a2 = some (r1, r2)) :
  Calls Try.prog 29 #[.slice A0 l0.length c0, .int .i64 a1, .int .i64 a2] w fun e w' => e = .returned (.tuple #[.int .i64 r1, .int .i64 r2]) ∧ Below w.heap.size w w' := by
 have HR0 := Aside0.mk hr0
 have HC0 := Aside0.mk hc0
 clear hr0 hc0
 have HB := Aside0.mk (Below.refl w.heap.size w)
 have H : ((Qbb.f k l0 a2).bind fun t256 => (if t256 = 0 then (if a1 < 0 then (some (0, 15)) else (if a1 > 73048 then (some (0, 15)) else ((QaF.f k l0 a1 a2).bind fun t257 => (some (t257, 0))))) else (some (0, t256)))) = some (r1, r2) := h
 clear h
 replace H := Option.bind_eq_some_iff.mp H
 obtain ⟨t256, A40, H⟩ := H
 replace H : (if t256 = 0 then (if a1 < 0 then (some (0, 15)) else (if a1 > 73048 then (some (0, 15)) else ((QaF.f k l0 a1 a2).bind fun t257 => (some (t257, 0))))) else (some (0, t256))) = some (r1, r2) := H
 have A4 := Aside0.mk A40
 clear A40
 go_enter Try.func29, Try.ntmps29
 go_upto_if 12 with (first | ((with_reducible refine QaC (f := 57) rfl ?_); refine goesL_ (some 10) rfl rfl Try.func57 (by kernel_rfl) rfl #[.slice A0 l0.length c0, .int .i64 a2] rfl (Zl) ?_; (with_reducible refine (Qbb.calls k _ _ l0 a2 t256 _ ?side1 ?side2 A4.out).mono ?_); (case side1 => exact Zv HR0.out); (case side2 => exact HC0.out); rintro e w5 ⟨rfl, hb⟩; refine ⟨_, rfl, ?_⟩; replace HB := Aside0.mk (Qao (Zb) hb); (try clear hb); (try clear hb2); (try clear hk); (try clear hi)))
 (try simp only [Act.put, Zj, Zk, Zm])
 by_cases c6 : t256 = 0
 ·rw [if_pos c6] at H
  have c6b0 : (t256 == 0) = T := beq_iff_eq.mpr c6
  have c6b1 : (t256 != 0) = F := bne_eq_false_iff_eq.mpr c6
  clear c6
  (try simp only [c6b0, c6b1])
  by_cases c7 : a1 < 0
  ·rw [if_pos c7] at H
   have c7b0 : decide (a1 < 0) = T := decide_eq_true c7
   clear c7
   simp only [Option.some.injEq, Prod.mk.injEq] at H
   obtain ⟨rfl, rfl⟩ := H
   go_wp2
   go_ret2
   exact ⟨Zq, Zb⟩
  rw [if_neg c7] at H
  have c7b0 : decide (a1 < 0) = F := decide_eq_false c7
  clear c7
  by_cases c8 : a1 > 73048
  ·rw [if_pos c8] at H
   have c8b0 : decide (73048 < a1) = T := decide_eq_true c8
   clear c8
   (try simp only [c8b0])
   simp only [Option.some.injEq, Prod.mk.injEq] at H
   obtain ⟨rfl, rfl⟩ := H
   go_wp2
   go_ret2
   exact ⟨Zq, Zb⟩
  rw [if_neg c8] at H
  have c8b0 : decide (73048 < a1) = F := decide_eq_false c8
  clear c8
  (try simp only [c8b0])
  replace H := Option.bind_eq_some_iff.mp H
  obtain ⟨t257, A90, H⟩ := H
  replace H : (some (t257, 0)) = some (r1, r2) := H
  have A9 := Aside0.mk A90
  clear A90
  simp only [Option.some.injEq, Prod.mk.injEq] at H
  obtain ⟨rfl, rfl⟩ := H
  go_wp2_with (first | ((with_reducible refine QaC (f := 58) rfl ?_); refine goesL_ (some 23) rfl rfl Try.func58 (by kernel_rfl) rfl #[.slice A0 l0.length c0, .int .i64 a1, .int .i64 a2] rfl (Zl) ?_; (with_reducible refine (QaF.calls k _ _ l0 a1 a2 t257 _ ?side1 ?side2 A9.out).mono ?_); (case side1 => exact Zv (Kd.C_below HR0.out HB.out)); (case side2 => exact HC0.out); rintro e w10 ⟨rfl, hb⟩; refine ⟨_, rfl, ?_⟩; replace HB := Aside0.mk (Qao (Zb) hb); (try clear hb); (try clear hb2); (try clear hk); (try clear hi)))
  go_ret2
  exact ⟨Zq, Zb⟩
 rw [if_neg c6] at H
 have c6b0 : (t256 == 0) = F := beq_eq_false_iff_ne.mpr c6
 have c6b1 : (t256 != 0) = T := bne_iff_ne.mpr c6
 (try simp only [c6b0, c6b1])
 simp only [Option.some.injEq, Prod.mk.injEq] at H
 obtain ⟨rfl, rfl⟩ := H
 go_wp2
 go_ret2
 exact ⟨Zq, Zb⟩
def QaE.j0 : Nat → Int → Int → Int → Bool → Option (Int)
 | 0, _, _, _, _ => none
 | k + 1, x0, x1, x2, x7 => if x7 = T then (some x1) else (if x0 > x2 then (some x2) else (some x0))
def QaE.f (k : Nat) (a0 : Int) (a1 : Int) (a2 : Int) : Option (Int) := if a1 > a2 then (QaE.j0 k a0 a1 a2 T) else (QaE.j0 k a0 a1 a2 (decide (a0 < a1)))
theorem QaE.mono_l : ∀ k, (∀ y0 y1 y2 y3, LeO (QaE.j0 k y0 y1 y2 y3) (QaE.j0 (k + 1) y0 y1 y2 y3))
 | 0 => fun _ _ _ _ r h => by simp [QaE.j0] at h
 | k + 1 => by
  have ih0 := QaE.mono_l k
  intro y0 y1 y2 y3
  unfold QaE.j0
  exact ZM1 ih0
theorem QaE.mono : ∀ a0 a1 a2 k, LeO (QaE.f k a0 a1 a2) (QaE.f (k + 1) a0 a1 a2) := by
 intro a0 a1 a2 k
 have ih0 := QaE.mono_l k
 unfold QaE.f
 exact ZM1 ih0
theorem QaE.calls (k : Nat) (a0 : Int) (a1 : Int) (a2 : Int) (r : Int) (w : World) (h : QaE.f k a0 a1 a2 = some r) :
  Calls Try.prog 61 #[.int .i64 a0, .int .i64 a1, .int .i64 a2] w fun e w' => e = .returned (.int .i64 r) ∧ Drawn0 w w' := by
 have H : (if a1 > a2 then (QaE.j0 k a0 a1 a2 T) else (QaE.j0 k a0 a1 a2 (decide (a0 < a1)))) = some r := h
 clear h
 have HC4 := Aside0.mk H
 clear H
 go_enter Try.func61, Try.ntmps61
 go_upto_region 1 with (fail)
 go_cut [7] (fun v7 wc => ∃ (kq : Nat) (x7_3 : Bool), v7 = .bool x7_3 ∧ Aside0 (QaE.j0 kq a0 a1 a2 x7_3 = some r) ∧ Aside0 (kq ≤ k) ∧ Drawn0 w wc)
 case first =>
  have H := HC4.out
  clear HC4
  by_cases c5 : a1 > a2
  ·rw [if_pos c5] at H
   have c5b0 : decide (a2 < a1) = T := decide_eq_true c5
   clear c5
   have H' := Aside0.mk H
   clear H
   go_wp2
   go_meet
   case rel => exact ⟨_, (T), (Zs), H', ⟨by first | omega | exact Nat.le_refl _⟩, Zd⟩
  rw [if_neg c5] at H
  have c5b0 : decide (a2 < a1) = F := decide_eq_false c5
  clear c5
  have H' := Aside0.mk H
  clear H
  go_wp2
  go_meet
  case rel => exact ⟨_, (decide (a0 < a1)), (Zs), H', ⟨by first | omega | exact Nat.le_refl _⟩, Zd⟩
 case rest =>
  clear HC4
  try clear p2
  try clear c5
  try clear c5b0
  obtain ⟨kq, x7_3, rfl, HA, HJ3, ⟨mc3, rfl⟩⟩ := hcut
  cases kq with
  | zero => exact absurd HA.out (by simp [QaE.j0])
  | succ kj3 =>
   have H := HA.out
   clear HA
   simp only [QaE.j0] at H
   by_cases c6 : x7_3 = T
   ·subst c6
    have H1 : (some a1) = some r := by rw [if_pos rfl] at H; exact H
    clear H
    have H := H1
    clear H1
    obtain rfl := Option.some.inj H
    go_wp2
    go_ret
    exact ⟨Zs, Zd⟩
   replace c6 := Bool.eq_false_iff.mpr c6
   subst c6
   have H1 : (if a0 > a2 then (some a2) else (some a0)) = some r := by rw [if_neg (show ¬ (F = T) by decide)] at H; exact H
   clear H
   have H := H1
   clear H1
   by_cases c7 : a0 > a2
   ·rw [if_pos c7] at H
    have c7b0 : decide (a2 < a0) = T := decide_eq_true c7
    clear c7
    (try simp only [c7b0])
    obtain rfl := Option.some.inj H
    go_wp2
    go_ret
    exact ⟨Zs, Zd⟩
   rw [if_neg c7] at H
   have c7b0 : decide (a2 < a0) = F := decide_eq_false c7
   clear c7
   (try simp only [c7b0])
   obtain rfl := Option.some.inj H
   go_wp2
   go_ret
   exact ⟨Zs, Zd⟩
mutual
def Qaw.l0 : Nat → List (S130) → Int → Int → Int → Int → Option (Int)
 | 0, _, _, _, _, _ => none
 | k + 1, x307, x308, x309, x478000, x479000 => if x309 < x308 then (if 0 ≤ x309 then (if x309 < (x307.length : Int) then (if ((Qaj x307 x309).f0) < x479000 then (Qaw.j1 k x307 x308 x309 T x478000 ((Qaj x307 x309).f0) ((Qaj x307 x309).f1) ((Qaj x307 x309).f2)) else (Qaw.j1 k x307 x308 x309 (decide (((Qaj x307 x309).f0) > 86399)) x478000 ((Qaj x307 x309).f0) ((Qaj x307 x309).f1) ((Qaj x307 x309).f2))) else (none)) else (none)) else (some x478000)
def Qaw.j1 : Nat → List (S130) → Int → Int → Bool → Int → Int → Int → Int → Option (Int)
 | 0, _, _, _, _, _, _, _, _ => none
 | k + 1, x307, x308, x309, x324, x478000, x483000, x483001, x483002 => if x324 = T then (some 2) else (if x483001 < 1 then (Qaw.j2 k x307 x308 x309 T x478000 x483000 x483001 x483002) else (Qaw.j2 k x307 x308 x309 (decide (x483001 > 1048576)) x478000 x483000 x483001 x483002))
def Qaw.j2 : Nat → List (S130) → Int → Int → Bool → Int → Int → Int → Int → Option (Int)
 | 0, _, _, _, _, _, _, _, _ => none
 | k + 1, x307, x308, x309, x334, x478000, x483000, x483001, x483002 => if x334 = T then (some 18) else (if x483002 < (-16777216) then (some 17) else (if x483002 > 16777216 then (some 17) else (if x478000 = 0 then (Qaw.l0 k x307 x308 (wrap64 (x309 + 1)) x478000 x483000) else (some x478000))))
end
def Qaw.f (k : Nat) (l0 : List (S130)) : Option (Int) := if (l0.length : Int) > 1024 then (some 8) else (Qaw.l0 k l0 (l0.length : Int) 0 0 0)
theorem Qaw.mono_l : ∀ k, (∀ y0 y1 y2 y3 y4, LeO (Qaw.l0 k y0 y1 y2 y3 y4) (Qaw.l0 (k + 1) y0 y1 y2 y3 y4)) ∧ (∀ y0 y1 y2 y3 y4 y5 y6 y7, LeO (Qaw.j1 k y0 y1 y2 y3 y4 y5 y6 y7) (Qaw.j1 (k + 1) y0 y1 y2 y3 y4 y5 y6 y7)) ∧ (∀ y0 y1 y2 y3 y4 y5 y6 y7, LeO (Qaw.j2 k y0 y1 y2 y3 y4 y5 y6 y7) (Qaw.j2 (k + 1) y0 y1 y2 y3 y4 y5 y6 y7))
 | 0 => ⟨fun _ _ _ _ _ r h => by simp [Qaw.l0] at h, fun _ _ _ _ _ _ _ _ r h => by simp [Qaw.j1] at h, fun _ _ _ _ _ _ _ _ r h => by simp [Qaw.j2] at h⟩
 | k + 1 => by
  obtain ⟨ih0, ih1, ih2⟩ := Qaw.mono_l k
  refine ⟨?_, ?_, ?_⟩
  ·intro y0 y1 y2 y3 y4
   unfold Qaw.l0
   exact ZM3 ih0 ih1 ih2
  ·intro y0 y1 y2 y3 y4 y5 y6 y7
   unfold Qaw.j1
   exact ZM3 ih0 ih1 ih2
  intro y0 y1 y2 y3 y4 y5 y6 y7
  unfold Qaw.j2
  exact ZM3 ih0 ih1 ih2
theorem Qaw.mono : ∀ a0 k, LeO (Qaw.f k a0) (Qaw.f (k + 1) a0) := by
 intro a0 k
 obtain ⟨ih0, ih1, ih2⟩ := Qaw.mono_l k
 unfold Qaw.f
 exact ZM3 ih0 ih1 ih2
theorem Qaw.calls (k : Nat) (A0 : Option Addr) (c0 : Nat) (l0 : List (S130)) (r : Int) (w : World) (hr0 : Kd.C k130 w A0 l0.length l0) (hc0 : l0.length ≤ c0) (h : Qaw.f k l0 = some r) :
  Calls Try.prog 82 #[.slice A0 l0.length c0] w fun e w' => e = .returned (.int .i64 r) ∧ Below w.heap.size w w' := by
 have hu138 := Try.underlying138
 have HR0 := Aside0.mk hr0
 have HC0 := Aside0.mk hc0
 clear hr0 hc0
 have HB := Aside0.mk (Below.refl w.heap.size w)
 have H : (if (l0.length : Int) > 1024 then (some 8) else (Qaw.l0 k l0 (l0.length : Int) 0 0 0)) = some r := h
 clear h
 go_enter Try.func82, Try.ntmps82
 go_upto_if 6 with (first | ((with_reducible refine QaJ (N := 2) rfl ?_); (refine gate_n (n := 12) rfl ?_); refine Zbx (N := 2) (cs := #[.int .i64 0]) (t := 25) ?_; intro gb477 hg w2 hbox hb; have BK477 := Aside0.mk (hbox); have GW477 := Aside0.mk (Zt w hg (Zb)); have GE477 := GW477; replace HB := Aside0.mk (Qao (Zb) hb); clear hb hbox hg))
 (try simp only [Act.put, Zj, Zk, Zm])
 by_cases c3 : (l0.length : Int) > 1024
 ·rw [if_pos c3] at H
  have c3b0 : decide (1024 < (l0.length : Int)) = T := decide_eq_true c3
  have c3b1 : decide (1024 < l0.length) = T := decide_eq_true (by omega)
  clear c3
  (try simp only [c3b0, c3b1])
  obtain rfl := Option.some.inj H
  obtain ⟨hcz4_0, hfz4_0⟩ := Zy (v := (.int .i64 0)) BK477.out 0
  go_wp2
  refine bodyPost_ret (Qbx rfl _ _ gb477 25 (.int .i64 8) (0, 0) _ rfl (Zp2 BK477.out) Try.underlying25 rfl (by kernel_rfl)) rfl ?_
  exact ⟨Zq, Zc1 GE477.out⟩
 rw [if_neg c3] at H
 have c3b0 : decide (1024 < (l0.length : Int)) = F := decide_eq_false c3
 have c3b1 : decide (1024 < l0.length) = F := decide_eq_false (by omega)
 clear c3
 (try simp only [c3b0, c3b1])
 have H' := Aside0.mk H
 clear H
 go_wp2_with (first | ((with_reducible refine QaJ (N := 3) rfl ?_); (refine gate_n (n := 12) rfl ?_); refine Zbx (N := 3) (cs := #[.int .i64 0]) (t := 3) ?_; intro gb478 hg w5 hbox hb; have BK478 := Aside0.mk (hbox); have GW478 := Aside0.mk (Zt w hg (Zc1 GE477.out)); have GE478 := GW478; have NB477_478 := Aside0.mk (Zn hg BK477.out); have NB478_477 := Aside0.mk NB477_478.out.symm; replace BK477 := Aside0.mk (Zi BK477.out hb); replace HB := Aside0.mk (Qao (Zc1 GE477.out) hb); clear hb hbox hg; have hnb6 := NB478_477.out; have hnc6 := NB477_478.out; obtain ⟨hcz7_0, hfz7_0⟩ := Zy (v := (.int .i64 0)) BK478.out 0) | (go_at_call 102; go_in) | ((with_reducible refine QaJ (N := 2) rfl ?_); (refine gate_n (n := 19) rfl ?_); refine Zbx (N := 2) (cs := #[.func (.func 101) #[] #[.pointer (some ⟨gb478, 0, none⟩), .pointer (some ⟨gb477, 0, none⟩)]]) (t := 138) ?_; intro gb479 hg w8 hbox hb; have BK479 := Aside0.mk (hbox); have GW479 := Aside0.mk (Zt w hg (Zc2 GE477.out GE478.out)); have GE479 := GW479; have NB477_479 := Aside0.mk ((by rw [hg]; exact Nat.ne_of_lt (blk_lt (g := gb477) (o := .cells #[.int .i64 0] 25 (0, 0)) (Zg1 BK477.out NB477_478.out)) : gb477 ≠ gb479)); have NB479_477 := Aside0.mk ((by rw [hg]; exact Nat.ne_of_gt (blk_lt (g := gb477) (o := .cells #[.int .i64 0] 25 (0, 0)) (Zg1 BK477.out NB477_478.out)) : gb479 ≠ gb477)); have NB478_479 := Aside0.mk ((by rw [hg]; exact Nat.ne_of_lt (blk_lt (g := gb478) (o := .cells #[.int .i64 0] 3 (0, 0)) (Zp2 BK478.out)) : gb478 ≠ gb479)); have NB479_478 := Aside0.mk ((by rw [hg]; exact Nat.ne_of_gt (blk_lt (g := gb478) (o := .cells #[.int .i64 0] 3 (0, 0)) (Zp2 BK478.out)) : gb479 ≠ gb478)); replace BK477 := Aside0.mk (Qam (g := gb477) (o := .cells #[.int .i64 0] 25 (0, 0)) (Zg1 BK477.out NB477_478.out) hb); replace BK478 := Aside0.mk (Zpi #[.int .i64 0] BK478.out hb); replace HB := Aside0.mk (Qao (Zc2 GE477.out GE478.out) hb); clear hb hbox hg))
 go_loopg [9] k (fun kq v309 w' => ∃ (x309_1 : Int) (x478000_1 : Int) (x479000_1 : Int), v309 = .int .i64 x309_1 ∧ Aside0 (Qaw.l0 kq l0 (l0.length : Int) x309_1 x478000_1 x479000_1 = some r) ∧ Aside0 (kq ≤ k) ∧ Aside0 (w'.heap[gb477]? = some (.cells #[.int .i64 x478000_1] 25 (0, 0))) ∧ Aside0 (w'.heap[gb478]? = some (.cells #[.int .i64 x479000_1] 3 (0, 0))) ∧ Aside0 (w'.heap[gb479]? = some (.cells #[(.func (.func 101) #[] #[.pointer (some ⟨gb478, 0, none⟩), .pointer (some ⟨gb477, 0, none⟩)])] 138 (0, 0))) ∧ Aside0 (Below w.heap.size w w'))
 case atStart => exact ⟨(0), (0), (0), (Zs), H', ⟨Nat.le_refl _⟩, ⟨Zu BK477.out⟩, ⟨Zu BK478.out⟩, ⟨Zu BK479.out⟩, ⟨Zc3 GE477.out GE478.out GE479.out⟩⟩
 case round =>
  clear H'
  try clear p2
  try clear c3
  try clear c3b0
  try clear c3b1
  try clear c6
  try clear c8
  try clear hcz4_0
  try clear hcz7_0
  try clear hfz4_0
  try clear hfz7_0
  obtain ⟨x309_1, x478000_1, x479000_1, rfl, HA, HK1, BK477, BK478, BK479, HB⟩ := hrel
  cases gk with
  | zero => exact absurd HA.out (by simp [Qaw.l0])
  | succ k1 =>
   have H := HA.out
   clear HA
   simp only [Qaw.l0] at H
   by_cases c9 : x309_1 < (l0.length : Int)
   ·rw [if_pos c9] at H
    have c9b0 : decide (x309_1 < (l0.length : Int)) = T := decide_eq_true c9
    clear c9
    (try simp only [c9b0])
    by_cases c10 : 0 ≤ x309_1
    ·rw [if_pos c10] at H
     have c10b0 : decide (0 ≤ x309_1) = T := decide_eq_true c10
     clear c10
     by_cases c11 : x309_1 < (l0.length : Int)
     ·rw [if_pos c11] at H
      have c11b0 : decide (x309_1 < (l0.length : Int)) = T := decide_eq_true c11
      clear c11
      have HC12 := Aside0.mk H
      clear H
      have p480 : 0 ≤ (x309_1 : Int) := Ze
      have q480 : x309_1 < (l0.length : Int) := Ze
      obtain ⟨ad480, e480, hx480_0, hx480_1, hx480_2⟩ := QbS HR0.out x309_1 p480 q480
      cases e480
      replace hx480_0 := Zx HB.out hx480_0
      replace hx480_1 := Zx HB.out hx480_1
      replace hx480_2 := Zx HB.out hx480_2
      replace p480 := eq_true p480
      replace q480 := eq_true q480
      go_upto_region 1 with (first | ((with_reducible refine QaJ (N := 6) rfl ?_); (refine gate_n (n := 19) rfl ?_); refine Zbx (N := 6) (cs := #[.int .i64 0, .int .i64 0, .int .i64 0]) (t := 130) ?_; intro gb481 hg w13 hbox hb; have BK481 := Aside0.mk (hbox); have GW481 := Aside0.mk (Zt w hg (Zc3 GE477.out GE478.out GE479.out)); have GE481 := GW481; have NB477_481 := Aside0.mk (Zn hg BK477.out); have NB481_477 := Aside0.mk NB477_481.out.symm; have NB478_481 := Aside0.mk (Zn hg BK478.out); have NB481_478 := Aside0.mk NB478_481.out.symm; have NB479_481 := Aside0.mk (Zn hg BK479.out); have NB481_479 := Aside0.mk NB479_481.out.symm; replace BK477 := Aside0.mk (Zi BK477.out hb); replace BK478 := Aside0.mk (Zi BK478.out hb); replace BK479 := Aside0.mk (Zi BK479.out hb); replace HB := Aside0.mk (Qao (Zc3 GE477.out GE478.out GE479.out) hb); clear hb hbox hg; have hnb14 := NB481_477.out; have hnc14 := NB477_481.out; have hnb15 := NB481_478.out; have hnc15 := NB478_481.out; have hnb16 := NB481_479.out; have hnc16 := NB479_481.out; obtain ⟨hcz17_0, hfz17_0⟩ := Zy (v := (.int .i64 0)) BK481.out 0; obtain ⟨hcz17_1, hfz17_1⟩ := Zy (v := (.int .i64 0)) BK481.out 1; obtain ⟨hcz17_2, hfz17_2⟩ := Zy (v := (.int .i64 0)) BK481.out 2; have hnb18 := NB479_477.out; have hnc18 := NB477_479.out; have hnb19 := NB479_478.out; have hnc19 := NB478_479.out; obtain ⟨hcz20_0, hfz20_0⟩ := Zy (v := (.func (.func 101) #[] #[.pointer (some ⟨gb478, 0, none⟩), .pointer (some ⟨gb477, 0, none⟩)])) BK479.out 0) | (go_at_call 101; go_in) | ((with_reducible refine QaJ (N := 3) rfl ?_); (refine gate_n (n := 37) rfl ?_); refine Zbx (N := 3) (cs := #[.int .i64 ((Qaj l0 x309_1).f0), .int .i64 ((Qaj l0 x309_1).f1), .int .i64 ((Qaj l0 x309_1).f2)]) (t := 130) ?_; intro gb482 hg w21 hbox hb; have BK482 := Aside0.mk (hbox); have GW482 := Aside0.mk (Zt w hg (Zc4 GE477.out GE478.out GE479.out GE481.out)); have GE482 := GW482; have NB477_482 := Aside0.mk ((by rw [hg]; exact Nat.ne_of_lt (blk_lt (g := gb477) (o := .cells #[.int .i64 x478000_1] 25 (0, 0)) (Zg3 BK477.out NB477_481.out NB477_481.out NB477_481.out)) : gb477 ≠ gb482)); have NB482_477 := Aside0.mk ((by rw [hg]; exact Nat.ne_of_gt (blk_lt (g := gb477) (o := .cells #[.int .i64 x478000_1] 25 (0, 0)) (Zg3 BK477.out NB477_481.out NB477_481.out NB477_481.out)) : gb482 ≠ gb477)); have NB478_482 := Aside0.mk ((by rw [hg]; exact Nat.ne_of_lt (blk_lt (g := gb478) (o := .cells #[.int .i64 x479000_1] 3 (0, 0)) (Zg3 BK478.out NB478_481.out NB478_481.out NB478_481.out)) : gb478 ≠ gb482)); have NB482_478 := Aside0.mk ((by rw [hg]; exact Nat.ne_of_gt (blk_lt (g := gb478) (o := .cells #[.int .i64 x479000_1] 3 (0, 0)) (Zg3 BK478.out NB478_481.out NB478_481.out NB478_481.out)) : gb482 ≠ gb478)); have NB479_482 := Aside0.mk ((by rw [hg]; exact Nat.ne_of_lt (blk_lt (g := gb479) (o := .cells #[.func (.func 101) #[] #[.pointer (some ⟨gb478, 0, none⟩), .pointer (some ⟨gb477, 0, none⟩)]] 138 (0, 0)) (Zg3 BK479.out NB479_481.out NB479_481.out NB479_481.out)) : gb479 ≠ gb482)); have NB482_479 := Aside0.mk ((by rw [hg]; exact Nat.ne_of_gt (blk_lt (g := gb479) (o := .cells #[.func (.func 101) #[] #[.pointer (some ⟨gb478, 0, none⟩), .pointer (some ⟨gb477, 0, none⟩)]] 138 (0, 0)) (Zg3 BK479.out NB479_481.out NB479_481.out NB479_481.out)) : gb482 ≠ gb479)); have NB481_482 := Aside0.mk ((by rw [hg]; exact Nat.ne_of_lt (blk_lt (g := gb481) (o := .cells #[.int .i64 ((Qaj l0 x309_1).f0), .int .i64 ((Qaj l0 x309_1).f1), .int .i64 ((Qaj l0 x309_1).f2)] 130 (0, 0)) (Zp2 BK481.out)) : gb481 ≠ gb482)); have NB482_481 := Aside0.mk ((by rw [hg]; exact Nat.ne_of_gt (blk_lt (g := gb481) (o := .cells #[.int .i64 ((Qaj l0 x309_1).f0), .int .i64 ((Qaj l0 x309_1).f1), .int .i64 ((Qaj l0 x309_1).f2)] 130 (0, 0)) (Zp2 BK481.out)) : gb482 ≠ gb481)); replace BK477 := Aside0.mk (Qam (g := gb477) (o := .cells #[.int .i64 x478000_1] 25 (0, 0)) (Zg3 BK477.out NB477_481.out NB477_481.out NB477_481.out) hb); replace BK478 := Aside0.mk (Qam (g := gb478) (o := .cells #[.int .i64 x479000_1] 3 (0, 0)) (Zg3 BK478.out NB478_481.out NB478_481.out NB478_481.out) hb); replace BK479 := Aside0.mk (Qam (g := gb479) (o := .cells #[.func (.func 101) #[] #[.pointer (some ⟨gb478, 0, none⟩), .pointer (some ⟨gb477, 0, none⟩)]] 138 (0, 0)) (Zg3 BK479.out NB479_481.out NB479_481.out NB479_481.out) hb); replace BK481 := Aside0.mk (Zpi #[.int .i64 ((Qaj l0 x309_1).f0), .int .i64 ((Qaj l0 x309_1).f1), .int .i64 ((Qaj l0 x309_1).f2)] BK481.out hb); replace HB := Aside0.mk (Qao (Zc4 GE477.out GE478.out GE479.out GE481.out) hb); clear hb hbox hg))
      (try simp only [Act.put, Zj, Zk, Zm])
      go_cut [5] (fun v324 wc => ∃ (kq : Nat) (x324_11 : Bool), v324 = .bool x324_11 ∧ Aside0 (Qaw.j1 kq l0 (l0.length : Int) x309_1 x324_11 x478000_1 ((Qaj l0 x309_1).f0) ((Qaj l0 x309_1).f1) ((Qaj l0 x309_1).f2) = some r) ∧ Aside0 (kq ≤ k1) ∧ Aside0 (wc.heap[gb477]? = some (.cells #[.int .i64 x478000_1] 25 (0, 0))) ∧ Aside0 (wc.heap[gb478]? = some (.cells #[.int .i64 x479000_1] 3 (0, 0))) ∧ Aside0 (wc.heap[gb479]? = some (.cells #[(.func (.func 101) #[] #[.pointer (some ⟨gb478, 0, none⟩), .pointer (some ⟨gb477, 0, none⟩)])] 138 (0, 0))) ∧ Aside0 (wc.heap[gb481]? = some (.cells #[.int .i64 ((Qaj l0 x309_1).f0), .int .i64 ((Qaj l0 x309_1).f1), .int .i64 ((Qaj l0 x309_1).f2)] 130 (0, 0))) ∧ Aside0 (wc.heap[gb482]? = some (.cells #[.int .i64 ((Qaj l0 x309_1).f0), .int .i64 ((Qaj l0 x309_1).f1), .int .i64 ((Qaj l0 x309_1).f2)] 130 (0, 0))) ∧ Aside0 (Below w.heap.size w wc))
      case first =>
       have H := HC12.out
       clear HC12
       by_cases c22 : ((Qaj l0 x309_1).f0) < x479000_1
       ·rw [if_pos c22] at H
        have c22b0 : decide (((Qaj l0 x309_1).f0) < x479000_1) = T := decide_eq_true c22
        clear c22
        have H' := Aside0.mk H
        clear H
        have hnb23 := NB482_477.out
        have hnc23 := NB477_482.out
        have hnb24 := NB482_478.out
        have hnc24 := NB478_482.out
        have hnb25 := NB482_479.out
        have hnc25 := NB479_482.out
        have hnb26 := NB482_481.out
        have hnc26 := NB481_482.out
        obtain ⟨hcz27_0, hfz27_0⟩ := Zy (v := (.int .i64 ((Qaj l0 x309_1).f0))) BK482.out 0
        obtain ⟨hcz27_1, hfz27_1⟩ := Zy (v := (.int .i64 ((Qaj l0 x309_1).f1))) BK482.out 1
        obtain ⟨hcz27_2, hfz27_2⟩ := Zy (v := (.int .i64 ((Qaj l0 x309_1).f2))) BK482.out 2
        have hnb28 := NB478_477.out
        have hnc28 := NB477_478.out
        have hnb29 := NB478_479.out
        have hnc29 := NB479_478.out
        have hnb30 := NB478_481.out
        have hnc30 := NB481_478.out
        obtain ⟨hcz31_0, hfz31_0⟩ := Zy (v := (.int .i64 x479000_1)) BK478.out 0
        go_wp2
        go_meet
        case rel => exact ⟨_, (T), (Zs), H', ⟨by have := HK1.out; first | omega | exact Nat.le_refl _⟩, ⟨Zu BK477.out⟩, ⟨Zu BK478.out⟩, ⟨Zu BK479.out⟩, ⟨Zu BK481.out⟩, ⟨Zu BK482.out⟩, ⟨Zc5 GE477.out GE478.out GE479.out GE481.out GE482.out⟩⟩
       rw [if_neg c22] at H
       have c22b0 : decide (((Qaj l0 x309_1).f0) < x479000_1) = F := decide_eq_false c22
       clear c22
       have H' := Aside0.mk H
       clear H
       have hnb32 := NB482_477.out
       have hnc32 := NB477_482.out
       have hnb33 := NB482_478.out
       have hnc33 := NB478_482.out
       have hnb34 := NB482_479.out
       have hnc34 := NB479_482.out
       have hnb35 := NB482_481.out
       have hnc35 := NB481_482.out
       obtain ⟨hcz36_0, hfz36_0⟩ := Zy (v := (.int .i64 ((Qaj l0 x309_1).f0))) BK482.out 0
       obtain ⟨hcz36_1, hfz36_1⟩ := Zy (v := (.int .i64 ((Qaj l0 x309_1).f1))) BK482.out 1
       obtain ⟨hcz36_2, hfz36_2⟩ := Zy (v := (.int .i64 ((Qaj l0 x309_1).f2))) BK482.out 2
       have hnb37 := NB478_477.out
       have hnc37 := NB477_478.out
       have hnb38 := NB478_479.out
       have hnc38 := NB479_478.out
       have hnb39 := NB478_481.out
       have hnc39 := NB481_478.out
       obtain ⟨hcz40_0, hfz40_0⟩ := Zy (v := (.int .i64 x479000_1)) BK478.out 0
       go_wp2
       go_meet
       case rel => exact ⟨_, (decide (((Qaj l0 x309_1).f0) > 86399)), (Zs), H', ⟨by have := HK1.out; first | omega | exact Nat.le_refl _⟩, ⟨Zu BK477.out⟩, ⟨Zu BK478.out⟩, ⟨Zu BK479.out⟩, ⟨Zu BK481.out⟩, ⟨Zu BK482.out⟩, ⟨Zc5 GE477.out GE478.out GE479.out GE481.out GE482.out⟩⟩
      case rest =>
       clear HC12
       try clear c1
       try clear c2
       try clear p2
       try clear c3
       try clear c3b0
       try clear c3b1
       try clear p4
       try clear q4
       try clear hx4
       try clear c6
       try clear c8
       try clear c9
       try clear c9b0
       try clear c10
       try clear c10b0
       try clear c11
       try clear c11b0
       try clear c14
       try clear c15
       try clear c16
       try clear c18
       try clear c19
       try clear c22
       try clear c22b0
       try clear c23
       try clear c24
       try clear c25
       try clear c26
       try clear c28
       try clear c29
       try clear c30
       try clear c32
       try clear c33
       try clear c34
       try clear c35
       try clear c37
       try clear c38
       try clear c39
       try clear hcz17_0
       try clear hcz17_1
       try clear hcz17_2
       try clear hcz20_0
       try clear hcz27_0
       try clear hcz27_1
       try clear hcz27_2
       try clear hcz31_0
       try clear hcz36_0
       try clear hcz36_1
       try clear hcz36_2
       try clear hcz40_0
       try clear hcz4_0
       try clear hcz7_0
       try clear hfz17_0
       try clear hfz17_1
       try clear hfz17_2
       try clear hfz20_0
       try clear hfz27_0
       try clear hfz27_1
       try clear hfz27_2
       try clear hfz31_0
       try clear hfz36_0
       try clear hfz36_1
       try clear hfz36_2
       try clear hfz40_0
       try clear hfz4_0
       try clear hfz7_0
       try clear hx480_0
       try clear hx480_1
       try clear hx480_2
       try clear p2
       try clear p480
       try clear q480
       obtain ⟨kq, x324_11, rfl, HA, HJ11, BK477, BK478, BK479, BK481, BK482, HB⟩ := hcut
       cases kq with
       | zero => exact absurd HA.out (by simp [Qaw.j1])
       | succ kj11 =>
        have H := HA.out
        clear HA
        simp only [Qaw.j1] at H
        by_cases c41 : x324_11 = T
        ·subst c41
         have H1 : (some 2) = some r := by rw [if_pos rfl] at H; exact H
         clear H
         have H := H1
         clear H1
         have hnb42 := NB477_478.out
         have hnc42 := NB478_477.out
         have hnb43 := NB477_479.out
         have hnc43 := NB479_477.out
         have hnb44 := NB477_481.out
         have hnc44 := NB481_477.out
         have hnb45 := NB477_482.out
         have hnc45 := NB482_477.out
         obtain ⟨hcz46_0, hfz46_0⟩ := Zy (v := (.int .i64 x478000_1)) BK477.out 0
         have hnb47 := NB482_478.out
         have hnc47 := NB478_482.out
         have hnb48 := NB482_479.out
         have hnc48 := NB479_482.out
         have hnb49 := NB482_481.out
         have hnc49 := NB481_482.out
         obtain ⟨hcz50_0, hfz50_0⟩ := Zy (v := (.int .i64 ((Qaj l0 x309_1).f0))) BK482.out 0
         obtain ⟨hcz50_1, hfz50_1⟩ := Zy (v := (.int .i64 ((Qaj l0 x309_1).f1))) BK482.out 1
         obtain ⟨hcz50_2, hfz50_2⟩ := Zy (v := (.int .i64 ((Qaj l0 x309_1).f2))) BK482.out 2
         have hnb51 := NB478_479.out
         have hnc51 := NB479_478.out
         have hnb52 := NB478_481.out
         have hnc52 := NB481_478.out
         obtain ⟨hcz53_0, hfz53_0⟩ := Zy (v := (.int .i64 x479000_1)) BK478.out 0
         go_upto_region 5 with (fail)
         obtain rfl := Option.some.inj H
         have hnb54 := NB477_478.out
         have hnc54 := NB478_477.out
         have hnb55 := NB477_479.out
         have hnc55 := NB479_477.out
         have hnb56 := NB477_481.out
         have hnc56 := NB481_477.out
         have hnb57 := NB477_482.out
         have hnc57 := NB482_477.out
         obtain ⟨hcz58_0, hfz58_0⟩ := Zy (v := (.int .i64 x478000_1)) BK477.out 0
         go_wp2
         refine bodyPost_ret (Qbx rfl _ _ gb477 25 (.int .i64 2) (0, 0) _ rfl (by (with_reducible repeat (first | refine Qad ?_ _ | refine Qae ?_ | refine Qac ?_ _)); refine Qax (cs := #[.int .i64 2]) ?_ 0 _ rfl; (with_reducible repeat (first | refine Qad ?_ _ | refine Qae ?_ | refine Qac ?_ _)); refine Qas ?_ NB477_478.out _; (with_reducible repeat (first | refine Qad ?_ _ | refine Qae ?_ | refine Qac ?_ _)); refine Qax (cs := #[.int .i64 x478000_1]) ?_ 0 _ rfl; (with_reducible repeat (first | refine Qad ?_ _ | refine Qae ?_ | refine Qac ?_ _)); exact BK477.out) Try.underlying25 rfl (by kernel_rfl)) rfl ?_
         exact ⟨Zq, Zc5 GE477.out GE478.out GE479.out GE481.out GE482.out⟩
        replace c41 := Bool.eq_false_iff.mpr c41
        subst c41
        have H1 : (if ((Qaj l0 x309_1).f1) < 1 then (Qaw.j2 kj11 l0 (l0.length : Int) x309_1 T x478000_1 ((Qaj l0 x309_1).f0) ((Qaj l0 x309_1).f1) ((Qaj l0 x309_1).f2)) else (Qaw.j2 kj11 l0 (l0.length : Int) x309_1 (decide (((Qaj l0 x309_1).f1) > 1048576)) x478000_1 ((Qaj l0 x309_1).f0) ((Qaj l0 x309_1).f1) ((Qaj l0 x309_1).f2))) = some r := by rw [if_neg (show ¬ (F = T) by decide)] at H; exact H
        clear H
        have H := H1
        clear H1
        have HC59 := Aside0.mk H
        clear H
        go_upto_region 3 with (fail)
        go_cut [15] (fun v334 wc => ∃ (kq : Nat) (x334_58 : Bool), v334 = .bool x334_58 ∧ Aside0 (Qaw.j2 kq l0 (l0.length : Int) x309_1 x334_58 x478000_1 ((Qaj l0 x309_1).f0) ((Qaj l0 x309_1).f1) ((Qaj l0 x309_1).f2) = some r) ∧ Aside0 (kq ≤ kj11) ∧ Aside0 (wc.heap[gb477]? = some (.cells #[.int .i64 x478000_1] 25 (0, 0))) ∧ Aside0 (wc.heap[gb478]? = some (.cells #[.int .i64 x479000_1] 3 (0, 0))) ∧ Aside0 (wc.heap[gb479]? = some (.cells #[(.func (.func 101) #[] #[.pointer (some ⟨gb478, 0, none⟩), .pointer (some ⟨gb477, 0, none⟩)])] 138 (0, 0))) ∧ Aside0 (wc.heap[gb481]? = some (.cells #[.int .i64 ((Qaj l0 x309_1).f0), .int .i64 ((Qaj l0 x309_1).f1), .int .i64 ((Qaj l0 x309_1).f2)] 130 (0, 0))) ∧ Aside0 (wc.heap[gb482]? = some (.cells #[.int .i64 ((Qaj l0 x309_1).f0), .int .i64 ((Qaj l0 x309_1).f1), .int .i64 ((Qaj l0 x309_1).f2)] 130 (0, 0))) ∧ Aside0 (Below w.heap.size w wc))
        case first =>
         have H := HC59.out
         clear HC59
         by_cases c60 : ((Qaj l0 x309_1).f1) < 1
         ·rw [if_pos c60] at H
          have c60b0 : decide (((Qaj l0 x309_1).f1) < 1) = T := decide_eq_true c60
          clear c60
          have H' := Aside0.mk H
          clear H
          have hnb61 := NB482_477.out
          have hnc61 := NB477_482.out
          have hnb62 := NB482_478.out
          have hnc62 := NB478_482.out
          have hnb63 := NB482_479.out
          have hnc63 := NB479_482.out
          have hnb64 := NB482_481.out
          have hnc64 := NB481_482.out
          obtain ⟨hcz65_0, hfz65_0⟩ := Zy (v := (.int .i64 ((Qaj l0 x309_1).f0))) BK482.out 0
          obtain ⟨hcz65_1, hfz65_1⟩ := Zy (v := (.int .i64 ((Qaj l0 x309_1).f1))) BK482.out 1
          obtain ⟨hcz65_2, hfz65_2⟩ := Zy (v := (.int .i64 ((Qaj l0 x309_1).f2))) BK482.out 2
          go_wp2
          go_meet
          case rel => exact ⟨_, (T), (Zs), H', ⟨by have := HK1.out; have := HJ11.out; first | omega | exact Nat.le_refl _⟩, ⟨Zu BK477.out⟩, ⟨Zu BK478.out⟩, ⟨Zu BK479.out⟩, ⟨Zu BK481.out⟩, ⟨Zu BK482.out⟩, ⟨Zc5 GE477.out GE478.out GE479.out GE481.out GE482.out⟩⟩
         rw [if_neg c60] at H
         have c60b0 : decide (((Qaj l0 x309_1).f1) < 1) = F := decide_eq_false c60
         clear c60
         have H' := Aside0.mk H
         clear H
         have hnb66 := NB482_477.out
         have hnc66 := NB477_482.out
         have hnb67 := NB482_478.out
         have hnc67 := NB478_482.out
         have hnb68 := NB482_479.out
         have hnc68 := NB479_482.out
         have hnb69 := NB482_481.out
         have hnc69 := NB481_482.out
         obtain ⟨hcz70_0, hfz70_0⟩ := Zy (v := (.int .i64 ((Qaj l0 x309_1).f0))) BK482.out 0
         obtain ⟨hcz70_1, hfz70_1⟩ := Zy (v := (.int .i64 ((Qaj l0 x309_1).f1))) BK482.out 1
         obtain ⟨hcz70_2, hfz70_2⟩ := Zy (v := (.int .i64 ((Qaj l0 x309_1).f2))) BK482.out 2
         go_wp2
         go_meet
         case rel => exact ⟨_, (decide (((Qaj l0 x309_1).f1) > 1048576)), (Zs), H', ⟨by have := HK1.out; have := HJ11.out; first | omega | exact Nat.le_refl _⟩, ⟨Zu BK477.out⟩, ⟨Zu BK478.out⟩, ⟨Zu BK479.out⟩, ⟨Zu BK481.out⟩, ⟨Zu BK482.out⟩, ⟨Zc5 GE477.out GE478.out GE479.out GE481.out GE482.out⟩⟩
        case rest =>
         clear HC59
         try clear c1
         try clear c2
         try clear p2
         try clear c3
         try clear c3b0
         try clear c3b1
         try clear c4
         try clear p4
         try clear q4
         try clear hx4
         try clear c5
         try clear c6
         try clear c8
         try clear c9
         try clear c9b0
         try clear c10
         try clear c10b0
         try clear c11
         try clear c11b0
         try clear c14
         try clear c15
         try clear c16
         try clear c18
         try clear c19
         try clear c22
         try clear c22b0
         try clear c23
         try clear c24
         try clear c25
         try clear c26
         try clear c28
         try clear c29
         try clear c30
         try clear c32
         try clear c33
         try clear c34
         try clear c35
         try clear c37
         try clear c38
         try clear c39
         try clear c41
         try clear c42
         try clear c43
         try clear c44
         try clear c45
         try clear c47
         try clear c48
         try clear p48
         try clear q48
         try clear hx48
         try clear c49
         try clear c51
         try clear c52
         try clear c54
         try clear c55
         try clear c56
         try clear c57
         try clear c60
         try clear c60b0
         try clear c61
         try clear c62
         try clear c63
         try clear c64
         try clear c66
         try clear c67
         try clear c68
         try clear c69
         try clear hcz17_0
         try clear hcz17_1
         try clear hcz17_2
         try clear hcz20_0
         try clear hcz27_0
         try clear hcz27_1
         try clear hcz27_2
         try clear hcz31_0
         try clear hcz36_0
         try clear hcz36_1
         try clear hcz36_2
         try clear hcz40_0
         try clear hcz46_0
         try clear hcz4_0
         try clear hcz50_0
         try clear hcz50_1
         try clear hcz50_2
         try clear hcz53_0
         try clear hcz58_0
         try clear hcz65_0
         try clear hcz65_1
         try clear hcz65_2
         try clear hcz70_0
         try clear hcz70_1
         try clear hcz70_2
         try clear hcz7_0
         try clear hfz17_0
         try clear hfz17_1
         try clear hfz17_2
         try clear hfz20_0
         try clear hfz27_0
         try clear hfz27_1
         try clear hfz27_2
         try clear hfz31_0
         try clear hfz36_0
         try clear hfz36_1
         try clear hfz36_2
         try clear hfz40_0
         try clear hfz46_0
         try clear hfz4_0
         try clear hfz50_0
         try clear hfz50_1
         try clear hfz50_2
         try clear hfz53_0
         try clear hfz58_0
         try clear hfz65_0
         try clear hfz65_1
         try clear hfz65_2
         try clear hfz70_0
         try clear hfz70_1
         try clear hfz70_2
         try clear hfz7_0
         try clear hx480_0
         try clear hx480_1
         try clear hx480_2
         try clear p2
         try clear p4
         try clear p480
         try clear q4
         try clear q480
         obtain ⟨kq, x334_58, rfl, HA, HJ58, BK477, BK478, BK479, BK481, BK482, HB⟩ := hcut
         cases kq with
         | zero => exact absurd HA.out (by simp [Qaw.j2])
         | succ kj58 =>
          have H := HA.out
          clear HA
          simp only [Qaw.j2] at H
          by_cases c71 : x334_58 = T
          ·subst c71
           have H1 : (some 18) = some r := by rw [if_pos rfl] at H; exact H
           clear H
           have H := H1
           clear H1
           have hnb72 := NB477_478.out
           have hnc72 := NB478_477.out
           have hnb73 := NB477_479.out
           have hnc73 := NB479_477.out
           have hnb74 := NB477_481.out
           have hnc74 := NB481_477.out
           have hnb75 := NB477_482.out
           have hnc75 := NB482_477.out
           obtain ⟨hcz76_0, hfz76_0⟩ := Zy (v := (.int .i64 x478000_1)) BK477.out 0
           have hnb77 := NB482_478.out
           have hnc77 := NB478_482.out
           have hnb78 := NB482_479.out
           have hnc78 := NB479_482.out
           have hnb79 := NB482_481.out
           have hnc79 := NB481_482.out
           obtain ⟨hcz80_0, hfz80_0⟩ := Zy (v := (.int .i64 ((Qaj l0 x309_1).f0))) BK482.out 0
           obtain ⟨hcz80_1, hfz80_1⟩ := Zy (v := (.int .i64 ((Qaj l0 x309_1).f1))) BK482.out 1
           obtain ⟨hcz80_2, hfz80_2⟩ := Zy (v := (.int .i64 ((Qaj l0 x309_1).f2))) BK482.out 2
           have hnb81 := NB478_479.out
           have hnc81 := NB479_478.out
           have hnb82 := NB478_481.out
           have hnc82 := NB481_478.out
           obtain ⟨hcz83_0, hfz83_0⟩ := Zy (v := (.int .i64 x479000_1)) BK478.out 0
           go_upto_region 5 with (fail)
           obtain rfl := Option.some.inj H
           have hnb84 := NB477_478.out
           have hnc84 := NB478_477.out
           have hnb85 := NB477_479.out
           have hnc85 := NB479_477.out
           have hnb86 := NB477_481.out
           have hnc86 := NB481_477.out
           have hnb87 := NB477_482.out
           have hnc87 := NB482_477.out
           obtain ⟨hcz88_0, hfz88_0⟩ := Zy (v := (.int .i64 x478000_1)) BK477.out 0
           go_wp2
           refine bodyPost_ret (Qbx rfl _ _ gb477 25 (.int .i64 18) (0, 0) _ rfl (by (with_reducible repeat (first | refine Qad ?_ _ | refine Qae ?_ | refine Qac ?_ _)); refine Qax (cs := #[.int .i64 18]) ?_ 0 _ rfl; (with_reducible repeat (first | refine Qad ?_ _ | refine Qae ?_ | refine Qac ?_ _)); refine Qas ?_ NB477_478.out _; (with_reducible repeat (first | refine Qad ?_ _ | refine Qae ?_ | refine Qac ?_ _)); refine Qax (cs := #[.int .i64 x478000_1]) ?_ 0 _ rfl; (with_reducible repeat (first | refine Qad ?_ _ | refine Qae ?_ | refine Qac ?_ _)); exact BK477.out) Try.underlying25 rfl (by kernel_rfl)) rfl ?_
           exact ⟨Zq, Zc5 GE477.out GE478.out GE479.out GE481.out GE482.out⟩
          replace c71 := Bool.eq_false_iff.mpr c71
          subst c71
          have H1 : (if ((Qaj l0 x309_1).f2) < (-16777216) then (some 17) else (if ((Qaj l0 x309_1).f2) > 16777216 then (some 17) else (if x478000_1 = 0 then (Qaw.l0 kj58 l0 (l0.length : Int) (wrap64 (x309_1 + 1)) x478000_1 ((Qaj l0 x309_1).f0)) else (some x478000_1)))) = some r := by rw [if_neg (show ¬ (F = T) by decide)] at H; exact H
          clear H
          have H := H1
          clear H1
          by_cases c89 : ((Qaj l0 x309_1).f2) < (-16777216)
          ·rw [if_pos c89] at H
           have c89b0 : decide (((Qaj l0 x309_1).f2) < (-16777216)) = T := decide_eq_true c89
           clear c89
           obtain rfl := Option.some.inj H
           have hnb90 := NB482_477.out
           have hnc90 := NB477_482.out
           have hnb91 := NB482_478.out
           have hnc91 := NB478_482.out
           have hnb92 := NB482_479.out
           have hnc92 := NB479_482.out
           have hnb93 := NB482_481.out
           have hnc93 := NB481_482.out
           obtain ⟨hcz94_0, hfz94_0⟩ := Zy (v := (.int .i64 ((Qaj l0 x309_1).f0))) BK482.out 0
           obtain ⟨hcz94_1, hfz94_1⟩ := Zy (v := (.int .i64 ((Qaj l0 x309_1).f1))) BK482.out 1
           obtain ⟨hcz94_2, hfz94_2⟩ := Zy (v := (.int .i64 ((Qaj l0 x309_1).f2))) BK482.out 2
           have hnb95 := NB477_478.out
           have hnc95 := NB478_477.out
           have hnb96 := NB477_479.out
           have hnc96 := NB479_477.out
           have hnb97 := NB477_481.out
           have hnc97 := NB481_477.out
           obtain ⟨hcz98_0, hfz98_0⟩ := Zy (v := (.int .i64 x478000_1)) BK477.out 0
           have hnb99 := NB478_479.out
           have hnc99 := NB479_478.out
           have hnb100 := NB478_481.out
           have hnc100 := NB481_478.out
           obtain ⟨hcz101_0, hfz101_0⟩ := Zy (v := (.int .i64 x479000_1)) BK478.out 0
           go_wp2
           refine bodyPost_ret (Qbx rfl _ _ gb477 25 (.int .i64 17) (0, 0) _ rfl (by (with_reducible repeat (first | refine Qad ?_ _ | refine Qae ?_ | refine Qac ?_ _)); refine Qax (cs := #[.int .i64 17]) ?_ 0 _ rfl; (with_reducible repeat (first | refine Qad ?_ _ | refine Qae ?_ | refine Qac ?_ _)); refine Qas ?_ NB477_478.out _; (with_reducible repeat (first | refine Qad ?_ _ | refine Qae ?_ | refine Qac ?_ _)); refine Qax (cs := #[.int .i64 x478000_1]) ?_ 0 _ rfl; (with_reducible repeat (first | refine Qad ?_ _ | refine Qae ?_ | refine Qac ?_ _)); exact BK477.out) Try.underlying25 rfl (by kernel_rfl)) rfl ?_
           exact ⟨Zq, Zc5 GE477.out GE478.out GE479.out GE481.out GE482.out⟩
          rw [if_neg c89] at H
          have c89b0 : decide (((Qaj l0 x309_1).f2) < (-16777216)) = F := decide_eq_false c89
          clear c89
          have hnb102 := NB482_477.out
          have hnc102 := NB477_482.out
          have hnb103 := NB482_478.out
          have hnc103 := NB478_482.out
          have hnb104 := NB482_479.out
          have hnc104 := NB479_482.out
          have hnb105 := NB482_481.out
          have hnc105 := NB481_482.out
          obtain ⟨hcz106_0, hfz106_0⟩ := Zy (v := (.int .i64 ((Qaj l0 x309_1).f0))) BK482.out 0
          obtain ⟨hcz106_1, hfz106_1⟩ := Zy (v := (.int .i64 ((Qaj l0 x309_1).f1))) BK482.out 1
          obtain ⟨hcz106_2, hfz106_2⟩ := Zy (v := (.int .i64 ((Qaj l0 x309_1).f2))) BK482.out 2
          go_upto_if 24 with (fail)
          by_cases c107 : ((Qaj l0 x309_1).f2) > 16777216
          ·rw [if_pos c107] at H
           have c107b0 : decide (16777216 < ((Qaj l0 x309_1).f2)) = T := decide_eq_true c107
           clear c107
           (try simp only [c107b0])
           obtain rfl := Option.some.inj H
           have hnb108 := NB477_478.out
           have hnc108 := NB478_477.out
           have hnb109 := NB477_479.out
           have hnc109 := NB479_477.out
           have hnb110 := NB477_481.out
           have hnc110 := NB481_477.out
           have hnb111 := NB477_482.out
           have hnc111 := NB482_477.out
           obtain ⟨hcz112_0, hfz112_0⟩ := Zy (v := (.int .i64 x478000_1)) BK477.out 0
           have hnb113 := NB482_478.out
           have hnc113 := NB478_482.out
           have hnb114 := NB482_479.out
           have hnc114 := NB479_482.out
           have hnb115 := NB482_481.out
           have hnc115 := NB481_482.out
           obtain ⟨hcz116_0, hfz116_0⟩ := Zy (v := (.int .i64 ((Qaj l0 x309_1).f0))) BK482.out 0
           obtain ⟨hcz116_1, hfz116_1⟩ := Zy (v := (.int .i64 ((Qaj l0 x309_1).f1))) BK482.out 1
           obtain ⟨hcz116_2, hfz116_2⟩ := Zy (v := (.int .i64 ((Qaj l0 x309_1).f2))) BK482.out 2
           have hnb117 := NB478_479.out
           have hnc117 := NB479_478.out
           have hnb118 := NB478_481.out
           have hnc118 := NB481_478.out
           obtain ⟨hcz119_0, hfz119_0⟩ := Zy (v := (.int .i64 x479000_1)) BK478.out 0
           go_wp2
           refine bodyPost_ret (Qbx rfl _ _ gb477 25 (.int .i64 17) (0, 0) _ rfl (by (with_reducible repeat (first | refine Qad ?_ _ | refine Qae ?_ | refine Qac ?_ _)); refine Qax (cs := #[.int .i64 17]) ?_ 0 _ rfl; (with_reducible repeat (first | refine Qad ?_ _ | refine Qae ?_ | refine Qac ?_ _)); refine Qas ?_ NB477_478.out _; (with_reducible repeat (first | refine Qad ?_ _ | refine Qae ?_ | refine Qac ?_ _)); refine Qax (cs := #[.int .i64 x478000_1]) ?_ 0 _ rfl; (with_reducible repeat (first | refine Qad ?_ _ | refine Qae ?_ | refine Qac ?_ _)); exact BK477.out) Try.underlying25 rfl (by kernel_rfl)) rfl ?_
           exact ⟨Zq, Zc5 GE477.out GE478.out GE479.out GE481.out GE482.out⟩
          rw [if_neg c107] at H
          have c107b0 : decide (16777216 < ((Qaj l0 x309_1).f2)) = F := decide_eq_false c107
          clear c107
          (try simp only [c107b0])
          have hnb120 := NB482_477.out
          have hnc120 := NB477_482.out
          have hnb121 := NB482_478.out
          have hnc121 := NB478_482.out
          have hnb122 := NB482_479.out
          have hnc122 := NB479_482.out
          have hnb123 := NB482_481.out
          have hnc123 := NB481_482.out
          obtain ⟨hcz124_0, hfz124_0⟩ := Zy (v := (.int .i64 ((Qaj l0 x309_1).f0))) BK482.out 0
          obtain ⟨hcz124_1, hfz124_1⟩ := Zy (v := (.int .i64 ((Qaj l0 x309_1).f1))) BK482.out 1
          obtain ⟨hcz124_2, hfz124_2⟩ := Zy (v := (.int .i64 ((Qaj l0 x309_1).f2))) BK482.out 2
          have hnb125 := NB478_477.out
          have hnc125 := NB477_478.out
          have hnb126 := NB478_479.out
          have hnc126 := NB479_478.out
          have hnb127 := NB478_481.out
          have hnc127 := NB481_478.out
          obtain ⟨hcz128_0, hfz128_0⟩ := Zy (v := (.int .i64 x479000_1)) BK478.out 0
          have hnb129 := NB477_479.out
          have hnc129 := NB479_477.out
          have hnb130 := NB477_481.out
          have hnc130 := NB481_477.out
          obtain ⟨hcz131_0, hfz131_0⟩ := Zy (v := (.int .i64 x478000_1)) BK477.out 0
          go_upto_if 17 with (fail)
          by_cases c132 : x478000_1 = 0
          ·rw [if_pos c132] at H
           have c132b0 : (x478000_1 == 0) = T := beq_iff_eq.mpr c132
           have c132b1 : (x478000_1 != 0) = F := bne_eq_false_iff_eq.mpr c132
           clear c132
           (try simp only [c132b0, c132b1])
           have H' := Aside0.mk H
           clear H
           go_wp2
           go_roundg kj58
           case measure => have := HK1.out; have := HJ11.out; have := HJ58.out; omega
           case rel => exact ⟨(wrap64 (x309_1 + 1)), (x478000_1), (((Qaj l0 x309_1).f0)), (Zs), H', ⟨by have := HK1.out; have := HJ11.out; have := HJ58.out; omega⟩, ⟨Zg1 BK477.out NB477_478.out⟩, ⟨Zp2 BK478.out⟩, ⟨Zg1 BK479.out NB479_478.out⟩, ⟨Zc5 GE477.out GE478.out GE479.out GE481.out GE482.out⟩⟩
          rw [if_neg c132] at H
          have c132b0 : (x478000_1 == 0) = F := beq_eq_false_iff_ne.mpr c132
          have c132b1 : (x478000_1 != 0) = T := bne_iff_ne.mpr c132
          (try simp only [c132b0, c132b1])
          obtain rfl := Option.some.inj H
          have hnb133 := NB477_478.out
          have hnc133 := NB478_477.out
          have hnb134 := NB477_479.out
          have hnc134 := NB479_477.out
          have hnb135 := NB477_481.out
          have hnc135 := NB481_477.out
          have hnb136 := NB477_482.out
          have hnc136 := NB482_477.out
          obtain ⟨hcz137_0, hfz137_0⟩ := Zy (v := (.int .i64 x478000_1)) BK477.out 0
          go_wp2
          refine bodyPost_ret (Qbx rfl _ _ gb477 25 (.int .i64 x478000_1) (0, 0) _ rfl (by (with_reducible repeat (first | refine Qad ?_ _ | refine Qae ?_ | refine Qac ?_ _)); refine Qax (cs := #[.int .i64 x478000_1]) ?_ 0 _ rfl; (with_reducible repeat (first | refine Qad ?_ _ | refine Qae ?_ | refine Qac ?_ _)); refine Qas ?_ NB477_478.out _; (with_reducible repeat (first | refine Qad ?_ _ | refine Qae ?_ | refine Qac ?_ _)); exact BK477.out) Try.underlying25 rfl (by kernel_rfl)) rfl ?_
          exact ⟨Zq, Zc5 GE477.out GE478.out GE479.out GE481.out GE482.out⟩
     rw [if_neg c11] at H
     exact absurd H (by simp)
    rw [if_neg c10] at H
    exact absurd H (by simp)
   rw [if_neg c9] at H
   have c9b0 : decide (x309_1 < (l0.length : Int)) = F := decide_eq_false c9
   clear c9
   (try simp only [c9b0])
   go_upto_region 5 with (fail)
   obtain rfl := Option.some.inj H
   have hnb138 := NB477_478.out
   have hnc138 := NB478_477.out
   have hnb139 := NB477_479.out
   have hnc139 := NB479_477.out
   obtain ⟨hcz140_0, hfz140_0⟩ := Zy (v := (.int .i64 x478000_1)) BK477.out 0
   go_wp2
   refine bodyPost_ret (Qbx rfl _ _ gb477 25 (.int .i64 x478000_1) (0, 0) _ rfl (Zp2 BK477.out) Try.underlying25 rfl (by kernel_rfl)) rfl ?_
   exact ⟨Zq, Zc3 GE477.out GE478.out GE479.out⟩
mutual
def QaB.l0 : Nat → List Int → List (S130) → Int → Int → List (S130) → Int → Int → Int → Int → Int → Int → Int → Option (List Int)
 | 0, _, _, _, _, _, _, _, _, _, _, _, _ => none
 | k + 1, x3, x9, x10, x11, x484000, x484001, x484002, x484003, x484004, x484005, x484006, x484007 => if x11 < x10 then (if 0 ≤ x11 then (if x11 < (x9.length : Int) then (if x3.length < 17592186044416 then (QaB.l0 k (x3 ++ [(Qaj x9 x11).f2]) x9 x10 (wrap64 (x11 + 1)) x484000 x484001 x484002 x484003 x484004 x484005 x484006 x484007) else (none)) else (none)) else (none)) else ((some (([x484004, x484005] : List Int) : List Int)).bind fun y489 => (QaB.l1 k x3 y489 (y489.length : Int) 0 x484000 x484001 x484002 x484003 x484004 x484005 x484006 x484007))
def QaB.l1 : Nat → List Int → List Int → Int → Int → List (S130) → Int → Int → Int → Int → Int → Int → Int → Option (List Int)
 | 0, _, _, _, _, _, _, _, _, _, _, _, _ => none
 | k + 1, x3, x25, x26, x27, x484000, x484001, x484002, x484003, x484004, x484005, x484006, x484007 => if x27 < x26 then (if 0 ≤ x27 then (if x27 < (x25.length : Int) then (if (rd x25 x27) = 0 then (QaB.l1 k x3 x25 x26 (wrap64 (x27 + 1)) x484000 x484001 x484002 x484003 x484004 x484005 x484006 x484007) else (if x3.length < 17592186044416 then (QaB.l1 k (x3 ++ [rd x25 x27]) x25 x26 (wrap64 (x27 + 1)) x484000 x484001 x484002 x484003 x484004 x484005 x484006 x484007) else (none))) else (none)) else (none)) else (if x3.length < 17592186044416 then (some (x3 ++ [x484006])) else (none))
end
def QaB.f (k : Nat) (l0_0 : List (S130)) (a0_1 : Int) (a0_2 : Int) (a0_3 : Int) (a0_4 : Int) (a0_5 : Int) (a0_6 : Int) (a0_7 : Int) : Option (List Int) := QaB.l0 k ([] : List Int) l0_0 (l0_0.length : Int) 0 l0_0 a0_1 a0_2 a0_3 a0_4 a0_5 a0_6 a0_7
theorem QaB.mono_l : ∀ k, (∀ y0 y1 y2 y3 y4 y5 y6 y7 y8 y9 y10 y11, LeO (QaB.l0 k y0 y1 y2 y3 y4 y5 y6 y7 y8 y9 y10 y11) (QaB.l0 (k + 1) y0 y1 y2 y3 y4 y5 y6 y7 y8 y9 y10 y11)) ∧ (∀ y0 y1 y2 y3 y4 y5 y6 y7 y8 y9 y10 y11, LeO (QaB.l1 k y0 y1 y2 y3 y4 y5 y6 y7 y8 y9 y10 y11) (QaB.l1 (k + 1) y0 y1 y2 y3 y4 y5 y6 y7 y8 y9 y10 y11))
 | 0 => ⟨fun _ _ _ _ _ _ _ _ _ _ _ _ r h => by simp [QaB.l0] at h, fun _ _ _ _ _ _ _ _ _ _ _ _ r h => by simp [QaB.l1] at h⟩
 | k + 1 => by
  obtain ⟨ih0, ih1⟩ := QaB.mono_l k
  refine ⟨?_, ?_⟩
  ·intro y0 y1 y2 y3 y4 y5 y6 y7 y8 y9 y10 y11
   unfold QaB.l0
   exact ZM2 ih0 ih1
  intro y0 y1 y2 y3 y4 y5 y6 y7 y8 y9 y10 y11
  unfold QaB.l1
  exact ZM2 ih0 ih1
theorem QaB.mono : ∀ a0 a1 a2 a3 a4 a5 a6 a7 k, LeO (QaB.f k a0 a1 a2 a3 a4 a5 a6 a7) (QaB.f (k + 1) a0 a1 a2 a3 a4 a5 a6 a7) := by
 intro a0 a1 a2 a3 a4 a5 a6 a7 k
 obtain ⟨ih0, ih1⟩ := QaB.mono_l k
 unfold QaB.f
 exact ZM2 ih0 ih1
theorem QaB.calls (k : Nat) (A0_0 : Option Addr) (c0_0 : Nat) (l0_0 : List (S130)) (a0_1 : Int) (a0_2 : Int) (a0_3 : Int) (a0_4 : Int) (a0_5 : Int) (a0_6 : Int) (a0_7 : Int) (r : List Int) (w : World) (hr0_0 : Kd.C k130 w A0_0 l0_0.length l0_0) (hc0_0 : l0_0.length ≤ c0_0) (h : QaB.f k l0_0 a0_1 a0_2 a0_3 a0_4 a0_5 a0_6 a0_7 = some r) :
  Calls Try.prog 83 #[.agg #[.slice A0_0 l0_0.length c0_0, .int .i64 a0_1, .int .i64 a0_2, .int .i64 a0_3, .int .i64 a0_4, .int .i64 a0_5, .int .i64 a0_6, .int .i64 a0_7]] w fun e w' => ∃ v0_ : Value, e = .returned (v0_) ∧ Kd.R (Kd.int .i64) 3 w' w.heap.size (fun _ => True) v0_ r ∧ Below w.heap.size w w' := by
 have hu76 := Try.underlying76
 have hu130 := Try.underlying130
 have HR0_0 := Aside0.mk hr0_0
 have HC0_0 := Aside0.mk hc0_0
 clear hr0_0 hc0_0
 have HB := Aside0.mk (Below.refl w.heap.size w)
 have H : (QaB.l0 k ([] : List Int) l0_0 (l0_0.length : Int) 0 l0_0 a0_1 a0_2 a0_3 a0_4 a0_5 a0_6 a0_7) = some r := h
 clear h
 have H' := Aside0.mk H
 clear H
 go_enter Try.func83, Try.ntmps83
 go_wp2_with (first | ((with_reducible refine QaJ (N := 1) rfl ?_); refine Zbx (N := 1) (cs := #[.slice A0_0 l0_0.length c0_0, .int .i64 a0_1, .int .i64 a0_2, .int .i64 a0_3, .int .i64 a0_4, .int .i64 a0_5, .int .i64 a0_6, .int .i64 a0_7]) (t := 76) ?_; intro gb483 hg w2 hbox hb; have BK483 := Aside0.mk (hbox); have GW483 := Aside0.mk (Zt w hg (Zb)); have GE483 := GW483; replace HB := Aside0.mk (Qao (Zb) hb); clear hb hbox hg; obtain ⟨hcz3_0, hfz3_0⟩ := Zy (v := (.slice A0_0 l0_0.length c0_0)) BK483.out 0; obtain ⟨hcz3_1, hfz3_1⟩ := Zy (v := (.int .i64 a0_1)) BK483.out 1; obtain ⟨hcz3_2, hfz3_2⟩ := Zy (v := (.int .i64 a0_2)) BK483.out 2; obtain ⟨hcz3_3, hfz3_3⟩ := Zy (v := (.int .i64 a0_3)) BK483.out 3; obtain ⟨hcz3_4, hfz3_4⟩ := Zy (v := (.int .i64 a0_4)) BK483.out 4; obtain ⟨hcz3_5, hfz3_5⟩ := Zy (v := (.int .i64 a0_5)) BK483.out 5; obtain ⟨hcz3_6, hfz3_6⟩ := Zy (v := (.int .i64 a0_6)) BK483.out 6; obtain ⟨hcz3_7, hfz3_7⟩ := Zy (v := (.int .i64 a0_7)) BK483.out 7))
 go_loopg [3, 11] k (fun kq v3 v11 w' => ∃ (x3_1 : List Int) (x11_1 : Int), v11 = .int .i64 x11_1 ∧ Aside0 (QaB.l0 kq x3_1 l0_0 (l0_0.length : Int) x11_1 l0_0 a0_1 a0_2 a0_3 a0_4 a0_5 a0_6 a0_7 = some r) ∧ Aside0 (kq ≤ k) ∧ Aside0 (Kd.R (Kd.int .i64) 3 w' w.heap.size (fun _ => True) v3 x3_1) ∧ Aside0 (w'.heap[gb483]? = some (.cells #[(.slice A0_0 l0_0.length c0_0), .int .i64 a0_1, .int .i64 a0_2, .int .i64 a0_3, .int .i64 a0_4, .int .i64 a0_5, .int .i64 a0_6, .int .i64 a0_7] 76 (0, 0))) ∧ Aside0 (Below w.heap.size w w'))
 case atStart => exact ⟨(([] : List Int)), (0), (Zs), H', ⟨Nat.le_refl _⟩, ⟨by first | exact Kd.R_nil _ _ _ _ _ | exact Kd.N_nil _ _ _ _ _ | exact Kd.V_nil _ _ _ _ _ | exact Kd.Q_nil _ _ _ _ _ | exact Kd.S_nil _ _ _ _ _⟩, ⟨Zu BK483.out⟩, ⟨Zc1 GE483.out⟩⟩
 case round =>
  clear H'
  try clear p2
  try clear hcz3_0
  try clear hcz3_1
  try clear hcz3_2
  try clear hcz3_3
  try clear hcz3_4
  try clear hcz3_5
  try clear hcz3_6
  try clear hcz3_7
  try clear hfz3_0
  try clear hfz3_1
  try clear hfz3_2
  try clear hfz3_3
  try clear hfz3_4
  try clear hfz3_5
  try clear hfz3_6
  try clear hfz3_7
  obtain ⟨x3_1, x11_1, rfl, HA, HK1, HO_3, BK483, HB⟩ := hrel
  cases gk with
  | zero => exact absurd HA.out (by simp [QaB.l0])
  | succ k1 =>
   have H := HA.out
   clear HA
   simp only [QaB.l0] at H
   by_cases c4 : x11_1 < (l0_0.length : Int)
   ·rw [if_pos c4] at H
    have c4b0 : decide (x11_1 < (l0_0.length : Int)) = T := decide_eq_true c4
    clear c4
    (try simp only [c4b0])
    by_cases c5 : 0 ≤ x11_1
    ·rw [if_pos c5] at H
     have c5b0 : decide (0 ≤ x11_1) = T := decide_eq_true c5
     clear c5
     by_cases c6 : x11_1 < (l0_0.length : Int)
     ·rw [if_pos c6] at H
      have c6b0 : decide (x11_1 < (l0_0.length : Int)) = T := decide_eq_true c6
      clear c6
      by_cases c7 : x3_1.length < 17592186044416
      ·rw [if_pos c7] at H
       have LMc7 := Aside0.mk c7
       clear c7
       obtain ⟨y486, hy486⟩ : ∃ y_ : List Int, y_ = (x3_1 ++ [(Qaj l0_0 x11_1).f2]) := ⟨_, rfl⟩
       replace H : (QaB.l0 k1 y486 l0_0 (l0_0.length : Int) (wrap64 (x11_1 + 1)) l0_0 a0_1 a0_2 a0_3 a0_4 a0_5 a0_6 a0_7) = some r := by first | (rw [hy486]; with_reducible exact H) | (have H2_ := (Option.bind_some _ _).symm.trans H; rw [hy486]; with_reducible exact H2_) | (have H2_ := (Option.bind_some _ _).symm.trans H; with_reducible exact H2_) | with_reducible exact H | (rw [hy486]; exact H) | exact H
       have Ny486 := Aside0.mk hy486
       clear hy486
       have H' := Aside0.mk H
       clear H
       have p484 : 0 ≤ (x11_1 : Int) := Ze
       have q484 : x11_1 < (l0_0.length : Int) := Ze
       obtain ⟨ad484, e484, hx484_0, hx484_1, hx484_2⟩ := QbS HR0_0.out x11_1 p484 q484
       cases e484
       replace hx484_0 := Zx HB.out hx484_0
       replace hx484_1 := Zx HB.out hx484_1
       replace hx484_2 := Zx HB.out hx484_2
       replace p484 := eq_true p484
       replace q484 := eq_true q484
       go_wp2_with (first | ((with_reducible refine QaJ (N := 5) rfl ?_); refine Zbx (N := 5) (cs := #[.int .i64 0, .int .i64 0, .int .i64 0]) (t := 130) ?_; intro gb485 hg w8 hbox hb; have BK485 := Aside0.mk (hbox); have GW485 := Aside0.mk (Zt w hg (Zc1 GE483.out)); have GE485 := GW485; have NB483_485 := Aside0.mk (Zn hg BK483.out); have NB485_483 := Aside0.mk NB483_485.out.symm; replace HO_3 := Aside0.mk (Kd.R_below (Zr HO_3.out) hb); replace BK483 := Aside0.mk (Zi BK483.out hb); replace HB := Aside0.mk (Qao (Zc1 GE483.out) hb); clear hb hbox hg; have hnb9 := NB485_483.out; have hnc9 := NB483_485.out; obtain ⟨hcz10_0, hfz10_0⟩ := Zy (v := (.int .i64 0)) BK485.out 0; obtain ⟨hcz10_1, hfz10_1⟩ := Zy (v := (.int .i64 0)) BK485.out 1; obtain ⟨hcz10_2, hfz10_2⟩ := Zy (v := (.int .i64 0)) BK485.out 2) | ((with_reducible refine QbA (b := .append) (xs := #[.tmp 15, .tmp 18]) rfl ?_); at_builtin; refine Kd.R_append (Kd.int .i64) (w0 := w) w.heap.size rfl (.tmp 15) (.tmp 18) 40 3 (.int .i64 0) 8 rfl Try.underlying40 info3 rfl (by decide) (by omega) u3 x3_1 ((Qaj l0_0 x11_1).f2) [.int .i64 ((Qaj l0_0 x11_1).f2)] (fun _ => True) (fun _ => False) rfl (by first | (go_simp; done) | (go_simp; rfl)) ?aP (fun _ hk => hk.elim) ?aF ?aO ?aB ?aS ?aL ?_; (case aP => exact rfl); (case aB => exact (Zc2 GE483.out GE485.out)); (case aF => exact (fun _ _ => trivial)); (case aO => exact (by (with_reducible repeat (first | apply Kd.R_alloc | apply Kd.R_drewN | apply Kd.R_drew)); exact Kd.R_mono (Kd.R_far (p := ⟨gb485, 2, none⟩) (Kd.R_far (p := ⟨gb485, 1, none⟩) (Kd.R_far (p := ⟨gb485, 0, none⟩) (Kd.R_types HO_3.out BK485.out (by decide)) (fun _ hk => hk.2) (.int .i64 ((Qaj l0_0 x11_1).f0))) (fun _ hk => hk.2) (.int .i64 ((Qaj l0_0 x11_1).f1))) (fun _ hk => hk.2) (.int .i64 ((Qaj l0_0 x11_1).f2))) (fun _ hk => trivial))); (case aS => exact (Qaq (Zc2 GE483.out GE485.out))); (case aL => have := LMc7.out; omega); intro v487 w11 ho hb hg hat; rw [← Ny486.out] at ho; have HO488 := Aside0.mk (ho); replace BK483 := Aside0.mk (Qbn (g := gb483) (o := .cells #[.slice (some ad484) l0_0.length c0_0, .int .i64 a0_1, .int .i64 a0_2, .int .i64 a0_3, .int .i64 a0_4, .int .i64 a0_5, .int .i64 a0_6, .int .i64 a0_7] 76 (0, 0)) (Zg3 BK483.out NB483_485.out NB483_485.out NB483_485.out) hg (Kd.R_ne HO_3.out BK483.out (by decide))); replace BK485 := Aside0.mk (Qbn (g := gb485) (o := .cells #[.int .i64 ((Qaj l0_0 x11_1).f0), .int .i64 ((Qaj l0_0 x11_1).f1), .int .i64 ((Qaj l0_0 x11_1).f2)] 130 (0, 0)) (Zp2 BK485.out) hg (Kd.R_ne HO_3.out BK485.out (by decide))); replace HB := Aside0.mk (hb); clear HO_3; clear ho hb hg hat))
       go_roundg k1
       case measure => have := HK1.out; omega
       case rel => exact ⟨(y486), (wrap64 (x11_1 + 1)), (Zs), H', ⟨by have := HK1.out; omega⟩, ⟨Zr HO488.out⟩, ⟨Zu BK483.out⟩, ⟨Zc2 GE483.out GE485.out⟩⟩
      rw [if_neg c7] at H
      exact absurd H (by simp)
     rw [if_neg c6] at H
     exact absurd H (by simp)
    rw [if_neg c5] at H
    exact absurd H (by simp)
   rw [if_neg c4] at H
   have c4b0 : decide (x11_1 < (l0_0.length : Int)) = F := decide_eq_false c4
   clear c4
   (try simp only [c4b0])
   obtain ⟨y489, hy489⟩ : ∃ y_ : List Int, y_ = (([a0_4, a0_5] : List Int)) := ⟨_, rfl⟩
   replace H : (QaB.l1 k1 x3_1 y489 (y489.length : Int) 0 l0_0 a0_1 a0_2 a0_3 a0_4 a0_5 a0_6 a0_7) = some r := by first | (rw [hy489]; with_reducible exact H) | (have H2_ := (Option.bind_some _ _).symm.trans H; rw [hy489]; with_reducible exact H2_) | (have H2_ := (Option.bind_some _ _).symm.trans H; with_reducible exact H2_) | with_reducible exact H | (rw [hy489]; exact H) | exact H
   have Ny489 := Aside0.mk hy489
   clear hy489
   have H' := Aside0.mk H
   clear H
   obtain ⟨hcz12_0, hfz12_0⟩ := Zy (v := (.slice A0_0 l0_0.length c0_0)) BK483.out 0
   obtain ⟨hcz12_1, hfz12_1⟩ := Zy (v := (.int .i64 a0_1)) BK483.out 1
   obtain ⟨hcz12_2, hfz12_2⟩ := Zy (v := (.int .i64 a0_2)) BK483.out 2
   obtain ⟨hcz12_3, hfz12_3⟩ := Zy (v := (.int .i64 a0_3)) BK483.out 3
   obtain ⟨hcz12_4, hfz12_4⟩ := Zy (v := (.int .i64 a0_4)) BK483.out 4
   obtain ⟨hcz12_5, hfz12_5⟩ := Zy (v := (.int .i64 a0_5)) BK483.out 5
   obtain ⟨hcz12_6, hfz12_6⟩ := Zy (v := (.int .i64 a0_6)) BK483.out 6
   obtain ⟨hcz12_7, hfz12_7⟩ := Zy (v := (.int .i64 a0_7)) BK483.out 7
   go_wp2_with (first | ((with_reducible refine QaJ (N := 25) rfl ?_); refine Kd.R_lit (Kd.int .i64) _ 3 ?hg (N := 25) ?hd (xs := ([a0_4, a0_5] : List Int)) (inner := [.int .i64 a0_4, .int .i64 a0_5]) (ok := fun _ => True) (okp := fun _ => True) ?hr ?hp (fun _ hk => hk) trivial (Below.refl _ _) (Nat.le_refl _) (by simp) ?_; (case hd => rfl); (case hg => rfl); (case hr => first | (go_simp; done) | (go_simp; rfl)); (case hp => exact (Reps.one (show Kd.M (Kd.int .i64) _ _ _ a0_4 [.int .i64 a0_4] from rfl) (Reps.one (show Kd.M (Kd.int .i64) _ _ _ a0_5 [.int .i64 a0_5] from rfl) (Reps.none _ _)))); intro v490 w13 ho14 hb hg_ hnew_; clear hg_ hnew_; (first | rw [← Ny489.out] at ho14 | (simp only [Int.reduceToNat] at ho14; rw [← Ny489.out] at ho14)); have HO491 := Aside0.mk (Kd.R_lower (Kd.R_new' ho14 (Kd.R_lt (Zr HO_3.out))) (Qaq (Zc1 GE483.out))); replace HO_3 := Aside0.mk (Kd.R_elder' (Zr HO_3.out) (Kd.R_base ho14) hb); replace BK483 := Aside0.mk (Zi BK483.out hb); replace HB := Aside0.mk (Qao (Zc1 GE483.out) hb); clear hb ho14; obtain ⟨Ao15, co15, eo15⟩ := Kd.R_slice HO491.out; subst eo15))
   go_loopg [3, 27] k1 (fun kq v3 v27 w' => ∃ (x3_2 : List Int) (x27_2 : Int), v27 = .int .i64 x27_2 ∧ Aside0 (QaB.l1 kq x3_2 y489 (y489.length : Int) x27_2 l0_0 a0_1 a0_2 a0_3 a0_4 a0_5 a0_6 a0_7 = some r) ∧ Aside0 (kq ≤ k1) ∧ Aside0 (Kd.R (Kd.int .i64) 3 w' w.heap.size (fun k_ => some k_ ≠ ((.slice Ao15 y489.length co15) : Value).ownBlock) v3 x3_2) ∧ Aside0 (Kd.R (Kd.int .i64) 3 w' w.heap.size (fun k_ => some k_ ≠ (v3 : Value).ownBlock) (.slice Ao15 y489.length co15) y489) ∧ Aside0 (w'.heap[gb483]? = some (.cells #[(.slice A0_0 l0_0.length c0_0), .int .i64 a0_1, .int .i64 a0_2, .int .i64 a0_3, .int .i64 a0_4, .int .i64 a0_5, .int .i64 a0_6, .int .i64 a0_7] 76 (0, 0))) ∧ Aside0 (Below w.heap.size w w'))
   case atStart => exact ⟨(x3_1), (0), (Zs), H', ⟨Nat.le_refl _⟩, ⟨by (with_reducible repeat (first | apply Kd.R_alloc | apply Kd.R_drewN | apply Kd.R_drew)); exact Kd.R_mono HO_3.out (fun _ hk => hk.2)⟩, ⟨by (with_reducible repeat (first | apply Kd.R_alloc | apply Kd.R_drewN | apply Kd.R_drew)); exact Kd.R_mono HO491.out (fun _ hk => hk.2)⟩, ⟨Zu BK483.out⟩, ⟨Zc1 GE483.out⟩⟩
   case round =>
    clear H'
    try clear p2
    try clear c4
    try clear c4b0
    try clear p4
    try clear q4
    try clear hx4
    try clear c5
    try clear c5b0
    try clear c6
    try clear c6b0
    try clear p6
    try clear c7
    try clear c8
    try clear c9
    try clear hcz10_0
    try clear hcz10_1
    try clear hcz10_2
    try clear hcz12_0
    try clear hcz12_1
    try clear hcz12_2
    try clear hcz12_3
    try clear hcz12_4
    try clear hcz12_5
    try clear hcz12_6
    try clear hcz12_7
    try clear hcz3_0
    try clear hcz3_1
    try clear hcz3_2
    try clear hcz3_3
    try clear hcz3_4
    try clear hcz3_5
    try clear hcz3_6
    try clear hcz3_7
    try clear hfz10_0
    try clear hfz10_1
    try clear hfz10_2
    try clear hfz12_0
    try clear hfz12_1
    try clear hfz12_2
    try clear hfz12_3
    try clear hfz12_4
    try clear hfz12_5
    try clear hfz12_6
    try clear hfz12_7
    try clear hfz3_0
    try clear hfz3_1
    try clear hfz3_2
    try clear hfz3_3
    try clear hfz3_4
    try clear hfz3_5
    try clear hfz3_6
    try clear hfz3_7
    try clear hx484_0
    try clear hx484_1
    try clear hx484_2
    try clear p2
    try clear p484
    try clear q484
    obtain ⟨x3_2, x27_2, rfl, HA, HK2, HO_3, HO_25, BK483, HB⟩ := hrel
    cases gk with
    | zero => exact absurd HA.out (by simp [QaB.l1])
    | succ k2 =>
     have H := HA.out
     clear HA
     simp only [QaB.l1] at H
     by_cases c16 : x27_2 < (y489.length : Int)
     ·rw [if_pos c16] at H
      have c16b0 : decide (x27_2 < (y489.length : Int)) = T := decide_eq_true c16
      clear c16
      (try simp only [c16b0])
      by_cases c17 : 0 ≤ x27_2
      ·rw [if_pos c17] at H
       have c17b0 : decide (0 ≤ x27_2) = T := decide_eq_true c17
       clear c17
       by_cases c18 : x27_2 < (y489.length : Int)
       ·rw [if_pos c18] at H
        have c18b0 : decide (x27_2 < (y489.length : Int)) = T := decide_eq_true c18
        clear c18
        have p492 : 0 ≤ (x27_2 : Int) := Ze
        have q492 : x27_2 < (y489.length : Int) := Ze
        obtain ⟨ad492, e492, hx492_0⟩ := Kd.at_int (Kd.R_reads' HO_25.out).2.2 x27_2 p492 q492
        cases e492
        replace p492 := eq_true p492
        replace q492 := eq_true q492
        go_upto_if 32 with (fail)
        by_cases c19 : (rd y489 x27_2) = 0
        ·rw [if_pos c19] at H
         have c19b0 : ((rd y489 x27_2) == 0) = T := beq_iff_eq.mpr c19
         have c19b1 : ((rd y489 x27_2) != 0) = F := bne_eq_false_iff_eq.mpr c19
         clear c19
         (try simp only [c19b0, c19b1])
         have H' := Aside0.mk H
         clear H
         go_wp2
         go_roundg k2
         case measure => have := HK1.out; have := HK2.out; omega
         case rel => exact ⟨(x3_2), (wrap64 (x27_2 + 1)), (Zs), H', ⟨by have := HK1.out; have := HK2.out; omega⟩, ⟨Zr HO_3.out⟩, ⟨Zr HO_25.out⟩, ⟨Zu BK483.out⟩, ⟨Zc1 GE483.out⟩⟩
        rw [if_neg c19] at H
        have c19b0 : ((rd y489 x27_2) == 0) = F := beq_eq_false_iff_ne.mpr c19
        have c19b1 : ((rd y489 x27_2) != 0) = T := bne_iff_ne.mpr c19
        (try simp only [c19b0, c19b1])
        by_cases c20 : x3_2.length < 17592186044416
        ·rw [if_pos c20] at H
         have LMc20 := Aside0.mk c20
         clear c20
         obtain ⟨y493, hy493⟩ : ∃ y_ : List Int, y_ = (x3_2 ++ [rd y489 x27_2]) := ⟨_, rfl⟩
         replace H : (QaB.l1 k2 y493 y489 (y489.length : Int) (wrap64 (x27_2 + 1)) l0_0 a0_1 a0_2 a0_3 a0_4 a0_5 a0_6 a0_7) = some r := by first | (rw [hy493]; with_reducible exact H) | (have H2_ := (Option.bind_some _ _).symm.trans H; rw [hy493]; with_reducible exact H2_) | (have H2_ := (Option.bind_some _ _).symm.trans H; with_reducible exact H2_) | with_reducible exact H | (rw [hy493]; exact H) | exact H
         have Ny493 := Aside0.mk hy493
         clear hy493
         have H' := Aside0.mk H
         clear H
         go_wp2_with (first | ((with_reducible refine QbA (b := .append) (xs := #[.tmp 33, .tmp 35]) rfl ?_); at_builtin; refine Kd.R_append (Kd.int .i64) (w0 := w) w.heap.size rfl (.tmp 33) (.tmp 35) 40 3 (.int .i64 0) 8 rfl Try.underlying40 info3 rfl (by decide) (by omega) u3 x3_2 (rd y489 x27_2) [.int .i64 (rd y489 x27_2)] (fun k_ => some k_ ≠ (.slice (some ad492) y489.length co15 : Value).ownBlock) (fun _ => False) rfl rfl ?aP (fun _ hk => hk.elim) ?aF ?aO ?aB ?aS ?aL ?_; (case aP => exact rfl); (case aB => exact (Zc1 GE483.out)); (case aF => exact (fun k_ hk => Kd.fresh' (Kd.R_lt (Zr HO_25.out)) k_ hk)); (case aO => exact (Zr HO_3.out)); (case aS => exact (Qaq (Zc1 GE483.out))); (case aL => have := LMc20.out; omega); intro v494 w21 ho hb hg hat; rw [← Ny493.out] at ho; have HO495 := Aside0.mk (ho); replace HO_25 := Aside0.mk (Kd.R_after (ok := (fun _ => True)) (by (with_reducible repeat (first | apply Kd.R_alloc | apply Kd.R_drewN | apply Kd.R_drew)); exact Kd.R_mono HO_25.out (fun _ hk => ⟨trivial, hk⟩)) hg hat); replace BK483 := Aside0.mk (Qbn (g := gb483) (o := .cells #[.slice A0_0 l0_0.length c0_0, .int .i64 a0_1, .int .i64 a0_2, .int .i64 a0_3, .int .i64 a0_4, .int .i64 a0_5, .int .i64 a0_6, .int .i64 a0_7] 76 (0, 0)) (Zu BK483.out) hg (Kd.R_ne HO_3.out BK483.out (by decide))); replace HB := Aside0.mk (hb); clear HO_3; clear ho hb hg hat))
         go_roundg k2
         case measure => have := HK1.out; have := HK2.out; omega
         case rel => exact ⟨(y493), (wrap64 (x27_2 + 1)), (Zs), H', ⟨by have := HK1.out; have := HK2.out; omega⟩, ⟨Zr HO495.out⟩, ⟨by (with_reducible repeat (first | apply Kd.R_alloc | apply Kd.R_drewN | apply Kd.R_drew)); exact Kd.R_mono HO_25.out (fun _ hk => hk.2)⟩, ⟨Zu BK483.out⟩, ⟨Zc1 GE483.out⟩⟩
        rw [if_neg c20] at H
        exact absurd H (by simp)
       rw [if_neg c18] at H
       exact absurd H (by simp)
      rw [if_neg c17] at H
      exact absurd H (by simp)
     rw [if_neg c16] at H
     have c16b0 : decide (x27_2 < (y489.length : Int)) = F := decide_eq_false c16
     clear c16
     (try simp only [c16b0])
     by_cases c22 : x3_2.length < 17592186044416
     ·rw [if_pos c22] at H
      have LMc22 := Aside0.mk c22
      clear c22
      obtain ⟨y496, hy496⟩ : ∃ y_ : List Int, y_ = (x3_2 ++ [a0_6]) := ⟨_, rfl⟩
      replace H : (some y496) = some r := by first | (rw [hy496]; with_reducible exact H) | (have H2_ := (Option.bind_some _ _).symm.trans H; rw [hy496]; with_reducible exact H2_) | (have H2_ := (Option.bind_some _ _).symm.trans H; with_reducible exact H2_) | with_reducible exact H | (rw [hy496]; exact H) | exact H
      have Ny496 := Aside0.mk hy496
      clear hy496
      obtain rfl := Option.some.inj H
      obtain ⟨hcz23_0, hfz23_0⟩ := Zy (v := (.slice A0_0 l0_0.length c0_0)) BK483.out 0
      obtain ⟨hcz23_1, hfz23_1⟩ := Zy (v := (.int .i64 a0_1)) BK483.out 1
      obtain ⟨hcz23_2, hfz23_2⟩ := Zy (v := (.int .i64 a0_2)) BK483.out 2
      obtain ⟨hcz23_3, hfz23_3⟩ := Zy (v := (.int .i64 a0_3)) BK483.out 3
      obtain ⟨hcz23_4, hfz23_4⟩ := Zy (v := (.int .i64 a0_4)) BK483.out 4
      obtain ⟨hcz23_5, hfz23_5⟩ := Zy (v := (.int .i64 a0_5)) BK483.out 5
      obtain ⟨hcz23_6, hfz23_6⟩ := Zy (v := (.int .i64 a0_6)) BK483.out 6
      obtain ⟨hcz23_7, hfz23_7⟩ := Zy (v := (.int .i64 a0_7)) BK483.out 7
      go_wp2_with (first | ((with_reducible refine QbA (b := .append) (xs := #[.tmp 38, .tmp 41]) rfl ?_); at_builtin; refine Kd.R_append (Kd.int .i64) (w0 := w) w.heap.size rfl (.tmp 38) (.tmp 41) 40 3 (.int .i64 0) 8 rfl Try.underlying40 info3 rfl (by decide) (by omega) u3 x3_2 a0_6 [.int .i64 a0_6] (fun k_ => some k_ ≠ (.slice Ao15 y489.length co15 : Value).ownBlock) (fun _ => False) rfl rfl ?aP (fun _ hk => hk.elim) ?aF ?aO ?aB ?aS ?aL ?_; (case aP => exact rfl); (case aB => exact (Zc1 GE483.out)); (case aF => exact (fun k_ hk => Kd.fresh' (Kd.R_lt (Zr HO_25.out)) k_ hk)); (case aO => exact (Zr HO_3.out)); (case aS => exact (Qaq (Zc1 GE483.out))); (case aL => have := LMc22.out; omega); intro v497 w24 ho hb hg hat; rw [← Ny496.out] at ho; have HO498 := Aside0.mk (ho); replace HO_25 := Aside0.mk (Kd.R_after (ok := (fun _ => True)) (by (with_reducible repeat (first | apply Kd.R_alloc | apply Kd.R_drewN | apply Kd.R_drew)); exact Kd.R_mono HO_25.out (fun _ hk => ⟨trivial, hk⟩)) hg hat); replace BK483 := Aside0.mk (Qbn (g := gb483) (o := .cells #[.slice A0_0 l0_0.length c0_0, .int .i64 a0_1, .int .i64 a0_2, .int .i64 a0_3, .int .i64 a0_4, .int .i64 a0_5, .int .i64 a0_6, .int .i64 a0_7] 76 (0, 0)) (Zu BK483.out) hg (Kd.R_ne HO_3.out BK483.out (by decide))); replace HB := Aside0.mk (hb); clear HO_3; clear ho hb hg hat))
      go_ret
      exact ⟨_, Zq, by (with_reducible repeat (first | apply Kd.R_alloc | apply Kd.R_drewN | apply Kd.R_drew)); exact Kd.R_mono HO498.out (fun _ hk => trivial), Zc1 GE483.out⟩
     rw [if_neg c22] at H
     exact absurd H (by simp)
def Qa0.f (a0 : Int) : Option (Bool) := if a0 ≥ (-16777216) then (some (decide (a0 ≤ 16777216))) else (some F)
theorem Qa0.calls (a0 : Int) (r : Bool) (w : World) (h : Qa0.f a0 = some r) :
  Calls Try.prog 84 #[.int .i64 a0] w fun e w' => e = .returned (.bool r) ∧ Drawn0 w w' := by
 have H : (if a0 ≥ (-16777216) then (some (decide (a0 ≤ 16777216))) else (some F)) = some r := h
 clear h
 by_cases c2 : a0 ≥ (-16777216)
 ·rw [if_pos c2] at H
  have c2b0 : decide ((-16777216) ≤ a0) = T := decide_eq_true c2
  clear c2
  obtain rfl := Option.some.inj H
  go_enter Try.func84, Try.ntmps84
  go_wp2
  go_ret
  exact ⟨Zs, Zd⟩
 rw [if_neg c2] at H
 have c2b0 : decide ((-16777216) ≤ a0) = F := decide_eq_false c2
 clear c2
 obtain rfl := Option.some.inj H
 go_enter Try.func84, Try.ntmps84
 go_wp2
 go_ret
 exact ⟨Zs, Zd⟩
def QaS.l0 : Nat → List (S130) → Int → Int → Int → Int → List (S130) → Option ((List (S130)))
 | 0, _, _, _, _, _, _ => none
 | k + 1, x307, x308, x309, x513000, x514000, x515000 => if x309 < x308 then (if 0 ≤ x309 then (if x309 < (x307.length : Int) then (if ((Qaj x307 x309).f0) ≥ x513000 then (if ((Qaj x307 x309).f0) ≤ x514000 then (if x515000.length < 5864062014805 then (QaS.l0 k x307 x308 (wrap64 (x309 + 1)) x513000 x514000 (x515000 ++ [(⟨(Qaj x307 x309).f0, (Qaj x307 x309).f1, (Qaj x307 x309).f2⟩ : S130)])) else (none)) else (QaS.l0 k x307 x308 (wrap64 (x309 + 1)) x513000 x514000 x515000)) else (QaS.l0 k x307 x308 (wrap64 (x309 + 1)) x513000 x514000 x515000)) else (none)) else (none)) else (some x515000)
def QaS.f (k : Nat) (l0 : List (S130)) (a1 : Int) (a2 : Int) : Option ((List (S130))) := QaS.l0 k l0 (l0.length : Int) 0 a1 a2 ([] : List (S130))
theorem QaS.mono_l : ∀ k, (∀ y0 y1 y2 y3 y4 y5, LeO (QaS.l0 k y0 y1 y2 y3 y4 y5) (QaS.l0 (k + 1) y0 y1 y2 y3 y4 y5))
 | 0 => fun _ _ _ _ _ _ r h => by simp [QaS.l0] at h
 | k + 1 => by
  have ih0 := QaS.mono_l k
  intro y0 y1 y2 y3 y4 y5
  unfold QaS.l0
  exact ZM1 ih0
theorem QaS.mono : ∀ a0 a1 a2 k, LeO (QaS.f k a0 a1 a2) (QaS.f (k + 1) a0 a1 a2) := by
 intro a0 a1 a2 k
 have ih0 := QaS.mono_l k
 unfold QaS.f
 exact ZM1 ih0
theorem QaS.calls (k : Nat) (A0 : Option Addr) (c0 : Nat) (l0 : List (S130)) (a1 : Int) (a2 : Int) (r : List (S130)) (w : World) (hr0 : Kd.C k130 w A0 l0.length l0) (hc0 : l0.length ≤ c0) (h : QaS.f k l0 a1 a2 = some r) :
  Calls Try.prog 85 #[.slice A0 l0.length c0, .int .i64 a1, .int .i64 a2] w fun e w' => ∃ v0_ : Value, e = .returned (v0_) ∧ Kd.R k130 130 w' w.heap.size (fun _ => True) v0_ r ∧ Below w.heap.size w w' := by
 have hu138 := Try.underlying138
 have HR0 := Aside0.mk hr0
 have HC0 := Aside0.mk hc0
 clear hr0 hc0
 have HB := Aside0.mk (Below.refl w.heap.size w)
 have H : (QaS.l0 k l0 (l0.length : Int) 0 a1 a2 ([] : List (S130))) = some r := h
 clear h
 have H' := Aside0.mk H
 clear H
 go_enter Try.func85, Try.ntmps85
 go_wp2_with (first | ((with_reducible refine QaJ (N := 4) rfl ?_); (refine gate_n (n := 12) rfl ?_); refine Zbx (N := 4) (cs := #[.int .i64 a1]) (t := 3) ?_; intro gb512 hg w4 hbox hb; have BK512 := Aside0.mk (hbox); have GW512 := Aside0.mk (Zt w hg (Zb)); have GE512 := GW512; replace HB := Aside0.mk (Qao (Zb) hb); clear hb hbox hg) | ((with_reducible refine QaJ (N := 5) rfl ?_); (refine gate_n (n := 12) rfl ?_); refine Zbx (N := 5) (cs := #[.int .i64 a2]) (t := 3) ?_; intro gb513 hg w5 hbox hb; have BK513 := Aside0.mk (hbox); have GW513 := Aside0.mk (Zt w hg (Zc1 GE512.out)); have GE513 := GW513; have NB512_513 := Aside0.mk (Zn hg BK512.out); have NB513_512 := Aside0.mk NB512_513.out.symm; replace BK512 := Aside0.mk (Zi BK512.out hb); replace HB := Aside0.mk (Qao (Zc1 GE512.out) hb); clear hb hbox hg) | ((with_reducible refine QaJ (N := 6) rfl ?_); (refine gate_n (n := 12) rfl ?_); refine Zbx (N := 6) (cs := #[.slice none 0 0]) (t := 74) ?_; intro gb514 hg w6 hbox hb; have BK514 := Aside0.mk (hbox); have GW514 := Aside0.mk (Zt w hg (Zc2 GE512.out GE513.out)); have GE514 := GW514; have NB512_514 := Aside0.mk (Zn hg BK512.out); have NB514_512 := Aside0.mk NB512_514.out.symm; have NB513_514 := Aside0.mk (Zn hg BK513.out); have NB514_513 := Aside0.mk NB513_514.out.symm; replace BK512 := Aside0.mk (Zi BK512.out hb); replace BK513 := Aside0.mk (Zi BK513.out hb); replace HB := Aside0.mk (Qao (Zc2 GE512.out GE513.out) hb); clear hb hbox hg) | (go_at_call 102; go_in) | ((with_reducible refine QaJ (N := 2) rfl ?_); (refine gate_n (n := 19) rfl ?_); refine Zbx (N := 2) (cs := #[.func (.func 103) #[] #[.pointer (some ⟨gb512, 0, none⟩), .pointer (some ⟨gb513, 0, none⟩), .pointer (some ⟨gb514, 0, none⟩)]]) (t := 138) ?_; intro gb515 hg w7 hbox hb; have BK515 := Aside0.mk (hbox); have GW515 := Aside0.mk (Zt w hg (Zc3 GE512.out GE513.out GE514.out)); have GE515 := GW515; have NB512_515 := Aside0.mk (Zn hg BK512.out); have NB515_512 := Aside0.mk NB512_515.out.symm; have NB513_515 := Aside0.mk (Zn hg BK513.out); have NB515_513 := Aside0.mk NB513_515.out.symm; have NB514_515 := Aside0.mk (Zn hg BK514.out); have NB515_514 := Aside0.mk NB514_515.out.symm; replace BK512 := Aside0.mk (Zi BK512.out hb); replace BK513 := Aside0.mk (Zi BK513.out hb); replace BK514 := Aside0.mk (Zi BK514.out hb); replace HB := Aside0.mk (Qao (Zc3 GE512.out GE513.out GE514.out) hb); clear hb hbox hg))
 go_loopg [9] k (fun kq v309 w' => ∃ (x309_1 : Int) (x515000_1 : List (S130)) (u515000 : Value), v309 = .int .i64 x309_1 ∧ Aside0 (QaS.l0 kq l0 (l0.length : Int) x309_1 a1 a2 x515000_1 = some r) ∧ Aside0 (kq ≤ k) ∧ Aside0 (Kd.R k130 130 w' w.heap.size (fun _ => True) u515000 x515000_1) ∧ Aside0 (w'.heap[gb512]? = some (.cells #[.int .i64 a1] 3 (0, 0))) ∧ Aside0 (w'.heap[gb513]? = some (.cells #[.int .i64 a2] 3 (0, 0))) ∧ Aside0 (w'.heap[gb514]? = some (.cells #[u515000] 74 (0, 0))) ∧ Aside0 (w'.heap[gb515]? = some (.cells #[(.func (.func 103) #[] #[.pointer (some ⟨gb512, 0, none⟩), .pointer (some ⟨gb513, 0, none⟩), .pointer (some ⟨gb514, 0, none⟩)])] 138 (0, 0))) ∧ Aside0 (Below w.heap.size w w'))
 case atStart => exact ⟨(0), (([] : List (S130))), (.slice none 0 0), (Zs), H', ⟨Nat.le_refl _⟩, ⟨by first | exact Kd.R_nil _ _ _ _ _ | exact Kd.N_nil _ _ _ _ _ | exact Kd.V_nil _ _ _ _ _ | exact Kd.Q_nil _ _ _ _ _ | exact Kd.S_nil _ _ _ _ _⟩, ⟨Zu BK512.out⟩, ⟨Zu BK513.out⟩, ⟨Zu BK514.out⟩, ⟨Zu BK515.out⟩, ⟨Zc4 GE512.out GE513.out GE514.out GE515.out⟩⟩
 case round =>
  clear H'
  try clear p2
  obtain ⟨x309_1, x515000_1, u515000, rfl, HA, HK1, HO_515000, BK512, BK513, BK514, BK515, HB⟩ := hrel
  cases gk with
  | zero => exact absurd HA.out (by simp [QaS.l0])
  | succ k1 =>
   have H := HA.out
   clear HA
   simp only [QaS.l0] at H
   by_cases c8 : x309_1 < (l0.length : Int)
   ·rw [if_pos c8] at H
    have c8b0 : decide (x309_1 < (l0.length : Int)) = T := decide_eq_true c8
    clear c8
    (try simp only [c8b0])
    by_cases c9 : 0 ≤ x309_1
    ·rw [if_pos c9] at H
     have c9b0 : decide (0 ≤ x309_1) = T := decide_eq_true c9
     clear c9
     by_cases c10 : x309_1 < (l0.length : Int)
     ·rw [if_pos c10] at H
      have c10b0 : decide (x309_1 < (l0.length : Int)) = T := decide_eq_true c10
      clear c10
      have p516 : 0 ≤ (x309_1 : Int) := Ze
      have q516 : x309_1 < (l0.length : Int) := Ze
      obtain ⟨ad516, e516, hx516_0, hx516_1, hx516_2⟩ := QbS HR0.out x309_1 p516 q516
      cases e516
      replace hx516_0 := Zx HB.out hx516_0
      replace hx516_1 := Zx HB.out hx516_1
      replace hx516_2 := Zx HB.out hx516_2
      replace p516 := eq_true p516
      replace q516 := eq_true q516
      go_upto_region 1 with (first | ((with_reducible refine QaJ (N := 6) rfl ?_); (refine gate_n (n := 19) rfl ?_); refine Zbx (N := 6) (cs := #[.int .i64 0, .int .i64 0, .int .i64 0]) (t := 130) ?_; intro gb517 hg w11 hbox hb; have BK517 := Aside0.mk (hbox); have GW517 := Aside0.mk (Zt w hg (Zc4 GE512.out GE513.out GE514.out GE515.out)); have GE517 := GW517; have NB512_517 := Aside0.mk (Zn hg BK512.out); have NB517_512 := Aside0.mk NB512_517.out.symm; have NB513_517 := Aside0.mk (Zn hg BK513.out); have NB517_513 := Aside0.mk NB513_517.out.symm; have NB514_517 := Aside0.mk (Zn hg BK514.out); have NB517_514 := Aside0.mk NB514_517.out.symm; have NB515_517 := Aside0.mk (Zn hg BK515.out); have NB517_515 := Aside0.mk NB515_517.out.symm; replace HO_515000 := Aside0.mk (Kd.R_below (Kd.R_elderB (Zr HO_515000.out) gb517 (Nat.le_of_eq hg.symm)) hb); replace BK512 := Aside0.mk (Zi BK512.out hb); replace BK513 := Aside0.mk (Zi BK513.out hb); replace BK514 := Aside0.mk (Zi BK514.out hb); replace BK515 := Aside0.mk (Zi BK515.out hb); replace HB := Aside0.mk (Qao (Zc4 GE512.out GE513.out GE514.out GE515.out) hb); clear hb hbox hg; have hnb12 := NB517_512.out; have hnc12 := NB512_517.out; have hnb13 := NB517_513.out; have hnc13 := NB513_517.out; have hnb14 := NB517_514.out; have hnc14 := NB514_517.out; have hnb15 := NB517_515.out; have hnc15 := NB515_517.out; obtain ⟨hcz16_0, hfz16_0⟩ := Zy (v := (.int .i64 0)) BK517.out 0; obtain ⟨hcz16_1, hfz16_1⟩ := Zy (v := (.int .i64 0)) BK517.out 1; obtain ⟨hcz16_2, hfz16_2⟩ := Zy (v := (.int .i64 0)) BK517.out 2; have hnb17 := NB515_512.out; have hnc17 := NB512_515.out; have hnb18 := NB515_513.out; have hnc18 := NB513_515.out; have hnb19 := NB515_514.out; have hnc19 := NB514_515.out; obtain ⟨hcz20_0, hfz20_0⟩ := Zy (v := (.func (.func 103) #[] #[.pointer (some ⟨gb512, 0, none⟩), .pointer (some ⟨gb513, 0, none⟩), .pointer (some ⟨gb514, 0, none⟩)])) BK515.out 0) | (go_at_call 103; go_in) | ((with_reducible refine QaJ (N := 4) rfl ?_); (refine gate_n (n := 20) rfl ?_); refine Zbx (N := 4) (cs := #[.int .i64 ((Qaj l0 x309_1).f0), .int .i64 ((Qaj l0 x309_1).f1), .int .i64 ((Qaj l0 x309_1).f2)]) (t := 130) ?_; intro gb518 hg w21 hbox hb; have BK518 := Aside0.mk (hbox); have GW518 := Aside0.mk (Zt w hg (Zc5 GE512.out GE513.out GE514.out GE515.out GE517.out)); have GE518 := GW518; have NB512_518 := Aside0.mk ((by rw [hg]; exact Nat.ne_of_lt (blk_lt (g := gb512) (o := .cells #[.int .i64 a1] 3 (0, 0)) (Zg3 BK512.out NB512_517.out NB512_517.out NB512_517.out)) : gb512 ≠ gb518)); have NB518_512 := Aside0.mk ((by rw [hg]; exact Nat.ne_of_gt (blk_lt (g := gb512) (o := .cells #[.int .i64 a1] 3 (0, 0)) (Zg3 BK512.out NB512_517.out NB512_517.out NB512_517.out)) : gb518 ≠ gb512)); have NB513_518 := Aside0.mk ((by rw [hg]; exact Nat.ne_of_lt (blk_lt (g := gb513) (o := .cells #[.int .i64 a2] 3 (0, 0)) (Zg3 BK513.out NB513_517.out NB513_517.out NB513_517.out)) : gb513 ≠ gb518)); have NB518_513 := Aside0.mk ((by rw [hg]; exact Nat.ne_of_gt (blk_lt (g := gb513) (o := .cells #[.int .i64 a2] 3 (0, 0)) (Zg3 BK513.out NB513_517.out NB513_517.out NB513_517.out)) : gb518 ≠ gb513)); have NB514_518 := Aside0.mk ((by rw [hg]; exact Nat.ne_of_lt (blk_lt (g := gb514) (o := .cells #[u515000] 74 (0, 0)) (Zg3 BK514.out NB514_517.out NB514_517.out NB514_517.out)) : gb514 ≠ gb518)); have NB518_514 := Aside0.mk ((by rw [hg]; exact Nat.ne_of_gt (blk_lt (g := gb514) (o := .cells #[u515000] 74 (0, 0)) (Zg3 BK514.out NB514_517.out NB514_517.out NB514_517.out)) : gb518 ≠ gb514)); have NB515_518 := Aside0.mk ((by rw [hg]; exact Nat.ne_of_lt (blk_lt (g := gb515) (o := .cells #[.func (.func 103) #[] #[.pointer (some ⟨gb512, 0, none⟩), .pointer (some ⟨gb513, 0, none⟩), .pointer (some ⟨gb514, 0, none⟩)]] 138 (0, 0)) (Zg3 BK515.out NB515_517.out NB515_517.out NB515_517.out)) : gb515 ≠ gb518)); have NB518_515 := Aside0.mk ((by rw [hg]; exact Nat.ne_of_gt (blk_lt (g := gb515) (o := .cells #[.func (.func 103) #[] #[.pointer (some ⟨gb512, 0, none⟩), .pointer (some ⟨gb513, 0, none⟩), .pointer (some ⟨gb514, 0, none⟩)]] 138 (0, 0)) (Zg3 BK515.out NB515_517.out NB515_517.out NB515_517.out)) : gb518 ≠ gb515)); have NB517_518 := Aside0.mk ((by rw [hg]; exact Nat.ne_of_lt (blk_lt (g := gb517) (o := .cells #[.int .i64 ((Qaj l0 x309_1).f0), .int .i64 ((Qaj l0 x309_1).f1), .int .i64 ((Qaj l0 x309_1).f2)] 130 (0, 0)) (Zp2 BK517.out)) : gb517 ≠ gb518)); have NB518_517 := Aside0.mk ((by rw [hg]; exact Nat.ne_of_gt (blk_lt (g := gb517) (o := .cells #[.int .i64 ((Qaj l0 x309_1).f0), .int .i64 ((Qaj l0 x309_1).f1), .int .i64 ((Qaj l0 x309_1).f2)] 130 (0, 0)) (Zp2 BK517.out)) : gb518 ≠ gb517)); replace HO_515000 := Aside0.mk (Kd.R_below (Kd.R_elderB (by (with_reducible repeat (first | apply Kd.R_alloc | apply Kd.R_drewN | apply Kd.R_drew)); exact (Kd.R_mono (Kd.R_far (p := ⟨gb517, 2, none⟩) (Kd.R_far (p := ⟨gb517, 1, none⟩) (Kd.R_far (p := ⟨gb517, 0, none⟩) (Kd.R_mono HO_515000.out (fun k_ hk => (⟨hk, hk.2⟩ : _ ∧ k_ ≠ gb517))) (fun _ hk => hk.2) (.int .i64 ((Qaj l0 x309_1).f0))) (fun _ hk => hk.2) (.int .i64 ((Qaj l0 x309_1).f1))) (fun _ hk => hk.2) (.int .i64 ((Qaj l0 x309_1).f2))) (fun _ h_ => h_.1))) gb518 (Nat.le_of_eq hg.symm)) hb); replace BK512 := Aside0.mk (Qam (g := gb512) (o := .cells #[.int .i64 a1] 3 (0, 0)) (Zg3 BK512.out NB512_517.out NB512_517.out NB512_517.out) hb); replace BK513 := Aside0.mk (Qam (g := gb513) (o := .cells #[.int .i64 a2] 3 (0, 0)) (Zg3 BK513.out NB513_517.out NB513_517.out NB513_517.out) hb); replace BK514 := Aside0.mk (Qam (g := gb514) (o := .cells #[u515000] 74 (0, 0)) (Zg3 BK514.out NB514_517.out NB514_517.out NB514_517.out) hb); replace BK515 := Aside0.mk (Qam (g := gb515) (o := .cells #[.func (.func 103) #[] #[.pointer (some ⟨gb512, 0, none⟩), .pointer (some ⟨gb513, 0, none⟩), .pointer (some ⟨gb514, 0, none⟩)]] 138 (0, 0)) (Zg3 BK515.out NB515_517.out NB515_517.out NB515_517.out) hb); replace BK517 := Aside0.mk (Zpi #[.int .i64 ((Qaj l0 x309_1).f0), .int .i64 ((Qaj l0 x309_1).f1), .int .i64 ((Qaj l0 x309_1).f2)] BK517.out hb); replace HB := Aside0.mk (Qao (Zc5 GE512.out GE513.out GE514.out GE515.out GE517.out) hb); clear hb hbox hg))
      (try simp only [Act.put, Zj, Zk, Zm])
      by_cases c22 : ((Qaj l0 x309_1).f0) ≥ a1
      ·rw [if_pos c22] at H
       have c22b0 : decide (a1 ≤ ((Qaj l0 x309_1).f0)) = T := decide_eq_true c22
       clear c22
       (try simp only [c22b0])
       have hnb23 := NB518_512.out
       have hnc23 := NB512_518.out
       have hnb24 := NB518_513.out
       have hnc24 := NB513_518.out
       have hnb25 := NB518_514.out
       have hnc25 := NB514_518.out
       have hnb26 := NB518_515.out
       have hnc26 := NB515_518.out
       have hnb27 := NB518_517.out
       have hnc27 := NB517_518.out
       obtain ⟨hcz28_0, hfz28_0⟩ := Zy (v := (.int .i64 ((Qaj l0 x309_1).f0))) BK518.out 0
       obtain ⟨hcz28_1, hfz28_1⟩ := Zy (v := (.int .i64 ((Qaj l0 x309_1).f1))) BK518.out 1
       obtain ⟨hcz28_2, hfz28_2⟩ := Zy (v := (.int .i64 ((Qaj l0 x309_1).f2))) BK518.out 2
       have hnb29 := NB512_513.out
       have hnc29 := NB513_512.out
       have hnb30 := NB512_514.out
       have hnc30 := NB514_512.out
       have hnb31 := NB512_515.out
       have hnc31 := NB515_512.out
       have hnb32 := NB512_517.out
       have hnc32 := NB517_512.out
       obtain ⟨hcz33_0, hfz33_0⟩ := Zy (v := (.int .i64 a1)) BK512.out 0
       have hnb34 := NB513_514.out
       have hnc34 := NB514_513.out
       have hnb35 := NB513_515.out
       have hnc35 := NB515_513.out
       have hnb36 := NB513_517.out
       have hnc36 := NB517_513.out
       obtain ⟨hcz37_0, hfz37_0⟩ := Zy (v := (.int .i64 a2)) BK513.out 0
       go_upto_if 15 with (fail)
       by_cases c38 : ((Qaj l0 x309_1).f0) ≤ a2
       ·rw [if_pos c38] at H
        have c38b0 : decide (((Qaj l0 x309_1).f0) ≤ a2) = T := decide_eq_true c38
        clear c38
        (try simp only [c38b0])
        by_cases c39 : x515000_1.length < 5864062014805
        ·rw [if_pos c39] at H
         have LMc39 := Aside0.mk c39
         clear c39
         obtain ⟨y519, hy519⟩ : ∃ y_ : List (S130), y_ = (x515000_1 ++ [(⟨(Qaj l0 x309_1).f0, (Qaj l0 x309_1).f1, (Qaj l0 x309_1).f2⟩ : S130)]) := ⟨_, rfl⟩
         replace H : (QaS.l0 k1 l0 (l0.length : Int) (wrap64 (x309_1 + 1)) a1 a2 y519) = some r := by first | (rw [hy519]; with_reducible exact H) | (have H2_ := (Option.bind_some _ _).symm.trans H; rw [hy519]; with_reducible exact H2_) | (have H2_ := (Option.bind_some _ _).symm.trans H; with_reducible exact H2_) | with_reducible exact H | (rw [hy519]; exact H) | exact H
         have Ny519 := Aside0.mk hy519
         clear hy519
         have hnb40 := NB514_512.out
         have hnc40 := NB512_514.out
         have hnb41 := NB514_513.out
         have hnc41 := NB513_514.out
         have hnb42 := NB514_515.out
         have hnc42 := NB515_514.out
         have hnb43 := NB514_517.out
         have hnc43 := NB517_514.out
         have hnb44 := NB514_518.out
         have hnc44 := NB518_514.out
         obtain ⟨hcz45_0, hfz45_0⟩ := Zy (v := (u515000)) BK514.out 0
         have hnb46 := NB518_512.out
         have hnc46 := NB512_518.out
         have hnb47 := NB518_513.out
         have hnc47 := NB513_518.out
         have hnb48 := NB518_515.out
         have hnc48 := NB515_518.out
         have hnb49 := NB518_517.out
         have hnc49 := NB517_518.out
         obtain ⟨hcz50_0, hfz50_0⟩ := Zy (v := (.int .i64 ((Qaj l0 x309_1).f0))) BK518.out 0
         obtain ⟨hcz50_1, hfz50_1⟩ := Zy (v := (.int .i64 ((Qaj l0 x309_1).f1))) BK518.out 1
         obtain ⟨hcz50_2, hfz50_2⟩ := Zy (v := (.int .i64 ((Qaj l0 x309_1).f2))) BK518.out 2
         go_upto_region 6 with (first | ((with_reducible refine QbA (b := .append) (xs := #[.tmp 16, .tmp 18]) rfl ?_); at_builtin; refine Kd.R_append k130 (w0 := w) w.heap.size rfl (.tmp 16) (.tmp 18) 74 130 (.agg #[(.int .i64 0), (.int .i64 0), (.int .i64 0)]) 24 rfl Try.underlying74 Qeg rfl (by decide) (by omega) u515000 x515000_1 (⟨(Qaj l0 x309_1).f0, (Qaj l0 x309_1).f1, (Qaj l0 x309_1).f2⟩ : S130) [.int .i64 ((Qaj l0 x309_1).f0), .int .i64 ((Qaj l0 x309_1).f1), .int .i64 ((Qaj l0 x309_1).f2)] (fun k_ => k_ ≠ gb517 ∧ k_ ≠ gb518) (fun _ => False) rfl rfl ?aP (fun _ hk => hk.elim) ?aF ?aO ?aB ?aS ?aL ?_; (case aP => exact QdS _ _ _ (⟨(Qaj l0 x309_1).f0, (Qaj l0 x309_1).f1, (Qaj l0 x309_1).f2⟩ : S130)); (case aB => exact (Zc6 GE512.out GE513.out GE514.out GE515.out GE517.out GE518.out)); (case aF => exact (fun k_ hk => ⟨Kd.freshB (g := gb517) (o := .cells #[.int .i64 ((Qaj l0 x309_1).f0), .int .i64 ((Qaj l0 x309_1).f1), .int .i64 ((Qaj l0 x309_1).f2)] 130 (0, 0)) (Zu BK517.out) k_ hk, Kd.freshB (g := gb518) (o := .cells #[.int .i64 ((Qaj l0 x309_1).f0), .int .i64 ((Qaj l0 x309_1).f1), .int .i64 ((Qaj l0 x309_1).f2)] 130 (0, 0)) (Zu BK518.out) k_ hk⟩)); (case aO => exact (by (with_reducible repeat (first | apply Kd.R_alloc | apply Kd.R_drewN | apply Kd.R_drew)); exact Kd.R_mono HO_515000.out (fun _ hk => ⟨hk.1.2, hk.2⟩))); (case aS => exact (Qaq (Zc6 GE512.out GE513.out GE514.out GE515.out GE517.out GE518.out))); (case aL => have := LMc39.out; omega); intro v520 w51 ho hb hg hat; rw [← Ny519.out] at ho; have HO521 := Aside0.mk (ho); replace BK512 := Aside0.mk (Qbn (g := gb512) (o := .cells #[.int .i64 a1] 3 (0, 0)) (Zu BK512.out) hg (Kd.R_ne HO_515000.out BK512.out (by decide))); replace BK513 := Aside0.mk (Qbn (g := gb513) (o := .cells #[.int .i64 a2] 3 (0, 0)) (Zu BK513.out) hg (Kd.R_ne HO_515000.out BK513.out (by decide))); replace BK514 := Aside0.mk (Qbn (g := gb514) (o := .cells #[u515000] 74 (0, 0)) (Zu BK514.out) hg (Kd.R_ne HO_515000.out BK514.out (by decide))); replace BK515 := Aside0.mk (Qbn (g := gb515) (o := .cells #[.func (.func 103) #[] #[.pointer (some ⟨gb512, 0, none⟩), .pointer (some ⟨gb513, 0, none⟩), .pointer (some ⟨gb514, 0, none⟩)]] 138 (0, 0)) (Zu BK515.out) hg (Kd.R_ne HO_515000.out BK515.out (by decide))); replace BK517 := Aside0.mk (Qbn (g := gb517) (o := .cells #[.int .i64 ((Qaj l0 x309_1).f0), .int .i64 ((Qaj l0 x309_1).f1), .int .i64 ((Qaj l0 x309_1).f2)] 130 (0, 0)) (Zu BK517.out) hg (Kd.R_away HO_515000.out (fun _ hk => hk.1.2))); replace BK518 := Aside0.mk (Qbn (g := gb518) (o := .cells #[.int .i64 ((Qaj l0 x309_1).f0), .int .i64 ((Qaj l0 x309_1).f1), .int .i64 ((Qaj l0 x309_1).f2)] 130 (0, 0)) (Zu BK518.out) hg (Kd.R_away HO_515000.out (fun _ hk => hk.2))); replace HB := Aside0.mk (hb); clear HO_515000; clear ho hb hg hat; obtain ⟨Ao52, co52, eo52⟩ := Kd.R_slice HO521.out; subst eo52; obtain ⟨hcz53_0, hfz53_0⟩ := Zy (v := (u515000)) BK514.out 0))
         (try simp only [Act.put, Zj, Zk, Zm])
         have H' := Aside0.mk H
         clear H
         go_wp2
         go_roundg k1
         case measure => have := HK1.out; omega
         case rel => exact ⟨(wrap64 (x309_1 + 1)), (y519), (.slice Ao52 y519.length co52), (Zs), H', ⟨by have := HK1.out; omega⟩, ⟨by (with_reducible repeat (first | apply Kd.R_alloc | apply Kd.R_drewN | apply Kd.R_drew)); exact Kd.R_mono (Kd.R_far (p := ⟨gb514, 0, none⟩) (Kd.R_types HO521.out BK514.out (by decide)) (fun _ hk => hk.2) (.slice Ao52 y519.length co52)) (fun _ hk => trivial)⟩, ⟨Zg1 BK512.out NB512_514.out⟩, ⟨Zg1 BK513.out NB513_514.out⟩, ⟨Zp2 BK514.out⟩, ⟨Zg1 BK515.out NB515_514.out⟩, ⟨Zc6 GE512.out GE513.out GE514.out GE515.out GE517.out GE518.out⟩⟩
        rw [if_neg c39] at H
        exact absurd H (by simp)
       rw [if_neg c38] at H
       have c38b0 : decide (((Qaj l0 x309_1).f0) ≤ a2) = F := decide_eq_false c38
       clear c38
       (try simp only [c38b0])
       go_upto_region 6 with (fail)
       have H' := Aside0.mk H
       clear H
       go_wp2
       go_roundg k1
       case measure => have := HK1.out; omega
       case rel => exact ⟨(wrap64 (x309_1 + 1)), (x515000_1), (u515000), (Zs), H', ⟨by have := HK1.out; omega⟩, ⟨by (with_reducible repeat (first | apply Kd.R_alloc | apply Kd.R_drewN | apply Kd.R_drew)); exact Kd.R_mono HO_515000.out (fun _ hk => trivial)⟩, ⟨Zu BK512.out⟩, ⟨Zu BK513.out⟩, ⟨Zu BK514.out⟩, ⟨Zu BK515.out⟩, ⟨Zc6 GE512.out GE513.out GE514.out GE515.out GE517.out GE518.out⟩⟩
      rw [if_neg c22] at H
      have c22b0 : decide (a1 ≤ ((Qaj l0 x309_1).f0)) = F := decide_eq_false c22
      clear c22
      (try simp only [c22b0])
      have hnb54 := NB518_512.out
      have hnc54 := NB512_518.out
      have hnb55 := NB518_513.out
      have hnc55 := NB513_518.out
      have hnb56 := NB518_514.out
      have hnc56 := NB514_518.out
      have hnb57 := NB518_515.out
      have hnc57 := NB515_518.out
      have hnb58 := NB518_517.out
      have hnc58 := NB517_518.out
      obtain ⟨hcz59_0, hfz59_0⟩ := Zy (v := (.int .i64 ((Qaj l0 x309_1).f0))) BK518.out 0
      obtain ⟨hcz59_1, hfz59_1⟩ := Zy (v := (.int .i64 ((Qaj l0 x309_1).f1))) BK518.out 1
      obtain ⟨hcz59_2, hfz59_2⟩ := Zy (v := (.int .i64 ((Qaj l0 x309_1).f2))) BK518.out 2
      have hnb60 := NB512_513.out
      have hnc60 := NB513_512.out
      have hnb61 := NB512_514.out
      have hnc61 := NB514_512.out
      have hnb62 := NB512_515.out
      have hnc62 := NB515_512.out
      have hnb63 := NB512_517.out
      have hnc63 := NB517_512.out
      obtain ⟨hcz64_0, hfz64_0⟩ := Zy (v := (.int .i64 a1)) BK512.out 0
      go_upto_region 6 with (fail)
      have H' := Aside0.mk H
      clear H
      go_wp2
      go_roundg k1
      case measure => have := HK1.out; omega
      case rel => exact ⟨(wrap64 (x309_1 + 1)), (x515000_1), (u515000), (Zs), H', ⟨by have := HK1.out; omega⟩, ⟨by (with_reducible repeat (first | apply Kd.R_alloc | apply Kd.R_drewN | apply Kd.R_drew)); exact Kd.R_mono HO_515000.out (fun _ hk => trivial)⟩, ⟨Zu BK512.out⟩, ⟨Zu BK513.out⟩, ⟨Zu BK514.out⟩, ⟨Zu BK515.out⟩, ⟨Zc6 GE512.out GE513.out GE514.out GE515.out GE517.out GE518.out⟩⟩
     rw [if_neg c10] at H
     exact absurd H (by simp)
    rw [if_neg c9] at H
    exact absurd H (by simp)
   rw [if_neg c8] at H
   have c8b0 : decide (x309_1 < (l0.length : Int)) = F := decide_eq_false c8
   clear c8
   (try simp only [c8b0])
   obtain rfl := Option.some.inj H
   have hnb65 := NB514_512.out
   have hnc65 := NB512_514.out
   have hnb66 := NB514_513.out
   have hnc66 := NB513_514.out
   have hnb67 := NB514_515.out
   have hnc67 := NB515_514.out
   obtain ⟨hcz68_0, hfz68_0⟩ := Zy (v := (u515000)) BK514.out 0
   obtain ⟨Ao69, co69, eo69⟩ := Kd.R_slice HO_515000.out
   subst eo69
   go_wp2
   refine bodyPost_ret (Qbx rfl _ _ gb514 74 (.slice Ao69 x515000_1.length co69) (0, 0) _ rfl (Zp2 BK514.out) Try.underlying74 rfl (by kernel_rfl)) rfl ?_
   exact ⟨_, Zq, by (with_reducible repeat (first | apply Kd.R_alloc | apply Kd.R_drewN | apply Kd.R_drew)); exact Kd.R_mono (Kd.R_far (p := ⟨gb514, 0, none⟩) (Kd.R_types HO_515000.out BK514.out (by decide)) (fun _ hk => hk.2) (.slice Ao69 x515000_1.length co69)) (fun _ hk => trivial), Zc4 GE512.out GE513.out GE514.out GE515.out⟩
def QaY.j0 : Nat → Int → Int → Int → Bool → Option (Int × Int)
 | 0, _, _, _, _ => none
 | k + 1, x0, x1, x2, x15 => if x15 = T then (some (0, 16)) else ((Qa0.f x0).bind fun t539 => (if t539 = T then ((Qa0.f x1).bind fun t540 => (if t540 = T then (if x0 > x1 then (some (0, 17)) else ((QaA.f (wrap64 (x0 + x1)) 1 (wrap64 (2 * x2)) 5).bind fun bt541 => (some (wrap64 (bt541.1 * x2), bt541.2)))) else (some (0, 17)))) else (some (0, 17))))
def QaY.f (k : Nat) (a0 : Int) (a1 : Int) (a2 : Int) : Option (Int × Int) := if a2 < 1 then (QaY.j0 k a0 a1 a2 T) else (QaY.j0 k a0 a1 a2 (decide (a2 > 16777216)))
theorem QaY.mono_l : ∀ k, (∀ y0 y1 y2 y3, LeO (QaY.j0 k y0 y1 y2 y3) (QaY.j0 (k + 1) y0 y1 y2 y3))
 | 0 => fun _ _ _ _ r h => by simp [QaY.j0] at h
 | k + 1 => by
  have ih0 := QaY.mono_l k
  intro y0 y1 y2 y3
  unfold QaY.j0
  exact ZM1 ih0
theorem QaY.mono : ∀ a0 a1 a2 k, LeO (QaY.f k a0 a1 a2) (QaY.f (k + 1) a0 a1 a2) := by
 intro a0 a1 a2 k
 have ih0 := QaY.mono_l k
 unfold QaY.f
 exact ZM1 ih0
theorem QaY.calls (k : Nat) (a0 : Int) (a1 : Int) (a2 : Int) (r1 : Int) (r2 : Int) (w : World) (h : QaY.f k a0 a1 a2 = some (r1, r2)) :
  Calls Try.prog 90 #[.int .i64 a0, .int .i64 a1, .int .i64 a2] w fun e w' => e = .returned (.tuple #[.int .i64 r1, .int .i64 r2]) ∧ Below w.heap.size w w' := by
 have HB := Aside0.mk (Below.refl w.heap.size w)
 have H : (if a2 < 1 then (QaY.j0 k a0 a1 a2 T) else (QaY.j0 k a0 a1 a2 (decide (a2 > 16777216)))) = some (r1, r2) := h
 clear h
 have HC4 := Aside0.mk H
 clear H
 go_enter Try.func90, Try.ntmps90
 go_upto_region 1 with (fail)
 go_cut [15] (fun v15 wc => ∃ (kq : Nat) (x15_3 : Bool), v15 = .bool x15_3 ∧ Aside0 (QaY.j0 kq a0 a1 a2 x15_3 = some (r1, r2)) ∧ Aside0 (kq ≤ k) ∧ Aside0 (Below w.heap.size w wc))
 case first =>
  have H := HC4.out
  clear HC4
  by_cases c5 : a2 < 1
  ·rw [if_pos c5] at H
   have c5b0 : decide (a2 < 1) = T := decide_eq_true c5
   clear c5
   have H' := Aside0.mk H
   clear H
   go_wp2
   go_meet
   case rel => exact ⟨_, (T), (Zs), H', ⟨by first | omega | exact Nat.le_refl _⟩, ⟨Zb⟩⟩
  rw [if_neg c5] at H
  have c5b0 : decide (a2 < 1) = F := decide_eq_false c5
  clear c5
  have H' := Aside0.mk H
  clear H
  go_wp2
  go_meet
  case rel => exact ⟨_, (decide (a2 > 16777216)), (Zs), H', ⟨by first | omega | exact Nat.le_refl _⟩, ⟨Zb⟩⟩
 case rest =>
  clear HC4
  try clear p2
  try clear c5
  try clear c5b0
  obtain ⟨kq, x15_3, rfl, HA, HJ3, HB⟩ := hcut
  cases kq with
  | zero => exact absurd HA.out (by simp [QaY.j0])
  | succ kj3 =>
   have H := HA.out
   clear HA
   simp only [QaY.j0] at H
   by_cases c6 : x15_3 = T
   ·subst c6
    have H1 : (some (0, 16)) = some (r1, r2) := by rw [if_pos rfl] at H; exact H
    clear H
    have H := H1
    clear H1
    simp only [Option.some.injEq, Prod.mk.injEq] at H
    obtain ⟨rfl, rfl⟩ := H
    go_wp2
    go_ret2
    exact ⟨Zq, Zb⟩
   replace c6 := Bool.eq_false_iff.mpr c6
   subst c6
   have H1 : ((Qa0.f a0).bind fun t539 => (if t539 = T then ((Qa0.f a1).bind fun t540 => (if t540 = T then (if a0 > a1 then (some (0, 17)) else ((QaA.f (wrap64 (a0 + a1)) 1 (wrap64 (2 * a2)) 5).bind fun bt541 => (some (wrap64 (bt541.1 * a2), bt541.2)))) else (some (0, 17)))) else (some (0, 17)))) = some (r1, r2) := by rw [if_neg (show ¬ (F = T) by decide)] at H; exact H
   clear H
   have H := H1
   clear H1
   replace H := Option.bind_eq_some_iff.mp H
   obtain ⟨t539, A70, H⟩ := H
   replace H : (if t539 = T then ((Qa0.f a1).bind fun t540 => (if t540 = T then (if a0 > a1 then (some (0, 17)) else ((QaA.f (wrap64 (a0 + a1)) 1 (wrap64 (2 * a2)) 5).bind fun bt541 => (some (wrap64 (bt541.1 * a2), bt541.2)))) else (some (0, 17)))) else (some (0, 17))) = some (r1, r2) := H
   have A7 := Aside0.mk A70
   clear A70
   by_cases c8 : t539 = T
   ·subst c8
    have H1 : ((Qa0.f a1).bind fun t540 => (if t540 = T then (if a0 > a1 then (some (0, 17)) else ((QaA.f (wrap64 (a0 + a1)) 1 (wrap64 (2 * a2)) 5).bind fun bt541 => (some (wrap64 (bt541.1 * a2), bt541.2)))) else (some (0, 17)))) = some (r1, r2) := by rw [if_pos rfl] at H; exact H
    clear H
    have H := H1
    clear H1
    replace H := Option.bind_eq_some_iff.mp H
    obtain ⟨t540, A90, H⟩ := H
    replace H : (if t540 = T then (if a0 > a1 then (some (0, 17)) else ((QaA.f (wrap64 (a0 + a1)) 1 (wrap64 (2 * a2)) 5).bind fun bt541 => (some (wrap64 (bt541.1 * a2), bt541.2)))) else (some (0, 17))) = some (r1, r2) := H
    have A9 := Aside0.mk A90
    clear A90
    by_cases c10 : t540 = T
    ·subst c10
     have H1 : (if a0 > a1 then (some (0, 17)) else ((QaA.f (wrap64 (a0 + a1)) 1 (wrap64 (2 * a2)) 5).bind fun bt541 => (some (wrap64 (bt541.1 * a2), bt541.2)))) = some (r1, r2) := by rw [if_pos rfl] at H; exact H
     clear H
     have H := H1
     clear H1
     go_upto_if 28 with (first | ((with_reducible refine QaC (f := 84) rfl ?_); refine goesL_ (some 17) rfl rfl Try.func84 (by kernel_rfl) rfl #[.int .i64 a0] rfl (Zl) ?_; (with_reducible refine (Qa0.calls a0 T _ A7.out).mono ?_); rintro e w' ⟨rfl, ⟨nd, rfl⟩⟩; refine ⟨_, rfl, ?_⟩) | (go_at_call 84; (with_reducible refine (Qa0.calls a1 T _ A9.out).mono ?_); rintro e w' ⟨rfl, ⟨nd, rfl⟩⟩))
     (try simp only [Act.put, Zj, Zk, Zm])
     by_cases c11 : a0 > a1
     ·rw [if_pos c11] at H
      have c11b0 : decide (a1 < a0) = T := decide_eq_true c11
      clear c11
      (try simp only [c11b0])
      simp only [Option.some.injEq, Prod.mk.injEq] at H
      obtain ⟨rfl, rfl⟩ := H
      go_wp2
      go_ret2
      exact ⟨Zq, Zb⟩
     rw [if_neg c11] at H
     have c11b0 : decide (a1 < a0) = F := decide_eq_false c11
     clear c11
     (try simp only [c11b0])
     replace H := Option.bind_eq_some_iff.mp H
     obtain ⟨⟨t541, t542⟩, A120, H⟩ := H
     replace H : (some (wrap64 (t541 * a2), t542)) = some (r1, r2) := H
     have A12 := Aside0.mk A120
     clear A120
     simp only [Option.some.injEq, Prod.mk.injEq] at H
     obtain ⟨rfl, rfl⟩ := H
     go_wp2_with (first | ((with_reducible refine QaC (f := 53) rfl ?_); refine goesL_ (some 35) rfl rfl Try.func53 (by kernel_rfl) rfl #[.int .i64 (wrap64 (a0 + a1)), .int .i64 1, .int .i64 (wrap64 (2 * a2)), .int .i64 5] rfl (Zl) ?_; (with_reducible refine (QaA.calls (wrap64 (a0 + a1)) 1 (wrap64 (2 * a2)) 5 t541 t542 _ A12.out).mono ?_); rintro e w13 ⟨rfl, hb⟩; refine ⟨_, rfl, ?_⟩; replace HB := Aside0.mk (Qao (Zb) hb); (try clear hb); (try clear hb2); (try clear hk); (try clear hi)))
     go_ret2
     exact ⟨Zq, Zb⟩
    replace c10 := Bool.eq_false_iff.mpr c10
    subst c10
    have H1 : (some (0, 17)) = some (r1, r2) := by rw [if_neg (show ¬ (F = T) by decide)] at H; exact H
    clear H
    have H := H1
    clear H1
    simp only [Option.some.injEq, Prod.mk.injEq] at H
    obtain ⟨rfl, rfl⟩ := H
    go_wp2_with (first | ((with_reducible refine QaC (f := 84) rfl ?_); refine goesL_ (some 17) rfl rfl Try.func84 (by kernel_rfl) rfl #[.int .i64 a0] rfl (Zl) ?_; (with_reducible refine (Qa0.calls a0 T _ A7.out).mono ?_); rintro e w' ⟨rfl, ⟨nd, rfl⟩⟩; refine ⟨_, rfl, ?_⟩) | (go_at_call 84; (with_reducible refine (Qa0.calls a1 F _ A9.out).mono ?_); rintro e w' ⟨rfl, ⟨nd, rfl⟩⟩))
    go_ret2
    exact ⟨Zq, Zb⟩
   replace c8 := Bool.eq_false_iff.mpr c8
   subst c8
   have H1 : (some (0, 17)) = some (r1, r2) := by rw [if_neg (show ¬ (F = T) by decide)] at H; exact H
   clear H
   have H := H1
   clear H1
   simp only [Option.some.injEq, Prod.mk.injEq] at H
   obtain ⟨rfl, rfl⟩ := H
   go_wp2_with (first | ((with_reducible refine QaC (f := 84) rfl ?_); refine goesL_ (some 17) rfl rfl Try.func84 (by kernel_rfl) rfl #[.int .i64 a0] rfl (Zl) ?_; (with_reducible refine (Qa0.calls a0 F _ A7.out).mono ?_); rintro e w' ⟨rfl, ⟨nd, rfl⟩⟩; refine ⟨_, rfl, ?_⟩))
   go_ret2
   exact ⟨Zq, Zb⟩
def QbP.f (l0 : List (S130)) : Option (Int × Int × Int × Bool) := if (l0.length : Int) = 0 then (some (0, 0, 0, F)) else (if 0 ≤ (wrap64 ((l0.length : Int) - 1)) then (if (wrap64 ((l0.length : Int) - 1)) < (l0.length : Int) then (some ((Qaj l0 (wrap64 ((l0.length : Int) - 1))).f0, (Qaj l0 (wrap64 ((l0.length : Int) - 1))).f1, (Qaj l0 (wrap64 ((l0.length : Int) - 1))).f2, T)) else (none)) else (none))
theorem QbP.calls (A0 : Option Addr) (c0 : Nat) (l0 : List (S130)) (r1 : Int) (r2 : Int) (r3 : Int) (r4 : Bool) (w : World) (hr0 : Kd.C k130 w A0 l0.length l0) (hc0 : l0.length ≤ c0) (h : QbP.f l0 = some (r1, r2, r3, r4)) :
  Calls Try.prog 92 #[.slice A0 l0.length c0] w fun e w' => e = .returned (.tuple #[.agg #[.int .i64 r1, .int .i64 r2, .int .i64 r3], .bool r4]) ∧ Below w.heap.size w w' := by
 have hu130 := Try.underlying130
 have HR0 := Aside0.mk hr0
 have HC0 := Aside0.mk hc0
 clear hr0 hc0
 have HB := Aside0.mk (Below.refl w.heap.size w)
 have H : (if (l0.length : Int) = 0 then (some (0, 0, 0, F)) else (if 0 ≤ (wrap64 ((l0.length : Int) - 1)) then (if (wrap64 ((l0.length : Int) - 1)) < (l0.length : Int) then (some ((Qaj l0 (wrap64 ((l0.length : Int) - 1))).f0, (Qaj l0 (wrap64 ((l0.length : Int) - 1))).f1, (Qaj l0 (wrap64 ((l0.length : Int) - 1))).f2, T)) else (none)) else (none))) = some (r1, r2, r3, r4) := h
 clear h
 go_enter Try.func92, Try.ntmps92
 go_upto_if 6 with (first | ((with_reducible refine QaJ (N := 2) rfl ?_); refine Zbx (N := 2) (cs := #[.int .i64 0, .int .i64 0, .int .i64 0]) (t := 130) ?_; intro gb543 hg w2 hbox hb; have BK543 := Aside0.mk (hbox); have GW543 := Aside0.mk (Zt w hg (Zb)); have GE543 := GW543; replace HB := Aside0.mk (Qao (Zb) hb); clear hb hbox hg))
 (try simp only [Act.put, Zj, Zk, Zm])
 by_cases c3 : (l0.length : Int) = 0
 ·rw [if_pos c3] at H
  have c3b0 : ((l0.length : Int) == 0) = T := beq_iff_eq.mpr c3
  have c3b1 : ((l0.length : Int) != 0) = F := bne_eq_false_iff_eq.mpr c3
  clear c3
  (try simp only [c3b0, c3b1])
  simp only [Option.some.injEq, Prod.mk.injEq] at H
  obtain ⟨rfl, rfl, rfl, rfl⟩ := H
  obtain ⟨hcz4_0, hfz4_0⟩ := Zy (v := (.int .i64 0)) BK543.out 0
  obtain ⟨hcz4_1, hfz4_1⟩ := Zy (v := (.int .i64 0)) BK543.out 1
  obtain ⟨hcz4_2, hfz4_2⟩ := Zy (v := (.int .i64 0)) BK543.out 2
  go_wp2
  refine bodyPost_ret (Qcy rfl _ _ gb543 130 #[.int .i64 0, .int .i64 0, .int .i64 0] (0, 0) _ rfl (Zp2 BK543.out) Try.underlying130 rfl (by kernel_rfl)) rfl ?_
  exact ⟨Zq, Zc1 GE543.out⟩
 rw [if_neg c3] at H
 have c3b0 : ((l0.length : Int) == 0) = F := beq_eq_false_iff_ne.mpr c3
 have c3b1 : ((l0.length : Int) != 0) = T := bne_iff_ne.mpr c3
 have c3b2 : ¬ (l0 = []) := fun h_ => c3 (by rw [h_]; rfl)
 (try simp only [c3b0, c3b1, c3b2])
 obtain ⟨ji5, hji5⟩ : ∃ j_ : Int, (wrap64 ((l0.length : Int) - 1)) = j_ := ⟨_, rfl⟩
 replace H : (if 0 ≤ (ji5) then (if (ji5) < (l0.length : Int) then (some ((Qaj l0 (ji5)).f0, (Qaj l0 (ji5)).f1, (Qaj l0 (ji5)).f2, T)) else (none)) else (none)) = some (r1, r2, r3, r4) := by first | (rw [hji5] at H; exact H) | (simp only [hji5] at H ⊢; exact H)
 have hji5w : (IntKind.i64.wrap ((l0.length : Int) - 1)) = ji5 := (i64_w _).trans hji5
 by_cases c6 : 0 ≤ (ji5)
 ·rw [if_pos c6] at H
  have c6b0 : decide (0 ≤ (ji5)) = T := decide_eq_true c6
  clear c6
  by_cases c7 : (ji5) < (l0.length : Int)
  ·rw [if_pos c7] at H
   have c7b0 : decide ((ji5) < (l0.length : Int)) = T := decide_eq_true c7
   clear c7
   simp only [Option.some.injEq, Prod.mk.injEq] at H
   obtain ⟨rfl, rfl, rfl, rfl⟩ := H
   have p544 : 0 ≤ ((ji5) : Int) := Ze
   have q544 : (ji5) < (l0.length : Int) := Ze
   obtain ⟨ad544, e544, hx544_0, hx544_1, hx544_2⟩ := QbS HR0.out (ji5) p544 q544
   cases e544
   replace hx544_0 := Zx HB.out hx544_0
   replace hx544_1 := Zx HB.out hx544_1
   replace hx544_2 := Zx HB.out hx544_2
   replace p544 := eq_true p544
   replace q544 := eq_true q544
   obtain ⟨hcz8_0, hfz8_0⟩ := Zy (v := (.int .i64 0)) BK543.out 0
   obtain ⟨hcz8_1, hfz8_1⟩ := Zy (v := (.int .i64 0)) BK543.out 1
   obtain ⟨hcz8_2, hfz8_2⟩ := Zy (v := (.int .i64 0)) BK543.out 2
   go_wp2
   refine bodyPost_ret (Qcy rfl _ _ gb543 130 #[.int .i64 ((Qaj l0 (ji5)).f0), .int .i64 ((Qaj l0 (ji5)).f1), .int .i64 ((Qaj l0 (ji5)).f2)] (0, 0) _ rfl (Zp2 BK543.out) Try.underlying130 rfl (by kernel_rfl)) rfl ?_
   exact ⟨by first | rfl | (simp [Qak, Qal] <;> rfl) | (simp only [← hji5]; first | rfl | (simp [Qak, Qal] <;> rfl)) | (simp [*, Qak, Qal] <;> rfl), Zc1 GE543.out⟩
  rw [if_neg c7] at H
  exact absurd H (by simp)
 rw [if_neg c6] at H
 exact absurd H (by simp)
def Qbd.f (a0 : Int) : Option (Bool) := if a0 ≥ (-16777216) then (some (decide (a0 ≤ 16777216))) else (some F)
theorem Qbd.calls (a0 : Int) (r : Bool) (w : World) (h : Qbd.f a0 = some r) :
  Calls Try.prog 95 #[.int .i64 a0] w fun e w' => e = .returned (.bool r) ∧ Drawn0 w w' := by
 have H : (if a0 ≥ (-16777216) then (some (decide (a0 ≤ 16777216))) else (some F)) = some r := h
 clear h
 by_cases c2 : a0 ≥ (-16777216)
 ·rw [if_pos c2] at H
  have c2b0 : decide ((-16777216) ≤ a0) = T := decide_eq_true c2
  clear c2
  obtain rfl := Option.some.inj H
  go_enter Try.func95, Try.ntmps95
  go_wp2
  go_ret
  exact ⟨Zs, Zd⟩
 rw [if_neg c2] at H
 have c2b0 : decide ((-16777216) ≤ a0) = F := decide_eq_false c2
 clear c2
 obtain rfl := Option.some.inj H
 go_enter Try.func95, Try.ntmps95
 go_wp2
 go_ret
 exact ⟨Zs, Zd⟩
end Go.Proofs.Ytaembbndjpebhaa.Pr
