/- Functions' values and contracts, as the print wrote them. -/
import Derived.Test.YtgnmhfjfefgbfaaQ3D7P0
namespace Go.Proofs.Ytgnmhfjfefgbfaa.Pr
open Go.RowKit Go.Proofs.YtgnmhfjfefgbfaaW.PrintWords Go.Proofs.YtgnmhfjfefgbfaaW.PrintLast Go.Proofs.YtgnmhfjfefgbfaaW.PrintMore
attribute [local go_sem] QaN QaP QaW QaX QaH QaI QaO QaQ   -- for this text's walks alone
set_option linter.unusedVariables false
set_option linter.unusedSimpArgs false
attribute [local go_sem high] eqA213
def Qch.f (a0_0 : Int) (a0_1 : Int) (a1_0 : Int) (a1_1 : Int) : Option (Bool) := if (!(a0_0 == a1_0) || (!(a0_1 == a1_1))) = true then (if a0_0 > a1_0 then (if a0_0 ≤ 1152921504606846976 then (if a0_1 ≥ 0 then (some (decide (a0_1 ≤ a1_1))) else (some false)) else (some false)) else (some false)) else (some false)
set_option maxHeartbeats 8000000 in
set_option maxRecDepth 100000 in
theorem Qch.calls (a0_0 : Int) (a0_1 : Int) (a1_0 : Int) (a1_1 : Int) (r : Bool) (w : World) (h : Qch.f a0_0 a0_1 a1_0 a1_1 = some r) :
  Calls Try.prog 216 #[.agg #[.int .i64 a0_0, .int .i64 a0_1], .agg #[.int .i64 a1_0, .int .i64 a1_1]] w fun e w' => e = .returned (.bool r) ∧ Below w.heap.size w w' := by
 have hu213 := Try.underlying213
 have HB := Aside0.mk (Below.refl w.heap.size w)
 have H : (if (!(a0_0 == a1_0) || (!(a0_1 == a1_1))) = true then (if a0_0 > a1_0 then (if a0_0 ≤ 1152921504606846976 then (if a0_1 ≥ 0 then (some (decide (a0_1 ≤ a1_1))) else (some false)) else (some false)) else (some false)) else (some false)) = some r := h
 clear h
 go_enter Try.func216, Try.ntmps216
 go_upto_region 1 with (first | ((with_reducible refine QaT (N := 2) rfl ?_); refine Zbx (N := 2) (cs := #[.int .i64 a0_0, .int .i64 a0_1]) (t := 213) ?_; intro gb881 hg w3 hbox hb; have BK881 := Aside0.mk (hbox); have GW881 := Aside0.mk (Zt w hg (Zb)); have GE881 := GW881; replace HB := Aside0.mk (Qap (Zb) hb); clear hb hbox hg) | ((with_reducible refine QaT (N := 3) rfl ?_); refine Zbx (N := 3) (cs := #[.int .i64 a1_0, .int .i64 a1_1]) (t := 213) ?_; intro gb882 hg w4 hbox hb; have BK882 := Aside0.mk (hbox); have GW882 := Aside0.mk (Zt w hg (Zc1 GE881.out)); have GE882 := GW882; have NB881_882 := Aside0.mk (Zn hg BK881.out); have NB882_881 := Aside0.mk NB881_882.out.symm; replace BK881 := Aside0.mk (Zi BK881.out hb); replace HB := Aside0.mk (Qap (Zc1 GE881.out) hb); clear hb hbox hg))
 (try simp only [Act.put, Zj, Zk, Zm])
 by_cases c5 : (!(a0_0 == a1_0) || (!(a0_1 == a1_1))) = true
 ·rw [if_pos c5] at H
  have c5b0 : (!(a0_0 == a1_0) || (!(a0_1 == a1_1))) = true := c5
  clear c5
  (try simp only [c5b0])
  by_cases c6 : a0_0 > a1_0
  ·rw [if_pos c6] at H
   have c6b0 : decide (a1_0 < a0_0) = true := decide_eq_true c6
   clear c6
   by_cases c7 : a0_0 ≤ 1152921504606846976
   ·rw [if_pos c7] at H
    have c7b0 : decide (a0_0 ≤ 1152921504606846976) = true := decide_eq_true c7
    clear c7
    by_cases c8 : a0_1 ≥ 0
    ·rw [if_pos c8] at H
     have c8b0 : decide (0 ≤ a0_1) = true := decide_eq_true c8
     clear c8
     obtain rfl := Option.some.inj H
     have hnb9 := NB881_882.out
     have hnc9 := NB882_881.out
     obtain ⟨hcz10_0, hfz10_0⟩ := Zy (v := (.int .i64 a0_0)) BK881.out 0
     obtain ⟨hcz10_1, hfz10_1⟩ := Zy (v := (.int .i64 a0_1)) BK881.out 1
     obtain ⟨hcz11_0, hfz11_0⟩ := Zy (v := (.int .i64 a1_0)) BK882.out 0
     obtain ⟨hcz11_1, hfz11_1⟩ := Zy (v := (.int .i64 a1_1)) BK882.out 1
     go_wp2
     go_ret
     exact ⟨Zq, Zc2 GE881.out GE882.out⟩
    rw [if_neg c8] at H
    have c8b0 : decide (0 ≤ a0_1) = false := decide_eq_false c8
    clear c8
    obtain rfl := Option.some.inj H
    have hnb12 := NB881_882.out
    have hnc12 := NB882_881.out
    obtain ⟨hcz13_0, hfz13_0⟩ := Zy (v := (.int .i64 a0_0)) BK881.out 0
    obtain ⟨hcz13_1, hfz13_1⟩ := Zy (v := (.int .i64 a0_1)) BK881.out 1
    obtain ⟨hcz14_0, hfz14_0⟩ := Zy (v := (.int .i64 a1_0)) BK882.out 0
    obtain ⟨hcz14_1, hfz14_1⟩ := Zy (v := (.int .i64 a1_1)) BK882.out 1
    go_wp2
    go_ret
    exact ⟨Zq, Zc2 GE881.out GE882.out⟩
   rw [if_neg c7] at H
   have c7b0 : decide (a0_0 ≤ 1152921504606846976) = false := decide_eq_false c7
   clear c7
   obtain rfl := Option.some.inj H
   have hnb15 := NB881_882.out
   have hnc15 := NB882_881.out
   obtain ⟨hcz16_0, hfz16_0⟩ := Zy (v := (.int .i64 a0_0)) BK881.out 0
   obtain ⟨hcz16_1, hfz16_1⟩ := Zy (v := (.int .i64 a0_1)) BK881.out 1
   obtain ⟨hcz17_0, hfz17_0⟩ := Zy (v := (.int .i64 a1_0)) BK882.out 0
   obtain ⟨hcz17_1, hfz17_1⟩ := Zy (v := (.int .i64 a1_1)) BK882.out 1
   go_wp2
   go_ret
   exact ⟨Zq, Zc2 GE881.out GE882.out⟩
  rw [if_neg c6] at H
  have c6b0 : decide (a1_0 < a0_0) = false := decide_eq_false c6
  clear c6
  obtain rfl := Option.some.inj H
  have hnb18 := NB881_882.out
  have hnc18 := NB882_881.out
  obtain ⟨hcz19_0, hfz19_0⟩ := Zy (v := (.int .i64 a0_0)) BK881.out 0
  obtain ⟨hcz19_1, hfz19_1⟩ := Zy (v := (.int .i64 a0_1)) BK881.out 1
  obtain ⟨hcz20_0, hfz20_0⟩ := Zy (v := (.int .i64 a1_0)) BK882.out 0
  obtain ⟨hcz20_1, hfz20_1⟩ := Zy (v := (.int .i64 a1_1)) BK882.out 1
  go_wp2
  go_ret
  exact ⟨Zq, Zc2 GE881.out GE882.out⟩
 rw [if_neg c5] at H
 have c5b0 : (!(a0_0 == a1_0) || (!(a0_1 == a1_1))) = false := by simpa using c5
 clear c5
 (try simp only [c5b0])
 obtain rfl := Option.some.inj H
 have hnb21 := NB881_882.out
 have hnc21 := NB882_881.out
 obtain ⟨hcz22_0, hfz22_0⟩ := Zy (v := (.int .i64 a0_0)) BK881.out 0
 obtain ⟨hcz22_1, hfz22_1⟩ := Zy (v := (.int .i64 a0_1)) BK881.out 1
 obtain ⟨hcz23_0, hfz23_0⟩ := Zy (v := (.int .i64 a1_0)) BK882.out 0
 obtain ⟨hcz23_1, hfz23_1⟩ := Zy (v := (.int .i64 a1_1)) BK882.out 1
 go_wp2
 go_ret
 exact ⟨Zq, Zc2 GE881.out GE882.out⟩
end Go.Proofs.Ytgnmhfjfefgbfaa.Pr
