/- The row of the law TopSpreads out of its pure statement and the walk: for every input the call returns true, and each argument reads behind it as it read before. -/
import Derived.Test.YtgnmhfjfefgbfaaRows
import Derived.Test.YtgnmhfjfefgbfaaQ5C0P7
import Derived.Test.YtgnmhfjfefgbfaaQ5C0PureTopSpreads
import Derived.Test.YtgnmhfjfefgbfaaQ5C0PrxRd
import Derived.Test.YtgnmhfjfefgbfaaQ5C0PrxDTopSpreads
import Derived.WalkKit
import Derived.ProofKit
import Derived.OpenShut
import Derived.ShutString
import Derived.ChangeOld
import Derived.Below
import Derived.SizedLaws
namespace Go.Proofs.Ytgnmhfjfefgbfaa.topSpreads
open Go.ChangeShapes Go.WideShapes Go.ChangeAt Go.RowKit Go.Proofs.Ytgnmhfjfefgbfaa.Pr Go.Proofs.YtgnmhfjfefgbfaaW.PrintWords Go.Proofs.YtgnmhfjfefgbfaaW.PrintLast
open Go.ChangeMaps (open_string shut_string)
set_option linter.unusedVariables false
theorem own : ownKnob Try.prog.godebug = none := by kernel_rfl
theorem laidOut : laidOutB Try.prog = true := by kernel_rfl
set_option maxRecDepth 100000 in
theorem lifted (os : Os) (started : os.Started) (H : Type) (enc : TypeId × Value → H) :
  ReturnsInHanded {} Try.checked os 4 .any (Rows.topSpreadsSpec.pre6 enc Try.prog Try.f4 Rows.topSpreadsRow.domain false) (Rows.topSpreadsSpec.post enc Try.prog Try.f4 false true false false) := by
 refine returnsInHanded_of_change_sized (C := Try.checked) own started (by kernel_rfl) Try.func4
  (ChangeSpec.witness6 (enc := enc) (C := Try.checked) false ⟨#[], #[.slice none 0 0, .agg #[.slice none 0 0, .slice none 0 0, .slice none 0 0]], []⟩ 8 (by kernel_rfl) (by kernel_rfl) (by kernel_rfl) (by kernel_rfl)) ?_
 intro W base args ds gs before hval0 hW hcnd hsz0 _
 have hsz : (DataW.weightsEach Try.prog (Try.f4.params.toList ++ Rows.topSpreadsSpec.plain.varTypes Try.prog) (ds ++ gs)).all (· ≤ reachBytes) = true := hsz0
 have hval : ∀ (j : Nat) t v, Try.f4.params[j]? = some t → args[j]? = some v → Value.okWide Try.prog W .any base t v := hval0
 have hW' := hW
 obtain ⟨p, q, hA0, hV, rfl, hfz, hnd⟩ := hW
 have hA : DataW.TrodAll enc Try.prog W 0 (fun _ => true) true Try.f4.params.toList args.toList ds p := hA0
 rw [Try.params4] at hA hval hsz
 obtain ⟨v0, vs0, d0, ds0, p0, q0, hargs, rfl, rfl, h0, r0⟩ := trodAll_cons hA
 obtain ⟨v1, vs1, d1, ds1, p1, q1, rfl, rfl, rfl, h1, r1⟩ := trodAll_cons r0
 obtain ⟨rfl, rfl, rfl⟩ := trodAll_nil r1
 obtain rfl : args = #[v0, v1] := by cases args; simp_all
 obtain ⟨rfl, rfl⟩ := trodVars_none hV
 obtain ⟨A0, len0, c0, rfl⟩ := okWide_slice Try.underlying22 (hval 0 22 v0 rfl rfl)
 have k0 := h0
 have lt0 : ∀ x ∈ p0, x.block < W.heap.size := by obtain ⟨m, hm⟩ := k0; exact DataW.trod_lt m _ _ _ hm
 have y0 : len0 * 56 ≤ 140737488351232 := Qfl hsz (j := 0) (t := 22) rfl rfl Try.underlying22 (by kernel_rfl) h0
 obtain ⟨l0, e0, hc0, hr0, ok0⟩ : ∃ l : List (S71), len0 = l.length ∧ l.length ≤ c0 ∧ Kd.C k71 W A0 l.length l ∧ (∀ y_ ∈ l, ok71 y_) := by
  obtain ⟨fuel, hf⟩ := h0
  obtain ⟨xs, ⟨A, c, hcs, hl, hC⟩, hok⟩ := (Rdb.slice Try.underlying22 (by kernel_rfl) rdb71).rd enc W fuel _ _ hf
  simp [Value.cells] at hcs
  obtain ⟨rfl, rfl, rfl⟩ := hcs
  exact ⟨xs, rfl, hl, hC, hok⟩
 subst e0
 obtain ⟨cs1, rfl, sz1⟩ := okWide_struct Try.underlying42 (hval 1 42 v1 rfl rfl)
 have k1 := h1
 have lt1 : ∀ x ∈ p1, x.block < W.heap.size := by obtain ⟨m, hm⟩ := k1; exact DataW.trod_lt m _ _ _ hm
 obtain ⟨x1, kx1, okx1⟩ : ∃ x : S42, k42.K W x cs1.toList ∧ ok42 x := by obtain ⟨fuel, hf⟩ := h1; exact rdb42.rd enc W fuel _ _ hf
 obtain ⟨A1_0, c1_0, A1_1, c1_1, A1_2, c1_2, hcs1, hc1_0, hr1_0, hc1_1, hr1_1, hc1_2, hr1_2⟩ := QfD kx1
 obtain rfl : cs1 = #[.slice A1_0 x1.f0.length c1_0, .slice A1_1 x1.f1.length c1_1, .slice A1_2 x1.f2.length c1_2] := by cases cs1; simp_all
 have y1_0 : x1.f0.length * 72 ≤ 140737488351232 := Qcp hsz (j := 1) (t := 42) (i := 0) rfl rfl Try.underlying42 rfl Try.underlying38 (by kernel_rfl) k1 rfl
 have y1_1 : x1.f1.length * 24 ≤ 140737488351232 := Qcp hsz (j := 1) (t := 42) (i := 1) rfl rfl Try.underlying42 rfl Try.underlying39 (by kernel_rfl) k1 rfl
 have y1_2 : x1.f2.length * 56 ≤ 140737488351232 := Qcp hsz (j := 1) (t := 42) (i := 2) rfl rfl Try.underlying42 rfl Try.underlying40 (by kernel_rfl) k1 rfl
 clear hA0 hval0 hsz0 hsz
 obtain ⟨k, h⟩ := Pure.TopSpreads l0 x1.f0 x1.f1 x1.f2 hr0.2.1 y0 ok0 hr1_0.2.1 y1_0 okx1.1 hr1_1.2.1 y1_1 okx1.2.1 hr1_2.2.1 y1_2 okx1.2.2
 refine (contangotop_TopSpreads.calls k A0 c0 l0 A1_0 c1_0 x1.f0 A1_1 c1_1 x1.f1 A1_2 c1_2 x1.f2 true W hr0 hc0 hr1_0 hc1_0 hr1_1 hc1_1 hr1_2 hc1_2 h).mono fun e W' ⟨he, bel0⟩ => ?_
 have bel : Below W.heap.size W W' := bel0
 subst he
 exact ⟨_, rfl, _, _, _, [], _, [], hW', trodAll_mk1 (shut_bool Try.underlying4 _), (trodAll_cons_mk (Below.trod laidOut (by kernel_rfl) (of_decide_eq_true (by kernel_rfl)) k0 bel lt0) (trodAll_cons_mk (Below.trod laidOut (by kernel_rfl) (of_decide_eq_true (by kernel_rfl)) k1 bel lt1) trodAll_mk0)), rfl, bel.frame _, fun h => by cases h⟩
theorem over : Rows.topSpreadsRow.holds Try.pinned (OpenSpec.ofChange Rows.topSpreadsSpec) :=
 OpenClaim.holds_of_wide 4 Try.f4 rfl rfl rfl rfl rfl rfl rfl ⟨rfl, rfl, rfl, rfl, rfl⟩ rfl rfl rfl rfl rfl (by kernel_rfl) Try.func4 (by kernel_rfl)
  (of_decide_eq_true (by kernel_rfl)) (by unfold Func.isWrapper; first | (rw [if_pos (by decide +kernel)]; kernel_rfl) | (rw [if_neg (by decide +kernel)]; exact ⟨rfl, rfl⟩))
  (fun os started H enc _ => lifted os started H enc)
theorem proved : Rows.TopSpreadsSaid := over
end Go.Proofs.Ytgnmhfjfefgbfaa.topSpreads
namespace Go.Proofs.Ytgnmhfjfefgbfaa
theorem topSpreads_holds : Rows.TopSpreadsSaid := topSpreads.proved
end Go.Proofs.Ytgnmhfjfefgbfaa
