/- The row of the law TopCallMet out of its pure statement and the walk: for every input the call returns true, and each argument reads behind it as it read before. -/
import Derived.Test.YtgnmhfjfefgbfaaRows
import Derived.Test.YtgnmhfjfefgbfaaQ3D7P9
import Derived.Test.YtgnmhfjfefgbfaaQ3D7PureTopCallMet
import Derived.Test.YtgnmhfjfefgbfaaQ3D7PrxRd
import Derived.Test.YtgnmhfjfefgbfaaQ3D7PrxDTopCallMet
import Derived.WalkKit
import Derived.ProofKit
import Derived.OpenShut
import Derived.ShutString
import Derived.ChangeOld
import Derived.Below
import Derived.SizedLaws
namespace Go.Proofs.Ytgnmhfjfefgbfaa.topCallMet
open Go.ChangeShapes Go.WideShapes Go.ChangeAt Go.RowKit Go.Proofs.Ytgnmhfjfefgbfaa.Pr Go.Proofs.YtgnmhfjfefgbfaaW.PrintWords Go.Proofs.YtgnmhfjfefgbfaaW.PrintLast
open Go.ChangeMaps (open_string shut_string)
set_option linter.unusedVariables false
theorem own : ownKnob Try.prog.godebug = none := by kernel_rfl
theorem laidOut : laidOutB Try.prog = true := by kernel_rfl
set_option maxRecDepth 100000 in
theorem lifted (os : Os) (started : os.Started) (H : Type) (enc : TypeId × Value → H) :
  ReturnsInHanded {} Try.checked os 8 .any (Rows.topCallMetSpec.pre6 enc Try.prog Try.f8 Rows.topCallMetRow.domain false) (Rows.topCallMetSpec.post enc Try.prog Try.f8 false true false false) := by
 refine returnsInHanded_of_change_sized (C := Try.checked) own started (by kernel_rfl) Try.func8
  (ChangeSpec.witness6 (enc := enc) (C := Try.checked) false ⟨#[], #[.agg #[.string ByteArray.empty, .string ByteArray.empty, .int .i64 0, .int .i64 0, .int .i64 0, .int .i64 0, .int .i64 0, .int .i64 0, .int .i64 0, .slice none 0 0, .slice none 0 0, .slice none 0 0, .string ByteArray.empty], .int .i64 0], []⟩ 8 (by kernel_rfl) (by kernel_rfl) (by kernel_rfl) (by kernel_rfl)) ?_
 intro W base args ds gs before hval0 hW hcnd hsz0 _
 have hsz : (DataW.weightsEach Try.prog (Try.f8.params.toList ++ Rows.topCallMetSpec.plain.varTypes Try.prog) (ds ++ gs)).all (· ≤ reachBytes) = true := hsz0
 have hval : ∀ (j : Nat) t v, Try.f8.params[j]? = some t → args[j]? = some v → Value.okWide Try.prog W .any base t v := hval0
 have hW' := hW
 obtain ⟨p, q, hA0, hV, rfl, hfz, hnd⟩ := hW
 have hA : DataW.TrodAll enc Try.prog W 0 (fun _ => true) true Try.f8.params.toList args.toList ds p := hA0
 rw [Try.params8] at hA hval hsz
 obtain ⟨v0, vs0, d0, ds0, p0, q0, hargs, rfl, rfl, h0, r0⟩ := trodAll_cons hA
 obtain ⟨v1, vs1, d1, ds1, p1, q1, rfl, rfl, rfl, h1, r1⟩ := trodAll_cons r0
 obtain ⟨rfl, rfl, rfl⟩ := trodAll_nil r1
 obtain rfl : args = #[v0, v1] := by cases args; simp_all
 obtain ⟨rfl, rfl⟩ := trodVars_none hV
 obtain ⟨cs0, rfl, sz0⟩ := okWide_struct Try.underlying106 (hval 0 106 v0 rfl rfl)
 have k0 := h0
 have lt0 : ∀ x ∈ p0, x.block < W.heap.size := by obtain ⟨m, hm⟩ := k0; exact DataW.trod_lt m _ _ _ hm
 obtain ⟨x0, kx0, okx0⟩ : ∃ x : S106, k106.K W x cs0.toList ∧ ok106 x := by obtain ⟨fuel, hf⟩ := h0; exact rdb106.rd enc W fuel _ _ hf
 obtain ⟨A0_9, c0_9, A0_10, c0_10, A0_11, c0_11, hcs0, hc0_9, hr0_9, hc0_10, hr0_10, hc0_11, hr0_11⟩ := Qfb kx0
 obtain rfl : cs0 = #[.string x0.f0.f0.f0, .string x0.f0.f0.f1, .int .i64 x0.f0.f1, .int .i64 x0.f0.f2, .int .i64 x0.f0.f3, .int .i64 x0.f0.f4, .int .i64 x0.f0.f5, .int .i64 x0.f0.f6, .int .i64 x0.f0.f7, .slice A0_9 x0.f1.length c0_9, .slice A0_10 x0.f2.length c0_10, .slice A0_11 x0.f3.length c0_11, .string x0.f4] := by cases cs0; simp_all
 have y0_9 : x0.f1.length * 56 ≤ 140737488351232 := QcH hsz (j := 0) (t := 106) (i := 1) rfl rfl Try.underlying106 rfl Try.underlying102 (by kernel_rfl) k0 rfl
 have y0_10 : x0.f2.length * 56 ≤ 140737488351232 := QcH hsz (j := 0) (t := 106) (i := 2) rfl rfl Try.underlying106 rfl Try.underlying103 (by kernel_rfl) k0 rfl
 have y0_11 : x0.f3.length * 24 ≤ 140737488351232 := QcH hsz (j := 0) (t := 106) (i := 3) rfl rfl Try.underlying106 rfl Try.underlying104 (by kernel_rfl) k0 rfl
 obtain ⟨a1, rfl, rfl, rfl, w1⟩ := open_int Try.underlying3 (hval 1 3 v1 rfl rfl) h1
 clear hA0 hval0 hsz0 hsz
 obtain ⟨k, h⟩ := Pure.TopCallMet x0.f0.f0.f0 x0.f0.f0.f1 x0.f0.f1 x0.f0.f2 x0.f0.f3 x0.f0.f4 x0.f0.f5 x0.f0.f6 x0.f0.f7 x0.f1 x0.f2 x0.f3 x0.f4 a1 okx0.1.1.1 okx0.1.1.2 okx0.1.2.1 okx0.1.2.2.1 okx0.1.2.2.2.1 okx0.1.2.2.2.2.1 okx0.1.2.2.2.2.2.1 okx0.1.2.2.2.2.2.2.1 okx0.1.2.2.2.2.2.2.2 hr0_9.2.1 y0_9 okx0.2.1 hr0_10.2.1 y0_10 okx0.2.2.1 hr0_11.2.1 y0_11 okx0.2.2.2.1 okx0.2.2.2.2 w1
 refine (contangotop_TopCallMet.calls k x0.f0.f0.f0 x0.f0.f0.f1 x0.f0.f1 x0.f0.f2 x0.f0.f3 x0.f0.f4 x0.f0.f5 x0.f0.f6 x0.f0.f7 A0_9 c0_9 x0.f1 A0_10 c0_10 x0.f2 A0_11 c0_11 x0.f3 x0.f4 a1 true W hr0_9 hc0_9 hr0_10 hc0_10 hr0_11 hc0_11 h).mono fun e W' ⟨he, bel0⟩ => ?_
 have bel : Below W.heap.size W W' := bel0
 subst he
 exact ⟨_, rfl, _, _, _, [], _, [], hW', trodAll_mk1 (shut_bool Try.underlying4 _), (trodAll_cons_mk (Below.trod laidOut (by kernel_rfl) (of_decide_eq_true (by kernel_rfl)) k0 bel lt0) (trodAll_cons_mk (shut_int Try.underlying3 w1) trodAll_mk0)), rfl, bel.frame _, fun h => by cases h⟩
theorem over : Rows.topCallMetRow.holds Try.pinned (OpenSpec.ofChange Rows.topCallMetSpec) :=
 OpenClaim.holds_of_wide 8 Try.f8 rfl rfl rfl rfl rfl rfl rfl ⟨rfl, rfl, rfl, rfl, rfl⟩ rfl rfl rfl rfl rfl (by kernel_rfl) Try.func8 (by kernel_rfl)
  (of_decide_eq_true (by kernel_rfl)) (by unfold Func.isWrapper; first | (rw [if_pos (by decide +kernel)]; kernel_rfl) | (rw [if_neg (by decide +kernel)]; exact ⟨rfl, rfl⟩))
  (fun os started H enc _ => lifted os started H enc)
theorem proved : Rows.TopCallMetSaid := over
end Go.Proofs.Ytgnmhfjfefgbfaa.topCallMet
namespace Go.Proofs.Ytgnmhfjfefgbfaa
theorem topCallMet_holds : Rows.TopCallMetSaid := topCallMet.proved
end Go.Proofs.Ytgnmhfjfefgbfaa
