/- The row of the law TopPrices out of its pure statement and the walk: for every input the call returns true, and each argument reads behind it as it read before. -/
import Derived.Test.YtaembbndjpebhaaRows
import Derived.Test.YtaembbndjpebhaaQ974P4
import Derived.Test.YtaembbndjpebhaaQ974PureTopPrices
import Derived.Test.YtaembbndjpebhaaQ974PrxRd
import Derived.Test.YtaembbndjpebhaaQ974PrxDTopPrices
import Derived.WalkKit
import Derived.ProofKit
import Derived.OpenShut
import Derived.ShutString
import Derived.ChangeOld
import Derived.Below
import Derived.SizedLaws
namespace Go.Proofs.Ytaembbndjpebhaa.topPrices
open Go.ChangeShapes Go.WideShapes Go.ChangeAt Go.RowKit Go.Proofs.Ytaembbndjpebhaa.Pr Go.Proofs.YtaembbndjpebhaaW.PrintWords Go.Proofs.YtaembbndjpebhaaW.PrintLast
open Go.ChangeMaps (open_string shut_string)
set_option linter.unusedVariables false
theorem own : ownKnob Try.prog.godebug = none := by kernel_rfl
theorem laidOut : laidOutB Try.prog = true := by kernel_rfl
set_option maxRecDepth 100000 in
theorem lifted (os : Os) (started : os.Started) (H : Type) (enc : TypeId × Value → H) :
  ReturnsInHanded {} Try.checked os 13 .any (Rows.topPricesSpec.pre6 enc Try.prog Try.f13 Rows.topPricesRow.domain false) (Rows.topPricesSpec.post enc Try.prog Try.f13 false true false false) := by
 refine returnsInHanded_of_change_sized (C := Try.checked) own started (by kernel_rfl) Try.func13
  (ChangeSpec.witness6 (enc := enc) (C := Try.checked) false ⟨#[], #[.agg #[.string ByteArray.empty, .int .i64 0, .int .i64 0, .int .i64 0, .int .i64 0, .int .i64 0, .bool false], .agg #[.slice none 0 0, .int .i64 0, .int .i64 0, .int .i64 0, .int .i64 0, .int .i64 0, .int .i64 0, .int .i64 0], .agg #[.slice none 0 0, .int .i64 0, .int .i64 0]], []⟩ 8 (by kernel_rfl) (by kernel_rfl) (by kernel_rfl) (by kernel_rfl)) ?_
 intro W base args ds gs before hval0 hW hcnd hsz0 _
 have hsz : (DataW.weightsEach Try.prog (Try.f13.params.toList ++ Rows.topPricesSpec.plain.varTypes Try.prog) (ds ++ gs)).all (· ≤ reachBytes) = true := hsz0
 have hval : ∀ (j : Nat) t v, Try.f13.params[j]? = some t → args[j]? = some v → Value.okWide Try.prog W .any base t v := hval0
 have hW' := hW
 obtain ⟨p, q, hA0, hV, rfl, hfz, hnd⟩ := hW
 have hA : DataW.TrodAll enc Try.prog W 0 (fun _ => true) true Try.f13.params.toList args.toList ds p := hA0
 rw [Try.params13] at hA hval hsz
 obtain ⟨v0, vs0, d0, ds0, p0, q0, hargs, rfl, rfl, h0, r0⟩ := trodAll_cons hA
 obtain ⟨v1, vs1, d1, ds1, p1, q1, rfl, rfl, rfl, h1, r1⟩ := trodAll_cons r0
 obtain ⟨v2, vs2, d2, ds2, p2, q2, rfl, rfl, rfl, h2, r2⟩ := trodAll_cons r1
 obtain ⟨rfl, rfl, rfl⟩ := trodAll_nil r2
 obtain rfl : args = #[v0, v1, v2] := by cases args; simp_all
 obtain ⟨rfl, rfl⟩ := trodVars_none hV
 obtain ⟨cs0, rfl, sz0⟩ := okWide_struct Try.underlying73 (hval 0 73 v0 rfl rfl)
 have k0 := h0
 have lt0 : ∀ x ∈ p0, x.block < W.heap.size := by obtain ⟨m, hm⟩ := k0; exact DataW.trod_lt m _ _ _ hm
 obtain ⟨x0, kx0, okx0⟩ : ∃ x : S73, k73.K W x cs0.toList ∧ ok73 x := by obtain ⟨fuel, hf⟩ := h0; exact rdb73.rd enc W fuel _ _ hf
 have hcs0 := QdU kx0
 obtain rfl : cs0 = #[.string x0.f0, .int .i64 x0.f1, .int .i64 x0.f2, .int .i64 x0.f3, .int .i64 x0.f4, .int .i64 x0.f5, .bool x0.f6] := by cases cs0; simp_all
 obtain ⟨cs1, rfl, sz1⟩ := okWide_struct Try.underlying76 (hval 1 76 v1 rfl rfl)
 have k1 := h1
 have lt1 : ∀ x ∈ p1, x.block < W.heap.size := by obtain ⟨m, hm⟩ := k1; exact DataW.trod_lt m _ _ _ hm
 obtain ⟨x1, kx1, okx1⟩ : ∃ x : S76, k76.K W x cs1.toList ∧ ok76 x := by obtain ⟨fuel, hf⟩ := h1; exact rdb76.rd enc W fuel _ _ hf
 obtain ⟨A1_0, c1_0, hcs1, hc1_0, hr1_0⟩ := QdV kx1
 obtain rfl : cs1 = #[.slice A1_0 x1.f0.length c1_0, .int .i64 x1.f1, .int .i64 x1.f2, .int .i64 x1.f3, .int .i64 x1.f4, .int .i64 x1.f5, .int .i64 x1.f6, .int .i64 x1.f7] := by cases cs1; simp_all
 obtain ⟨cs2, rfl, sz2⟩ := okWide_struct Try.underlying78 (hval 2 78 v2 rfl rfl)
 have k2 := h2
 have lt2 : ∀ x ∈ p2, x.block < W.heap.size := by obtain ⟨m, hm⟩ := k2; exact DataW.trod_lt m _ _ _ hm
 obtain ⟨x2, kx2, okx2⟩ : ∃ x : S78, k78.K W x cs2.toList ∧ ok78 x := by obtain ⟨fuel, hf⟩ := h2; exact rdb78.rd enc W fuel _ _ hf
 obtain ⟨A2_0, c2_0, hcs2, hc2_0, hr2_0⟩ := QdW kx2
 obtain rfl : cs2 = #[.slice A2_0 x2.f0.length c2_0, .int .i64 x2.f1, .int .i64 x2.f2] := by cases cs2; simp_all
 clear hA0 hval0 hsz0 hsz
 obtain ⟨k, h⟩ := Pure.TopPrices x0.f0 x0.f1 x0.f2 x0.f3 x0.f4 x0.f5 x0.f6 x1.f0 x1.f1 x1.f2 x1.f3 x1.f4 x1.f5 x1.f6 x1.f7 x2.f0 x2.f1 x2.f2 okx0.1 okx0.2.1 okx0.2.2.1 okx0.2.2.2.1 okx0.2.2.2.2.1 okx0.2.2.2.2.2.1 hr1_0.2.1 okx1.1 okx1.2.1 okx1.2.2.1 okx1.2.2.2.1 okx1.2.2.2.2.1 okx1.2.2.2.2.2.1 okx1.2.2.2.2.2.2.1 okx1.2.2.2.2.2.2.2 hr2_0.2.1 okx2.1 okx2.2.1 okx2.2.2
 refine (contangotop_TopPrices.calls k x0.f0 x0.f1 x0.f2 x0.f3 x0.f4 x0.f5 x0.f6 A1_0 c1_0 x1.f0 x1.f1 x1.f2 x1.f3 x1.f4 x1.f5 x1.f6 x1.f7 A2_0 c2_0 x2.f0 x2.f1 x2.f2 true W  hr1_0 hc1_0 hr2_0 hc2_0 h).mono fun e W' ⟨he, bel0⟩ => ?_
 have bel : Below W.heap.size W W' := bel0
 subst he
 exact ⟨_, rfl, _, _, _, [], _, [], hW', trodAll_mk1 (shut_bool Try.underlying4 _), (trodAll_cons_mk (Below.trod laidOut (by kernel_rfl) (of_decide_eq_true (by kernel_rfl)) k0 bel lt0) (trodAll_cons_mk (Below.trod laidOut (by kernel_rfl) (of_decide_eq_true (by kernel_rfl)) k1 bel lt1) (trodAll_cons_mk (Below.trod laidOut (by kernel_rfl) (of_decide_eq_true (by kernel_rfl)) k2 bel lt2) trodAll_mk0))), rfl, bel.frame _, fun h => by cases h⟩
theorem over : Rows.topPricesRow.holds Try.pinned (OpenSpec.ofChange Rows.topPricesSpec) :=
 OpenClaim.holds_of_wide 13 Try.f13 rfl rfl rfl rfl rfl rfl rfl ⟨rfl, rfl, rfl, rfl, rfl⟩ rfl rfl rfl rfl rfl (by kernel_rfl) Try.func13 (by kernel_rfl)
  (of_decide_eq_true (by kernel_rfl)) (by unfold Func.isWrapper; first | (rw [if_pos (by decide +kernel)]; kernel_rfl) | (rw [if_neg (by decide +kernel)]; exact ⟨rfl, rfl⟩))
  (fun os started H enc _ => lifted os started H enc)
theorem proved : Rows.TopPricesSaid := over
end Go.Proofs.Ytaembbndjpebhaa.topPrices
namespace Go.Proofs.Ytaembbndjpebhaa
theorem topPrices_holds : Rows.TopPricesSaid := topPrices.proved
end Go.Proofs.Ytaembbndjpebhaa
