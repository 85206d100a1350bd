/- The row of the law LimitKinds out of its pure statement and the walk: for every input the call returns true, and each argument reads behind it as it read before. -/
import Derived.Test.YtfcaaefdmabkhaaRows
import Derived.Test.YtfcaaefdmabkhaaQ283P8
import Derived.Test.YtfcaaefdmabkhaaQ283PureLimitKinds
import Derived.Test.YtfcaaefdmabkhaaQ283PrxRd
import Derived.Test.YtfcaaefdmabkhaaQ283PrxDLimitKinds
import Derived.WalkKit
import Derived.ProofKit
import Derived.OpenShut
import Derived.ShutString
import Derived.ChangeOld
import Derived.Below
import Derived.SizedLaws
namespace Go.Proofs.Ytfcaaefdmabkhaa.limitKinds
open Go.ChangeShapes Go.WideShapes Go.ChangeAt Go.RowKit Go.Proofs.Ytfcaaefdmabkhaa.Pr Go.Proofs.YtfcaaefdmabkhaaW.PrintWords Go.Proofs.YtfcaaefdmabkhaaW.PrintLast
open Go.ChangeMaps (open_string shut_string)
set_option linter.unusedVariables false
theorem own : ownKnob Try.prog.godebug = none := by kernel_rfl
theorem laidOut : laidOutB Try.prog = true := by kernel_rfl
set_option maxRecDepth 100000 in
theorem lifted (os : Os) (started : os.Started) (H : Type) (enc : TypeId × Value → H) :
  ReturnsInHanded {} Try.checked os 10 .any (Rows.limitKindsSpec.pre6 enc Try.prog Try.f10 Rows.limitKindsRow.domain false) (Rows.limitKindsSpec.post enc Try.prog Try.f10 false true false false) := by
 refine returnsInHanded_of_change_sized (C := Try.checked) own started (by kernel_rfl) Try.func10
  (ChangeSpec.witness6 (enc := enc) (C := Try.checked) false ⟨#[], #[.agg #[.slice none 0 0, .string ByteArray.empty, .string ByteArray.empty, .int .i64 0, .slice none 0 0, .slice none 0 0]], []⟩ 8 (by kernel_rfl) (by kernel_rfl) (by kernel_rfl) (by kernel_rfl)) ?_
 intro W base args ds gs before hval0 hW hcnd hsz0 _
 have hsz : (DataW.weightsEach Try.prog (Try.f10.params.toList ++ Rows.limitKindsSpec.plain.varTypes Try.prog) (ds ++ gs)).all (· ≤ reachBytes) = true := hsz0
 have hval : ∀ (j : Nat) t v, Try.f10.params[j]? = some t → args[j]? = some v → Value.okWide Try.prog W .any base t v := hval0
 have hW' := hW
 obtain ⟨p, q, hA0, hV, rfl, hfz, hnd⟩ := hW
 have hA : DataW.TrodAll enc Try.prog W 0 (fun _ => true) true Try.f10.params.toList args.toList ds p := hA0
 rw [Try.params10] at hA hval hsz
 obtain ⟨v0, vs0, d0, ds0, p0, q0, hargs, rfl, rfl, h0, r0⟩ := trodAll_cons hA
 obtain ⟨rfl, rfl, rfl⟩ := trodAll_nil r0
 obtain rfl : args = #[v0] := by cases args; simp_all
 obtain ⟨rfl, rfl⟩ := trodVars_none hV
 obtain ⟨cs0, rfl, sz0⟩ := okWide_struct Try.underlying61 (hval 0 61 v0 rfl rfl)
 have k0 := h0
 have lt0 : ∀ x ∈ p0, x.block < W.heap.size := by obtain ⟨m, hm⟩ := k0; exact DataW.trod_lt m _ _ _ hm
 obtain ⟨x0, kx0, okx0⟩ : ∃ x : S61, k61.K W x cs0.toList ∧ ok61 x := by obtain ⟨fuel, hf⟩ := h0; exact rdb61.rd enc W fuel _ _ hf
 obtain ⟨A0_0, c0_0, A0_4, c0_4, A0_5, c0_5, hcs0, hc0_0, hr0_0, hc0_4, hr0_4, hc0_5, hr0_5⟩ := Qfq kx0
 obtain rfl : cs0 = #[.slice A0_0 x0.f0.length c0_0, .string x0.f1.f0, .string x0.f1.f1, .int .i64 x0.f2, .slice A0_4 x0.f3.length c0_4, .slice A0_5 x0.f4.length c0_5] := by cases cs0; simp_all
 clear hA0 hval0 hsz0 hsz
 obtain ⟨k, h⟩ := Pure.LimitKinds x0.f0 x0.f1.f0 x0.f1.f1 x0.f2 x0.f3 x0.f4 hr0_0.2.1 okx0.1 okx0.2.1.1 okx0.2.1.2 okx0.2.2.1 hr0_4.2.1 okx0.2.2.2.1 hr0_5.2.1 okx0.2.2.2.2
 refine (contangolaw33_LimitKinds.calls k A0_0 c0_0 x0.f0 x0.f1.f0 x0.f1.f1 x0.f2 A0_4 c0_4 x0.f3 A0_5 c0_5 x0.f4 true W hr0_0 hc0_0 hr0_4 hc0_4 hr0_5 hc0_5 h).mono fun e W' ⟨he, bel0⟩ => ?_
 have bel : Below W.heap.size W W' := bel0
 subst he
 exact ⟨_, rfl, _, _, _, [], _, [], hW', trodAll_mk1 (shut_bool Try.underlying4 _), (trodAll_cons_mk (Below.trod laidOut (by kernel_rfl) (of_decide_eq_true (by kernel_rfl)) k0 bel lt0) trodAll_mk0), rfl, bel.frame _, fun h => by cases h⟩
theorem over : Rows.limitKindsRow.holds Try.pinned (OpenSpec.ofChange Rows.limitKindsSpec) :=
 OpenClaim.holds_of_wide 10 Try.f10 rfl rfl rfl rfl rfl rfl rfl ⟨rfl, rfl, rfl, rfl, rfl⟩ rfl rfl rfl rfl rfl (by kernel_rfl) Try.func10 (by kernel_rfl)
  (of_decide_eq_true (by kernel_rfl)) (by unfold Func.isWrapper; first | (rw [if_pos (by decide +kernel)]; kernel_rfl) | (rw [if_neg (by decide +kernel)]; exact ⟨rfl, rfl⟩))
  (fun os started H enc _ => lifted os started H enc)
theorem proved : Rows.LimitKindsSaid := over
end Go.Proofs.Ytfcaaefdmabkhaa.limitKinds
namespace Go.Proofs.Ytfcaaefdmabkhaa
theorem limitKinds_holds : Rows.LimitKindsSaid := limitKinds.proved
end Go.Proofs.Ytfcaaefdmabkhaa
