/- The row of the law TopPledgeMoved out of its pure statement and the walk: for every input the call returns true, and each argument reads behind it as it read before. -/
import Derived.Test.YtaiekjimdjlgbaaRows
import Derived.Test.YtaiekjimdjlgbaaQ3EDP6
import Derived.Test.YtaiekjimdjlgbaaQ3EDPureTopPledgeMoved
import Derived.Test.YtaiekjimdjlgbaaQ3EDPrxRd
import Derived.Test.YtaiekjimdjlgbaaQ3EDPrxDTopPledgeMoved
import Derived.WalkKit
import Derived.ProofKit
import Derived.OpenShut
import Derived.ShutString
import Derived.ChangeOld
import Derived.Below
import Derived.SizedLaws
namespace Go.Proofs.Ytaiekjimdjlgbaa.topPledgeMoved
open Go.ChangeShapes Go.WideShapes Go.ChangeAt Go.RowKit Go.Proofs.Ytaiekjimdjlgbaa.Pr Go.Proofs.YtaiekjimdjlgbaaW.PrintWords Go.Proofs.YtaiekjimdjlgbaaW.PrintLast
open Go.ChangeMaps (open_string shut_string)
set_option linter.unusedVariables false
theorem own : ownKnob Try.prog.godebug = none := by kernel_rfl
theorem laidOut : laidOutB Try.prog = true := by kernel_rfl
set_option maxRecDepth 100000 in
theorem lifted (os : Os) (started : os.Started) (H : Type) (enc : TypeId × Value → H) :
    ReturnsInHanded {} Try.checked os 14 .any (Rows.topPledgeMovedSpec.pre6 enc Try.prog Try.f14 Rows.topPledgeMovedRow.domain false) (Rows.topPledgeMovedSpec.post enc Try.prog Try.f14 false true false false) := by
  refine returnsInHanded_of_change_sized (C := Try.checked) own started (by kernel_rfl) Try.func14
    (ChangeSpec.witness6 (enc := enc) (C := Try.checked) false ⟨#[], #[.agg #[.slice none 0 0, .string ByteArray.empty, .string ByteArray.empty, .string ByteArray.empty, .string ByteArray.empty, .slice none 0 0, .slice none 0 0]], []⟩ 8 (by kernel_rfl) (by kernel_rfl) (by kernel_rfl) (by kernel_rfl)) ?_
  intro W base args ds gs before hval0 hW hcnd hsz0 _
  have hsz : (DataW.weightsEach Try.prog (Try.f14.params.toList ++ Rows.topPledgeMovedSpec.plain.varTypes Try.prog) (ds ++ gs)).all (· ≤ reachBytes) = true := hsz0
  have hval : ∀ (j : Nat) t v, Try.f14.params[j]? = some t → args[j]? = some v → Value.okWide Try.prog W .any base t v := hval0
  have hW' := hW
  obtain ⟨p, q, hA0, hV, rfl, hfz, hnd⟩ := hW
  have hA : DataW.TrodAll enc Try.prog W 0 (fun _ => true) true Try.f14.params.toList args.toList ds p := hA0
  rw [Try.params14] at hA hval hsz
  obtain ⟨v0, vs0, d0, ds0, p0, q0, hargs, rfl, rfl, h0, r0⟩ := trodAll_cons hA
  obtain ⟨rfl, rfl, rfl⟩ := trodAll_nil r0
  obtain rfl : args = #[v0] := by cases args; simp_all
  obtain ⟨rfl, rfl⟩ := trodVars_none hV
  obtain ⟨cs0, rfl, sz0⟩ := okWide_struct Try.underlying80 (hval 0 80 v0 rfl rfl)
  have k0 := h0
  have lt0 : ∀ x ∈ p0, x.block < W.heap.size := by obtain ⟨m, hm⟩ := k0; exact DataW.trod_lt m _ _ _ hm
  obtain ⟨x0, kx0, okx0⟩ : ∃ x : S80, k80.K W x cs0.toList ∧ ok80 x := by obtain ⟨fuel, hf⟩ := h0; exact rdb80.rd enc W fuel _ _ hf
  obtain ⟨A0_0, c0_0, A0_5, c0_5, A0_6, c0_6, hcs0, hc0_0, hr0_0, hc0_5, hr0_5, hc0_6, hr0_6⟩ := k80_open kx0
  obtain rfl : cs0 = #[.slice A0_0 x0.f0.length c0_0, .string x0.f1.f0, .string x0.f1.f1, .string x0.f2.f0, .string x0.f2.f1, .slice A0_5 x0.f3.length c0_5, .slice A0_6 x0.f4.length c0_6] := by cases cs0; simp_all
  clear hA0 hval0 hsz0 hsz
  obtain ⟨k, h⟩ := Pure.TopPledgeMoved x0.f0 x0.f1.f0 x0.f1.f1 x0.f2.f0 x0.f2.f1 x0.f3 x0.f4 hr0_0.2.1 okx0.1 okx0.2.1.1 okx0.2.1.2 okx0.2.2.1.1 okx0.2.2.1.2 hr0_5.2.1 okx0.2.2.2.1 hr0_6.2.1 okx0.2.2.2.2
  refine (contangotop_TopPledgeMoved.calls k A0_0 c0_0 x0.f0 x0.f1.f0 x0.f1.f1 x0.f2.f0 x0.f2.f1 A0_5 c0_5 x0.f3 A0_6 c0_6 x0.f4 true W hr0_0 hc0_0 hr0_5 hc0_5 hr0_6 hc0_6 h).mono fun e W' ⟨he, bel0⟩ => ?_
  have bel : Below W.heap.size W W' := bel0
  subst he
  exact ⟨_, rfl, _, _, _, [], _, [], hW', trodAll_mk1 (shut_bool Try.underlying4 _), (trodAll_cons_mk (Below.trod laidOut (by kernel_rfl) (of_decide_eq_true (by kernel_rfl)) k0 bel lt0) trodAll_mk0), rfl, bel.frame _, fun h => by cases h⟩
theorem over : Rows.topPledgeMovedRow.holds Try.pinned (OpenSpec.ofChange Rows.topPledgeMovedSpec) :=
  OpenClaim.holds_of_wide 14 Try.f14 rfl rfl rfl rfl rfl rfl rfl ⟨rfl, rfl, rfl, rfl, rfl⟩ rfl rfl rfl rfl rfl (by kernel_rfl) Try.func14 (by kernel_rfl)
    (of_decide_eq_true (by kernel_rfl)) (by unfold Func.isWrapper; first | (rw [if_pos (by decide +kernel)]; kernel_rfl) | (rw [if_neg (by decide +kernel)]; exact ⟨rfl, rfl⟩))
    (fun os started H enc _ => lifted os started H enc)
theorem proved : Rows.TopPledgeMovedSaid := over
end Go.Proofs.Ytaiekjimdjlgbaa.topPledgeMoved
namespace Go.Proofs.Ytaiekjimdjlgbaa
/-- The row, under a short name, for the claim. -/
theorem topPledgeMoved_holds : Rows.TopPledgeMovedSaid := topPledgeMoved.proved
end Go.Proofs.Ytaiekjimdjlgbaa
