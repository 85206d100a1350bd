/- The row of the law InterTotals out of its pure statement and the walk: for every input the call returns true, and each argument reads behind it as it read before. Narrowed: of bulk at most the number in the Rows text. -/
import Derived.Test.YtggbflplbblgbaaRows
import Derived.Test.YtggbflplbblgbaaQ6B9P2
import Derived.Test.YtggbflplbblgbaaQ6B9PureInterTotalsUpto
import Derived.Test.YtggbflplbblgbaaQ6B9P0
import Derived.Test.YtggbflplbblgbaaQ6B9LmReadKinds
import Derived.Test.YtggbflplbblgbaaQ6B9PrxDInterTotals
import Derived.WalkKit
import Derived.ProofKit
import Derived.OpenShut
import Derived.ShutString
import Derived.ChangeOld
import Derived.Below
import Derived.SizedLaws
import Derived.Deep.CondSized
import Derived.JoinedCond
import Derived.Test.YtggbflplbblgbaaQ6B9LmUpto
namespace Go.Proofs.Ytggbflplbblgbaa.interTotalsUpto
open Go.ChangeShapes Go.WideShapes Go.ChangeAt Go.RowKit Go.Proofs.Ytggbflplbblgbaa.Pr Go.Proofs.YtggbflplbblgbaaW.PrintWords Go.Proofs.YtggbflplbblgbaaW.PrintLast
open Go.ChangeMaps (open_string shut_string)
set_option linter.unusedVariables false
theorem own : ownKnob Try.prog.godebug = none := by kernel_rfl
theorem laidOut : laidOutB Try.prog = true := by kernel_rfl
set_option maxRecDepth 100000 in
theorem lifted (os : Os) (started : os.Started) (H : Type) (enc : TypeId × Value → H) (F : Stop.Interp) :
  ReturnsInHanded {} Try.checked os 14 .any ((Rows.OpenSpec.upto Rows.interTotalsSpec).pre6 enc Try.prog Try.f14 Rows.interTotalsUptoRow.domain false) (((Rows.OpenSpec.upto Rows.interTotalsSpec).at F).post enc Try.prog Try.f14 false true false false) := by
 refine returnsInHanded_of_cond_sized (C := Try.checked) (s := Rows.OpenSpec.upto Rows.interTotalsSpec) (k := Rows.uptoSmall) rfl own started (by kernel_rfl) Try.func14
  (OpenSpec.witness (enc := enc) (C := Try.checked) (s := Rows.OpenSpec.upto Rows.interTotalsSpec) (k := Rows.uptoSmall) rfl false ⟨#[], #[.slice none 0 0], []⟩ 8 (by kernel_rfl) (by kernel_rfl) (by kernel_rfl) (x := ([.nil], [], [])) (by kernel_rfl) rfl (by kernel_rfl)) ?_
 intro W base args ds gs before hval0 hW hcnd hk0 hsz0 _
 have hsz : (DataW.weightsEach Try.prog (Try.f14.params.toList ++ Rows.interTotalsSpec.plain.varTypes Try.prog) (ds ++ gs)).all (· ≤ reachBytes) = true := hsz0
 have hval : ∀ (j : Nat) t v, Try.f14.params[j]? = some t → args[j]? = some v → Value.okWide Try.prog W .any base t v := hval0
 have hW' := hW
 obtain ⟨p, q, hA0, hV, rfl, hfz, hnd⟩ := hW
 have hA : DataW.TrodAll enc Try.prog W 0 (fun _ => true) true Try.f14.params.toList args.toList ds p := hA0
 rw [Try.params14] at hA hval hsz
 obtain ⟨v0, vs0, d0, ds0, p0, q0, hargs, rfl, rfl, h0, r0⟩ := trodAll_cons hA
 obtain ⟨rfl, rfl, rfl⟩ := trodAll_nil r0
 obtain rfl : args = #[v0] := by cases args; simp_all
 obtain ⟨rfl, rfl⟩ := trodVars_none hV
 obtain ⟨A0, len0, c0, rfl⟩ := okWide_slice Try.underlying46 (hval 0 46 v0 rfl rfl)
 have k0 := h0
 have lt0 : ∀ x ∈ p0, x.block < W.heap.size := by obtain ⟨m, hm⟩ := k0; exact DataW.trod_lt m _ _ _ hm
 have y0 : len0 * 8 ≤ 140737488351232 := QdA hsz (j := 0) (t := 46) rfl rfl Try.underlying46 (by kernel_rfl) h0
 obtain ⟨l0, e0, hc0, hr0, ok0⟩ : ∃ l : List Int, len0 = l.length ∧ l.length ≤ c0 ∧ Kd.C (Kd.int .i64) W A0 l.length l ∧ (∀ y_ ∈ l, (Lit.int .i64 y_).wf = true) := by
  obtain ⟨fuel, hf⟩ := h0
  obtain ⟨xs, ⟨A, c, hcs, hl, hC⟩, hok⟩ := (Rdb.slice Try.underlying46 (by kernel_rfl) (Rdb.int Try.underlying3)).rd enc W fuel _ _ hf
  simp [Value.cells] at hcs
  obtain ⟨rfl, rfl, rfl⟩ := hcs
  exact ⟨xs, rfl, hl, hC, hok⟩
 subst e0
 clear hA0 hval0 hsz0 hsz
 obtain ⟨k, h⟩ := Pure.InterTotalsUpto l0 hr0.2.1 (QdC hk0 (j := 0) rfl Try.underlying46 k0) y0 ok0
 refine (contangolaw25_InterTotals.calls k A0 c0 l0 true W hr0 hc0 h).mono fun e W' ⟨he, bel0⟩ => ?_
 have bel : Below W.heap.size W W' := bel0
 subst he
 exact ⟨_, rfl, _, _, _, [], _, [], hW', trodAll_mk1 (shut_bool Try.underlying4 _), (trodAll_cons_mk (Below.trod laidOut (by kernel_rfl) (of_decide_eq_true (by kernel_rfl)) k0 bel lt0) trodAll_mk0), rfl, bel.frame _, fun h => by cases h⟩
theorem over : Rows.interTotalsUptoRow.holds Try.pinned (Rows.OpenSpec.upto Rows.interTotalsSpec) :=
 OpenClaim.holds_of_cond 14 Try.f14 rfl rfl rfl rfl rfl rfl rfl ⟨rfl, rfl, rfl, rfl, rfl⟩ rfl rfl rfl rfl rfl (by kernel_rfl) Try.func14 (by kernel_rfl)
  (of_decide_eq_true (by kernel_rfl)) (by unfold Func.isWrapper; first | (rw [if_pos (by decide +kernel)]; kernel_rfl) | (rw [if_neg (by decide +kernel)]; exact ⟨rfl, rfl⟩))
  (fun os started H enc _ F => lifted os started H enc F)
theorem proved : Rows.InterTotalsUptoSaid := over
end Go.Proofs.Ytggbflplbblgbaa.interTotalsUpto
namespace Go.Proofs.Ytggbflplbblgbaa
theorem interTotalsUpto_holds : Rows.InterTotalsUptoSaid := interTotalsUpto.proved
end Go.Proofs.Ytggbflplbblgbaa
