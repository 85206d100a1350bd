/- The row of the law TierDone out of its pure statement and the walk: for every input the call returns true, and each argument reads behind it as it read before. -/
import Derived.Test.YtggbflplbblgbaaRows
import Derived.Test.YtggbflplbblgbaaQ962P2
import Derived.Test.YtggbflplbblgbaaQ962PureTierDone
import Derived.Test.YtggbflplbblgbaaQ962PrxRd
import Derived.Test.YtggbflplbblgbaaQ962PrxDTierDone
import Derived.WalkKit
import Derived.ProofKit
import Derived.OpenShut
import Derived.ShutString
import Derived.ChangeOld
import Derived.Below
import Derived.SizedLaws
namespace Go.Proofs.Ytggbflplbblgbaa.tierDone
open Go.ChangeShapes Go.WideShapes Go.ChangeAt Go.RowKit Go.Proofs.Ytggbflplbblgbaa.Pr Go.Proofs.YtggbflplbblgbaaW.PrintWords Go.Proofs.YtggbflplbblgbaaW.PrintLast
open Go.ChangeMaps (open_string shut_string)
set_option linter.unusedVariables false
theorem own : ownKnob Try.prog.godebug = none := by kernel_rfl
theorem laidOut : laidOutB Try.prog = true := by kernel_rfl
set_option maxRecDepth 100000 in
theorem lifted (os : Os) (started : os.Started) (H : Type) (enc : TypeId × Value → H) :
  ReturnsInHanded {} Try.checked os 10 .any (Rows.tierDoneSpec.pre6 enc Try.prog Try.f10 Rows.tierDoneRow.domain false) (Rows.tierDoneSpec.post enc Try.prog Try.f10 false true false false) := by
 refine returnsInHanded_of_change_sized (C := Try.checked) own started (by kernel_rfl) Try.func10
  (ChangeSpec.witness6 (enc := enc) (C := Try.checked) false ⟨#[], #[.slice none 0 0, .slice none 0 0, .slice none 0 0], []⟩ 8 (by kernel_rfl) (by kernel_rfl) (by kernel_rfl) (by kernel_rfl)) ?_
 intro W base args ds gs before hval0 hW hcnd hsz0 _
 have hsz : (DataW.weightsEach Try.prog (Try.f10.params.toList ++ Rows.tierDoneSpec.plain.varTypes Try.prog) (ds ++ gs)).all (· ≤ reachBytes) = true := hsz0
 have hval : ∀ (j : Nat) t v, Try.f10.params[j]? = some t → args[j]? = some v → Value.okWide Try.prog W .any base t v := hval0
 have hW' := hW
 obtain ⟨p, q, hA0, hV, rfl, hfz, hnd⟩ := hW
 have hA : DataW.TrodAll enc Try.prog W 0 (fun _ => true) true Try.f10.params.toList args.toList ds p := hA0
 rw [Try.params10] at hA hval hsz
 obtain ⟨v0, vs0, d0, ds0, p0, q0, hargs, rfl, rfl, h0, r0⟩ := trodAll_cons hA
 obtain ⟨v1, vs1, d1, ds1, p1, q1, rfl, rfl, rfl, h1, r1⟩ := trodAll_cons r0
 obtain ⟨v2, vs2, d2, ds2, p2, q2, rfl, rfl, rfl, h2, r2⟩ := trodAll_cons r1
 obtain ⟨rfl, rfl, rfl⟩ := trodAll_nil r2
 obtain rfl : args = #[v0, v1, v2] := by cases args; simp_all
 obtain ⟨rfl, rfl⟩ := trodVars_none hV
 obtain ⟨A0, len0, c0, rfl⟩ := okWide_slice Try.underlying46 (hval 0 46 v0 rfl rfl)
 have k0 := h0
 have lt0 : ∀ x ∈ p0, x.block < W.heap.size := by obtain ⟨m, hm⟩ := k0; exact DataW.trod_lt m _ _ _ hm
 have y0 : len0 * 8 ≤ 140737488351232 := Qbd hsz (j := 0) (t := 46) rfl rfl Try.underlying46 (by kernel_rfl) h0
 obtain ⟨l0, e0, hc0, hr0, ok0⟩ : ∃ l : List Int, len0 = l.length ∧ l.length ≤ c0 ∧ Kd.C (Kd.int .i64) W A0 l.length l ∧ (∀ y_ ∈ l, (Lit.int .i64 y_).wf = true) := by
  obtain ⟨fuel, hf⟩ := h0
  obtain ⟨xs, ⟨A, c, hcs, hl, hC⟩, hok⟩ := (Rdb.slice Try.underlying46 (by kernel_rfl) (Rdb.int Try.underlying3)).rd enc W fuel _ _ hf
  simp [Value.cells] at hcs
  obtain ⟨rfl, rfl, rfl⟩ := hcs
  exact ⟨xs, rfl, hl, hC, hok⟩
 subst e0
 obtain ⟨A1, len1, c1, rfl⟩ := okWide_slice Try.underlying46 (hval 1 46 v1 rfl rfl)
 have k1 := h1
 have lt1 : ∀ x ∈ p1, x.block < W.heap.size := by obtain ⟨m, hm⟩ := k1; exact DataW.trod_lt m _ _ _ hm
 have y1 : len1 * 8 ≤ 140737488351232 := Qbd hsz (j := 1) (t := 46) rfl rfl Try.underlying46 (by kernel_rfl) h1
 obtain ⟨l1, e1, hc1, hr1, ok1⟩ : ∃ l : List Int, len1 = l.length ∧ l.length ≤ c1 ∧ Kd.C (Kd.int .i64) W A1 l.length l ∧ (∀ y_ ∈ l, (Lit.int .i64 y_).wf = true) := by
  obtain ⟨fuel, hf⟩ := h1
  obtain ⟨xs, ⟨A, c, hcs, hl, hC⟩, hok⟩ := (Rdb.slice Try.underlying46 (by kernel_rfl) (Rdb.int Try.underlying3)).rd enc W fuel _ _ hf
  simp [Value.cells] at hcs
  obtain ⟨rfl, rfl, rfl⟩ := hcs
  exact ⟨xs, rfl, hl, hC, hok⟩
 subst e1
 obtain ⟨A2, len2, c2, rfl⟩ := okWide_slice Try.underlying47 (hval 2 47 v2 rfl rfl)
 have k2 := h2
 have lt2 : ∀ x ∈ p2, x.block < W.heap.size := by obtain ⟨m, hm⟩ := k2; exact DataW.trod_lt m _ _ _ hm
 have y2 : len2 * 24 ≤ 140737488351232 := Qbd hsz (j := 2) (t := 47) rfl rfl Try.underlying47 (by kernel_rfl) h2
 obtain ⟨l2, e2, hc2, hr2, ok2⟩ : ∃ l : List (S91), len2 = l.length ∧ l.length ≤ c2 ∧ Kd.C k91 W A2 l.length l ∧ (∀ y_ ∈ l, ok91 y_) := by
  obtain ⟨fuel, hf⟩ := h2
  obtain ⟨xs, ⟨A, c, hcs, hl, hC⟩, hok⟩ := (Rdb.slice Try.underlying47 (by kernel_rfl) rdb91).rd enc W fuel _ _ hf
  simp [Value.cells] at hcs
  obtain ⟨rfl, rfl, rfl⟩ := hcs
  exact ⟨xs, rfl, hl, hC, hok⟩
 subst e2
 clear hA0 hval0 hsz0 hsz
 obtain ⟨k, h⟩ := Pure.TierDone l0 l1 l2 hr0.2.1 y0 ok0 hr1.2.1 y1 ok1 hr2.2.1 y2 ok2
 refine (contangolaw24_TierDone.calls k A0 c0 l0 A1 c1 l1 A2 c2 l2 true W hr0 hc0 hr1 hc1 hr2 hc2 h).mono fun e W' ⟨he, bel0⟩ => ?_
 have bel : Below W.heap.size W W' := bel0
 subst he
 exact ⟨_, rfl, _, _, _, [], _, [], hW', trodAll_mk1 (shut_bool Try.underlying4 _), (trodAll_cons_mk (Below.trod laidOut (by kernel_rfl) (of_decide_eq_true (by kernel_rfl)) k0 bel lt0) (trodAll_cons_mk (Below.trod laidOut (by kernel_rfl) (of_decide_eq_true (by kernel_rfl)) k1 bel lt1) (trodAll_cons_mk (Below.trod laidOut (by kernel_rfl) (of_decide_eq_true (by kernel_rfl)) k2 bel lt2) trodAll_mk0))), rfl, bel.frame _, fun h => by cases h⟩
theorem over : Rows.tierDoneRow.holds Try.pinned (OpenSpec.ofChange Rows.tierDoneSpec) :=
 OpenClaim.holds_of_wide 10 Try.f10 rfl rfl rfl rfl rfl rfl rfl ⟨rfl, rfl, rfl, rfl, rfl⟩ rfl rfl rfl rfl rfl (by kernel_rfl) Try.func10 (by kernel_rfl)
  (of_decide_eq_true (by kernel_rfl)) (by unfold Func.isWrapper; first | (rw [if_pos (by decide +kernel)]; kernel_rfl) | (rw [if_neg (by decide +kernel)]; exact ⟨rfl, rfl⟩))
  (fun os started H enc _ => lifted os started H enc)
theorem proved : Rows.TierDoneSaid := over
end Go.Proofs.Ytggbflplbblgbaa.tierDone
namespace Go.Proofs.Ytggbflplbblgbaa
theorem tierDone_holds : Rows.TierDoneSaid := tierDone.proved
end Go.Proofs.Ytggbflplbblgbaa
