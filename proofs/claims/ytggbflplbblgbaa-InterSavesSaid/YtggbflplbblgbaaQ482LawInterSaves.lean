/- The row of the law InterSaves out of its pure statement and the walk: for every input the call returns true, and each argument reads behind it as it read before. -/
import Derived.Test.YtggbflplbblgbaaRows
import Derived.Test.YtggbflplbblgbaaQ482P4
import Derived.Test.YtggbflplbblgbaaQ482PureInterSaves
import Derived.Test.YtggbflplbblgbaaQ482PrxRd
import Derived.Test.YtggbflplbblgbaaQ482PrxDInterSaves
import Derived.WalkKit
import Derived.ProofKit
import Derived.OpenShut
import Derived.ShutString
import Derived.ChangeOld
import Derived.Below
import Derived.SizedLaws
namespace Go.Proofs.Ytggbflplbblgbaa.interSaves
open Go.ChangeShapes Go.WideShapes Go.ChangeAt Go.RowKit Go.Proofs.Ytggbflplbblgbaa.Pr Go.Proofs.YtggbflplbblgbaaW.PrintWords Go.Proofs.YtggbflplbblgbaaW.PrintLast
open Go.ChangeMaps (open_string shut_string)
set_option linter.unusedVariables false
theorem own : ownKnob Try.prog.godebug = none := by kernel_rfl
theorem laidOut : laidOutB Try.prog = true := by kernel_rfl
set_option maxRecDepth 100000 in
theorem lifted (os : Os) (started : os.Started) (H : Type) (enc : TypeId × Value → H) :
  ReturnsInHanded {} Try.checked os 11 .any (Rows.interSavesSpec.pre6 enc Try.prog Try.f11 Rows.interSavesRow.domain false) (Rows.interSavesSpec.post enc Try.prog Try.f11 false true false false) := by
 refine returnsInHanded_of_change_sized (C := Try.checked) own started (by kernel_rfl) Try.func11
  (ChangeSpec.witness6 (enc := enc) (C := Try.checked) false ⟨#[], #[.agg #[.slice none 0 0, .slice none 0 0, .slice none 0 0], .slice none 0 0], []⟩ 8 (by kernel_rfl) (by kernel_rfl) (by kernel_rfl) (by kernel_rfl)) ?_
 intro W base args ds gs before hval0 hW hcnd hsz0 _
 have hsz : (DataW.weightsEach Try.prog (Try.f11.params.toList ++ Rows.interSavesSpec.plain.varTypes Try.prog) (ds ++ gs)).all (· ≤ reachBytes) = true := hsz0
 have hval : ∀ (j : Nat) t v, Try.f11.params[j]? = some t → args[j]? = some v → Value.okWide Try.prog W .any base t v := hval0
 have hW' := hW
 obtain ⟨p, q, hA0, hV, rfl, hfz, hnd⟩ := hW
 have hA : DataW.TrodAll enc Try.prog W 0 (fun _ => true) true Try.f11.params.toList args.toList ds p := hA0
 rw [Try.params11] at hA hval hsz
 obtain ⟨v0, vs0, d0, ds0, p0, q0, hargs, rfl, rfl, h0, r0⟩ := trodAll_cons hA
 obtain ⟨v1, vs1, d1, ds1, p1, q1, rfl, rfl, rfl, h1, r1⟩ := trodAll_cons r0
 obtain ⟨rfl, rfl, rfl⟩ := trodAll_nil r1
 obtain rfl : args = #[v0, v1] := by cases args; simp_all
 obtain ⟨rfl, rfl⟩ := trodVars_none hV
 obtain ⟨cs0, rfl, sz0⟩ := okWide_struct Try.underlying67 (hval 0 67 v0 rfl rfl)
 have k0 := h0
 have lt0 : ∀ x ∈ p0, x.block < W.heap.size := by obtain ⟨m, hm⟩ := k0; exact DataW.trod_lt m _ _ _ hm
 obtain ⟨x0, kx0, okx0⟩ : ∃ x : S67, k67.K W x cs0.toList ∧ ok67 x := by obtain ⟨fuel, hf⟩ := h0; exact rdb67.rd enc W fuel _ _ hf
 obtain ⟨A0_0, c0_0, A0_1, c0_1, A0_2, c0_2, hcs0, hc0_0, hr0_0, hc0_1, hr0_1, hc0_2, hr0_2⟩ := Qd0 kx0
 obtain rfl : cs0 = #[.slice A0_0 x0.f0.length c0_0, .slice A0_1 x0.f1.length c0_1, .slice A0_2 x0.f2.length c0_2] := by cases cs0; simp_all
 have y0_0 : x0.f0.length * 16 ≤ 140737488351232 := QbR hsz (j := 0) (t := 67) (i := 0) rfl rfl Try.underlying67 rfl Try.underlying65 (by kernel_rfl) k0 rfl
 have y0_1 : x0.f1.length * 8 ≤ 140737488351232 := QbR hsz (j := 0) (t := 67) (i := 1) rfl rfl Try.underlying67 rfl Try.underlying46 (by kernel_rfl) k0 rfl
 have y0_2 : x0.f2.length * 8 ≤ 140737488351232 := QbR hsz (j := 0) (t := 67) (i := 2) rfl rfl Try.underlying67 rfl Try.underlying46 (by kernel_rfl) k0 rfl
 obtain ⟨A1, len1, c1, rfl⟩ := okWide_slice Try.underlying68 (hval 1 68 v1 rfl rfl)
 have k1 := h1
 have lt1 : ∀ x ∈ p1, x.block < W.heap.size := by obtain ⟨m, hm⟩ := k1; exact DataW.trod_lt m _ _ _ hm
 have y1 : len1 * 56 ≤ 140737488351232 := QdV hsz (j := 1) (t := 68) rfl rfl Try.underlying68 (by kernel_rfl) h1
 obtain ⟨l1, e1, hc1, hr1, ok1⟩ : ∃ l : List (S75), len1 = l.length ∧ l.length ≤ c1 ∧ Kd.C k75 W A1 l.length l ∧ (∀ y_ ∈ l, ok75 y_) := by
  obtain ⟨fuel, hf⟩ := h1
  obtain ⟨xs, ⟨A, c, hcs, hl, hC⟩, hok⟩ := (Rdb.slice Try.underlying68 (by kernel_rfl) rdb75).rd enc W fuel _ _ hf
  simp [Value.cells] at hcs
  obtain ⟨rfl, rfl, rfl⟩ := hcs
  exact ⟨xs, rfl, hl, hC, hok⟩
 subst e1
 clear hA0 hval0 hsz0 hsz
 obtain ⟨k, h⟩ := Pure.InterSaves x0.f0 x0.f1 x0.f2 l1 hr0_0.2.1 y0_0 okx0.1 hr0_1.2.1 y0_1 okx0.2.1 hr0_2.2.1 y0_2 okx0.2.2 hr1.2.1 y1 ok1
 refine (contangolaw25_InterSaves.calls k A0_0 c0_0 x0.f0 A0_1 c0_1 x0.f1 A0_2 c0_2 x0.f2 A1 c1 l1 true W hr0_0 hc0_0 hr0_1 hc0_1 hr0_2 hc0_2 hr1 hc1 h).mono fun e W' ⟨he, bel0⟩ => ?_
 have bel : Below W.heap.size W W' := bel0
 subst he
 exact ⟨_, rfl, _, _, _, [], _, [], hW', trodAll_mk1 (shut_bool Try.underlying4 _), (trodAll_cons_mk (Below.trod laidOut (by kernel_rfl) (of_decide_eq_true (by kernel_rfl)) k0 bel lt0) (trodAll_cons_mk (Below.trod laidOut (by kernel_rfl) (of_decide_eq_true (by kernel_rfl)) k1 bel lt1) trodAll_mk0)), rfl, bel.frame _, fun h => by cases h⟩
theorem over : Rows.interSavesRow.holds Try.pinned (OpenSpec.ofChange Rows.interSavesSpec) :=
 OpenClaim.holds_of_wide 11 Try.f11 rfl rfl rfl rfl rfl rfl rfl ⟨rfl, rfl, rfl, rfl, rfl⟩ rfl rfl rfl rfl rfl (by kernel_rfl) Try.func11 (by kernel_rfl)
  (of_decide_eq_true (by kernel_rfl)) (by unfold Func.isWrapper; first | (rw [if_pos (by decide +kernel)]; kernel_rfl) | (rw [if_neg (by decide +kernel)]; exact ⟨rfl, rfl⟩))
  (fun os started H enc _ => lifted os started H enc)
theorem proved : Rows.InterSavesSaid := over
end Go.Proofs.Ytggbflplbblgbaa.interSaves
namespace Go.Proofs.Ytggbflplbblgbaa
theorem interSaves_holds : Rows.InterSavesSaid := interSaves.proved
end Go.Proofs.Ytggbflplbblgbaa
