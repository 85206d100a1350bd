/- The row of the law InterMore out of its pure statement and the walk: for every input the call returns true, and each argument reads behind it as it read before. Narrowed: of bulk at most the number in the Rows text. -/
import Derived.Test.YtggbflplbblgbaaRows
import Derived.Test.YtggbflplbblgbaaQ9D3P3
import Derived.Test.YtggbflplbblgbaaQ9D3PureInterMoreUpto
import Derived.Test.YtggbflplbblgbaaQ9D3PrxRd
import Derived.Test.YtggbflplbblgbaaQ9D3PrxDInterMore
import Derived.WalkKit
import Derived.ProofKit
import Derived.OpenShut
import Derived.ShutString
import Derived.ChangeOld
import Derived.Below
import Derived.SizedLaws
import Derived.Deep.CondSized
import Derived.JoinedCond
import Derived.Test.YtggbflplbblgbaaQ9D3LmUpto
namespace Go.Proofs.Ytggbflplbblgbaa.interMoreUpto
open Go.ChangeShapes Go.WideShapes Go.ChangeAt Go.RowKit Go.Proofs.Ytggbflplbblgbaa.Pr Go.Proofs.YtggbflplbblgbaaW.PrintWords Go.Proofs.YtggbflplbblgbaaW.PrintLast
open Go.ChangeMaps (open_string shut_string)
set_option linter.unusedVariables false
theorem own : ownKnob Try.prog.godebug = none := by kernel_rfl
theorem laidOut : laidOutB Try.prog = true := by kernel_rfl
set_option maxRecDepth 100000 in
theorem lifted (os : Os) (started : os.Started) (H : Type) (enc : TypeId × Value → H) (F : Stop.Interp) :
  ReturnsInHanded {} Try.checked os 13 .any ((Rows.OpenSpec.upto Rows.interMoreSpec).pre6 enc Try.prog Try.f13 Rows.interMoreUptoRow.domain false) (((Rows.OpenSpec.upto Rows.interMoreSpec).at F).post enc Try.prog Try.f13 false true false false) := by
 refine returnsInHanded_of_cond_sized (C := Try.checked) (s := Rows.OpenSpec.upto Rows.interMoreSpec) (k := Rows.uptoSmall) rfl own started (by kernel_rfl) Try.func13
  (OpenSpec.witness (enc := enc) (C := Try.checked) (s := Rows.OpenSpec.upto Rows.interMoreSpec) (k := Rows.uptoSmall) rfl false ⟨#[], #[.agg #[.slice none 0 0, .slice none 0 0, .slice none 0 0], .slice none 0 0, .slice none 0 0], []⟩ 8 (by kernel_rfl) (by kernel_rfl) (by kernel_rfl) (x := ([.agg [.nil, .nil, .nil], .nil, .nil], [], [])) (by kernel_rfl) rfl (by kernel_rfl)) ?_
 intro W base args ds gs before hval0 hW hcnd hk0 hsz0 _
 have hsz : (DataW.weightsEach Try.prog (Try.f13.params.toList ++ Rows.interMoreSpec.plain.varTypes Try.prog) (ds ++ gs)).all (· ≤ reachBytes) = true := hsz0
 have hval : ∀ (j : Nat) t v, Try.f13.params[j]? = some t → args[j]? = some v → Value.okWide Try.prog W .any base t v := hval0
 have hW' := hW
 obtain ⟨p, q, hA0, hV, rfl, hfz, hnd⟩ := hW
 have hA : DataW.TrodAll enc Try.prog W 0 (fun _ => true) true Try.f13.params.toList args.toList ds p := hA0
 rw [Try.params13] at hA hval hsz
 obtain ⟨v0, vs0, d0, ds0, p0, q0, hargs, rfl, rfl, h0, r0⟩ := trodAll_cons hA
 obtain ⟨v1, vs1, d1, ds1, p1, q1, rfl, rfl, rfl, h1, r1⟩ := trodAll_cons r0
 obtain ⟨v2, vs2, d2, ds2, p2, q2, rfl, rfl, rfl, h2, r2⟩ := trodAll_cons r1
 obtain ⟨rfl, rfl, rfl⟩ := trodAll_nil r2
 obtain rfl : args = #[v0, v1, v2] := by cases args; simp_all
 obtain ⟨rfl, rfl⟩ := trodVars_none hV
 obtain ⟨cs0, rfl, sz0⟩ := okWide_struct Try.underlying67 (hval 0 67 v0 rfl rfl)
 have k0 := h0
 have lt0 : ∀ x ∈ p0, x.block < W.heap.size := by obtain ⟨m, hm⟩ := k0; exact DataW.trod_lt m _ _ _ hm
 obtain ⟨x0, kx0, okx0⟩ : ∃ x : S67, k67.K W x cs0.toList ∧ ok67 x := by obtain ⟨fuel, hf⟩ := h0; exact rdb67.rd enc W fuel _ _ hf
 obtain ⟨A0_0, c0_0, A0_1, c0_1, A0_2, c0_2, hcs0, hc0_0, hr0_0, hc0_1, hr0_1, hc0_2, hr0_2⟩ := QdR kx0
 obtain rfl : cs0 = #[.slice A0_0 x0.f0.length c0_0, .slice A0_1 x0.f1.length c0_1, .slice A0_2 x0.f2.length c0_2] := by cases cs0; simp_all
 have y0_0 : x0.f0.length * 16 ≤ 140737488351232 := QbG hsz (j := 0) (t := 67) (i := 0) rfl rfl Try.underlying67 rfl Try.underlying65 (by kernel_rfl) k0 rfl
 have y0_1 : x0.f1.length * 8 ≤ 140737488351232 := QbG hsz (j := 0) (t := 67) (i := 1) rfl rfl Try.underlying67 rfl Try.underlying46 (by kernel_rfl) k0 rfl
 have y0_2 : x0.f2.length * 8 ≤ 140737488351232 := QbG hsz (j := 0) (t := 67) (i := 2) rfl rfl Try.underlying67 rfl Try.underlying46 (by kernel_rfl) k0 rfl
 obtain ⟨A1, len1, c1, rfl⟩ := okWide_slice Try.underlying68 (hval 1 68 v1 rfl rfl)
 have k1 := h1
 have lt1 : ∀ x ∈ p1, x.block < W.heap.size := by obtain ⟨m, hm⟩ := k1; exact DataW.trod_lt m _ _ _ hm
 have y1 : len1 * 56 ≤ 140737488351232 := QcC hsz (j := 1) (t := 68) rfl rfl Try.underlying68 (by kernel_rfl) h1
 obtain ⟨l1, e1, hc1, hr1, ok1⟩ : ∃ l : List (S75), len1 = l.length ∧ l.length ≤ c1 ∧ Kd.C k75 W A1 l.length l ∧ (∀ y_ ∈ l, ok75 y_) := by
  obtain ⟨fuel, hf⟩ := h1
  obtain ⟨xs, ⟨A, c, hcs, hl, hC⟩, hok⟩ := (Rdb.slice Try.underlying68 (by kernel_rfl) rdb75).rd enc W fuel _ _ hf
  simp [Value.cells] at hcs
  obtain ⟨rfl, rfl, rfl⟩ := hcs
  exact ⟨xs, rfl, hl, hC, hok⟩
 subst e1
 obtain ⟨A2, len2, c2, rfl⟩ := okWide_slice Try.underlying68 (hval 2 68 v2 rfl rfl)
 have k2 := h2
 have lt2 : ∀ x ∈ p2, x.block < W.heap.size := by obtain ⟨m, hm⟩ := k2; exact DataW.trod_lt m _ _ _ hm
 have y2 : len2 * 56 ≤ 140737488351232 := QcC hsz (j := 2) (t := 68) rfl rfl Try.underlying68 (by kernel_rfl) h2
 obtain ⟨l2, e2, hc2, hr2, ok2⟩ : ∃ l : List (S75), len2 = l.length ∧ l.length ≤ c2 ∧ Kd.C k75 W A2 l.length l ∧ (∀ y_ ∈ l, ok75 y_) := by
  obtain ⟨fuel, hf⟩ := h2
  obtain ⟨xs, ⟨A, c, hcs, hl, hC⟩, hok⟩ := (Rdb.slice Try.underlying68 (by kernel_rfl) rdb75).rd enc W fuel _ _ hf
  simp [Value.cells] at hcs
  obtain ⟨rfl, rfl, rfl⟩ := hcs
  exact ⟨xs, rfl, hl, hC, hok⟩
 subst e2
 clear hA0 hval0 hsz0 hsz
 obtain ⟨k, h⟩ := Pure.InterMoreUpto x0.f0 x0.f1 x0.f2 l1 l2 hr0_0.2.1 y0_0 okx0.1 hr0_1.2.1 y0_1 okx0.2.1 hr0_2.2.1 y0_2 okx0.2.2 hr1.2.1 (QcI hk0 (j := 1) rfl Try.underlying68 k1) y1 ok1 hr2.2.1 (QcI hk0 (j := 2) rfl Try.underlying68 k2) y2 ok2
 refine (contangolaw25_InterMore.calls k A0_0 c0_0 x0.f0 A0_1 c0_1 x0.f1 A0_2 c0_2 x0.f2 A1 c1 l1 A2 c2 l2 true W hr0_0 hc0_0 hr0_1 hc0_1 hr0_2 hc0_2 hr1 hc1 hr2 hc2 h).mono fun e W' ⟨he, bel0⟩ => ?_
 have bel : Below W.heap.size W W' := bel0
 subst he
 exact ⟨_, rfl, _, _, _, [], _, [], hW', trodAll_mk1 (shut_bool Try.underlying4 _), (trodAll_cons_mk (Below.trod laidOut (by kernel_rfl) (of_decide_eq_true (by kernel_rfl)) k0 bel lt0) (trodAll_cons_mk (Below.trod laidOut (by kernel_rfl) (of_decide_eq_true (by kernel_rfl)) k1 bel lt1) (trodAll_cons_mk (Below.trod laidOut (by kernel_rfl) (of_decide_eq_true (by kernel_rfl)) k2 bel lt2) trodAll_mk0))), rfl, bel.frame _, fun h => by cases h⟩
theorem over : Rows.interMoreUptoRow.holds Try.pinned (Rows.OpenSpec.upto Rows.interMoreSpec) :=
 OpenClaim.holds_of_cond 13 Try.f13 rfl rfl rfl rfl rfl rfl rfl ⟨rfl, rfl, rfl, rfl, rfl⟩ rfl rfl rfl rfl rfl (by kernel_rfl) Try.func13 (by kernel_rfl)
  (of_decide_eq_true (by kernel_rfl)) (by unfold Func.isWrapper; first | (rw [if_pos (by decide +kernel)]; kernel_rfl) | (rw [if_neg (by decide +kernel)]; exact ⟨rfl, rfl⟩))
  (fun os started H enc _ F => lifted os started H enc F)
theorem proved : Rows.InterMoreUptoSaid := over
end Go.Proofs.Ytggbflplbblgbaa.interMoreUpto
namespace Go.Proofs.Ytggbflplbblgbaa
theorem interMoreUpto_holds : Rows.InterMoreUptoSaid := interMoreUpto.proved
end Go.Proofs.Ytggbflplbblgbaa
