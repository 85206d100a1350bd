/- The row of the law TopLots out of its pure statement and the walk: for every input the call returns true, and each argument reads behind it as it read before. -/
import Derived.Test.YtgnmhfjfefgbfaaRows
import Derived.Test.YtgnmhfjfefgbfaaQ10EP8
import Derived.Test.YtgnmhfjfefgbfaaQ10EPureTopLots
import Derived.Test.YtgnmhfjfefgbfaaQ10EPrxRd
import Derived.Test.YtgnmhfjfefgbfaaQ10EPrxDTopLots
import Derived.WalkKit
import Derived.ProofKit
import Derived.OpenShut
import Derived.ShutString
import Derived.ChangeOld
import Derived.Below
import Derived.SizedLaws
namespace Go.Proofs.Ytgnmhfjfefgbfaa.topLots
open Go.ChangeShapes Go.WideShapes Go.ChangeAt Go.RowKit Go.Proofs.Ytgnmhfjfefgbfaa.Pr Go.Proofs.YtgnmhfjfefgbfaaW.PrintWords Go.Proofs.YtgnmhfjfefgbfaaW.PrintLast
open Go.ChangeMaps (open_string shut_string)
set_option linter.unusedVariables false
theorem own : ownKnob Try.prog.godebug = none := by kernel_rfl
theorem laidOut : laidOutB Try.prog = true := by kernel_rfl
set_option maxRecDepth 100000 in
theorem lifted (os : Os) (started : os.Started) (H : Type) (enc : TypeId × Value → H) :
  ReturnsInHanded {} Try.checked os 5 .any (Rows.topLotsSpec.pre6 enc Try.prog Try.f5 Rows.topLotsRow.domain false) (Rows.topLotsSpec.post enc Try.prog Try.f5 false true false false) := by
 refine returnsInHanded_of_change_sized (C := Try.checked) own started (by kernel_rfl) Try.func5
  (ChangeSpec.witness6 (enc := enc) (C := Try.checked) false ⟨#[], #[.slice none 0 0, .slice none 0 0, .int .i64 0], []⟩ 8 (by kernel_rfl) (by kernel_rfl) (by kernel_rfl) (by kernel_rfl)) ?_
 intro W base args ds gs before hval0 hW hcnd hsz0 _
 have hsz : (DataW.weightsEach Try.prog (Try.f5.params.toList ++ Rows.topLotsSpec.plain.varTypes Try.prog) (ds ++ gs)).all (· ≤ reachBytes) = true := hsz0
 have hval : ∀ (j : Nat) t v, Try.f5.params[j]? = some t → args[j]? = some v → Value.okWide Try.prog W .any base t v := hval0
 have hW' := hW
 obtain ⟨p, q, hA0, hV, rfl, hfz, hnd⟩ := hW
 have hA : DataW.TrodAll enc Try.prog W 0 (fun _ => true) true Try.f5.params.toList args.toList ds p := hA0
 rw [Try.params5] at hA hval hsz
 obtain ⟨v0, vs0, d0, ds0, p0, q0, hargs, rfl, rfl, h0, r0⟩ := trodAll_cons hA
 obtain ⟨v1, vs1, d1, ds1, p1, q1, rfl, rfl, rfl, h1, r1⟩ := trodAll_cons r0
 obtain ⟨v2, vs2, d2, ds2, p2, q2, rfl, rfl, rfl, h2, r2⟩ := trodAll_cons r1
 obtain ⟨rfl, rfl, rfl⟩ := trodAll_nil r2
 obtain rfl : args = #[v0, v1, v2] := by cases args; simp_all
 obtain ⟨rfl, rfl⟩ := trodVars_none hV
 obtain ⟨A0, len0, c0, rfl⟩ := okWide_slice Try.underlying22 (hval 0 22 v0 rfl rfl)
 have k0 := h0
 have lt0 : ∀ x ∈ p0, x.block < W.heap.size := by obtain ⟨m, hm⟩ := k0; exact DataW.trod_lt m _ _ _ hm
 have y0 : len0 * 56 ≤ 140737488351232 := Qc9 hsz (j := 0) (t := 22) rfl rfl Try.underlying22 (by kernel_rfl) h0
 obtain ⟨l0, e0, hc0, hr0, ok0⟩ : ∃ l : List (S71), len0 = l.length ∧ l.length ≤ c0 ∧ Kd.C k71 W A0 l.length l ∧ (∀ y_ ∈ l, ok71 y_) := by
  obtain ⟨fuel, hf⟩ := h0
  obtain ⟨xs, ⟨A, c, hcs, hl, hC⟩, hok⟩ := (Rdb.slice Try.underlying22 (by kernel_rfl) rdb71).rd enc W fuel _ _ hf
  simp [Value.cells] at hcs
  obtain ⟨rfl, rfl, rfl⟩ := hcs
  exact ⟨xs, rfl, hl, hC, hok⟩
 subst e0
 obtain ⟨A1, len1, c1, rfl⟩ := okWide_slice Try.underlying38 (hval 1 38 v1 rfl rfl)
 have k1 := h1
 have lt1 : ∀ x ∈ p1, x.block < W.heap.size := by obtain ⟨m, hm⟩ := k1; exact DataW.trod_lt m _ _ _ hm
 have y1 : len1 * 72 ≤ 140737488351232 := Qc9 hsz (j := 1) (t := 38) rfl rfl Try.underlying38 (by kernel_rfl) h1
 obtain ⟨l1, e1, hc1, hr1, ok1⟩ : ∃ l : List (S128), len1 = l.length ∧ l.length ≤ c1 ∧ Kd.C k128 W A1 l.length l ∧ (∀ y_ ∈ l, ok128 y_) := by
  obtain ⟨fuel, hf⟩ := h1
  obtain ⟨xs, ⟨A, c, hcs, hl, hC⟩, hok⟩ := (Rdb.slice Try.underlying38 (by kernel_rfl) rdb128).rd enc W fuel _ _ hf
  simp [Value.cells] at hcs
  obtain ⟨rfl, rfl, rfl⟩ := hcs
  exact ⟨xs, rfl, hl, hC, hok⟩
 subst e1
 obtain ⟨a2, rfl, rfl, rfl, w2⟩ := open_int Try.underlying3 (hval 2 3 v2 rfl rfl) h2
 have ye1 : ∀ y_ ∈ l1, y_.f1.length * 8 ≤ 140737488351232 := by
  intro y hy
  obtain ⟨m, hm, rfl⟩ := List.mem_iff_getElem.1 hy
  obtain ⟨ad, A4, c4, rfl, hz⟩ := Qbm hr1 (m : Int) (by omega) (by omega)
  have h4 := hz.2.2.2.2.1
  have e4 : Qaa l1 (m : Int) = l1[m] := by unfold Qaa; rw [Int.toNat_natCast, List.getD_eq_getElem?_getD, List.getElem?_eq_getElem hm]; rfl
  rw [e4, Int.toNat_natCast] at h4
  have c6 : Try.prog.cellsOf 128 = 6 := by kernel_rfl
  refine Qek hsz (j := 1) (t := 38) rfl rfl Try.underlying38 Try.underlying128 (i := 1) rfl Try.underlying32 (by kernel_rfl) (by rw [c6]; decide) (by kernel_rfl) k1 hm (by rw [c6]; exact h4)
 clear hA0 hval0 hsz0 hsz
 obtain ⟨k, h⟩ := Pure.TopLots l0 l1 a2 hr0.2.1 y0 ok0 hr1.2.1 y1 ok1 ye1 w2
 refine (contangotop_TopLots.calls k A0 c0 l0 A1 c1 l1 a2 true W hr0 hc0 hr1 hc1 h).mono fun e W' ⟨he, bel0⟩ => ?_
 have bel : Below W.heap.size W W' := bel0
 subst he
 exact ⟨_, rfl, _, _, _, [], _, [], hW', trodAll_mk1 (shut_bool Try.underlying4 _), (trodAll_cons_mk (Below.trod laidOut (by kernel_rfl) (of_decide_eq_true (by kernel_rfl)) k0 bel lt0) (trodAll_cons_mk (Below.trod laidOut (by kernel_rfl) (of_decide_eq_true (by kernel_rfl)) k1 bel lt1) (trodAll_cons_mk (shut_int Try.underlying3 w2) trodAll_mk0))), rfl, bel.frame _, fun h => by cases h⟩
theorem over : Rows.topLotsRow.holds Try.pinned (OpenSpec.ofChange Rows.topLotsSpec) :=
 OpenClaim.holds_of_wide 5 Try.f5 rfl rfl rfl rfl rfl rfl rfl ⟨rfl, rfl, rfl, rfl, rfl⟩ rfl rfl rfl rfl rfl (by kernel_rfl) Try.func5 (by kernel_rfl)
  (of_decide_eq_true (by kernel_rfl)) (by unfold Func.isWrapper; first | (rw [if_pos (by decide +kernel)]; kernel_rfl) | (rw [if_neg (by decide +kernel)]; exact ⟨rfl, rfl⟩))
  (fun os started H enc _ => lifted os started H enc)
theorem proved : Rows.TopLotsSaid := over
end Go.Proofs.Ytgnmhfjfefgbfaa.topLots
namespace Go.Proofs.Ytgnmhfjfefgbfaa
theorem topLots_holds : Rows.TopLotsSaid := topLots.proved
end Go.Proofs.Ytgnmhfjfefgbfaa
