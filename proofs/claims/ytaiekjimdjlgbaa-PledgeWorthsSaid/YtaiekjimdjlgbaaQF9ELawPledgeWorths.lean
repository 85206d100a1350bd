/- The row of the law PledgeWorths out of its pure statement and the walk: for every input the call returns true, and each argument reads behind it as it read before. -/
import Derived.Test.YtaiekjimdjlgbaaRows
import Derived.Test.YtaiekjimdjlgbaaQF9EP6
import Derived.Test.YtaiekjimdjlgbaaQF9EPurePledgeWorths
import Derived.Test.YtaiekjimdjlgbaaQF9EPrxRd
import Derived.Test.YtaiekjimdjlgbaaQF9EPrxDPledgeWorths
import Derived.WalkKit
import Derived.ProofKit
import Derived.OpenShut
import Derived.ShutString
import Derived.ChangeOld
import Derived.Below
import Derived.SizedLaws
namespace Go.Proofs.Ytaiekjimdjlgbaa.pledgeWorths
open Go.ChangeShapes Go.WideShapes Go.ChangeAt Go.RowKit Go.Proofs.Ytaiekjimdjlgbaa.Pr Go.Proofs.YtaiekjimdjlgbaaW.PrintWords Go.Proofs.YtaiekjimdjlgbaaW.PrintLast
open Go.ChangeMaps (open_string shut_string)
set_option linter.unusedVariables false
theorem own : ownKnob Try.prog.godebug = none := by kernel_rfl
theorem laidOut : laidOutB Try.prog = true := by kernel_rfl
set_option maxRecDepth 100000 in
theorem lifted (os : Os) (started : os.Started) (H : Type) (enc : TypeId × Value → H) :
    ReturnsInHanded {} Try.checked os 12 .any (Rows.pledgeWorthsSpec.pre6 enc Try.prog Try.f12 Rows.pledgeWorthsRow.domain false) (Rows.pledgeWorthsSpec.post enc Try.prog Try.f12 false true false false) := by
  refine returnsInHanded_of_change_sized (C := Try.checked) own started (by kernel_rfl) Try.func12
    (ChangeSpec.witness6 (enc := enc) (C := Try.checked) false ⟨#[], #[.slice none 0 0, .agg #[.string ByteArray.empty, .string ByteArray.empty], .agg #[.slice none 0 0, .slice none 0 0]], []⟩ 8 (by kernel_rfl) (by kernel_rfl) (by kernel_rfl) (by kernel_rfl)) ?_
  intro W base args ds gs before hval0 hW hcnd hsz0 _
  have hsz : (DataW.weightsEach Try.prog (Try.f12.params.toList ++ Rows.pledgeWorthsSpec.plain.varTypes Try.prog) (ds ++ gs)).all (· ≤ reachBytes) = true := hsz0
  have hval : ∀ (j : Nat) t v, Try.f12.params[j]? = some t → args[j]? = some v → Value.okWide Try.prog W .any base t v := hval0
  have hW' := hW
  obtain ⟨p, q, hA0, hV, rfl, hfz, hnd⟩ := hW
  have hA : DataW.TrodAll enc Try.prog W 0 (fun _ => true) true Try.f12.params.toList args.toList ds p := hA0
  rw [Try.params12] at hA hval hsz
  obtain ⟨v0, vs0, d0, ds0, p0, q0, hargs, rfl, rfl, h0, r0⟩ := trodAll_cons hA
  obtain ⟨v1, vs1, d1, ds1, p1, q1, rfl, rfl, rfl, h1, r1⟩ := trodAll_cons r0
  obtain ⟨v2, vs2, d2, ds2, p2, q2, rfl, rfl, rfl, h2, r2⟩ := trodAll_cons r1
  obtain ⟨rfl, rfl, rfl⟩ := trodAll_nil r2
  obtain rfl : args = #[v0, v1, v2] := by cases args; simp_all
  obtain ⟨rfl, rfl⟩ := trodVars_none hV
  obtain ⟨A0, len0, c0, rfl⟩ := okWide_slice Try.underlying65 (hval 0 65 v0 rfl rfl)
  have k0 := h0
  have lt0 : ∀ x ∈ p0, x.block < W.heap.size := by obtain ⟨m, hm⟩ := k0; exact DataW.trod_lt m _ _ _ hm
  have y0 : len0 * 56 ≤ 140737488351232 := sized_any hsz (j := 0) (t := 65) rfl rfl Try.underlying65 (by kernel_rfl) h0
  obtain ⟨l0, e0, hc0, hr0, ok0⟩ : ∃ l : List (S85), len0 = l.length ∧ l.length ≤ c0 ∧ Kd.C k85 W A0 l.length l ∧ (∀ y_ ∈ l, ok85 y_) := by
    obtain ⟨fuel, hf⟩ := h0
    obtain ⟨xs, ⟨A, c, hcs, hl, hC⟩, hok⟩ := (Rdb.slice Try.underlying65 (by kernel_rfl) rdb85).rd enc W fuel _ _ hf
    simp [Value.cells] at hcs
    obtain ⟨rfl, rfl, rfl⟩ := hcs
    exact ⟨xs, rfl, hl, hC, hok⟩
  subst e0
  obtain ⟨cs1, rfl, sz1⟩ := okWide_struct Try.underlying67 (hval 1 67 v1 rfl rfl)
  have k1 := h1
  have lt1 : ∀ x ∈ p1, x.block < W.heap.size := by obtain ⟨m, hm⟩ := k1; exact DataW.trod_lt m _ _ _ hm
  obtain ⟨x1, kx1, okx1⟩ : ∃ x : S67, k67.K W x cs1.toList ∧ ok67 x := by obtain ⟨fuel, hf⟩ := h1; exact rdb67.rd enc W fuel _ _ hf
  have hcs1 := k67_open kx1
  obtain rfl : cs1 = #[.string x1.f0, .string x1.f1] := by cases cs1; simp_all
  obtain ⟨cs2, rfl, sz2⟩ := okWide_struct Try.underlying69 (hval 2 69 v2 rfl rfl)
  have k2 := h2
  have lt2 : ∀ x ∈ p2, x.block < W.heap.size := by obtain ⟨m, hm⟩ := k2; exact DataW.trod_lt m _ _ _ hm
  obtain ⟨x2, kx2, okx2⟩ : ∃ x : S69, k69.K W x cs2.toList ∧ ok69 x := by obtain ⟨fuel, hf⟩ := h2; exact rdb69.rd enc W fuel _ _ hf
  obtain ⟨A2_0, c2_0, A2_1, c2_1, hcs2, hc2_0, hr2_0, hc2_1, hr2_1⟩ := k69_open kx2
  obtain rfl : cs2 = #[.slice A2_0 x2.f0.length c2_0, .slice A2_1 x2.f1.length c2_1] := by cases cs2; simp_all
  clear hA0 hval0 hsz0 hsz
  obtain ⟨k, h⟩ := Pure.PledgeWorths l0 x1.f0 x1.f1 x2.f0 x2.f1 hr0.2.1 y0 ok0 okx1.1 okx1.2 hr2_0.2.1 okx2.1 hr2_1.2.1 okx2.2
  refine (contangolaw32_PledgeWorths.calls k A0 c0 l0 x1.f0 x1.f1 A2_0 c2_0 x2.f0 A2_1 c2_1 x2.f1 true W hr0 hc0  hr2_0 hc2_0 hr2_1 hc2_1 h).mono fun e W' ⟨he, bel0⟩ => ?_
  have bel : Below W.heap.size W W' := bel0
  subst he
  exact ⟨_, rfl, _, _, _, [], _, [], hW', trodAll_mk1 (shut_bool Try.underlying4 _), (trodAll_cons_mk (Below.trod laidOut (by kernel_rfl) (of_decide_eq_true (by kernel_rfl)) k0 bel lt0) (trodAll_cons_mk (Below.trod laidOut (by kernel_rfl) (of_decide_eq_true (by kernel_rfl)) k1 bel lt1) (trodAll_cons_mk (Below.trod laidOut (by kernel_rfl) (of_decide_eq_true (by kernel_rfl)) k2 bel lt2) trodAll_mk0))), rfl, bel.frame _, fun h => by cases h⟩
theorem over : Rows.pledgeWorthsRow.holds Try.pinned (OpenSpec.ofChange Rows.pledgeWorthsSpec) :=
  OpenClaim.holds_of_wide 12 Try.f12 rfl rfl rfl rfl rfl rfl rfl ⟨rfl, rfl, rfl, rfl, rfl⟩ rfl rfl rfl rfl rfl (by kernel_rfl) Try.func12 (by kernel_rfl)
    (of_decide_eq_true (by kernel_rfl)) (by unfold Func.isWrapper; first | (rw [if_pos (by decide +kernel)]; kernel_rfl) | (rw [if_neg (by decide +kernel)]; exact ⟨rfl, rfl⟩))
    (fun os started H enc _ => lifted os started H enc)
theorem proved : Rows.PledgeWorthsSaid := over
end Go.Proofs.Ytaiekjimdjlgbaa.pledgeWorths
namespace Go.Proofs.Ytaiekjimdjlgbaa
/-- The row, under a short name, for the claim. -/
theorem pledgeWorths_holds : Rows.PledgeWorthsSaid := pledgeWorths.proved
end Go.Proofs.Ytaiekjimdjlgbaa
