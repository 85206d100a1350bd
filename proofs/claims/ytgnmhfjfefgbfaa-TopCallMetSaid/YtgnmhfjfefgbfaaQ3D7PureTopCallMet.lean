/- TopCallMet: a call for what is lacking is met by that amount. -/
import Derived.Test.YtgnmhfjfefgbfaaQ3D7LmAsset
import Derived.Test.YtgnmhfjfefgbfaaQ3D7LmAssetAll
import Derived.Test.YtgnmhfjfefgbfaaQ3D7LmAssetU
import Derived.Test.YtgnmhfjfefgbfaaQ3D7LmCallM
import Derived.Test.YtgnmhfjfefgbfaaQ3D7LmLimit
import Derived.Test.YtgnmhfjfefgbfaaQ3D7LmName
import Derived.Test.YtgnmhfjfefgbfaaQ3D7LmPledgeTop
import Derived.Test.YtgnmhfjfefgbfaaQ3D7LmTopCov
import Derived.Test.YtgnmhfjfefgbfaaQ3D7P0
import Derived.Test.YtgnmhfjfefgbfaaQ3D7P4
import Derived.Test.YtgnmhfjfefgbfaaQ3D7P9
import Derived.Test.YtgnmhfjfefgbfaaQ3D7PrxDTopCallMet
namespace Go.Proofs.Ytgnmhfjfefgbfaa.Pure
open Go.RowKit Go.Proofs.Ytgnmhfjfefgbfaa.Pr Go.Proofs.YtgnmhfjfefgbfaaW.PrintWords Go.Proofs.YtgnmhfjfefgbfaaW.PrintLast Go.Proofs.YtgnmhfjfefgbfaaW.PrintMore
set_option linter.unusedVariables false
set_option linter.unusedSimpArgs false
theorem TopCallMet : contangotop_TopCallMet.Pure := by
 intro a b x2 x3 x4 x5 x6 x7 n l L R s due
 intros
 refine ⟨10002, ?_⟩
 have g : ∀ k, 9000 ≤ k → ((QaF.f k).bind fun t => some t) = some true := fun k hk => by rw [goes19 k hk]; rfl
 unfold contangotop_TopCallMet.f
 have few : ∀ f, Qbv.f a b x2 x3 x4 x5 x6 x7 n l L R s = some f → f = true → L.length ≤ 100 ∧ l.length ≤ 200 := by
  intro f hf ht
  unfold Qbv.f at hf
  by_cases h1 : (l.length : Int) ≤ 200
  ·rw [if_pos h1] at hf
   have := Option.some.inj hf
   rw [← this] at ht
   have := of_decide_eq_true ht
   omega
  rw [if_neg h1] at hf
  have := Option.some.inj hf
  rw [← this] at ht; cases ht
 cases hf : Qbv.f a b x2 x3 x4 x5 x6 x7 n l L R s with
 | none =>
  unfold Qbv.f at hf
  (repeat' split at hf) <;> cases hf
 | some f =>
  rw [Option.bind_some]
  cases f with
  | false => rw [if_neg (by simp), g _ (by omega)]
  | true =>
   obtain ⟨hL, hl⟩ := few true hf rfl
   have jt : ∀ y0 y1 y2 y3 y4 z0 z1 z2 z3 z4 z5, contangotop_TopCallMet.j0 10002 due true a b x2 x3 x4 x5 x6 x7 n l L R s y0 y1 y2 y3 y4 z0 z1 z2 z3 z4 z5 = some true := fun y0 y1 y2 y3 y4 z0 z1 z2 z3 z4 z5 => by
    rw [contangotop_TopCallMet.j0, if_pos rfl, g _ (by omega)]
   rw [if_pos rfl]
   by_cases hc : (covS l a b n L R).2 = 0
   ·rw [gap_ok a b x2 x3 x4 x5 x6 x7 n l L R s l 10002 (by omega) hc, Option.bind_some, QcN L s (by omega) 10002 (by omega), Option.bind_some, if_pos rfl]
    by_cases h1 : (findA L s 0 L.length).2.2.2.2.2.2 = true
    ·rw [if_pos h1]
     dsimp only
     generalize mx (n - (covS l a b n L R).1) 0 = lack
     cases hz : (lack == 0) with
     | true => exact jt _ _ _ _ _ _ _ _ _ _ _
     | false =>
      rw [contangotop_TopCallMet.j0, if_neg (by simp)]
      generalize hA : findA L s 0 L.length = A at *
      obtain ⟨r, r1, r2, r3⟩ := Qek A.1 A.2.1 A.2.2.1 A.2.2.2.1 A.2.2.2.2.1 A.2.2.2.2.2.1 lack R 10001 (by omega)
      rw [r1, Option.bind_some, Qgl a b lack due 10001 (by omega), Option.bind_some]
      have j1 : ∀ q (o : List Cll × Int × Int), (o.2.2 = 0 ∨ (o.1 = [] ∧ o.2.1 = 0)) → ∀ y0 y1 y2 y3 y4 z0 z1 z2 z3 z4 z5, contangotop_TopCallMet.j1 10001 q o.1 o.2.1 o.2.2 true a b x2 x3 x4 x5 x6 x7 n l L R s y0 y1 y2 y3 y4 z0 z1 z2 z3 z4 z5 = some true := by
       intro q o ho y0 y1 y2 y3 y4 z0 z1 z2 z3 z4 z5
       rw [contangotop_TopCallMet.j1, if_pos rfl]
       by_cases e : o.2.2 = 0
       ·rw [if_pos e, g _ (by omega)]
       obtain ⟨o1, o2⟩ := ho.resolve_left e
       rw [if_neg e, o1, if_pos (by simp), if_pos o2, g _ (by omega)]
      by_cases hk : askS a b lack 0 due = 0
      ·rw [if_pos hk]
       by_cases he : r.2 = 0
       ·obtain ⟨u1, u2, u3, u4⟩ := r3 he
        obtain ⟨_, hun, hh⟩ := Qda _ _ _ _ _ _ u1
        have wb := wor_bd hun hh u3
        rw [if_pos he]
        show contangotop_TopCallMet.j1 10001 r.1 [(⟨1, ⟨a, b⟩, lack, due, 0⟩ : Cll)] 1 0 false a b x2 x3 x4 x5 x6 x7 n l L R s _ _ _ _ lack _ _ _ _ _ _ = some true
        rw [contangotop_TopCallMet.j1, if_neg (by decide), QcA _ _ _ _ _ _ _ _ _ (by omega), Option.bind_some, u1, Qgo a b lack due _ hk ⟨u4, by omega⟩ _ (by omega), Option.bind_some, Qgs a b lack due hk _ (by omega), Option.bind_some,
         Qgj a b lack due hk _ (by omega), Option.bind_some, Qfy a b lack due hk _ (by omega), Option.bind_some]
        dsimp only
        have w : wrap64 ((worS 0 A.2.2.1 A.2.2.2.1 A.2.2.2.2.1 r.1 R).1 - lack) = (worS 0 A.2.2.1 A.2.2.2.1 A.2.2.2.2.1 r.1 R).1 - lack := by
         have hn : 1 ≤ lack := by
          unfold askS at hk
          by_cases q1 : nameOk a = true ∧ nameOk b = true
          ·rw [if_pos q1] at hk
           by_cases q2 : (1 ≤ lack ∧ lack ≤ 1152921504606846976) ∧ 0 ≤ (0 : Int) ∧ 0 ≤ lack
           ·exact q2.1.1
           rw [if_neg q2] at hk; cases hk
          rw [if_neg q1] at hk; cases hk
         exact IntWalk.wrap64_in _ (by omega)
        rw [if_pos rfl, if_pos u3, if_pos rfl, if_pos w.symm, g _ (by omega)]
        rfl
       rw [if_neg he]
       exact j1 r.1 ([(⟨1, ⟨a, b⟩, lack, due, 0⟩ : Cll)], 1, 0) (Or.inl rfl) _ _ _ _ _ _ _ _ _ _ _
      rw [if_neg hk]
      have hb : (askS a b lack 0 due != 0) = true := bne_iff_ne.2 hk
      by_cases he : r.2 = 0
      ·rw [if_pos he]
       dsimp only
       rw [hb]
       exact j1 r.1 ([], 0, askS a b lack 0 due) (Or.inr ⟨rfl, rfl⟩) _ _ _ _ _ _ _ _ _ _ _
      rw [if_neg he]
      exact j1 r.1 ([], 0, askS a b lack 0 due) (Or.inr ⟨rfl, rfl⟩) _ _ _ _ _ _ _ _ _ _ _
    rw [if_neg h1]; exact jt _ _ _ _ _ _ _ _ _ _ _
   rw [gap_no a b x2 x3 x4 x5 x6 x7 n l L R s l 10002 (by omega) hc, Option.bind_some, QcN L s (by omega) 10002 (by omega), Option.bind_some, if_neg (by simp)]
   exact jt _ _ _ _ _ _ _ _ _ _ _
end Go.Proofs.Ytgnmhfjfefgbfaa.Pure
