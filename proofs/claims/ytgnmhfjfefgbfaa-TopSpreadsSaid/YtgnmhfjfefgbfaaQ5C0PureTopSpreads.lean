/- TopSpreads: a portfolio risks no more than its products together, spreads leave each product's delta, no product is credited more than it risks. -/
import Derived.Test.YtgnmhfjfefgbfaaQ5C0LmInter
import Derived.Test.YtgnmhfjfefgbfaaQ5C0LmPos
import Derived.Test.YtgnmhfjfefgbfaaQ5C0LmScan
import Derived.Test.YtgnmhfjfefgbfaaQ5C0LmScanP
import Derived.Test.YtgnmhfjfefgbfaaQ5C0LmScanR
import Derived.Test.YtgnmhfjfefgbfaaQ5C0LmSpread
import Derived.Test.YtgnmhfjfefgbfaaQ5C0P7
import Derived.Test.YtgnmhfjfefgbfaaQ5C0PrxDTopSpreads
import Derived.Test.YtgnmhfjfefgbfaaQ5C0P0
namespace Go.Proofs.Ytgnmhfjfefgbfaa.Pure
open Go.RowKit Go.Proofs.Ytgnmhfjfefgbfaa.Pr Go.Proofs.YtgnmhfjfefgbfaaW.PrintWords Go.Proofs.YtgnmhfjfefgbfaaW.PrintLast Go.Proofs.YtgnmhfjfefgbfaaW.PrintMore
set_option linter.unusedVariables false
set_option linter.unusedSimpArgs false
theorem TopSpreads : contangotop_TopSpreads.Pure := by
 intro L arr sps crs _ _ okP _ _ _ _ _ _ _ _ okC
 have big : bigC crs := fun c hc => ⟨(okC c hc).1, (okC c hc).2.1⟩
 refine ⟨100000, ?_⟩
 obtain ⟨ce, hc, hu⟩ := sck_eq arr
 have jt : contangotop_TopSpreads.j0 100000 L true arr sps crs = some true := by
  rw [contangotop_TopSpreads.j0, if_pos rfl]; exact g14 99999 (by omega)
 unfold contangotop_TopSpreads.f
 rw [QcX L 100000 (by omega), Option.bind_some]
 by_cases h0 : chk L = 0
 ·rw [if_pos h0]
  by_cases h1 : (arr.length : Int) > 130
  ·rw [if_pos h1]; exact jt
  rw [if_neg h1]
  by_cases h2 : (sps.length : Int) > 60
  ·rw [if_pos h2]; exact jt
  rw [if_neg h2]
  cases h3 : decide ((crs.length : Int) > 60) with
  | true => exact jt
  | false =>
   have hl : arr.length ≤ 130 := by omega
   have hu' : ce = 0 → uniS arr 0 := fun h => (hu h).2
   obtain ⟨N, P, p1, p2, p3, p4, p5⟩ := Qgt L h0 (fun p hp => (okP p hp).1.1)
   obtain ⟨R, sc, e, r1, r2, r3⟩ := QeK ce arr L hl hc hu'
   rw [contangotop_TopSpreads.j0, if_neg (by decide), p1 99999 (by omega), Option.bind_some, r1 99999 (by omega), Option.bind_some]
   by_cases he : e = 0
   ·obtain ⟨c1, c2, c3⟩ := r3 he
    obtain ⟨_, _, o, o1, o2⟩ := fnd_ok c1
    rw [if_pos he]
    refine QgB N P R arr sps crs ce hl hc hu' p2 (by omega) p5 big ?_ P.length 0 99999 (by omega) (by omega) [] [] 0 rfl rfl (by omega) (by omega) ⟨[], rfl, fun c hc' => ?_⟩
    ·rintro s hs ⟨q, q1, q2⟩
     rw [p4] at q1 q2
     have : q = o := Option.some.inj (q1.symm.trans o1)
     subst this
     rcases c3 with c3 | ⟨c, hc', c3⟩
     ·omega
     rw [c3, o2]; exact q2 c hc'
    exact Int.le_refl _
   dsimp only
   rw [if_neg he]; exact g14 99999 (by omega)
 rw [if_neg h0]; exact jt
end Go.Proofs.Ytgnmhfjfefgbfaa.Pure
