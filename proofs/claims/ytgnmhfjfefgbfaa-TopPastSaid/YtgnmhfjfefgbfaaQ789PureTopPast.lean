/- TopPast: two portfolios together would have lost what both lost, and their worst days are no worse than each one's together. -/
import Derived.Test.YtgnmhfjfefgbfaaQ789LmPast
import Derived.Test.YtgnmhfjfefgbfaaQ789LmPastB
import Derived.Test.YtgnmhfjfefgbfaaQ789LmPastL
import Derived.Test.YtgnmhfjfefgbfaaQ789LmPos
import Derived.Test.YtgnmhfjfefgbfaaQ789LmScan
import Derived.Test.YtgnmhfjfefgbfaaQ789LmTier
import Derived.Test.YtgnmhfjfefgbfaaQ789P0
import Derived.Test.YtgnmhfjfefgbfaaQ789P2
import Derived.Test.YtgnmhfjfefgbfaaQ789P3
import Derived.Test.YtgnmhfjfefgbfaaQ789PrxDTopPast
namespace Go.Proofs.Ytgnmhfjfefgbfaa.Pure
open Go.RowKit Go.Proofs.Ytgnmhfjfefgbfaa.Pr Go.Proofs.YtgnmhfjfefgbfaaW.PrintWords Go.Proofs.YtgnmhfjfefgbfaaW.PrintLast Go.Proofs.YtgnmhfjfefgbfaaW.PrintMore
set_option linter.unusedVariables false
set_option linter.unusedSimpArgs false
theorem g14P (k : Nat) (hk : 9000 ≤ k) : ((Qav.f k).bind fun t => (some t)) = some true := by rw [goes14 k hk]; rfl
theorem zipMap {α : Type} (f g h : α → Int) : ∀ M : List α, (∀ d ∈ M, h d = f d + g d) → M.map h = List.zipWith (· + ·) (M.map f) (M.map g)
 | [], _ => rfl
 | d :: M, H => by
  rw [List.map_cons, List.map_cons, List.map_cons, List.zipWith_cons_cons, H d (by simp), zipMap f g h M (fun x hx => H x (List.mem_cons_of_mem _ hx))]
theorem tp_loop (n m : List Int) (S : List Ser) (M : List (List Int)) (w : Int) (hn : n.length ≤ 512) (hm : m.length = n.length) (fn : ∀ x ∈ n, mdFits x) (fm : ∀ x ∈ m, mdFits x) (fo : ∀ x ∈ List.zipWith (· + ·) n m, mdFits x) : ∀ c i k : Nat, i + c = n.length → c + 10000 ≤ k → contangotop_TopPast.l0 k n m (List.zipWith (· + ·) n m) (i : Int) S M w = some true := by
 have ho : (List.zipWith (· + ·) n m).length = n.length := by simp; omega
 intro c
 induction c with
 | zero =>
  intro i k hi hk
  obtain ⟨k, rfl⟩ : ∃ q, k = q + 1 := ⟨k - 1, by omega⟩
  obtain ⟨e1, e2, e3⟩ := sf_add n m w hm.symm
  rw [contangotop_TopPast.l0, if_neg (by omega), sf_eq n w hn fn k (by omega), Option.bind_some, sf_eq m w (by omega) fm k (by omega), Option.bind_some, sf_eq _ w (by omega) fo k (by omega), Option.bind_some, if_pos e1, if_pos e2]
  have b1 := sf_bd n w hn fn
  have b2 := sf_bd m w (by omega) fm
  rw [IntWalk.wrap64_in _ (by omega), if_pos e3]
  exact g14P k (by omega)
 | succ c ih =>
  intro i k hi hk
  obtain ⟨k, rfl⟩ : ∃ q, k = q + 1 := ⟨k - 1, by omega⟩
  have hx : mdFits (rd n (i : Int)) := fn _ (by rw [rd_at n i (by omega)]; exact List.getElem_mem _)
  have hy : mdFits (rd m (i : Int)) := fm _ (by rw [rd_at m i (by omega)]; exact List.getElem_mem _)
  have e : rd (List.zipWith (· + ·) n m) (i : Int) = rd n (i : Int) + rd m (i : Int) := by
   rw [rd_at _ i (by omega), rd_at n i (by omega), rd_at m i (by omega), List.getElem_zipWith]
  unfold mdFits at hx hy
  rw [contangotop_TopPast.l0, if_pos (by omega), if_pos (by omega), if_pos (by omega), if_pos (by omega), e, IntWalk.wrap64_in _ (by omega), if_pos rfl, IntWalk.wrap64_in _ (by omega)]
  exact ih (i + 1) k (by omega) (by omega)
theorem TopPast : contangotop_TopPast.Pure := by
 intro A B S M w _ _ okA _ _ okB _ _ _ _ _ _ _
 refine ⟨200000, ?_⟩
 have jt : contangotop_TopPast.j0 200000 A B true S M w = some true := by
  rw [contangotop_TopPast.j0, if_pos rfl]; exact g14P 199999 (by omega)
 have jb : ∀ k : Nat, 10000 ≤ k → ∀ n m o : List Int, contangotop_TopPast.j1 k n m o true S M w = some true := by
  intro k hk n m o
  obtain ⟨k, rfl⟩ : ∃ q, k = q + 1 := ⟨k - 1, by omega⟩
  rw [contangotop_TopPast.j1, if_pos rfl]; exact g14P k (by omega)
 unfold contangotop_TopPast.f
 rw [QbD A 200000 (by omega), Option.bind_some]
 by_cases hA : chk A = 0
 ·rw [if_pos hA, QbD B 200000 (by omega), Option.bind_some]
  by_cases hB : chk B = 0
  ·rw [if_pos hB]
   have GA := (Qb1 A).1 hA
   have GB := (Qb1 B).1 hB
   by_cases h1 : (M.length : Int) > 40
   ·rw [if_pos h1]; exact jt
   rw [if_neg h1]
   cases h3 : decide ((S.length : Int) > 130) with
   | true => exact jt
   | false =>
    obtain ⟨C, q1, q2⟩ := bB_ex A B GA GB 199999 (by omega)
    rw [contangotop_TopPast.j0, if_neg (by decide), q1, Option.bind_some]
    dsimp only
    by_cases hC : (chk C == 0) = true
    ·rw [if_pos hC]
     obtain ⟨n, e, n1, n2⟩ := los_ex S M A 199999 (by omega)
     obtain ⟨m, f, m1, m2⟩ := los_ex S M B 199999 (by omega)
     obtain ⟨o, g, o1, o2⟩ := los_ex S M C 199999 (by omega)
     rw [n1, Option.bind_some, m1, Option.bind_some, o1, Option.bind_some]
     dsimp only
     by_cases he : e = 0
     ·rw [if_pos he]
      by_cases hf : f = 0
      ·rw [if_pos hf]
       by_cases hg : g = 0
       ·obtain ⟨⟨lM, _⟩, n3, n4⟩ := n2 he
        obtain ⟨_, m3, m4⟩ := m2 hf
        obtain ⟨_, o3, o4⟩ := o2 hg
        have hz : o = List.zipWith (· + ·) n m := by
         rw [o3, n3, m3]
         exact zipMap _ _ _ M (fun d _ => q2 S d)
        have ln : n.length = M.length := by rw [n3, List.length_map]
        have lm : m.length = n.length := by rw [m3, ln, List.length_map]
        have lo : o.length = n.length := by rw [o3, ln, List.length_map]
        rw [show (g != 0) = false by rw [hg]; rfl, contangotop_TopPast.j1, if_neg (by decide), if_pos (by omega), if_pos (by omega), show (((o.length : Nat) : Int) != ((n.length : Nat) : Int)) = false by rw [lo]; simp, contangotop_TopPast.j2, if_neg (by decide)]
        rw [hz] at o4 ⊢
        exact tp_loop n m S M w (by omega) lm n4 m4 o4 n.length 0 _ (by omega) (by omega)
       rw [show (g != 0) = true by simpa using hg]
       exact jb _ (by omega) _ _ _
      rw [if_neg hf]
      exact jb _ (by omega) _ _ _
     rw [if_neg he]
     exact jb _ (by omega) _ _ _
    rw [if_neg hC]
    exact g14P 199999 (by omega)
  rw [if_neg hB]; exact jt
 rw [if_neg hA]; exact jt
end Go.Proofs.Ytgnmhfjfefgbfaa.Pure
