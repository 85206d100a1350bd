/- TopPledgeMoved: collateral that is moved is worth no less. -/
import Derived.Test.YtaiekjimdjlgbaaQ3EDLmCents
import Derived.Test.YtaiekjimdjlgbaaQ3EDLmName
import Derived.Test.YtaiekjimdjlgbaaQ3EDLmPledge
import Derived.Test.YtaiekjimdjlgbaaQ3EDLmPledge2
import Derived.Test.YtaiekjimdjlgbaaQ3EDLmPledge3
import Derived.Test.YtaiekjimdjlgbaaQ3EDLmPledgeMove
import Derived.Test.YtaiekjimdjlgbaaQ3EDLmPledgeOf
import Derived.Test.YtaiekjimdjlgbaaQ3EDLmPledgeOth
import Derived.Test.YtaiekjimdjlgbaaQ3EDLmPledgeTop
import Derived.Test.YtaiekjimdjlgbaaQ3EDLmPledgeW
import Derived.Test.YtaiekjimdjlgbaaQ3EDP0
import Derived.Test.YtaiekjimdjlgbaaQ3EDP1
import Derived.Test.YtaiekjimdjlgbaaQ3EDP4
import Derived.Test.YtaiekjimdjlgbaaQ3EDP6
import Derived.Test.YtaiekjimdjlgbaaQ3EDPrxDTopPledgeMoved
namespace Go.Proofs.Ytaiekjimdjlgbaa.Pure
open Go.RowKit Go.Proofs.Ytaiekjimdjlgbaa.Pr Go.Proofs.YtaiekjimdjlgbaaW.PrintWords Go.Proofs.YtaiekjimdjlgbaaW.PrintLast Go.Proofs.YtaiekjimdjlgbaaW.PrintMore
set_option linter.unusedVariables false
set_option linter.unusedSimpArgs false
theorem TopPledgeMoved : contangotop_TopPledgeMoved.Pure := by
  intro l a b c d L R
  intros
  obtain ⟨K, hK⟩ : ∃ K, K = 9000 := ⟨_, rfl⟩
  refine ⟨K + 2, ?_⟩
  have g : ∀ k, 7000 ≤ k → ((contangotop_goes16.f k).bind fun t => some t) = some true := fun k hk => by rw [tgoes16 k hk]; rfl
  have hT : contangotop_TopPledgeMoved.j0 (K + 2) true l a b c d L R = some true := by
    rw [contangotop_TopPledgeMoved.j0, if_pos rfl, g _ (by omega)]
  unfold contangotop_TopPledgeMoved.f
  by_cases hl : (l.length : Int) > 200
  · rw [if_pos hl]; exact hT
  rw [if_neg hl]
  by_cases hL : (L.length : Int) > 100
  · rw [show decide ((L.length : Int) > 100) = true from decide_eq_true hL]; exact hT
  rw [show decide ((L.length : Int) > 100) = false from decide_eq_false hL, contangotop_TopPledgeMoved.j0, if_neg (by simp), pmove_eq l a b c d _ (by omega), Option.bind_some]
  by_cases he : (moveS l a b c d).2 = 0
  · rw [if_pos he]
    obtain ⟨hg, hn, hne⟩ := moveS_ok l a b c d he
    have hmv : moveS l a b c d = mvL c d (notP a b l) (ofP a b l) := by
      unfold moveS
      rw [if_pos ((chkP_zero l).2 hg), if_pos hn, if_neg hne]
    rw [hmv] at he ⊢
    have hsn : sortedP (notP a b l) := sorted_fil _ hg.2.1
    have hso : sortedP (ofP a b l) := sorted_fil _ hg.2.1
    have hio : ∀ p ∈ ofP a b l, isOf a b p = true := fun p hp => (List.mem_filter.1 hp).2
    have hq : ∀ p ∈ l, 1 ≤ p.f2 ∧ p.f2 ≤ 1152921504606846976 := fun p hp => (okQty_iff _).1 (hg.2.2 p hp).2
    obtain ⟨hv, hbd⟩ := mvL_zero a b c d _ _ hsn hso hio he
    rw [hv]
    show (pledge_Of.f (K + 1) (mvF c d (notP a b l) (ofP a b l)) a b).bind _ = some true
    obtain ⟨A, hA⟩ : ∃ A, mvF c d (notP a b l) (ofP a b l) = A := ⟨_, rfl⟩
    have hln := not_of_len a b l
    have hlA := mvF_len c d (ofP a b l) (notP a b l) hsn
    have hsA := mvF_sorted c d (ofP a b l) (notP a b l) hsn
    simp only [Bool.and_eq_true] at hn
    have hnA := mvF_ok c d hn.2.2.1 hn.2.2.2 (ofP a b l) (notP a b l) hsn (fun p hp => (hg.2.2 p (List.mem_filter.1 hp).1).1) (fun p hp => (hg.2.2 p (List.mem_filter.1 hp).1).1)
    have hqA := mvF_qty a b c d 1152921504606846976 (ofP a b l) (notP a b l) hsn hso hio (fun p hp => hq p (List.mem_filter.1 hp).1) (fun p hp => ⟨(hq p (List.mem_filter.1 hp).1).1, hbd p hp⟩)
    have hoA := mvF_of c d a b hne (ofP a b l) (notP a b l) hsn
    have hoo : ofP a b (notP a b l) = [] := by
      rw [ofP_is]; unfold notP; rw [List.filter_filter]
      refine List.filter_eq_nil_iff.2 fun p _ => ?_
      cases isOf a b p <;> simp
    have hfA : ∀ s, hadP (c, d, s) A = hadP (c, d, s) l + hadP (a, b, s) l := fun s => by
      rw [← hA, mvF_had a b c d s (ofP a b l) (notP a b l) hsn hso hio, had_notP a b c d s hne, had_ofP]
    have hcd : ofP c d (notP a b l) = ofP c d l := by
      rw [ofP_is, ofP_is]
      unfold notP
      rw [List.filter_filter]
      refine List.filter_congr fun p _ => ?_
      cases hx : isOf c d p with
      | false => rfl
      | true => rw [isOf_ne (isOf_key hx) hne]; rfl
    have hwA := mvF_worth L R a b c d (ofP a b l) (notP a b l) hsn hso hio (fun p hp => (hq p (List.mem_filter.1 hp).1).1) (fun p hp => (hq p (List.mem_filter.1 hp).1).1)
    rw [hA] at hlA hsA hnA hqA hoA hwA ⊢
    rw [hcd] at hwA
    have hgl := hg.1
    have hgA : goodP A := ⟨by omega, hsA, fun p hp => ⟨hnA p hp, (okQty_iff _).2 (hqA p hp)⟩⟩
    rw [of_eq a b A (by omega) _ (by omega), Option.bind_some, hoA, hoo, if_pos (by rfl), pcheck_eq A _ (by omega), Option.bind_some, (chkP_zero A).2 hgA, show ((0 : Int) != 0) = false from rfl, contangotop_TopPledgeMoved.j1, if_neg (by simp)]
    have hloop : ∀ n i k : Nat, i + n = l.length → n + 8000 ≤ k → contangotop_TopPledgeMoved.l0 k A (i : Int) l a b c d L R = some true := by
      intro n
      induction n with
      | zero =>
        intro i k hi hk
        obtain ⟨k, rfl⟩ : ∃ m, k = m + 1 := ⟨k - 1, by omega⟩
        rw [contangotop_TopPledgeMoved.l0, if_neg (by omega), pworth_eq l a b L R (by omega) (by omega) k (by omega), Option.bind_some, pworth_eq l c d L R (by omega) (by omega) k (by omega), Option.bind_some, pworth_eq A c d L R (by omega) (by omega) k (by omega), Option.bind_some, add_eq, Option.bind_some, g k (by omega)]
        by_cases h1 : (pwS l a b L R).2 = 0
        · rw [if_pos h1]
          by_cases h2 : (pwS l c d L R).2 = 0
          · rw [if_pos h2]
            by_cases h3 : (pwS A c d L R).2 = 0
            · rw [if_pos h3]
              by_cases h4 : (addS (pwS l a b L R).1 (pwS l c d L R).1).2 = 0
              · rw [if_pos h4]
                obtain ⟨w1, v1⟩ := pwS_zero h1
                obtain ⟨w2, v2⟩ := pwS_zero h2
                obtain ⟨w3, v3⟩ := pwS_zero h3
                have hw := hwA w2 w1 w3
                have hadd : (addS (pwS l a b L R).1 (pwS l c d L R).1).1 = (pwS l a b L R).1 + (pwS l c d L R).1 := by
                  unfold addS at h4 ⊢
                  by_cases z1 : mdFits (pwS l a b L R).1 ∧ mdFits (pwS l c d L R).1
                  · rw [if_pos z1] at h4 ⊢
                    by_cases z2 : mdFits ((pwS l a b L R).1 + (pwS l c d L R).1)
                    · rw [if_pos z2]
                    · rw [if_neg z2] at h4; cases h4
                  · rw [if_neg z1] at h4; cases h4
                rw [if_pos (by rw [hadd, v1, v2, v3]; omega)]
              · rw [if_neg h4]
            · rw [if_neg h3]
          · rw [if_neg h2]
        · rw [if_neg h1]
      | succ n ih =>
        intro i k hi hk
        obtain ⟨k, rfl⟩ : ∃ m, k = m + 1 := ⟨k - 1, by omega⟩
        obtain ⟨s, hs⟩ : ∃ s, (rd_T85 l (i : Int)).f1 = s := ⟨_, rfl⟩
        have q1 := pqty_eq (c, d, s) A (by omega) k (by omega)
        have q2 := pqty_eq (a, b, s) l (by omega) k (by omega)
        have q3 := pqty_eq (c, d, s) l (by omega) k (by omega)
        simp only at q1 q2 q3
        have n1 := had_bd (q := (c, d, s)) hg
        have n2 := had_bd (q := (a, b, s)) hg
        rw [contangotop_TopPledgeMoved.l0, if_pos (by omega), if_pos (by omega), hs, q1, Option.bind_some, q2, Option.bind_some, q3, Option.bind_some, IntWalk.wrap64_in (hadP (a, b, s) l + hadP (c, d, s) l) (by omega), if_pos (by rw [hfA s]; omega), nwrap (by omega) (by omega), show ((i : Int) + 1) = ((i + 1 : Nat) : Int) by omega]
        exact ih (i + 1) k (by omega) (by omega)
    rw [show (0 : Int) = ((0 : Nat) : Int) from rfl]
    exact hloop l.length 0 K (by omega) (by omega)
  · rw [if_neg he, moveS_err l a b c d he, if_pos (by rfl), g _ (by omega)]
end Go.Proofs.Ytaiekjimdjlgbaa.Pure
