/- The reference's Save: the same answer. -/
import Derived.Test.YtggbflplbblgbaaQ482LmBytes
import Derived.Test.YtggbflplbblgbaaQ482LmCentsMd
import Derived.Test.YtggbflplbblgbaaQ482LmInter
import Derived.Test.YtggbflplbblgbaaQ482LmInter2
import Derived.Test.YtggbflplbblgbaaQ482LmInter3
import Derived.Test.YtggbflplbblgbaaQ482LmName
import Derived.Test.YtggbflplbblgbaaQ482P0
import Derived.Test.YtggbflplbblgbaaQ482P1
import Derived.Test.YtggbflplbblgbaaQ482P3
namespace Go.Proofs.Ytggbflplbblgbaa.Pr
open Go.RowKit Go.Proofs.Ytggbflplbblgbaa.Pr Go.Proofs.YtggbflplbblgbaaW.PrintWords Go.Proofs.YtggbflplbblgbaaW.PrintLast Go.Proofs.YtggbflplbblgbaaW.PrintMore
set_option linter.unusedVariables false
set_option linter.unusedSimpArgs false
theorem Qdf (l : List ByteArray) (z : ByteArray) (hl : l.length ≤ 17592186044416) : ∀ n i k : Nat, i + n = l.length → n + 1 ≤ k → Qal.l0 k l z (i : Int) = some ((ixI (l.drop i) i z).getD (-1)) := by
 intro n
 induction n with
 | zero =>
  intro i k hi hk
  obtain ⟨k, rfl⟩ : ∃ m, k = m + 1 := ⟨k - 1, by omega⟩
  rw [Qal.l0, if_neg (by omega), List.drop_eq_nil_of_le (by omega)]
  rfl
 | succ n ih =>
  intro i k hi hk
  obtain ⟨k, rfl⟩ : ∃ m, k = m + 1 := ⟨k - 1, by omega⟩
  have w : wrap64 ((i : Int) + 1) = ((i + 1 : Nat) : Int) := by rw [nwrap (by omega) (by omega)]; omega
  have IH := ih (i + 1) k (by omega) (by omega)
  have e : l[i]'(by omega) = rdOf ByteArray.empty l (i : Int) := by
   unfold rdOf
   rw [Int.toNat_natCast, List.getD_eq_getElem?_getD, List.getElem?_eq_getElem (by omega)]; rfl
  rw [Qal.l0, w, IH]
  clear w IH
  rw [if_pos (by omega), if_pos (by omega), List.drop_eq_getElem_cons (show i < l.length by omega), ixI, e]
  by_cases c : rdOf ByteArray.empty l (i : Int) = z
  ·rw [if_pos (by rw [c]), if_pos c]; rfl
  rw [if_neg (fun h => c (Qb4 h)), if_neg c]
theorem QcR (l : List ByteArray) (z : ByteArray) (hl : l.length ≤ 17592186044416) (k : Nat) (hk : l.length + 1 ≤ k) : Qal.f k l z = some ((ixI l 0 z).getD (-1)) := by
 unfold Qal.f
 rw [show (0 : Int) = ((0 : Nat) : Int) from rfl, Qdf l z hl l.length 0 k (by omega) hk, List.drop_zero]
theorem Qcu (l0 : List ByteArray) (ds rs : List Int) (l3 : List Crd) (n a i q : Nat) (N leg : Int) (S L : List Int) (p : List Int × List Int) (k : Nat) (D : DatI ds rs n) (I : InvI ds rs n p) (ha : a < n) (hi : i < l3.length) (hl : l3.length ≤ 1024)
  (hq : q < 2) (hS : S.length = 2) (hL : L.length = 2) (eS : rd S (q : Int) = (a : Int)) (eL : rd L (q : Int) = leg) (h0 : rd p.2 (a : Int) ≠ 0) (hN : 0 ≤ N ∧ N ≤ 1099511627776) (ht : 0 ≤ N * 1000 * leg ∧ N * 1000 * leg ≤ ((rd p.2 (a : Int)).natAbs : Int)) (hh : 0 ≤ (rd_T75 l3 (i : Int)).f4 ∧ (rd_T75 l3 (i : Int)).f4 ≤ 1000) :
  Qaa.l2 (k + 1) l0 ds rs l3 p.1 p.2 (i : Int) N S L (q : Int) = Qaa.l2 k l0 ds rs l3 (credI ds rs a (N * 1000 * leg) (rd_T75 l3 (i : Int)).f4 p).1 (credI ds rs a (N * 1000 * leg) (rd_T75 l3 (i : Int)).f4 p).2 (i : Int) N S L ((q + 1 : Nat) : Int) := by
 have w : wrap64 ((q : Int) + 1) = ((q + 1 : Nat) : Int) := by rw [nwrap (by omega) (by omega)]; omega
 have a1 := I.s a ha
 have a2 := I.d a ha
 have a3 := D.d a ha
 have a4 := D.r a ha
 have a5 := Qbz a2
 have a6 := Qbs a2 a3
 have n1 := I.n1
 have n2 := I.n2
 have n3 := D.n1
 have n4 := D.n2
 have a3' := a3
 unfold inB40 at a6 a3'
 have W1 : wrap64 (N * 1000) = N * 1000 := nwrap (by omega) (by omega)
 have W2 : wrap64 (N * 1000 * leg) = N * 1000 * leg := nwrap ht.1 (by omega)
 have p1 := QbU (rd rs (a : Int)) (N * 1000 * leg) ((rd ds (a : Int)).natAbs : Int) a4.1 ht.1 (by omega) (by omega)
 have own := Qcf (rd rs (a : Int)) (rd ds (a : Int)) (N * 1000 * leg) (rd_T75 l3 (i : Int)).f4 a4.1 (by omega) ⟨ht.1, by omega⟩ hh
 have W3 : wrap64 (rd p.1 (a : Int) + ownI (rd rs (a : Int)) (rd ds (a : Int)) (N * 1000 * leg) (rd_T75 l3 (i : Int)).f4) = rd p.1 (a : Int) + ownI (rd rs (a : Int)) (rd ds (a : Int)) (N * 1000 * leg) (rd_T75 l3 (i : Int)).f4 := IntWalk.wrap64_in _ (by omega)
 have W4 : wrap64 (rd p.2 (a : Int) - N * 1000 * leg) = rd p.2 (a : Int) - N * 1000 * leg := IntWalk.wrap64_in _ (by omega)
 have W5 : wrap64 (rd p.2 (a : Int) + N * 1000 * leg) = rd p.2 (a : Int) + N * 1000 * leg := IntWalk.wrap64_in _ (by omega)
 have m1 := md1_eq (rd rs (a : Int)) (N * 1000 * leg) ((rd ds (a : Int)).natAbs : Int) a4 ht.1 ⟨by omega, by omega⟩ (by omega)
 have m2 := md1_eq (rd rs (a : Int) * (N * 1000 * leg) / ((rd ds (a : Int)).natAbs : Int)) (rd_T75 l3 (i : Int)).f4 1000 ⟨p1.1, by omega⟩ hh.1 ⟨by omega, by omega⟩ hh.2
 have E : ownI (rd rs (a : Int)) (rd ds (a : Int)) (N * 1000 * leg) (rd_T75 l3 (i : Int)).f4 = rd rs (a : Int) * (N * 1000 * leg) / ((rd ds (a : Int)).natAbs : Int) * (rd_T75 l3 (i : Int)).f4 / 1000 := rfl
 rw [Qaa.l2, eS, eL, W1, W2, w, Qca _ a3]
 clear W1 W2 w
 rw [if_pos (by omega), if_pos (by omega), if_pos (by omega), if_pos (by omega), if_pos (by omega), if_pos (by omega), if_pos (by omega), Option.bind_some, rmd_eq, m1, Option.bind_some, if_pos (by omega), if_pos (by omega), rmd_eq, m2, Option.bind_some, if_pos (by omega), Option.bind_some, if_pos (by omega)]
 dsimp only
 rw [← E, W3, W4, W5, Int.toNat_natCast]
 unfold credI
 dsimp only
 clear W3 W4 W5 m1 m2 E
 by_cases c : 0 < rd p.2 (a : Int)
 ·rw [if_pos c, if_pos c]
 rw [if_neg c, if_neg c]
theorem r_loop (l0 : List ByteArray) (ds rs : List Int) (n : Nat) (hn : l0.length = n) (hl0 : l0.length ≤ 17592186044416) (P : PlI (ixI l0 0) n) (D : DatI ds rs n) (l3 : List Crd) (hl : l3.length ≤ 1024) (ok : ∀ c ∈ l3, crOk c ∧ crOk2 c) :
  ∀ m i k p, i + m = l3.length → 5 * m + l0.length + 10 ≤ k → InvI ds rs n p → Qaa.l1 k l0 ds rs l3 p.1 p.2 (i : Int) = some ((runI (ixI l0 0) ds rs (l3.drop i) p).1, (runI (ixI l0 0) ds rs (l3.drop i) p).2, 0) := by
 intro m
 induction m with
 | zero =>
  intro i k p hi hk I
  obtain ⟨k, rfl⟩ : ∃ m, k = m + 1 := ⟨k - 1, by omega⟩
  rw [Qaa.l1, if_neg (by omega), List.drop_eq_nil_of_le (by omega)]
  rfl
 | succ m ih =>
  intro i k p hi hk I
  obtain ⟨k, rfl⟩ : ∃ m, k = m + 6 := ⟨k - 6, by omega⟩
  have w : wrap64 ((i : Int) + 1) = ((i + 1 : Nat) : Int) := by rw [nwrap (by omega) (by omega)]; omega
  obtain ⟨k1, k2⟩ := ok _ (cr_mem (l := l3) (i := i) (by omega))
  have GO : ∀ k' p', 5 * m + l0.length + 10 ≤ k' → InvI ds rs n p' → Qaa.l1 k' l0 ds rs l3 p'.1 p'.2 (wrap64 ((i : Int) + 1)) = some ((runI (ixI l0 0) ds rs (l3.drop (i + 1)) p').1, (runI (ixI l0 0) ds rs (l3.drop (i + 1)) p').2, 0) := by
   intro k' p' hk' I'
   rw [w]
   exact ih (i + 1) k' p' (by omega) hk' I'
  clear w
  rw [Qce l3 i (by omega), runI]
  have T : ∀ u v, stI (ixI l0 0) ds rs (rd_T75 l3 (i : Int)) p = p → Qaa.j3 (k + 5) l0 ds rs l3 p.1 p.2 (i : Int) u v true = some ((runI (ixI l0 0) ds rs (l3.drop (i + 1)) (stI (ixI l0 0) ds rs (rd_T75 l3 (i : Int)) p)).1, (runI (ixI l0 0) ds rs (l3.drop (i + 1)) (stI (ixI l0 0) ds rs (rd_T75 l3 (i : Int)) p)).2, 0) := by
   intro u v e
   rw [Qaa.j3, if_pos rfl, e]
   exact GO (k + 4) p (by omega) I
  rw [Qaa.l1, if_pos (by omega), if_pos (by omega), QcR l0 _ hl0 (k + 5) (by omega), Option.bind_some, QcR l0 _ hl0 (k + 5) (by omega), Option.bind_some]
  cases hA : ixI l0 0 (rd_T75 l3 (i : Int)).f0 with
  | none =>
   rw [if_pos (by decide)]
   exact T _ _ (by unfold stI; rw [hA])
  | some va =>
   obtain ⟨a, ha, rfl⟩ := P.at_ _ _ hA
   rw [if_neg (by simp)]
   cases hB : ixI l0 0 (rd_T75 l3 (i : Int)).f1 with
   | none =>
    rw [if_pos (by decide)]
    exact T _ _ (by unfold stI; rw [hA, hB])
   | some vb =>
    obtain ⟨b, hb, rfl⟩ := P.at_ _ _ hB
    have ab : a ≠ b := fun e => k1.2.2 (P.inj _ _ _ hA (by rw [e]; exact hB))
    have q1 := D.n1
    have q2 := D.n2
    have q3 := I.n1
    have q4 := I.n2
    have ST : stI (ixI l0 0) ds rs (rd_T75 l3 (i : Int)) p = stepI ds rs a b (rd_T75 l3 (i : Int)) p := by unfold stI; rw [hA, hB]; simp only [Int.toNat_natCast]
    rw [if_neg (by simp)]
    simp only [Option.getD_some]
    rw [if_pos (by omega), if_pos (by omega)]
    by_cases x0 : rd p.2 (a : Int) = 0
    ·rw [if_pos x0]
     exact T _ _ (by rw [ST]; unfold stepI; rw [if_neg (fun g => g.1 x0)])
    rw [if_neg x0, if_pos (by omega), if_pos (by omega)]
    by_cases y0 : rd p.2 (b : Int) = 0
    ·rw [if_pos y0]
     exact T _ _ (by rw [ST]; unfold stepI; rw [if_neg (fun g => g.2.1 y0)])
    rw [if_neg y0]
    by_cases xy : decide (0 < rd p.2 (a : Int)) = decide (0 < rd p.2 (b : Int))
    ·have e : (decide (rd p.2 (a : Int) > 0) == decide (rd p.2 (b : Int) > 0)) = true := beq_iff_eq.2 xy
     rw [e]
     exact T _ _ (by rw [ST]; unfold stepI; rw [if_neg (fun g => g.2.2 xy)])
    have e : (decide (rd p.2 (a : Int) > 0) == decide (rd p.2 (b : Int) > 0)) = false := beq_eq_false_iff_ne.2 xy
    have g : goI (rd p.2 (a : Int)) (rd p.2 (b : Int)) := ⟨x0, y0, xy⟩
    rw [e, ST]
    clear T
    have S : stepI ds rs a b (rd_T75 l3 (i : Int)) p = credI ds rs b (cntI (rd p.2 (a : Int)) (rd p.2 (b : Int)) (rd_T75 l3 (i : Int)).f2 (rd_T75 l3 (i : Int)).f3 * 1000 * (rd_T75 l3 (i : Int)).f3) (rd_T75 l3 (i : Int)).f4 (credI ds rs a (cntI (rd p.2 (a : Int)) (rd p.2 (b : Int)) (rd_T75 l3 (i : Int)).f2 (rd_T75 l3 (i : Int)).f3 * 1000 * (rd_T75 l3 (i : Int)).f2) (rd_T75 l3 (i : Int)).f4 p) := by unfold stepI; rw [if_pos g]
    rw [S]
    have o1 := k2.1
    have o2 := k2.2.1
    have ix : inB40 (rd p.2 (a : Int)) := Qbs (I.d a ha) (D.d a ha)
    have iy : inB40 (rd p.2 (b : Int)) := Qbs (I.d b hb) (D.d b hb)
    have B := QcB _ _ _ _ ix iy o1 o2
    have ix' := ix
    have iy' := iy
    unfold inB40 at ix' iy'
    have d1 : 0 ≤ ((rd p.2 (a : Int)).natAbs : Int) / (1000 * (rd_T75 l3 (i : Int)).f2) := Int.ediv_nonneg (by omega) (by omega)
    have d2 : 0 ≤ ((rd p.2 (b : Int)).natAbs : Int) / (1000 * (rd_T75 l3 (i : Int)).f3) := Int.ediv_nonneg (by omega) (by omega)
    have d3 : ((rd p.2 (a : Int)).natAbs : Int) / (1000 * (rd_T75 l3 (i : Int)).f2) ≤ ((rd p.2 (a : Int)).natAbs : Int) := Int.ediv_le_self _ (by omega)
    have d4 : ((rd p.2 (b : Int)).natAbs : Int) / (1000 * (rd_T75 l3 (i : Int)).f3) ≤ ((rd p.2 (b : Int)).natAbs : Int) := Int.ediv_le_self _ (by omega)
    rw [Qaa.j3, if_neg (by decide), if_pos (by omega), if_pos (by omega), Qca _ ix, Option.bind_some, if_pos (by omega), if_pos (by omega), nwrap (x := 1000 * (rd_T75 l3 (i : Int)).f2) (by omega) (by omega), if_neg (by omega), if_pos (by omega), if_pos (by omega), Qca _ iy, Option.bind_some,
     nwrap (x := 1000 * (rd_T75 l3 (i : Int)).f3) (by omega) (by omega), if_neg (by omega), Int.tdiv_eq_ediv_of_nonneg (by omega), Int.tdiv_eq_ediv_of_nonneg (by omega), nwrap d1 (by omega), nwrap d2 (by omega)]
    show Qaa.l2 (k + 4) l0 ds rs l3 p.1 p.2 (i : Int) (cntI (rd p.2 (a : Int)) (rd p.2 (b : Int)) (rd_T75 l3 (i : Int)).f2 (rd_T75 l3 (i : Int)).f3) [(a : Int), (b : Int)] [(rd_T75 l3 (i : Int)).f2, (rd_T75 l3 (i : Int)).f3] ((0 : Nat) : Int) = _
    obtain ⟨N, hN⟩ : ∃ N, N = cntI (rd p.2 (a : Int)) (rd p.2 (b : Int)) (rd_T75 l3 (i : Int)).f2 (rd_T75 l3 (i : Int)).f3 := ⟨_, rfl⟩
    rw [← hN] at B ⊢
    have ta := B.2.1
    rw [Qcu l0 ds rs l3 n a i 0 N (rd_T75 l3 (i : Int)).f2 _ _ p (k + 3) D I ha (by omega) hl (by omega) rfl rfl rfl rfl x0 B.1 ta k2.2.2]
    have I1 := QbF ds rs n a (N * 1000 * (rd_T75 l3 (i : Int)).f2) (rd_T75 l3 (i : Int)).f4 p D I ha x0 ta k2.2.2
    have e1 := Qcz ds rs a b (N * 1000 * (rd_T75 l3 (i : Int)).f2) (rd_T75 l3 (i : Int)).f4 p (by omega) (fun h => ab h.symm)
    rw [Qcu l0 ds rs l3 n b i 1 N (rd_T75 l3 (i : Int)).f3 _ _ _ (k + 2) D I1 hb (by omega) hl (by omega) rfl rfl rfl rfl (by rw [e1]; exact y0) B.1 (by rw [e1]; exact B.2.2) k2.2.2,
     Qaa.l2, if_neg (by decide)]
    exact GO (k + 1) _ (by omega) (QbF ds rs n b _ _ _ D I1 hb (by rw [e1]; exact y0) (by rw [e1]; exact B.2.2) k2.2.2)
theorem QdU (l0 : List ByteArray) (l1 l2 : List Int) (l3 : List Crd) (h1 : l1.length = l0.length) (h2 : l2.length = l0.length) (hl : l0.length < 17592186044416) : ∀ n i k : Nat, i + n = l0.length →
  Qaa.l0 (n + 1 + k) l0 l1 l2 l3 (i : Int) = if mayN l0 l1 l2 i n = true then Qaa.l1 k l0 l1 l2 l3 (List.replicate l0.length 0) l1 0 else some ([], [], 2) := by
 intro n
 induction n with
 | zero =>
  intro i k hi
  rw [show 0 + 1 + k = k + 1 by omega, Qaa.l0, if_neg (by omega), if_pos (by omega), Int.toNat_natCast, if_pos (by omega), if_pos (by simp; omega), mayN, if_pos rfl]
  rfl
 | succ n ih =>
  intro i k hi
  have IH := ih (i + 1) k (by omega)
  have w : wrap64 ((i : Int) + 1) = ((i + 1 : Nat) : Int) := by rw [nwrap (by omega) (by omega)]; omega
  obtain ⟨R, hR⟩ : ∃ R, R = Qaa.l1 k l0 l1 l2 l3 (List.replicate l0.length 0) l1 0 := ⟨_, rfl⟩
  rw [← hR] at IH ⊢
  rw [show n + 1 + 1 + k = (n + 1 + k) + 1 by omega, Qaa.l0, if_pos (by omega), QdA l0 i (([] : List Int), ([] : List Int), (2 : Int)) (by omega) (by omega), Qb7, w, IH]
  clear w IH
  unfold mayAt
  rw [if_pos (show (i : Int) < (l1.length : Int) by omega), if_pos (show (i : Int) < (l2.length : Int) by omega), Qbx, Option.bind_some, Qbx, Option.bind_some]
  cases (decide (i = 0) || ltB (nmI l0 (i - 1)) (nmI l0 i)) <;> cases decide (-1099511627776 ≤ rd l1 (i : Int) ∧ rd l1 (i : Int) ≤ 1099511627776) <;> cases decide (0 ≤ rd l2 (i : Int) ∧ rd l2 (i : Int) ≤ 1152921504606846976) <;> simp
theorem Qeb (l0 : List ByteArray) (l1 l2 : List Int) (l3 : List Crd) (hl : l0.length < 17592186044416) (big : bigC l3) (k : Nat) (hk : 9000 + 3 * l0.length + szC l3 ≤ k) :
  Qaa.f k l0 l1 l2 l3 = some (saveS l0 l1 l2 l3) := by
 obtain ⟨k, rfl⟩ : ∃ m, k = m + 1 := ⟨k - 1, by omega⟩
 unfold Qaa.f saveS
 rw [Qc6 l3 big _ (by omega), Option.bind_some]
 by_cases c : crS l3 = 0
 ·rw [if_pos c, if_pos c]
  by_cases h1 : l1.length = l0.length
  ·rw [if_pos (by omega), Qaa.j0]
   by_cases h2 : l2.length = l0.length
   ·have R := QdU l0 l1 l2 l3 h1 h2 hl l0.length 0 (k - l0.length - 1) (by omega)
    rw [show l0.length + 1 + (k - l0.length - 1) = k by omega, show ((0 : Nat) : Int) = 0 from rfl] at R
    rw [if_neg (by rw [h2]; simp), R]
    by_cases m : mayS l0 l1 l2 = true
    ·have M := QbT m
     have m' : mayN l0 l1 l2 0 l0.length = true := by unfold mayS at m; rw [Bool.and_eq_true] at m; exact m.2
     obtain ⟨c1, c2⟩ := crS_ok c
     rw [if_pos m, if_pos m']
     have L := r_loop l0 l1 l2 l0.length rfl (by omega) (may_pl M) (QcD M) l3 c1 c2 l3.length 0 (k - l0.length - 1) (List.replicate l0.length 0, l1) (by omega) (by omega) (QcE M)
     rw [show ((0 : Nat) : Int) = 0 from rfl, List.drop_zero] at L
     exact L
    rw [if_neg m, if_neg (fun h => m (by unfold mayS; rw [Bool.and_eq_true]; exact ⟨decide_eq_true ⟨h1, h2⟩, h⟩))]
   rw [if_pos (by rw [bne_iff_ne]; omega), if_neg (fun h => h2 (QbT h).h2)]
  rw [if_neg (by omega), Qaa.j0, if_pos rfl, if_neg (fun h => h1 (QbT h).h1)]
 rw [if_neg c, if_neg c]
end Go.Proofs.Ytggbflplbblgbaa.Pr
