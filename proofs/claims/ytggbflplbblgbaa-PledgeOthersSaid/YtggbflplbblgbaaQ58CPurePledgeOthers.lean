/- PledgeOthers: operations do not affect other accounts, and Move preserves the totals. -/
import Derived.Test.YtggbflplbblgbaaQ58CLmBytes
import Derived.Test.YtggbflplbblgbaaQ58CLmName
import Derived.Test.YtggbflplbblgbaaQ58CLmPledge
import Derived.Test.YtggbflplbblgbaaQ58CLmPledge2
import Derived.Test.YtggbflplbblgbaaQ58CLmPledgeMove
import Derived.Test.YtggbflplbblgbaaQ58CLmPledgeOf
import Derived.Test.YtggbflplbblgbaaQ58CLmPledgeOth
import Derived.Test.YtggbflplbblgbaaQ58CP0
import Derived.Test.YtggbflplbblgbaaQ58CP6
import Derived.Test.YtggbflplbblgbaaQ58CPrxDPledgeOthers
namespace Go.Proofs.Ytggbflplbblgbaa.Pure
open Go.RowKit Go.Proofs.Ytggbflplbblgbaa.Pr Go.Proofs.YtggbflplbblgbaaW.PrintWords Go.Proofs.YtggbflplbblgbaaW.PrintLast Go.Proofs.YtggbflplbblgbaaW.PrintMore
set_option linter.unusedVariables false
set_option linter.unusedSimpArgs false
theorem oth_l1 (L A : List Pled) (a b c d : ByteArray) (hL : L.length ≤ 1024) (hA : A.length ≤ 1024) (hqL : ∀ p ∈ L, 0 ≤ p.f2 ∧ p.f2 ≤ 1152921504606846976) (hqA : ∀ p ∈ A, 0 ≤ p.f2 ∧ p.f2 ≤ 1152921504606846976)
    (h1 : ∀ s, hasS s A = hasS s L) (h2 : ∀ s, hadP (c, d, s) A = hadP (c, d, s) L + hadP (a, b, s) L) (h3 : ∀ s, hadP (c, d, s) L + hadP (a, b, s) L ≤ 1152921504606846976) : ∀ n i k : Nat, i + n = L.length → n + 2000 ≤ k → contangolaw32_PledgeOthers.l1 k L A (L.length : Int) (i : Int) a b c d = some true := by
  intro n
  induction n with
  | zero =>
    intro i k hi hk
    obtain ⟨k, rfl⟩ : ∃ m, k = m + 1 := ⟨k - 1, by omega⟩
    rw [contangolaw32_PledgeOthers.l1, if_neg (by omega), pgoes _ (by omega)]; rfl
  | succ n ih =>
    intro i k hi hk
    obtain ⟨k, rfl⟩ : ∃ m, k = m + 1 := ⟨k - 1, by omega⟩
    obtain ⟨s, hs⟩ : ∃ s, (rd_T26 L (i : Int)).f1 = s := ⟨_, rfl⟩
    have q1 := pqty_eq (c, d, s) A (by omega) k (by omega)
    have q2 := pqty_eq (c, d, s) L (by omega) k (by omega)
    have q3 := pqty_eq (a, b, s) L (by omega) k (by omega)
    simp only at q1 q2 q3
    have n1 : 0 ≤ hadP (c, d, s) L := had_prop (fun n => 0 ≤ n) _ _ (by omega) (fun p hp => (hqL p hp).1)
    have n2 : 0 ≤ hadP (a, b, s) L := had_prop (fun n => 0 ≤ n) _ _ (by omega) (fun p hp => (hqL p hp).1)
    have n3 := h3 s
    rw [contangolaw32_PledgeOthers.l1, if_pos (by omega), if_pos (by omega), if_pos (by omega), hs, has_eq s A hA hqA k (by omega), Option.bind_some, has_eq s L hL hqL k (by omega), Option.bind_some, if_pos (h1 s), q1, Option.bind_some, q2, Option.bind_some, q3, Option.bind_some, nwrap (x := _ + _) (by omega) (by omega), if_pos (h2 s), nwrap (by omega) (by omega), show ((i : Int) + 1) = ((i + 1 : Nat) : Int) by omega]
    exact ih (i + 1) k (by omega) (by omega)
theorem oth_end (L : List Pled) (hL : L.length ≤ 300) (hbig : ∀ p ∈ L, bigOk p) (hadj : ∀ p ∈ L, okQty p.f2 = true → (1024 : Int) ∣ p.f2 ∧ 1 ≤ p.f2 ∧ p.f2 ≤ 1024000000) (a b c d x y : ByteArray) (ha : a.size ≤ 9223372036854775807) (hb : b.size ≤ 9223372036854775807) (hc : c.size ≤ 9223372036854775807) (hd : d.size ≤ 9223372036854775807)
    (k : Nat) (hk : 9000 + szsP L + a.size + b.size + c.size + d.size ≤ k) : contangolaw32_PledgeOthers.l0 k L (L.length : Int) (L.length : Int) a b c d x y = some true := by
  obtain ⟨k, rfl⟩ : ∃ m, k = m + 1 := ⟨k - 1, by omega⟩
  rw [contangolaw32_PledgeOthers.l0, if_neg (by omega), pmove_eq L a b c d k (by omega), Option.bind_some]
  by_cases he : (moveS L a b c d).2 = 0
  · rw [if_pos he]
    obtain ⟨hg, hn, hne⟩ := moveS_ok L a b c d he
    have hq : ∀ p ∈ L, (1024 : Int) ∣ p.f2 ∧ 1 ≤ p.f2 ∧ p.f2 ≤ 1024000000 := fun p hp => hadj p hp (hg.2.2 p hp).2
    have hv := moveS_val L a b c d hg hn hne (fun p hp => (hq p hp).2)
    rw [hv]
    show (pledge_Check.f k (mvF c d (notP a b L) (ofP a b L))).bind _ = some true
    obtain ⟨A, hA⟩ : ∃ A, mvF c d (notP a b L) (ofP a b L) = A := ⟨_, rfl⟩
    have hsn : sortedP (notP a b L) := sorted_fil _ hg.2.1
    have hso : sortedP (ofP a b L) := sorted_fil _ hg.2.1
    have hio : ∀ p ∈ ofP a b L, isOf a b p = true := fun p hp => (List.mem_filter.1 hp).2
    have hln := not_of_len a b L
    have hlA := mvF_len c d (ofP a b L) (notP a b L) hsn
    have hsA := mvF_sorted c d (ofP a b L) (notP a b L) hsn
    simp only [Bool.and_eq_true] at hn
    have hnA := mvF_ok c d hn.2.2.1 hn.2.2.2 (ofP a b L) (notP a b L) hsn (fun p hp => (hg.2.2 p (List.mem_filter.1 hp).1).1) (fun p hp => (hg.2.2 p (List.mem_filter.1 hp).1).1)
    have hhad : ∀ s, hadP (c, d, s) (notP a b L) = hadP (c, d, s) L := fun s => had_notP a b c d s hne L
    have hb1 : ∀ q, hadP q L ≤ 1024000000 := fun q => had_prop (fun n => n ≤ 1024000000) q L (by omega) (fun p hp => (hq p hp).2.2)
    have hqA := mvF_qty a b c d 2048000000 (ofP a b L) (notP a b L) hsn hso hio (fun p hp => by have := (hq p (List.mem_filter.1 hp).1).2; omega) (fun p hp => by rw [hhad]; have := (hq p (List.mem_filter.1 hp).1).2; have := hb1 (c, d, p.f1); omega)
    have hoA := mvF_of c d a b hne (ofP a b L) (notP a b L) hsn
    have hoo : ofP a b (notP a b L) = [] := by
      rw [ofP_is]; unfold notP; rw [List.filter_filter]
      refine List.filter_eq_nil_iff.2 fun p _ => ?_
      cases isOf a b p <;> simp
    have hfA : ∀ s, hadP (c, d, s) A = hadP (c, d, s) L + hadP (a, b, s) L := fun s => by
      rw [← hA, mvF_had a b c d s (ofP a b L) (notP a b L) hsn hso hio, hhad, had_ofP]
    have hhA : ∀ s, hasS s A = hasS s L := fun s => by
      rw [← hA, mvF_has a b c d s (ofP a b L) (notP a b L) hsn (fun p hp => (hq p (List.mem_filter.1 hp).1).1) (fun p hp => (hq p (List.mem_filter.1 hp).1).1), ← hasS_split]
    have hot : ∀ x y, ¬ (x = a ∧ y = b) → ¬ (x = c ∧ y = d) → ofP x y A = ofP x y L := fun x y h1 h2 => by
      rw [← hA, mvF_of c d x y h2 (ofP a b L) (notP a b L) hsn, ofP_is, ofP_is]
      unfold notP
      rw [List.filter_filter]
      refine List.filter_congr fun p _ => ?_
      cases hx : isOf x y p with
      | false => rfl
      | true =>
        rw [isOf_ne (isOf_key hx) (fun z => h1 ⟨z.1.symm, z.2.symm⟩)]; rfl
    rw [hA] at hlA hsA hnA hqA hoA ⊢
    have hgA : goodP A := ⟨by omega, hsA, fun p hp => ⟨hnA p hp, (okQty_iff _).2 (by have := hqA p hp; omega)⟩⟩
    have hlen : ¬ ((A.length : Int) > (L.length : Int)) := by omega
    rw [pcheck_eq A k (by omega), Option.bind_some, if_pos ((chkP_zero A).2 hgA), of_eq a b A (by omega) k (by omega), Option.bind_some, hoA, hoo, if_pos (by rfl)]
    have hj2 : ∀ k : Nat, 4000 ≤ k → contangolaw32_PledgeOthers.j2 k L A false a b c d = some true := by
      intro k hk
      obtain ⟨k, rfl⟩ : ∃ m, k = m + 1 := ⟨k - 1, by omega⟩
      rw [contangolaw32_PledgeOthers.j2, if_neg (by simp), show (0 : Int) = ((0 : Nat) : Int) from rfl]
      exact oth_l1 L A a b c d (by omega) (by omega) (fun p hp => by have := (hq p hp).2; omega) (fun p hp => by have := hqA p hp; omega) hhA hfA (fun s => by have := hb1 (c, d, s); have := hb1 (a, b, s); omega) L.length 0 k (by omega) (by omega)
    obtain ⟨k, rfl⟩ : ∃ m, k = m + 1 := ⟨k - 1, by omega⟩
    rw [contangolaw32_PledgeOthers.j1, show (decide ((A.length : Int) > (L.length : Int))) = false from decide_eq_false hlen, if_neg (by simp)]
    have hcd : ∀ u v : ByteArray, ((!(x.toList == u.toList) || (!(y.toList == v.toList))) = true) ↔ ¬ (x = u ∧ y = v) := by
      intro u v
      simp only [Bool.or_eq_true, Bool.not_eq_true', beq_eq_false_iff_ne, ne_eq, tl_iff]
      by_cases z1 : x = u <;> by_cases z2 : y = v <;> simp [z1, z2]
    simp only [hcd]
    by_cases z1 : x = a ∧ y = b
    · rw [if_neg (fun h => h z1)]; exact hj2 k (by omega)
    · rw [if_pos z1]
      by_cases z2 : x = c ∧ y = d
      · rw [if_neg (fun h => h z2)]; exact hj2 k (by omega)
      · have ho1 := ofP_len x y L
        rw [if_pos z2, of_eq x y A (by omega) k (by omega), Option.bind_some, of_eq x y L (by omega) k (by omega), Option.bind_some, hot x y z1 z2, psame_refl _ (by omega) k (by omega), Option.bind_some]
        exact hj2 k (by omega)
  · rw [if_neg he, prcheck_eq L hbig k (by omega), Option.bind_some, moveS_err L a b c d he, rname_eq a ha k (by omega), rname_eq b hb k (by omega), rname_eq c hc k (by omega), rname_eq d hd k (by omega), pgoes k (by omega)]
    have hcd : ((!(a.toList == c.toList) || (!(b.toList == d.toList))) = true) ↔ ¬ (a = c ∧ b = d) := by
      simp only [Bool.or_eq_true, Bool.not_eq_true', beq_eq_false_iff_ne, ne_eq, tl_iff]
      by_cases z1 : a = c <;> by_cases z2 : b = d <;> simp [z1, z2]
    simp only [hcd, Option.bind_some, List.length_nil]
    by_cases h1 : chkP L = 0
    · have hg := (chkP_zero L).1 h1
      by_cases h2 : a = c ∧ b = d
      · simp [h1, h2]
      · by_cases hn : (nameOk a && (nameOk b && (nameOk c && nameOk d))) = true
        · exfalso
          refine he ?_
          rw [moveS_val L a b c d hg hn h2 (fun p hp => (hadj p hp (hg.2.2 p hp).2).2)]
        · rw [if_pos h1, if_pos h2]
          revert hn
          cases nameOk a <;> cases nameOk b <;> cases nameOk c <;> cases nameOk d <;> simp
    · rw [if_neg h1]; rfl
theorem PledgeOthers : contangolaw32_PledgeOthers.Pure := by
  intro l a b c d x y _ _ hok ha hb hc hd _ _
  have hbig := pok_big hok
  obtain ⟨B, hB⟩ : ∃ B, B = 9000 + szsP (l.map adjP) + a.size + b.size + c.size + d.size := ⟨_, rfl⟩
  refine ⟨B + l.length + 10, ?_⟩
  unfold contangolaw32_PledgeOthers.f
  by_cases hl : (l.length : Int) > 300
  · rw [if_pos hl, pgoes _ (by omega)]; rfl
  · rw [if_neg hl, Option.bind_some, if_pos (by simp; omega), Option.bind_some]
    simp only [List.nil_append]
    have hend := oth_end (l.map adjP) (by rw [List.length_map]; omega) (fun p hp => by
        obtain ⟨p0, h0, rfl⟩ := List.mem_map.1 hp
        have := hbig p0 h0
        have h1 := adjP_name p0
        unfold bigOk at *
        rw [h1.1, h1.2]; exact this) (fun p hp hq => by
        obtain ⟨p0, h0, rfl⟩ := List.mem_map.1 hp
        exact adjP_qty p0 hq) a b c d x y ha hb hc hd
    rw [List.length_map] at hend
    have hloop : ∀ n i k : Nat, i + n = l.length → n + B ≤ k → contangolaw32_PledgeOthers.l0 k ((l.take i).map adjP ++ l.drop i) (l.length : Int) (i : Int) a b c d x y = some true := by
      intro n
      induction n with
      | zero =>
        intro i k hi hk
        have hil : i = l.length := by omega
        subst hil
        rw [List.take_length, List.drop_length, List.append_nil]
        exact hend k (by omega)
      | succ n ih =>
        intro i k hi hk
        obtain ⟨k, rfl⟩ : ∃ m, k = m + 1 := ⟨k - 1, by omega⟩
        have hil : i < l.length := by omega
        have hlt : ((l.take i).map adjP).length = i := by rw [List.length_map, List.length_take]; omega
        have hll : ((l.take i).map adjP ++ l.drop i).length = l.length := by rw [List.length_append, hlt, List.length_drop]; omega
        have hr : rd_T26 ((l.take i).map adjP ++ l.drop i) (i : Int) = l[i] := by
          rw [pl_rd _ i (by omega)]
          rw [List.getElem_append_right (by omega)]
          simp only [hlt, Nat.sub_self]
          rw [List.getElem_drop]
          simp
        have hst : ∀ v : Pled, v = adjP l[i] → ((l.take i).map adjP ++ l.drop i).set ((i : Int)).toNat v = (l.take (i + 1)).map adjP ++ l.drop (i + 1) := by
          intro v hv
          rw [Int.toNat_natCast, List.set_append_right _ _ (by omega), hlt, Nat.sub_self, List.drop_eq_getElem_cons hil, List.set_cons_zero, List.take_succ_eq_append_getElem hil, List.map_append, List.append_assoc, hv]
          rfl
        rw [contangolaw32_PledgeOthers.l0, if_pos (by omega), if_pos (by omega), if_pos (by omega), hr, nwrap (x := (i : Int) + 1) (by omega) (by omega), show ((i : Int) + 1) = ((i + 1 : Nat) : Int) by omega]
        by_cases hp : l[i].f2 > 0
        · rw [if_pos hp, hst _ (by unfold adjP; rw [if_pos hp])]
          exact ih (i + 1) k (by omega) (by omega)
        · rw [if_neg hp]
          have : (l.take i).map adjP ++ l.drop i = (l.take (i + 1)).map adjP ++ l.drop (i + 1) := by
            rw [List.drop_eq_getElem_cons hil, List.take_succ_eq_append_getElem hil, List.map_append, List.append_assoc]
            congr 1
            have : adjP l[i] = l[i] := by unfold adjP; rw [if_neg hp]
            rw [List.map_cons, this]
            rfl
          rw [this]
          exact ih (i + 1) k (by omega) (by omega)
    have := hloop l.length 0 (B + l.length + 10) (by omega) (by omega)
    rw [List.take_zero, List.map_nil, List.nil_append, List.drop_zero] at this
    exact this
end Go.Proofs.Ytggbflplbblgbaa.Pure
