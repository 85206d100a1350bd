/- scan: Losses, Risk, Delta over what found tells. -/
import Derived.Test.YtgnmhfjfefgbfaaQ5C0LmPos
import Derived.Test.YtgnmhfjfefgbfaaQ5C0LmScan
import Derived.Test.YtgnmhfjfefgbfaaQ5C0LmSums
import Derived.Test.YtgnmhfjfefgbfaaQ5C0P0
import Derived.Test.YtgnmhfjfefgbfaaQ5C0P2
import Derived.Test.YtgnmhfjfefgbfaaQ5C0P3
namespace Go.Proofs.Ytgnmhfjfefgbfaa.Pr
open Go.RowKit Go.Proofs.Ytgnmhfjfefgbfaa.Pr Go.Proofs.YtgnmhfjfefgbfaaW.PrintWords Go.Proofs.YtgnmhfjfefgbfaaW.PrintLast Go.Proofs.YtgnmhfjfefgbfaaW.PrintMore
set_option linter.unusedVariables false
set_option linter.unusedSimpArgs false
theorem fnd_ok {ce : Int} {L : List Posn} {arr : List Arr} (h : (fndS ce L arr).2 = 0) : ce = 0 ∧ chk L = 0 ∧ ∃ o, ownM arr L = some o ∧ fndS ce L arr = (o, 0) := by
 unfold fndS at h ⊢
 by_cases h1 : ce = 0
 ·rw [if_pos h1] at h ⊢
  by_cases h2 : chk L = 0
  ·rw [if_pos h2] at h ⊢
   cases ho : ownM arr L with
   | none => rw [ho] at h; cases h
   | some o => exact ⟨h1, h2, o, rfl, rfl⟩
  rw [if_neg h2] at h; exact absurd h h2
 rw [if_neg h1] at h; exact absurd h h1
theorem Qgb {ce : Int} {L : List Posn} {arr : List Arr} (h : (fndS ce L arr).2 ≠ 0) : (fndS ce L arr).1 = [] := by
 unfold fndS at h ⊢
 by_cases h1 : ce = 0
 ·rw [if_pos h1] at h ⊢
  by_cases h2 : chk L = 0
  ·rw [if_pos h2] at h ⊢
   cases ho : ownM arr L with
   | none => rfl
   | some o => rw [ho] at h; exact absurd rfl h
  rw [if_neg h2]
 rw [if_neg h1]
theorem Qct {arr : List Arr} : ∀ {L : List Posn} {o : List Arr}, ownM arr L = some o → o.length = L.length ∧ ∀ a ∈ o, a ∈ arr
 | [], o, h => by
  have := Option.some.inj h
  subst this; exact ⟨rfl, fun a ha => (List.not_mem_nil ha).elim⟩
 | p :: t, o, h => by
  rw [ownM] at h
  obtain ⟨a, h1, h2⟩ := Option.bind_eq_some_iff.1 h
  obtain ⟨r, h3, h4⟩ := Option.map_eq_some_iff.1 h2
  subst h4
  obtain ⟨h5, h6⟩ := Qct h3
  refine ⟨by simp [h5], fun b hb => ?_⟩
  rcases List.mem_cons.1 hb with rfl | hb
  ·exact List.mem_of_find?_eq_some h1
  exact h6 b hb
theorem Qcr {L : List Posn} (h : chk L = 0) : L.length ≤ 128 := by
 unfold chk at h
 by_cases q : (L.length : Int) > 128
 ·rw [if_pos q] at h; cases h
 omega
theorem Qds {arr : List Arr} (h : uniS arr 0) {a : Arr} (ha : a ∈ arr) : a.f1.length = (Qaa arr 0).f1.length ∧ a.f1.length ≤ 32 := by
 obtain ⟨j, hj, e⟩ := List.mem_iff_getElem.1 ha
 have h1 := h j (by omega) hj
 have h2 : Qaa arr (j : Int) = a := by
  unfold Qaa
  rw [Int.toNat_natCast, List.getD_eq_getElem?_getD, List.getElem?_eq_getElem hj, e]; rfl
 rw [h2] at h1; exact h1
theorem Qdl {l : List Arr} {i : Nat} (h : i < l.length) : Qaa l (i : Int) ∈ l := by
 unfold Qaa
 rw [Int.toNat_natCast, List.getD_eq_getElem?_getD, List.getElem?_eq_getElem h]
 exact List.getElem_mem h
def colvS (c : Nat) (p : Posn) (a : Arr) : Int := wrap64 ((wrap64 (p.f1 - p.f2)) * (rd a.f1 (c : Int)))
def colS (c : Nat) (L : List Posn) (o : List Arr) : List Int := List.zipWith (colvS c) L o
theorem Qc8 {γ : Type} (f : Posn → Arr → γ) (L : List Posn) (o : List Arr) (h : o.length = L.length) (j : Nat) (hj : j < L.length) : (List.zipWith f L o).drop j = f (rd_T71 L (j : Int)) (Qaa o (j : Int)) :: (List.zipWith f L o).drop (j + 1) := by
 rw [List.drop_zipWith, List.drop_zipWith, Qc5 L j hj, QdP o j (by omega), List.zipWith_cons_cons]
theorem ls_in (L : List Posn) (o : List Arr) (acc : List Int) (c : Nat) (m : Nat) (hm : m ≤ 32) (hc : c < m) (hL : L.length ≤ 128) (ho : o.length = L.length) (hu : ∀ a ∈ o, a.f1.length = m) : ∀ n j k : Nat, j + n = L.length → n + 1 ≤ k → ∀ x : List Int, x.length = j →
  ∃ k', k ≤ k' + n + 1 ∧ Qaz.l1 k L acc o (c : Int) x (m : Int) (c : Int) L (L.length : Int) (j : Int) = ((QaV.f k' (x ++ (colS c L o).drop j)).bind fun bt146 => (if bt146.2 = 0 then (if acc.length < 17592186044416 then (Qaz.l0 k' L (acc ++ [bt146.1]) o (m : Int) (wrap64 ((c : Int) + 1))) else (none)) else (some (([] : List Int), bt146.2)))) := by
 intro n
 induction n with
 | zero =>
  intro j k hj hk x hx
  obtain ⟨k, rfl⟩ : ∃ q, k = q + 1 := ⟨k - 1, by omega⟩
  rw [Qaz.l1, if_neg (show ¬ (j : Int) < (L.length : Int) by omega), List.drop_of_length_le (by unfold colS; rw [List.length_zipWith]; omega), List.append_nil]
  exact ⟨k, by omega, rfl⟩
 | succ n ih =>
  intro j k hj hk x hx
  obtain ⟨k, rfl⟩ : ∃ q, k = q + 1 := ⟨k - 1, by omega⟩
  have e1 := hu _ (Qdl (l := o) (i := j) (by omega))
  rw [Qaz.l1, if_pos (show (j : Int) < (L.length : Int) by omega), if_pos (show (0 : Int) ≤ (j : Int) by omega), if_pos (show (j : Int) < (L.length : Int) by omega), if_pos (show (j : Int) < (o.length : Int) by omega), if_pos (show (0 : Int) ≤ (c : Int) by omega), if_pos (by omega), if_pos (by omega), smW1 (by omega)]
  obtain ⟨k', h1, h2⟩ := ih (j + 1) k (by omega) (by omega) (x ++ [colvS c (rd_T71 L (j : Int)) (Qaa o (j : Int))]) (by simp [hx])
  refine ⟨k', by omega, h2.trans ?_⟩
  rw [show (colS c L o).drop j = colvS c (rd_T71 L (j : Int)) (Qaa o (j : Int)) :: (colS c L o).drop (j + 1) from Qc8 (colvS c) L o ho j (by omega), List.append_assoc]
  rfl
theorem ls_out (L : List Posn) (o : List Arr) (m : Nat) (hm : m ≤ 32) (hL : L.length ≤ 128) (ho : o.length = L.length) (hu : ∀ a ∈ o, a.f1.length = m) : ∀ n c k : Nat, c + n = m → 300 * n + 300 ≤ k → ∀ acc : List Int, acc.length = c →
  ∃ r e, Qaz.l0 k L acc o (m : Int) (c : Int) = some (r, e) ∧ (e = 0 → r = acc ++ (List.range' c n).map (fun q => (colS q L o).sum)) ∧ (e ≠ 0 → r = []) := by
 intro n
 induction n with
 | zero =>
  intro c k hc hk acc ha
  obtain ⟨k, rfl⟩ : ∃ q, k = q + 1 := ⟨k - 1, by omega⟩
  rw [Qaz.l0, if_neg (show ¬ (c : Int) < (m : Int) by omega)]
  exact ⟨acc, 0, rfl, fun _ => by simp, fun h => absurd rfl h⟩
 | succ n ih =>
  intro c k hc hk acc ha
  obtain ⟨k, rfl⟩ : ∃ q, k = q + 1 := ⟨k - 1, by omega⟩
  rw [Qaz.l0, if_pos (show (c : Int) < (m : Int) by omega)]
  obtain ⟨k', h1, h2⟩ := ls_in L o acc c m hm (by omega) hL ho hu L.length 0 k (by omega) (by omega) [] rfl
  rw [show ((0 : Nat) : Int) = 0 from rfl, List.nil_append, List.drop_zero] at h2
  have hcl : (colS c L o).length = L.length := by unfold colS; rw [List.length_zipWith]; omega
  rw [h2, sum_eq (colS c L o) (by omega) k' (by omega), Option.bind_some]
  unfold sumS
  by_cases g1 : ∀ x ∈ colS c L o, mdFits x
  ·rw [if_pos g1]
   by_cases g2 : mdFits (colS c L o).sum
   ·rw [if_pos g2, if_pos rfl, if_pos (by omega), smW1 (by omega)]
    obtain ⟨r, e, h3, h4, h5⟩ := ih (c + 1) k' (by omega) (by omega) (acc ++ [(colS c L o).sum]) (by simp [ha])
    refine ⟨r, e, h3, fun h => ?_, h5⟩
    rw [h4 h, List.range'_succ, List.map_cons, List.append_assoc]; rfl
   rw [if_neg g2, if_neg (by decide)]
   exact ⟨[], 3, rfl, fun h => absurd h (by decide), fun _ => rfl⟩
  rw [if_neg g1, if_neg (by decide)]
  exact ⟨[], 2, rfl, fun h => absurd h (by decide), fun _ => rfl⟩
def widS (arr : List Arr) : Nat := if arr.length = 0 then 0 else (Qaa arr 0).f1.length
theorem los_ex (ce : Int) (arr : List Arr) (L : List Posn) (hl : arr.length ≤ 130) (hc : ∀ k, 6000 ≤ k → Qar.f k arr = some ce) (hu : ce = 0 → uniS arr 0) :
  ∃ r e, (∀ k, 30000 ≤ k → Qaz.f k L arr = some (r, e)) ∧ (e = 0 → (fndS ce L arr).2 = 0 ∧ r = (List.range' 0 (widS arr)).map (fun q => (colS q L (fndS ce L arr).1).sum)) ∧ (e ≠ 0 → r = []) := by
 by_cases h : (fndS ce L arr).2 = 0
 ·obtain ⟨c1, c2, o, c3, c4⟩ := fnd_ok h
  by_cases h0 : arr.length = 0
  ·refine ⟨[], 0, fun k hk => ?_, fun _ => ⟨h, by rw [widS, if_pos h0]; rfl⟩, fun _ => rfl⟩
   unfold Qaz.f
   rw [fnd_eq ce arr L hl hc k (by omega), Option.bind_some, if_pos h]
   obtain ⟨k, rfl⟩ : ∃ q, k = q + 1 := ⟨k - 1, by omega⟩
   rw [Qaz.j0, if_pos (by rw [h0]; rfl), h]
  have U := hu c1
  obtain ⟨o1, o2⟩ := Qct c3
  have hm : (Qaa arr 0).f1.length ≤ 32 := (Qds U (Qdl (l := arr) (i := 0) (by omega))).2
  obtain ⟨r, e, h1, h2, h3⟩ := ls_out L o (Qaa arr 0).f1.length hm (Qcr c2) o1 (fun a ha => (Qds U (o2 a ha)).1) (Qaa arr 0).f1.length 0 29000 (by omega) (by omega) [] rfl
  refine ⟨r, e, fun k hk => ?_, fun he => ⟨h, ?_⟩, h3⟩
  ·refine QbV (Qaz.mono L arr) (show 29001 ≤ k by omega) ?_
   unfold Qaz.f
   rw [fnd_eq ce arr L hl hc 29001 (by omega), Option.bind_some, if_pos h, Qaz.j0, if_neg (by simp; intro h'; exact h0 (by rw [h']; rfl)), if_pos (by omega), c4]
   exact h1
  rw [h2 he, widS, if_neg h0, c4]; rfl
 refine ⟨[], (fndS ce L arr).2, fun k hk => ?_, fun he => absurd he h, fun _ => rfl⟩
 unfold Qaz.f
 rw [fnd_eq ce arr L hl hc k (by omega), Option.bind_some, if_neg h]
 obtain ⟨k, rfl⟩ : ∃ q, k = q + 1 := ⟨k - 1, by omega⟩
 rw [Qaz.j0, if_pos rfl]
theorem QfR (r : List Int) (e : Int) (hr : r.length ≤ 32) : ∀ n i k : Nat, i + n = r.length → n + 1 ≤ k → ∀ R s : Int,
  ∃ R' s', QaI.l0 k R s e r (r.length : Int) (i : Int) = some (R', s', e) ∧ R ≤ R' ∧ (∀ x ∈ r.drop i, x ≤ R') ∧ (R' = R ∨ R' ∈ r.drop i) := by
 intro n
 induction n with
 | zero =>
  intro i k hi hk R s
  obtain ⟨k, rfl⟩ : ∃ q, k = q + 1 := ⟨k - 1, by omega⟩
  rw [QaI.l0, if_neg (show ¬ (i : Int) < (r.length : Int) by omega), List.drop_of_length_le (by omega)]
  exact ⟨R, s, rfl, by omega, fun x hx => (List.not_mem_nil hx).elim, .inl rfl⟩
 | succ n ih =>
  intro i k hi hk R s
  obtain ⟨k, rfl⟩ : ∃ q, k = q + 1 := ⟨k - 1, by omega⟩
  rw [QaI.l0, if_pos (show (i : Int) < (r.length : Int) by omega), if_pos (show (0 : Int) ≤ (i : Int) by omega), if_pos (show (i : Int) < (r.length : Int) by omega), smW1 (by omega), Qdr r i (by omega)]
  by_cases h : rd r (i : Int) > R
  ·rw [if_pos h]
   obtain ⟨R', s', h1, h2, h3, h4⟩ := ih (i + 1) k (by omega) (by omega) (rd r (i : Int)) (i : Int)
   refine ⟨R', s', h1, by omega, fun x hx => ?_, ?_⟩
   ·rcases List.mem_cons.1 hx with rfl | hx
    ·exact h2
    exact h3 x hx
   rcases h4 with h4 | h4
   ·exact .inr (by rw [h4]; exact List.mem_cons_self)
   exact .inr (List.mem_cons_of_mem _ h4)
  rw [if_neg h]
  obtain ⟨R', s', h1, h2, h3, h4⟩ := ih (i + 1) k (by omega) (by omega) R s
  refine ⟨R', s', h1, h2, fun x hx => ?_, ?_⟩
  ·rcases List.mem_cons.1 hx with rfl | hx
   ·omega
   exact h3 x hx
  rcases h4 with h4 | h4
  ·exact .inl h4
  exact .inr (List.mem_cons_of_mem _ h4)
theorem mW_le {arr : List Arr} (h : uniS arr 0) : widS arr ≤ 32 := by
 unfold widS
 by_cases h0 : arr.length = 0
 ·rw [if_pos h0]; omega
 rw [if_neg h0]; exact (Qds h (Qdl (l := arr) (i := 0) (by omega))).2
theorem QeK (ce : Int) (arr : List Arr) (L : List Posn) (hl : arr.length ≤ 130) (hc : ∀ k, 6000 ≤ k → Qar.f k arr = some ce) (hu : ce = 0 → uniS arr 0) :
  ∃ R s e, (∀ k, 40000 ≤ k → QaI.f k L arr = some (R, s, e)) ∧ 0 ≤ R ∧ (e = 0 → (fndS ce L arr).2 = 0 ∧ (∀ c : Nat, c < widS arr → (colS c L (fndS ce L arr).1).sum ≤ R) ∧ (R = 0 ∨ ∃ c : Nat, c < widS arr ∧ R = (colS c L (fndS ce L arr).1).sum)) := by
 obtain ⟨r, e, h1, h2, h3⟩ := los_ex ce arr L hl hc hu
 have hr : r.length ≤ 32 := by
  by_cases he : e = 0
  ·obtain ⟨h4, h5⟩ := h2 he
   rw [h5, List.length_map, List.length_range']
   exact mW_le (hu (fnd_ok h4).1)
  rw [h3 he]; simp
 obtain ⟨R, s, h4, h5, h6, h7⟩ := QfR r e hr r.length 0 39000 (by omega) (by omega) 0 0
 rw [List.drop_zero] at h6 h7
 refine ⟨R, s, e, fun k hk => ?_, h5, fun he => ?_⟩
 ·refine QbV (QaI.mono L arr) (show 39000 ≤ k by omega) ?_
  unfold QaI.f
  rw [h1 39000 (by omega), Option.bind_some]
  exact h4
 obtain ⟨h8, h9⟩ := h2 he
 refine ⟨h8, fun c hc => h6 _ ?_, ?_⟩
 ·rw [h9]; exact List.mem_map.2 ⟨c, List.mem_range'_1.2 (by omega), rfl⟩
 rcases h7 with h7 | h7
 ·exact .inl h7
 rw [h9] at h7
 obtain ⟨c, hc, e1⟩ := List.mem_map.1 h7
 exact .inr ⟨c, by have := List.mem_range'_1.1 hc; omega, e1.symm⟩
theorem zeroW : wrap64 0 = 0 := by unfold wrap64; omega
theorem addW (a b : Int) : wrap64 (wrap64 a + b) = wrap64 (a + b) := by unfold wrap64; omega
def dltS (p : Posn) (a : Arr) : Int := wrap64 ((wrap64 (p.f1 - p.f2)) * a.f2)
theorem Qf9 (L : List Posn) (o : List Arr) (e : Int) (hL : L.length ≤ 128) (ho : o.length = L.length) : ∀ n i k : Nat, i + n = L.length → n + 1 ≤ k → ∀ D : Int, QaJ.l0 k L (wrap64 D) e o (o.length : Int) (i : Int) = some (wrap64 (D + ((List.zipWith dltS L o).drop i).sum), e) := by
 intro n
 induction n with
 | zero =>
  intro i k hi hk D
  obtain ⟨k, rfl⟩ : ∃ q, k = q + 1 := ⟨k - 1, by omega⟩
  rw [QaJ.l0, if_neg (show ¬ (i : Int) < (o.length : Int) by omega), List.drop_of_length_le (by rw [List.length_zipWith]; omega)]
  simp
 | succ n ih =>
  intro i k hi hk D
  obtain ⟨k, rfl⟩ : ∃ q, k = q + 1 := ⟨k - 1, by omega⟩
  rw [QaJ.l0, if_pos (show (i : Int) < (o.length : Int) by omega), if_pos (show (0 : Int) ≤ (i : Int) by omega), if_pos (show (i : Int) < (o.length : Int) by omega), if_pos (show (i : Int) < (L.length : Int) by omega), smW1 (by omega), addW, Qc8 dltS L o ho i (by omega), List.sum_cons, ← Int.add_assoc]
  exact ih (i + 1) k (by omega) (by omega) _
theorem Qfv (ce : Int) (arr : List Arr) (L : List Posn) (hl : arr.length ≤ 130) (hc : ∀ k, 6000 ≤ k → Qar.f k arr = some ce) (k : Nat) (hk : 30000 ≤ k) :
  QaJ.f k L arr = some (wrap64 (List.zipWith dltS L (fndS ce L arr).1).sum, (fndS ce L arr).2) := by
 unfold QaJ.f
 rw [fnd_eq ce arr L hl hc k (by omega), Option.bind_some]
 by_cases h : (fndS ce L arr).2 = 0
 ·obtain ⟨c1, c2, o, c3, c4⟩ := fnd_ok h
  rw [c4]
  have := Qf9 L o 0 (Qcr c2) (Qct c3).1 L.length 0 k (by omega) (by have := Qcr c2; omega) 0
  rw [List.drop_zero, Int.zero_add, zeroW] at this
  exact this
 rw [Qgb h]
 obtain ⟨k, rfl⟩ : ∃ q, k = q + 1 := ⟨k - 1, by omega⟩
 rw [QaJ.l0, if_neg (by simp), List.zipWith_nil_right, List.sum_nil, zeroW]
end Go.Proofs.Ytgnmhfjfefgbfaa.Pr
