/- Tier: Form, by the program and by the reference. -/
import Derived.Test.YtgnmhfjfefgbfaaQ5C0LmName
import Derived.Test.YtgnmhfjfefgbfaaQ5C0LmTier
import Derived.Test.YtgnmhfjfefgbfaaQ5C0LmTier2
import Derived.Test.YtgnmhfjfefgbfaaQ5C0P0
import Derived.Test.YtgnmhfjfefgbfaaQ5C0P2
import Derived.Test.YtgnmhfjfefgbfaaQ5C0P4
namespace Go.Proofs.Ytgnmhfjfefgbfaa.Pr
open Go.RowKit Go.Proofs.Ytgnmhfjfefgbfaa.Pr Go.Proofs.YtgnmhfjfefgbfaaW.PrintWords Go.Proofs.YtgnmhfjfefgbfaaW.PrintLast Go.Proofs.YtgnmhfjfefgbfaaW.PrintMore
set_option linter.unusedVariables false
set_option linter.unusedSimpArgs false
theorem Qd1 {n k : Int} (h : ¬ n < 0) : nearT n k = n - 1000 * k := by unfold nearT; rw [if_neg h]
theorem Qd0 {n k : Int} (h : n < 0) : nearT n k = n + 1000 * k := by unfold nearT; rw [if_pos h]
theorem size_t (x : Int) (h : inB x) : QbB.f x = some (x.natAbs : Int) := by
 unfold inB at h
 unfold QbB.f mx
 rw [tw64 (x := -x) (by omega)]
 split <;> (congr 1; omega)
theorem Qgv (F : List Int) (d : Nat) (v : Int) : (F ++ List.replicate (d + 1) 0).set F.length v = (F ++ [v]) ++ List.replicate d 0 := by
 rw [List.set_append_right _ _ (Nat.le_refl _), Nat.sub_self, List.replicate_succ, List.set_cons_zero, List.append_assoc]
 rfl
theorem Qd6 (F : List Int) (d : Nat) : F ++ List.replicate (d + 1) 0 = (F ++ [0]) ++ List.replicate d 0 := by
 rw [List.replicate_succ, List.append_assoc]
 rfl
theorem Qgm {a b : Int} (ha : inB a) (hb : inB b) (h : (0 < a ∧ b < 0) ∨ (a < 0 ∧ 0 < b)) : wrap64 (Int.tdiv (mn (a.natAbs : Int) (b.natAbs : Int)) 1000) = canS a b := by
 unfold inB at ha hb
 rcases h with h | h
 ·obtain ⟨k, e, e2, k0, k1, k2, k3⟩ := QcW h
  rw [show (a.natAbs : Int) = a by omega, show (b.natAbs : Int) = -b by omega, e]
  have m0 : 0 ≤ mn a (-b) := by unfold mn; split <;> omega
  rw [tdv m0, ← e2, tw64 (by omega)]
 obtain ⟨k, e, e2, k0, k1, k2, k3⟩ := QcV h
 rw [show (a.natAbs : Int) = -a by omega, show (b.natAbs : Int) = b by omega, e]
 have m0 : 0 ≤ mn (-a) b := by unfold mn; split <;> omega
 rw [tdv m0, ← e2, tw64 (by omega)]
theorem Qe6 (days : List Int) (l : List Sp) (hd : days.length ≤ 200) (hm : incr days) (hl : l.length ≤ 1024) (hs : ∀ s ∈ l, s.f0 ≠ s.f1) : ∀ d i k : Nat, i + d = l.length → 5 * d + 210 ≤ k → ∀ left F : List Int, okL days left → F.length = i →
  Qak.l1 k days l (F ++ List.replicate d 0) left (l.length : Int) (i : Int) = some (F ++ (runS days (l.drop i) left).1, (runS days (l.drop i) left).2, 0) := by
 intro d
 induction d with
 | zero =>
  intro i k hi hk left F h hF
  obtain ⟨k, rfl⟩ : ∃ m, k = m + 1 := ⟨k - 1, by omega⟩
  rw [Qak.l1, if_neg (by omega), List.drop_eq_nil_of_le (by omega)]
  simp [runS]
 | succ d ih =>
  intro i k hi hk left F h hF
  obtain ⟨k, rfl⟩ : ∃ m, k = m + 5 := ⟨k - 5, by omega⟩
  have hdr := QeM l i (by omega)
  have hne := hs _ (List.mem_of_mem_drop (hdr ▸ List.mem_cons_self))
  have nx : ((i : Int) + 1) = ((i + 1 : Nat) : Int) := by omega
  have ST := (Qde days (QaB l (i : Int)) hne left h).1
  have IH := fun (m : Nat) (hm : k ≤ m) => ih (i + 1) m (by omega) (by omega) (stepS days (QaB l (i : Int)) left).2 (F ++ [(stepS days (QaB l (i : Int)) left).1]) ST (by rw [List.length_append]; simp; omega)
  rw [Qak.l1, if_pos (by omega), if_pos (by omega), if_pos (by omega), hdr, QdH]
  obtain ⟨p, ep, hp⟩ := bs_eq days (QaB l (i : Int)).f0 (by omega) hm (k + 3) (by omega)
  obtain ⟨q, eq, hq⟩ := bs_eq days (QaB l (i : Int)).f1 (by omega) hm (k + 2) (by omega)
  have x1 : wrap64 (0 + 1) = 1 := nwrap (by decide) (by decide)
  have x2 : wrap64 (1 + 1) = 2 := nwrap (by decide) (by decide)
  rw [Qak.l2, if_pos (by decide), if_pos rfl, ep, Option.bind_some]
  generalize hse : QaB l (i : Int) = s at *
  have NO : ∀ m : Nat, k ≤ m → ¬ (0 ≤ plc days s.f0 0 ∧ 0 ≤ plc days s.f1 0) → Qak.l1 m days l (F ++ List.replicate (d + 1) 0) left (l.length : Int) (wrap64 ((i : Int) + 1)) = some (F ++ ((stepS days s left).1 :: (runS days (l.drop (i + 1)) (stepS days s left).2).1), (runS days (l.drop (i + 1)) (stepS days s left).2).2, 0) := by
   intro m hm g
   have I := IH m hm
   have e : stepS days s left = (0, left) := by unfold stepS; rw [if_neg g]
   rw [e] at I ⊢
   rw [nwrap (x := (i : Int) + 1) (by omega) (by omega), nx, Qd6, I, List.append_assoc]
   rfl
  by_cases h1 : 0 ≤ plc days s.f0 0
  ·rw [decide_eq_true h1, if_pos rfl, x1, Qak.l2, if_pos (by decide), if_neg (by decide), if_pos rfl, hse, eq, Option.bind_some]
   by_cases h2 : 0 ≤ plc days s.f1 0
   ·rw [decide_eq_true h2, if_pos rfl, x2, Qak.l2, if_neg (by decide), hp h1, hq h2]
    obtain ⟨a, b, ea, eb, ha, hb, hab⟩ := places hne ⟨h1, h2⟩
    have ha' : a < left.length := by rw [h.1]; exact ha
    have hb' : b < left.length := by rw [h.1]; exact hb
    have e : stepS days s left = pairS left a b := by unfold stepS; rw [if_pos ⟨h1, h2⟩, ea, eb, Int.toNat_natCast, Int.toNat_natCast]
    have I := IH k (Nat.le_refl _)
    have iA := okL_rd h ha
    have iB := okL_rd h hb
    rw [e] at I ⊢
    rw [ea, eb, if_pos (show 0 ≤ (a : Int) by omega), if_pos (show (a : Int) < (left.length : Int) by omega), if_pos (show 0 ≤ (b : Int) by omega), if_pos (show (b : Int) < (left.length : Int) by omega)]
    have J : ∀ bb : Bool, (bb = true → canS (rd left (a : Int)) (rd left (b : Int)) = 0) → (bb = false → (0 < rd left (a : Int) ∧ rd left (b : Int) < 0) ∨ (rd left (a : Int) < 0 ∧ 0 < rd left (b : Int))) →
      Qak.j3 (k + 1) days l (F ++ List.replicate (d + 1) 0) left (i : Int) (l.length : Int) (i : Int) bb (a : Int) (b : Int) = some (F ++ ((pairS left a b).1 :: (runS days (l.drop (i + 1)) (pairS left a b).2).1), (runS days (l.drop (i + 1)) (pairS left a b).2).2, 0) := by
     intro bb g1 g2
     rw [Qak.j3]
     cases bb with
     | true =>
      rw [Qfj (g1 rfl)] at I ⊢
      rw [if_pos rfl, nwrap (x := (i : Int) + 1) (by omega) (by omega), nx, Qd6, I, List.append_assoc]
      rfl
     | false =>
      have bd := Qep (rd left (a : Int)) (rd left (b : Int)) iA
      have fs : (F ++ List.replicate (d + 1) 0).set i (canS (rd left (a : Int)) (rd left (b : Int))) = (F ++ [canS (rd left (a : Int)) (rd left (b : Int))]) ++ List.replicate d 0 := by rw [← hF]; exact Qgv F d _
      have fl : (F ++ List.replicate (d + 1) 0).length = i + (d + 1) := by rw [List.length_append, List.length_replicate, hF]
      rw [if_neg (by decide), if_pos (show 0 ≤ (a : Int) by omega), if_pos (show (a : Int) < (left.length : Int) by omega), size_t _ iA, Option.bind_some, if_pos (show 0 ≤ (b : Int) by omega), if_pos (show (b : Int) < (left.length : Int) by omega), size_t _ iB, Option.bind_some, Qgm iA iB (g2 rfl)]
      have G := g2 rfl
      unfold pairS at I ⊢
      generalize hc : canS (rd left (a : Int)) (rd left (b : Int)) = c at *
      unfold inB at iA iB
      have w : wrap64 (c * 1000) = c * 1000 := tw64 (by omega)
      rw [w]
      clear w
      by_cases g : rd left (a : Int) < 0
      ·have e1 : wrap64 (rd left (b : Int) - c * 1000) = nearT (rd left (b : Int)) c := by rw [Qd1 (by omega), tw64 (by omega)]; omega
       have e2 : wrap64 (rd left (a : Int) + c * 1000) = nearT (rd left (a : Int)) c := by rw [Qd0 g, tw64 (by omega)]; omega
       rw [if_pos g, Option.bind_some, Int.toNat_natCast, Int.toNat_natCast, Int.toNat_natCast, QbW _ _ _ _ (Ne.symm hab), e1, e2, fs, if_pos (by omega), if_pos (by omega), nwrap (x := (i : Int) + 1) (by omega) (by omega), nx, List.set_comm _ _ (Ne.symm hab), I, List.append_assoc]
       rfl
      have e1 : wrap64 (rd left (a : Int) - c * 1000) = nearT (rd left (a : Int)) c := by rw [Qd1 (by omega), tw64 (by omega)]; omega
      have e2 : wrap64 (rd left (b : Int) + c * 1000) = nearT (rd left (b : Int)) c := by rw [Qd0 (by omega), tw64 (by omega)]; omega
      rw [if_neg g, Option.bind_some, Int.toNat_natCast, Int.toNat_natCast, Int.toNat_natCast, QbW _ _ _ _ hab, e1, e2, fs, if_pos (by omega), if_pos (by omega), nwrap (x := (i : Int) + 1) (by omega) (by omega), nx, I, List.append_assoc]
      rfl
    dsimp only
    by_cases g1 : rd left (a : Int) = 0
    ·rw [if_pos g1]
     exact J true (fun _ => QbL (by omega) (by omega)) (fun x => by cases x)
    rw [if_neg g1]
    by_cases g2 : rd left (b : Int) = 0
    ·rw [if_pos g2]
     exact J true (fun _ => QbL (by omega) (by omega)) (fun x => by cases x)
    rw [if_neg g2]
    refine J _ (fun x => ?_) (fun x => ?_)
    ·rw [beq_iff_eq, decide_eq_decide] at x
     exact QbL (by omega) (by omega)
    rw [beq_eq_false_iff_ne, ne_eq, decide_eq_decide] at x
    omega
   rw [decide_eq_false h2, if_neg (show ¬ (false = true) by decide)]
   exact NO (k + 2) (by omega) (fun g => h2 g.2)
  rw [decide_eq_false h1, if_neg (show ¬ (false = true) by decide)]
  exact NO (k + 3) (by omega) (fun g => h1 g.1)
def okAt (x0 x1 : List Int) (i : Nat) : Prop := (0 ≤ rd x0 (i : Int) ∧ rd x0 (i : Int) ≤ 73048) ∧ (0 < i → rd x0 ((i - 1 : Nat) : Int) < rd x0 (i : Int)) ∧ inB (rd x1 (i : Int))
instance (x0 x1 : List Int) (i : Nat) : Decidable (okAt x0 x1 i) := by unfold okAt; infer_instance
def dayOk (x0 x1 : List Int) : Prop := ∀ j : Nat, j < x0.length → okAt x0 x1 j
instance (x0 x1 : List Int) : Decidable (dayOk x0 x1) := by unfold dayOk; infer_instance
theorem pred64 {i : Nat} (h : 0 < i) (h2 : i ≤ 1073741824) : wrap64 ((i : Int) - 1) = ((i - 1 : Nat) : Int) := by
 rw [nwrap (by omega) (by omega)]
 omega
theorem QdA (x0 x1 : List Int) (l : List Sp) (hn : x0.length ≤ 1073741824) (he : x1.length = x0.length) (i k : Nat) (hi : i < x0.length) : Qak.l0 (k + 1) x0 x1 l (x0.length : Int) (i : Int) = if okAt x0 x1 i then Qak.l0 k x0 x1 l (x0.length : Int) ((i + 1 : Nat) : Int) else some ([], [], 2) := by
 have nx : wrap64 ((i : Int) + 1) = ((i + 1 : Nat) : Int) := by rw [nwrap (by omega) (by omega)]; omega
 have bd : decide ((-1099511627776 : Int) ≤ rd x1 (i : Int) ∧ rd x1 (i : Int) ≤ 1099511627776) = decide (inB (rd x1 (i : Int))) := rfl
 rw [Qak.l0, if_pos (by omega), if_pos (by omega), if_pos (by omega), Qb0, Option.bind_some, Qb0, Option.bind_some, bd, nx]
 clear nx bd
 by_cases h1 : 0 ≤ rd x0 (i : Int) ∧ rd x0 (i : Int) ≤ 73048
 ·rw [decide_eq_true h1, if_pos rfl]
  by_cases h2 : (i : Int) > 0
  ·rw [if_pos h2, pred64 (by omega) (by omega), if_pos (by omega), if_pos (by omega)]
   by_cases h3 : rd x0 (i : Int) ≤ rd x0 ((i - 1 : Nat) : Int)
   ·rw [if_pos h3, if_neg (fun (x : okAt x0 x1 i) => by have := x.2.1 (by omega); omega)]
   rw [if_neg h3, if_pos (show (i : Int) < (x1.length : Int) by omega)]
   by_cases h4 : inB (rd x1 (i : Int))
   ·rw [decide_eq_true h4, if_pos rfl, if_pos (show okAt x0 x1 i from ⟨h1, fun _ => by omega, h4⟩)]
   rw [decide_eq_false h4, if_neg (by decide), if_neg (fun (x : okAt x0 x1 i) => h4 x.2.2)]
  rw [if_neg h2, if_pos (show (i : Int) < (x1.length : Int) by omega)]
  by_cases h4 : inB (rd x1 (i : Int))
  ·rw [decide_eq_true h4, if_pos rfl, if_pos (show okAt x0 x1 i from ⟨h1, fun _ => by omega, h4⟩)]
  rw [decide_eq_false h4, if_neg (by decide), if_neg (fun (x : okAt x0 x1 i) => h4 x.2.2)]
 rw [decide_eq_false h1, if_neg (by decide), if_neg (fun (x : okAt x0 x1 i) => h1 x.1)]
theorem Qe5 (x0 x1 : List Int) (l : List Sp) (hn : x0.length ≤ 1073741824) (he : x1.length = x0.length) (m : Nat) : ∀ d i : Nat, i + d = x0.length → (∀ j : Nat, i ≤ j → j < x0.length → okAt x0 x1 j) → Qak.l0 (d + m) x0 x1 l (x0.length : Int) (i : Int) = Qak.l0 m x0 x1 l (x0.length : Int) (x0.length : Int) := by
 intro d
 induction d with
 | zero => intro i hi _; rw [Nat.zero_add, show i = x0.length by omega]
 | succ d ih => intro i hi h; rw [show d + 1 + m = (d + m) + 1 by omega, QdA x0 x1 l hn he i _ (by omega), if_pos (h i (Nat.le_refl _) (by omega)), ih (i + 1) (by omega) (fun j hj => h j (by omega))]
theorem Qfz (x0 x1 : List Int) (l : List Sp) (hn : x0.length ≤ 1073741824) (he : x1.length = x0.length) (m : Nat) : ∀ d i : Nat, i + d = x0.length → ¬ (∀ j : Nat, i ≤ j → j < x0.length → okAt x0 x1 j) → Qak.l0 (d + m) x0 x1 l (x0.length : Int) (i : Int) = some ([], [], 2) := by
 intro d
 induction d with
 | zero => intro i hi h; exact absurd (fun j h1 h2 => by omega) h
 | succ d ih =>
  intro i hi h
  rw [show d + 1 + m = (d + m) + 1 by omega, QdA x0 x1 l hn he i _ (by omega)]
  by_cases g : okAt x0 x1 i
  ·rw [if_pos g]
   refine ih (i + 1) (by omega) (fun x => h (fun j h1 h2 => ?_))
   by_cases c : j = i
   ·rw [c]; exact g
   exact x j (by omega) h2
  rw [if_neg g]
theorem Qfu {x0 x1 : List Int} (h : dayOk x0 x1) : incr x0 := by
 have : ∀ d i : Nat, i + d + 1 < x0.length → rd x0 (i : Int) < rd x0 ((i + d + 1 : Nat) : Int) := by
  intro d
  induction d with
  | zero =>
   intro i hi
   have := (h (i + 1) (by omega)).2.1 (by omega)
   rwa [Nat.add_sub_cancel] at this
  | succ d ih =>
   intro i hi
   have a := ih i (by omega)
   have b := (h (i + (d + 1) + 1) hi).2.1 (by omega)
   rw [Nat.add_sub_cancel] at b
   have c : i + (d + 1) = i + d + 1 := by omega
   rw [c] at b ⊢
   omega
 intro i j hij hj
 obtain ⟨d, rfl⟩ : ∃ d, j = i + d + 1 := ⟨j - i - 1, by omega⟩
 exact this d i hj
theorem Qeu {x0 x1 : List Int} (he : x1.length = x0.length) (h : dayOk x0 x1) : okL x0 x1 := QdU he (fun j hj => (h j hj).2.2)
def formS (days deltas : List Int) (l : List Sp) : List Int × List Int × Int := if spS l = 0 then (if deltas.length = days.length then (if dayOk days deltas then ((runS days l deltas).1, (runS days l deltas).2, 0) else ([], [], 2)) else ([], [], 2)) else ([], [], spS l)
theorem spS_ok {l : List Sp} (h : spS l = 0) : l.length ≤ 1024 ∧ ∀ s ∈ l, ((0 ≤ s.f0 ∧ s.f0 ≤ 73048) ∧ (0 ≤ s.f1 ∧ s.f1 ≤ 73048) ∧ s.f0 ≠ s.f1) ∧ (0 ≤ s.f2 ∧ s.f2 ≤ 68719476736) := by
 unfold spS at h
 by_cases g : (l.length : Int) > 1024
 ·rw [if_pos g] at h; cases h
 rw [if_neg g] at h
 exact ⟨by omega, spL_ok l h⟩
theorem Qet (x0 x1 : List Int) : (∀ j : Nat, 0 ≤ j → j < x0.length → okAt x0 x1 j) ↔ dayOk x0 x1 := ⟨fun h j hj => h j (Nat.zero_le _) hj, fun h j _ hj => h j hj⟩
theorem Qgd (days deltas : List Int) (l : List Sp) (h1 : days.length ≤ 200) (h2 : deltas.length ≤ 200) (k : Nat) (hk : 20000 ≤ k) : Qak.f k days deltas l = some (formS days deltas l) := by
 unfold Qak.f formS
 rw [Qgz l k (by omega), Option.bind_some]
 by_cases c1 : spS l = 0
 ·rw [if_pos c1, if_pos c1]
  obtain ⟨hl, hs⟩ := spS_ok c1
  by_cases c2 : deltas.length = days.length
  ·rw [if_pos c2, if_pos (show (deltas.length : Int) = (days.length : Int) by omega)]
   obtain ⟨m, rfl⟩ : ∃ m, k = days.length + (m + 1) := ⟨k - days.length - 1, by omega⟩
   by_cases c3 : dayOk days deltas
   ·have e := Qe5 days deltas l (by omega) c2 (m + 1) days.length 0 (by omega) ((Qet _ _).2 c3)
    rw [if_pos c3]
    refine e.trans ?_
    have cl : Qa7.f deltas = some deltas := by
     unfold Qa7.f
     rw [Option.bind_some, if_pos (by simp; omega), List.nil_append]
    rw [Qak.l0, if_neg (by omega), cl, Option.bind_some, if_pos (by omega), Int.toNat_natCast, if_pos (by omega)]
    have f := Qe6 days l h1 (Qfu c3) hl (fun s x => (hs s x).1.2.2) l.length 0 m (by omega) (by omega) deltas [] (Qeu c2 c3) rfl
    rw [List.drop_zero] at f
    exact f
   have e := Qfz days deltas l (by omega) c2 (m + 1) days.length 0 (by omega) (fun x => c3 ((Qet _ _).1 x))
   rw [if_neg c3]
   exact e
  rw [if_neg c2, if_neg (show ¬ (deltas.length : Int) = (days.length : Int) by omega)]
 rw [if_neg c1, if_neg c1]
end Go.Proofs.Ytgnmhfjfefgbfaa.Pr
