/- What a move of pledges leaves to all others, and in all. -/
import Derived.Test.YtggbflplbblgbaaQ58CLmBytes
import Derived.Test.YtggbflplbblgbaaQ58CLmName
import Derived.Test.YtggbflplbblgbaaQ58CLmPledge
import Derived.Test.YtggbflplbblgbaaQ58CLmPledge2
import Derived.Test.YtggbflplbblgbaaQ58CLmPledge3
import Derived.Test.YtggbflplbblgbaaQ58CLmPledgeMove
import Derived.Test.YtggbflplbblgbaaQ58CLmPledgeOf
import Derived.Test.YtggbflplbblgbaaQ58CP0
import Derived.Test.YtggbflplbblgbaaQ58CP2
namespace Go.Proofs.Ytggbflplbblgbaa.Pr
open Go.RowKit Go.Proofs.Ytggbflplbblgbaa.Pr Go.Proofs.YtggbflplbblgbaaW.PrintWords Go.Proofs.YtggbflplbblgbaaW.PrintLast Go.Proofs.YtggbflplbblgbaaW.PrintMore
set_option linter.unusedVariables false
set_option linter.unusedSimpArgs false
def mvF (c d : ByteArray) : List Pled → List Pled → List Pled
  | out, [] => out
  | out, p :: r => mvF c d (insP (c, d, p.f1) (hadP (c, d, p.f1) out + p.f2) out) r
theorem had_prop (Φ : Int → Prop) (q : PK) (l : List Pled) (h0 : Φ 0) (h : ∀ p ∈ l, Φ p.f2) : Φ (hadP q l) := by
  unfold hadP
  split
  · exact h0
  · rename_i x t hm
    exact h x (List.mem_filter.1 (show x ∈ midP q l by rw [hm]; simp)).1
theorem ins_prop (Φ : Int → Prop) {q : PK} {n : Int} {l : List Pled} (hl : ∀ p ∈ l, Φ p.f2) (hn : Φ n) : ∀ p ∈ insP q n l, Φ p.f2 := by
  intro p hp
  rcases mem_ins hp with h | ⟨_, rfl⟩
  · exact hl p h
  · exact hn
theorem key_ne {a b : ByteArray} {p x : Pled} (hp : isOf a b p = true) (hx : isOf a b x = true) (h : klt (pkey p) (pkey x) = true) : x.f1 ≠ p.f1 :=
  fun e => klt_ne h (by rw [isOf_key hp, isOf_key hx, e])
theorem mvL_ok (a b c d : ByteArray) : ∀ (r out : List Pled), sortedP out → sortedP r → (∀ p ∈ r, isOf a b p = true) → (∀ p ∈ r, hadP (c, d, p.f1) out + p.f2 ≤ 1152921504606846976) → mvL c d out r = (mvF c d out r, 0)
  | [], out, _, _, _, _ => rfl
  | p :: r, out, hs, hr, hi, hb => by
    rw [mvL, if_pos (hb p List.mem_cons_self), mvF]
    refine mvL_ok a b c d r _ (sorted_ins _ _ _ hs) (List.pairwise_cons.1 hr).2 (fun x hx => hi x (List.mem_cons_of_mem _ hx)) (fun x hx => ?_)
    have hk := key_ne (hi p List.mem_cons_self) (hi x (List.mem_cons_of_mem _ hx)) ((List.pairwise_cons.1 hr).1 x hx)
    rw [had_ins_ne _ _ _ _ hs (fun e => hk (by simp only [Prod.mk.injEq] at e; exact e.2.2))]
    exact hb x (List.mem_cons_of_mem _ hx)
theorem mvF_sorted (c d : ByteArray) : ∀ (r out : List Pled), sortedP out → sortedP (mvF c d out r)
  | [], _, h => h
  | p :: r, out, h => by rw [mvF]; exact mvF_sorted c d r _ (sorted_ins _ _ _ h)
theorem mvF_len (c d : ByteArray) : ∀ (r out : List Pled), sortedP out → (mvF c d out r).length ≤ out.length + r.length
  | [], out, _ => by rw [mvF]; simp
  | p :: r, out, hs => by
    rw [mvF]
    have h1 := mvF_len c d r _ (sorted_ins (c, d, p.f1) (hadP (c, d, p.f1) out + p.f2) out hs)
    have h2 := ins_len_le (c, d, p.f1) (hadP (c, d, p.f1) out + p.f2) out hs
    rw [List.length_cons]; omega
theorem mvF_of (c d x y : ByteArray) (h : ¬ (x = c ∧ y = d)) : ∀ (r out : List Pled), sortedP out → ofP x y (mvF c d out r) = ofP x y out
  | [], _, _ => rfl
  | p :: r, out, hs => by
    rw [mvF, mvF_of c d x y h r _ (sorted_ins _ _ _ hs)]
    exact fil_ins_out _ _ _ _ hs (fun z hz => isOf_ne hz h)
theorem mvF_ok (c d : ByteArray) (hc : nameOk c = true) (hd : nameOk d = true) : ∀ (r out : List Pled), sortedP out → (∀ p ∈ out, okName p = true) → (∀ p ∈ r, okName p = true) → ∀ p ∈ mvF c d out r, okName p = true
  | [], _, _, h, _ => h
  | p :: r, out, hs, h, hr => by
    rw [mvF]
    refine mvF_ok c d hc hd r _ (sorted_ins _ _ _ hs) (fun x hx => ?_) (fun x hx => hr x (List.mem_cons_of_mem _ hx))
    rcases mem_ins hx with hx | ⟨_, rfl⟩
    · exact h x hx
    · have := hr p List.mem_cons_self
      unfold okName at this ⊢
      simp only [Bool.and_eq_true] at this
      show (nameOk c && (nameOk d && nameOk p.f1)) = true
      rw [hc, hd, this.2.2]; rfl
theorem mvF_had (a b c d s : ByteArray) : ∀ (r out : List Pled), sortedP out → sortedP r → (∀ p ∈ r, isOf a b p = true) → hadP (c, d, s) (mvF c d out r) = hadP (c, d, s) out + hadP (a, b, s) r
  | [], out, _, _, _ => by rw [mvF]; show _ = _ + 0; omega
  | p :: r, out, hs, hr, hi => by
    rw [mvF, mvF_had a b c d s r _ (sorted_ins _ _ _ hs) (List.pairwise_cons.1 hr).2 (fun x hx => hi x (List.mem_cons_of_mem _ hx)), had_cons]
    have hk := isOf_key (hi p List.mem_cons_self)
    by_cases h : s = p.f1
    · subst h
      have h0 : hadP (a, b, p.f1) r = 0 := by
        unfold hadP
        rw [mid_nil (a, b, p.f1) r (fun x hx => by rw [← hk]; exact (List.pairwise_cons.1 hr).1 x hx)]
      rw [had_ins, if_pos hk, h0]; omega
    · rw [had_ins_ne _ _ _ _ hs (fun e => h (by simp only [Prod.mk.injEq] at e; exact e.2.2)), if_neg (fun e => h (by rw [hk] at e; simp only [Prod.mk.injEq] at e; exact e.2.2.symm))]
theorem had_ofP (a b s : ByteArray) (l : List Pled) : hadP (a, b, s) (ofP a b l) = hadP (a, b, s) l := by
  refine had_of_mid ?_
  rw [ofP_is]
  unfold midP
  rw [List.filter_filter]
  refine List.filter_congr fun p _ => ?_
  by_cases h : pkey p = (a, b, s)
  · rw [isOf_of_key h]; simp [h]
  · simp [h]
def hasS (s : ByteArray) : List Pled → Int
  | [] => 0
  | p :: t => (if p.f1 = s then p.f2 / 1024 else 0) + hasS s t
theorem hasS_append (s : ByteArray) : ∀ l m : List Pled, hasS s (l ++ m) = hasS s l + hasS s m
  | [], m => by show _ = 0 + _; rw [List.nil_append]; omega
  | p :: t, m => by rw [List.cons_append, hasS, hasS, hasS_append s t m]; omega
theorem hasS_split (s a b : ByteArray) : ∀ l : List Pled, hasS s l = hasS s (notP a b l) + hasS s (ofP a b l)
  | [] => rfl
  | p :: t => by
    have ih := hasS_split s a b t
    rw [notP_cons, ofP_is] at *
    cases h : isOf a b p with
    | true => rw [if_pos rfl, List.filter_cons_of_pos h, hasS, hasS, ih]; omega
    | false => rw [if_neg (by simp), List.filter_cons_of_neg (by rw [h]; simp), hasS, hasS, ih]; omega
theorem hasS_ins (s : ByteArray) (q : PK) (f : Int) (l : List Pled) (hs : sortedP l) (hd : ∀ p ∈ l, (1024 : Int) ∣ p.f2) (hf : (1024 : Int) ∣ f) : hasS s (insP q (hadP q l + f) l) = hasS s l + (if q.2.2 = s then f / 1024 else 0) := by
  have e := split3 q l hs
  have h1 : hasS s l = hasS s (loP q l) + (hasS s (midP q l) + hasS s (hiP q l)) := by
    have := congrArg (hasS s) e
    rw [hasS_append, hasS_append] at this
    exact this
  have h2 : hasS s (midP q l) = if q.2.2 = s then hadP q l / 1024 else 0 := by
    rcases mid_cases q l hs with hm | ⟨x, hm, hx⟩
    · have h0 : hadP q l = 0 := by unfold hadP; rw [hm]
      rw [hm, h0]
      show (0 : Int) = _
      split <;> rfl
    · have h0 : hadP q l = x.f2 := by unfold hadP; rw [hm]
      rw [hm, h0, hasS, hasS, show x.f1 = q.2.2 by rw [← hx]; rfl]; omega
  have h3 : hasS s (if hadP q l + f = 0 then ([] : List Pled) else [plOf q (hadP q l + f)]) = if q.2.2 = s then (hadP q l + f) / 1024 else 0 := by
    by_cases h0 : hadP q l + f = 0
    · rw [if_pos h0, h0]
      show (0 : Int) = _
      split <;> rfl
    · rw [if_neg h0, hasS, hasS]
      show (if q.2.2 = s then (hadP q l + f) / 1024 else 0) + 0 = _
      omega
  have h4 : (1024 : Int) ∣ hadP q l := had_prop (fun n => (1024 : Int) ∣ n) q l (Int.dvd_zero _) hd
  rw [h1]
  unfold insP
  rw [hasS_append, hasS_append, h2, h3]
  split <;> omega
theorem mvF_has (a b c d s : ByteArray) : ∀ (r out : List Pled), sortedP out → (∀ p ∈ out, (1024 : Int) ∣ p.f2) → (∀ p ∈ r, (1024 : Int) ∣ p.f2) → hasS s (mvF c d out r) = hasS s out + hasS s r
  | [], out, _, _, _ => by rw [mvF]; show _ = _ + 0; omega
  | p :: r, out, hs, ho, hr => by
    have hp := hr p List.mem_cons_self
    have h4 : (1024 : Int) ∣ hadP (c, d, p.f1) out := had_prop (fun n => (1024 : Int) ∣ n) _ out (Int.dvd_zero _) ho
    rw [mvF, mvF_has a b c d s r _ (sorted_ins _ _ _ hs) (ins_prop (fun n => (1024 : Int) ∣ n) ho (Int.dvd_add h4 hp)) (fun x hx => hr x (List.mem_cons_of_mem _ hx)), hasS_ins s (c, d, p.f1) p.f2 out hs ho hp, hasS]
    dsimp only
    omega
theorem mvF_qty (a b c d : ByteArray) (B : Int) : ∀ (r out : List Pled), sortedP out → sortedP r → (∀ p ∈ r, isOf a b p = true) → (∀ p ∈ out, 1 ≤ p.f2 ∧ p.f2 ≤ B) → (∀ p ∈ r, 1 ≤ p.f2 ∧ hadP (c, d, p.f1) out + p.f2 ≤ B) → ∀ p ∈ mvF c d out r, 1 ≤ p.f2 ∧ p.f2 ≤ B
  | [], _, _, _, _, h, _ => h
  | p :: r, out, hs, hr, hi, ho, hb => by
    rw [mvF]
    have h0 : 0 ≤ hadP (c, d, p.f1) out := had_prop (fun n => 0 ≤ n) _ out (by omega) (fun x hx => by have := ho x hx; omega)
    have hp := hb p List.mem_cons_self
    refine mvF_qty a b c d B r _ (sorted_ins _ _ _ hs) (List.pairwise_cons.1 hr).2 (fun x hx => hi x (List.mem_cons_of_mem _ hx)) (ins_prop (fun n => 1 ≤ n ∧ n ≤ B) ho (by omega)) (fun x hx => ?_)
    have hk := key_ne (hi p List.mem_cons_self) (hi x (List.mem_cons_of_mem _ hx)) ((List.pairwise_cons.1 hr).1 x hx)
    rw [had_ins_ne _ _ _ _ hs (fun e => hk (by simp only [Prod.mk.injEq] at e; exact e.2.2))]
    exact hb x (List.mem_cons_of_mem _ hx)
theorem has_loop (s : ByteArray) (l : List Pled) (hl : l.length ≤ 1024) (hq : ∀ p ∈ l, 0 ≤ p.f2 ∧ p.f2 ≤ 1152921504606846976) : ∀ n i k : Nat, i + n = l.length → n + 1 ≤ k → ∀ acc : Int, 0 ≤ acc → acc ≤ 1125899906842624 * (i : Int) → contangolaw32_has.l0 k l s acc (l.length : Int) (i : Int) = some (acc + hasS s (l.drop i)) := by
  intro n
  induction n with
  | zero =>
    intro i k hi hk acc h0 h1
    obtain ⟨k, rfl⟩ : ∃ m, k = m + 1 := ⟨k - 1, by omega⟩
    rw [contangolaw32_has.l0, if_neg (by omega), List.drop_eq_nil_of_le (by omega)]
    show some acc = some (acc + 0)
    rw [Int.add_zero]
  | succ n ih =>
    intro i k hi hk acc h0 h1
    obtain ⟨k, rfl⟩ : ∃ m, k = m + 1 := ⟨k - 1, by omega⟩
    have hx := hq l[i] (List.getElem_mem _)
    rw [← pl_rd l i (by omega)] at hx
    rw [contangolaw32_has.l0, if_pos (by omega), if_pos (by omega), if_pos (by omega), nwrap (x := (i : Int) + 1) (by omega) (by omega), show ((i : Int) + 1) = ((i + 1 : Nat) : Int) by omega, pl_drop l i (by omega), hasS]
    simp only [tl_iff]
    have hdv : Int.tdiv (rd_T26 l (i : Int)).f2 1024 = (rd_T26 l (i : Int)).f2 / 1024 := Int.tdiv_eq_ediv_of_nonneg hx.1
    by_cases h : (rd_T26 l (i : Int)).f1 = s
    · rw [if_pos h, if_pos h, hdv, nwrap (x := (rd_T26 l (i : Int)).f2 / 1024) (by omega) (by omega), nwrap (x := acc + _) (by omega) (by omega), ih (i + 1) k (by omega) (by omega) _ (by omega) (by omega), Int.add_assoc]
    · rw [if_neg h, if_neg h, ih (i + 1) k (by omega) (by omega) _ h0 (by omega), Int.zero_add]
theorem has_eq (s : ByteArray) (l : List Pled) (hl : l.length ≤ 1024) (hq : ∀ p ∈ l, 0 ≤ p.f2 ∧ p.f2 ≤ 1152921504606846976) (k : Nat) (hk : l.length + 1 ≤ k) : contangolaw32_has.f k l s = some (hasS s l) := by
  unfold contangolaw32_has.f
  rw [show (0 : Int) = ((0 : Nat) : Int) from rfl, has_loop s l hl hq l.length 0 k (by omega) hk ((0 : Nat) : Int) (by omega) (by omega), List.drop_zero]
  congr 1
  show (0 : Int) + _ = _
  rw [Int.zero_add]
def adjP (p : Pled) : Pled := if p.f2 > 0 then ⟨⟨p.f0.f0, p.f0.f1⟩, p.f1, wrap64 (1024 * wrap64 (1 + Int.tmod p.f2 1000000))⟩ else p
theorem adjP_name (p : Pled) : (adjP p).f0 = p.f0 ∧ (adjP p).f1 = p.f1 := by
  unfold adjP; split <;> exact ⟨rfl, rfl⟩
theorem adjP_qty (p : Pled) (h : okQty (adjP p).f2 = true) : (1024 : Int) ∣ (adjP p).f2 ∧ 1 ≤ (adjP p).f2 ∧ (adjP p).f2 ≤ 1024000000 := by
  have h' := (okQty_iff _).1 h
  unfold adjP at h' ⊢
  by_cases h0 : p.f2 > 0
  · rw [if_pos h0]
    show (1024 : Int) ∣ wrap64 (1024 * wrap64 (1 + Int.tmod p.f2 1000000)) ∧ 1 ≤ wrap64 (1024 * wrap64 (1 + Int.tmod p.f2 1000000)) ∧ wrap64 (1024 * wrap64 (1 + Int.tmod p.f2 1000000)) ≤ 1024000000
    have e : Int.tmod p.f2 1000000 = p.f2 % 1000000 := Int.tmod_eq_emod_of_nonneg (by omega)
    have m0 : 0 ≤ p.f2 % 1000000 := by omega
    have m1 : p.f2 % 1000000 < 1000000 := by omega
    rw [e, nwrap (x := 1 + p.f2 % 1000000) (by omega) (by omega), nwrap (x := 1024 * (1 + p.f2 % 1000000)) (by omega) (by omega)]
    exact ⟨⟨_, rfl⟩, by omega, by omega⟩
  · rw [if_neg h0] at h'
    omega
theorem moveS_err (l : List Pled) (a b c d : ByteArray) (h : (moveS l a b c d).2 ≠ 0) : (moveS l a b c d).1 = [] := by
  have hm : ∀ r out : List Pled, (mvL c d out r).2 ≠ 0 → (mvL c d out r).1 = [] := by
    intro r
    induction r with
    | nil => intro out h; exact absurd rfl h
    | cons p r ih =>
      intro out h
      rw [mvL] at h ⊢
      split
      · rename_i hc; rw [if_pos hc] at h; exact ih _ h
      · rfl
  unfold moveS at *
  split
  · rename_i h1
    rw [if_pos h1] at h
    split
    · rename_i h2
      rw [if_pos h2] at h
      split
      · rfl
      · rename_i h3; rw [if_neg h3] at h; exact hm _ _ h
    · rfl
  · rfl
theorem moveS_ok (l : List Pled) (a b c d : ByteArray) (h : (moveS l a b c d).2 = 0) : goodP l ∧ (nameOk a && (nameOk b && (nameOk c && nameOk d))) = true ∧ ¬ (a = c ∧ b = d) := by
  unfold moveS at h
  by_cases h1 : chkP l = 0
  · rw [if_pos h1] at h
    by_cases h2 : (nameOk a && (nameOk b && (nameOk c && nameOk d))) = true
    · rw [if_pos h2] at h
      by_cases h3 : a = c ∧ b = d
      · rw [if_pos h3] at h; cases h
      · exact ⟨(chkP_zero l).1 h1, h2, h3⟩
    · rw [if_neg h2] at h; cases h
  · rw [if_neg h1] at h; exact absurd h h1
theorem moveS_val (l : List Pled) (a b c d : ByteArray) (hg : goodP l) (hn : (nameOk a && (nameOk b && (nameOk c && nameOk d))) = true) (hne : ¬ (a = c ∧ b = d)) (hq : ∀ p ∈ l, 1 ≤ p.f2 ∧ p.f2 ≤ 1024000000) : moveS l a b c d = (mvF c d (notP a b l) (ofP a b l), 0) := by
  unfold moveS
  rw [if_pos ((chkP_zero l).2 hg), if_pos hn, if_neg hne]
  refine mvL_ok a b c d _ _ (sorted_fil _ hg.2.1) (sorted_fil _ hg.2.1) (fun p hp => (List.mem_filter.1 hp).2) (fun p hp => ?_)
  have h1 := hq p (List.mem_filter.1 hp).1
  have h2 : hadP (c, d, p.f1) (notP a b l) ≤ 1024000000 := had_prop (fun n => n ≤ 1024000000) _ _ (by omega) (fun x hx => (hq x (List.mem_filter.1 hx).1).2)
  omega
end Go.Proofs.Ytggbflplbblgbaa.Pr
