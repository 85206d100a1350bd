/- What a move of pledges leaves to all others, and in all. -/
import Derived.Test.YtaiekjimdjlgbaaQ3EDLmName
import Derived.Test.YtaiekjimdjlgbaaQ3EDLmPledge
import Derived.Test.YtaiekjimdjlgbaaQ3EDLmPledge2
import Derived.Test.YtaiekjimdjlgbaaQ3EDLmPledge3
import Derived.Test.YtaiekjimdjlgbaaQ3EDLmPledgeMove
import Derived.Test.YtaiekjimdjlgbaaQ3EDLmPledgeOf
import Derived.Test.YtaiekjimdjlgbaaQ3EDP0
namespace Go.Proofs.Ytaiekjimdjlgbaa.Pr
open Go.RowKit Go.Proofs.Ytaiekjimdjlgbaa.Pr Go.Proofs.YtaiekjimdjlgbaaW.PrintWords Go.Proofs.YtaiekjimdjlgbaaW.PrintLast Go.Proofs.YtaiekjimdjlgbaaW.PrintMore
set_option linter.unusedVariables false
set_option linter.unusedSimpArgs false
def mvF (c d : ByteArray) : List Pled → List Pled → List Pled
  | out, [] => out
  | out, p :: r => mvF c d (insP (c, d, p.f1) (hadP (c, d, p.f1) out + p.f2) out) r
theorem had_prop (Φ : Int → Prop) (q : PK) (l : List Pled) (h0 : Φ 0) (h : ∀ p ∈ l, Φ p.f2) : Φ (hadP q l) := by
  unfold hadP
  split
  · exact h0
  · rename_i x t hm
    exact h x (List.mem_filter.1 (show x ∈ midP q l by rw [hm]; simp)).1
theorem ins_prop (Φ : Int → Prop) {q : PK} {n : Int} {l : List Pled} (hl : ∀ p ∈ l, Φ p.f2) (hn : Φ n) : ∀ p ∈ insP q n l, Φ p.f2 := by
  intro p hp
  rcases mem_ins hp with h | ⟨_, rfl⟩
  · exact hl p h
  · exact hn
theorem key_ne {a b : ByteArray} {p x : Pled} (hp : isOf a b p = true) (hx : isOf a b x = true) (h : klt (pkey p) (pkey x) = true) : x.f1 ≠ p.f1 :=
  fun e => klt_ne h (by rw [isOf_key hp, isOf_key hx, e])
theorem mvF_sorted (c d : ByteArray) : ∀ (r out : List Pled), sortedP out → sortedP (mvF c d out r)
  | [], _, h => h
  | p :: r, out, h => by rw [mvF]; exact mvF_sorted c d r _ (sorted_ins _ _ _ h)
theorem mvF_len (c d : ByteArray) : ∀ (r out : List Pled), sortedP out → (mvF c d out r).length ≤ out.length + r.length
  | [], out, _ => by rw [mvF]; simp
  | p :: r, out, hs => by
    rw [mvF]
    have h1 := mvF_len c d r _ (sorted_ins (c, d, p.f1) (hadP (c, d, p.f1) out + p.f2) out hs)
    have h2 := ins_len_le (c, d, p.f1) (hadP (c, d, p.f1) out + p.f2) out hs
    rw [List.length_cons]; omega
theorem mvF_of (c d x y : ByteArray) (h : ¬ (x = c ∧ y = d)) : ∀ (r out : List Pled), sortedP out → ofP x y (mvF c d out r) = ofP x y out
  | [], _, _ => rfl
  | p :: r, out, hs => by
    rw [mvF, mvF_of c d x y h r _ (sorted_ins _ _ _ hs)]
    exact fil_ins_out _ _ _ _ hs (fun z hz => isOf_ne hz h)
theorem mvF_ok (c d : ByteArray) (hc : nameOk c = true) (hd : nameOk d = true) : ∀ (r out : List Pled), sortedP out → (∀ p ∈ out, okName p = true) → (∀ p ∈ r, okName p = true) → ∀ p ∈ mvF c d out r, okName p = true
  | [], _, _, h, _ => h
  | p :: r, out, hs, h, hr => by
    rw [mvF]
    refine mvF_ok c d hc hd r _ (sorted_ins _ _ _ hs) (fun x hx => ?_) (fun x hx => hr x (List.mem_cons_of_mem _ hx))
    rcases mem_ins hx with hx | ⟨_, rfl⟩
    · exact h x hx
    · have := hr p List.mem_cons_self
      unfold okName at this ⊢
      simp only [Bool.and_eq_true] at this
      show (nameOk c && (nameOk d && nameOk p.f1)) = true
      rw [hc, hd, this.2.2]; rfl
theorem mvF_had (a b c d s : ByteArray) : ∀ (r out : List Pled), sortedP out → sortedP r → (∀ p ∈ r, isOf a b p = true) → hadP (c, d, s) (mvF c d out r) = hadP (c, d, s) out + hadP (a, b, s) r
  | [], out, _, _, _ => by rw [mvF]; show _ = _ + 0; omega
  | p :: r, out, hs, hr, hi => by
    rw [mvF, mvF_had a b c d s r _ (sorted_ins _ _ _ hs) (List.pairwise_cons.1 hr).2 (fun x hx => hi x (List.mem_cons_of_mem _ hx)), had_cons]
    have hk := isOf_key (hi p List.mem_cons_self)
    by_cases h : s = p.f1
    · subst h
      have h0 : hadP (a, b, p.f1) r = 0 := by
        unfold hadP
        rw [mid_nil (a, b, p.f1) r (fun x hx => by rw [← hk]; exact (List.pairwise_cons.1 hr).1 x hx)]
      rw [had_ins, if_pos hk, h0]; omega
    · rw [had_ins_ne _ _ _ _ hs (fun e => h (by simp only [Prod.mk.injEq] at e; exact e.2.2)), if_neg (fun e => h (by rw [hk] at e; simp only [Prod.mk.injEq] at e; exact e.2.2.symm))]
theorem had_ofP (a b s : ByteArray) (l : List Pled) : hadP (a, b, s) (ofP a b l) = hadP (a, b, s) l := by
  refine had_of_mid ?_
  rw [ofP_is]
  unfold midP
  rw [List.filter_filter]
  refine List.filter_congr fun p _ => ?_
  by_cases h : pkey p = (a, b, s)
  · rw [isOf_of_key h]; simp [h]
  · simp [h]
theorem mvF_qty (a b c d : ByteArray) (B : Int) : ∀ (r out : List Pled), sortedP out → sortedP r → (∀ p ∈ r, isOf a b p = true) → (∀ p ∈ out, 1 ≤ p.f2 ∧ p.f2 ≤ B) → (∀ p ∈ r, 1 ≤ p.f2 ∧ hadP (c, d, p.f1) out + p.f2 ≤ B) → ∀ p ∈ mvF c d out r, 1 ≤ p.f2 ∧ p.f2 ≤ B
  | [], _, _, _, _, h, _ => h
  | p :: r, out, hs, hr, hi, ho, hb => by
    rw [mvF]
    have h0 : 0 ≤ hadP (c, d, p.f1) out := had_prop (fun n => 0 ≤ n) _ out (by omega) (fun x hx => by have := ho x hx; omega)
    have hp := hb p List.mem_cons_self
    refine mvF_qty a b c d B r _ (sorted_ins _ _ _ hs) (List.pairwise_cons.1 hr).2 (fun x hx => hi x (List.mem_cons_of_mem _ hx)) (ins_prop (fun n => 1 ≤ n ∧ n ≤ B) ho (by omega)) (fun x hx => ?_)
    have hk := key_ne (hi p List.mem_cons_self) (hi x (List.mem_cons_of_mem _ hx)) ((List.pairwise_cons.1 hr).1 x hx)
    rw [had_ins_ne _ _ _ _ hs (fun e => hk (by simp only [Prod.mk.injEq] at e; exact e.2.2))]
    exact hb x (List.mem_cons_of_mem _ hx)
theorem moveS_err (l : List Pled) (a b c d : ByteArray) (h : (moveS l a b c d).2 ≠ 0) : (moveS l a b c d).1 = [] := by
  have hm : ∀ r out : List Pled, (mvL c d out r).2 ≠ 0 → (mvL c d out r).1 = [] := by
    intro r
    induction r with
    | nil => intro out h; exact absurd rfl h
    | cons p r ih =>
      intro out h
      rw [mvL] at h ⊢
      split
      · rename_i hc; rw [if_pos hc] at h; exact ih _ h
      · rfl
  unfold moveS at *
  split
  · rename_i h1
    rw [if_pos h1] at h
    split
    · rename_i h2
      rw [if_pos h2] at h
      split
      · rfl
      · rename_i h3; rw [if_neg h3] at h; exact hm _ _ h
    · rfl
  · rfl
theorem moveS_ok (l : List Pled) (a b c d : ByteArray) (h : (moveS l a b c d).2 = 0) : goodP l ∧ (nameOk a && (nameOk b && (nameOk c && nameOk d))) = true ∧ ¬ (a = c ∧ b = d) := by
  unfold moveS at h
  by_cases h1 : chkP l = 0
  · rw [if_pos h1] at h
    by_cases h2 : (nameOk a && (nameOk b && (nameOk c && nameOk d))) = true
    · rw [if_pos h2] at h
      by_cases h3 : a = c ∧ b = d
      · rw [if_pos h3] at h; cases h
      · exact ⟨(chkP_zero l).1 h1, h2, h3⟩
    · rw [if_neg h2] at h; cases h
  · rw [if_neg h1] at h; exact absurd h h1
end Go.Proofs.Ytaiekjimdjlgbaa.Pr
