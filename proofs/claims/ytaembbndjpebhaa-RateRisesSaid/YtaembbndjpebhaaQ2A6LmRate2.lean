/- Rates: what Convert, Base, Cross and Total answer. -/
import Derived.Test.YtaembbndjpebhaaQ2A6LmCentsMd
import Derived.Test.YtaembbndjpebhaaQ2A6LmRate
import Derived.Test.YtaembbndjpebhaaQ2A6LmSums
import Derived.Test.YtaembbndjpebhaaQ2A6P0
import Derived.Test.YtaembbndjpebhaaQ2A6P1
import Derived.Test.YtaembbndjpebhaaQ2A6P2
import Derived.Test.YtaembbndjpebhaaQ2A6PrxRd
namespace Go.Proofs.Ytaembbndjpebhaa.Pr
open Go.RowKit Go.Proofs.Ytaembbndjpebhaa.Pr Go.Proofs.YtaembbndjpebhaaW.PrintWords Go.Proofs.YtaembbndjpebhaaW.PrintLast Go.Proofs.YtaembbndjpebhaaW.PrintMore
set_option linter.unusedVariables false
set_option linter.unusedSimpArgs false
def mdS (a b c m : Int) : Int × Int := if mdFits a ∧ mdFits b ∧ mdFits c ∧ 1 ≤ m ∧ m ≤ 5 then (if c = 0 then (0, 4) else mdRes a b c m) else (0, 2)
def inR (l : List Rt) (i : Int) : Prop := 0 ≤ i ∧ i < (l.length : Int)
instance (l : List Rt) (i : Int) : Decidable (inR l i) := inferInstanceAs (Decidable (_ ∧ _))
def convS (l : List Rt) (n a b m : Int) : Int × Int := if chkR l = 0 then (if inR l a ∧ inR l b then mdS n (rd_T87 l a).f1 (rd_T87 l b).f1 m else (0, 25)) else (0, chkR l)
theorem conv_eq (l : List Rt) (n a b m : Int) (k : Nat) (hk : 60 ≤ k) : rate_Convert.f k l n a b m = some (convS l n a b m) := by
  unfold rate_Convert.f convS
  rw [rcheck_eq8 l k hk, Option.bind_some]
  by_cases h : chkR l = 0
  · rw [if_pos h, if_pos h]
    unfold inR
    by_cases h1 : a < 0
    · rw [if_pos h1, if_neg (by omega)]
    · by_cases h2 : a ≥ (l.length : Int)
      · rw [if_neg h1, if_pos h2, if_neg (by omega)]
      · by_cases h3 : b < 0
        · rw [if_neg h1, if_neg h2, if_pos h3, if_neg (by omega)]
        · by_cases h4 : b ≥ (l.length : Int)
          · rw [if_neg h1, if_neg h2, if_neg h3, if_pos h4, if_neg (by omega)]
          · rw [if_neg h1, if_neg h2, if_neg h3, if_neg h4, if_pos (by omega), if_pos (by omega), if_pos (by omega), if_pos (by omega), if_pos (by omega), md_eq, Option.bind_some]
            rfl
  · rw [if_neg h, if_neg h]
theorem rconv_eq (l : List Rt) (hb : ∀ r ∈ l, r.f0.size ≤ 9223372036854775807) (n a b m : Int) (k : Nat) (hk : 60 + szR l ≤ k) : contangoref08_Convert.f k l n a b m = some (convS l n a b m) := by
  unfold contangoref08_Convert.f convS
  rw [rrcheck_eq8 l hb k hk, Option.bind_some]
  by_cases h : chkR l = 0
  · rw [if_pos h, if_pos h]
    unfold inR
    by_cases h1 : a < 0
    · rw [if_pos h1, if_neg (by omega)]
    · by_cases h3 : b < 0
      · rw [if_neg h1, if_pos h3, if_neg (by omega)]
      · by_cases h2 : a ≥ (l.length : Int)
        · rw [if_neg h1, if_neg h3, if_pos h2, if_neg (by omega)]
        · by_cases h4 : b ≥ (l.length : Int)
          · rw [if_neg h1, if_neg h3, if_neg h2, if_pos h4, if_neg (by omega)]
          · rw [if_neg h1, if_neg h3, if_neg h2, if_neg h4, if_pos (by omega), if_pos (by omega), if_pos (by omega), if_pos (by omega), if_pos (by omega), rmd_eq, md_eq, Option.bind_some]
            rfl
  · rw [if_neg h, if_neg h]
theorem base_eq (l : List Rt) (n a m : Int) (k : Nat) (hk : 60 ≤ k) : rate_Base.f k l n a m = some (convS l n a 0 m) := by
  unfold rate_Base.f
  rw [conv_eq l _ _ _ _ k hk]
  rfl
theorem rbase_eq (l : List Rt) (hb : ∀ r ∈ l, r.f0.size ≤ 9223372036854775807) (n a m : Int) (k : Nat) (hk : 60 + szR l ≤ k) : contangoref08_Base.f k l n a m = some (convS l n a 0 m) := by
  unfold contangoref08_Base.f
  rw [rconv_eq l hb _ _ _ _ k hk]
  rfl
theorem cross_eq (l : List Rt) (a b : Int) (k : Nat) (hk : 60 ≤ k) : rate_Cross.f k l a b = some (convS l 1000000 a b 5) := by
  unfold rate_Cross.f
  rw [conv_eq l _ _ _ _ k hk]
  rfl
theorem rcross_eq (l : List Rt) (hb : ∀ r ∈ l, r.f0.size ≤ 9223372036854775807) (a b : Int) (k : Nat) (hk : 60 + szR l ≤ k) : contangoref08_Cross.f k l a b = some (convS l 1000000 a b 5) := by
  unfold contangoref08_Cross.f
  rw [rconv_eq l hb _ _ _ _ k hk]
  rfl
theorem rgoes8 (k : Nat) (hk : 60 ≤ k) : contangolaw08_goes.f k = some true := at_rounds contangolaw08_goes.mono hk (by decide +kernel)
def totL (l : List Rt) (m : Int) : List Int → Int → List Int → Int × Int
  | acc, _, [] => sumS acc
  | acc, i, x :: t => if (convS l x i 0 m).2 = 0 then totL l m (acc ++ [(convS l x i 0 m).1]) (i + 1) t else (0, (convS l x i 0 m).2)
theorem totL_cons (l : List Rt) (m : Int) (acc : List Int) (i x : Int) (t : List Int) : totL l m acc i (x :: t) = if (convS l x i 0 m).2 = 0 then totL l m (acc ++ [(convS l x i 0 m).1]) (i + 1) t else (0, (convS l x i 0 m).2) := rfl
def totS (l : List Rt) (n : List Int) (m : Int) : Int × Int := if chkR l = 0 then (if l.length < n.length then (0, 8) else totL l m [] 0 n) else (0, chkR l)
theorem chkR_len (l : List Rt) (h : chkR l = 0) : 1 ≤ l.length ∧ l.length ≤ 8 := by
  unfold chkR at h
  by_cases c : l.length = 0 ∨ 8 < l.length
  · rw [if_pos c] at h; cases h
  · omega
theorem tot_loop (l : List Rt) (nn : List Int) (m : Int) (hn : nn.length ≤ 8) : ∀ d i k : Nat, i + d = nn.length → d + 80 ≤ k → ∀ acc : List Int, acc.length ≤ i → rate_Total.l0 k l m acc nn (nn.length : Int) (i : Int) = some (totL l m acc (i : Int) (nn.drop i)) := by
  intro d
  induction d with
  | zero =>
    intro i k hi hk acc ha
    obtain ⟨k, rfl⟩ : ∃ m, k = m + 1 := ⟨k - 1, by omega⟩
    rw [rate_Total.l0, if_neg (by omega), List.drop_eq_nil_of_le (by omega), sum_eq acc (by omega) k (by omega), totL]
    rfl
  | succ d ih =>
    intro i k hi hk acc ha
    obtain ⟨k, rfl⟩ : ∃ m, k = m + 1 := ⟨k - 1, by omega⟩
    rw [rate_Total.l0, if_pos (by omega), if_pos (by omega), if_pos (by omega), base_eq l _ _ _ k (by omega), Option.bind_some, rd_drop nn i (by omega), totL_cons, IntWalk.wrap64_in ((i : Int) + 1) (by omega), show ((i : Int) + 1) = ((i + 1 : Nat) : Int) by omega]
    by_cases hc : (convS l (rd nn (i : Int)) (i : Int) 0 m).2 = 0
    · rw [if_pos hc, if_pos (by omega), if_pos hc, ih (i + 1) k (by omega) (by omega) _ (by simp; omega)]
    · rw [if_neg hc, if_neg hc]
theorem total_eq (l : List Rt) (n : List Int) (m : Int) (k : Nat) (hk : 100 ≤ k) : rate_Total.f k l n m = some (totS l n m) := by
  unfold rate_Total.f totS
  rw [rcheck_eq8 l k (by omega), Option.bind_some]
  by_cases h : chkR l = 0
  · have := chkR_len l h
    rw [if_pos h, if_pos h]
    by_cases h1 : l.length < n.length
    · rw [if_pos (by omega), if_pos h1]
    · rw [if_neg (by omega), if_neg h1, show (0 : Int) = ((0 : Nat) : Int) from rfl, tot_loop l n m (by omega) n.length 0 k (by omega) (by omega) [] (by simp), List.drop_zero]
  · rw [if_neg h, if_neg h]
theorem rtot_loop (l : List Rt) (hb : ∀ r ∈ l, r.f0.size ≤ 9223372036854775807) (nn : List Int) (m : Int) (hn : nn.length ≤ 8) : ∀ d i k : Nat, i + d = nn.length → d + 80 + szR l ≤ k → ∀ acc : List Int, acc.length ≤ i → contangoref08_Total.l0 k l nn m acc (i : Int) = some (totL l m acc (i : Int) (nn.drop i)) := by
  intro d
  induction d with
  | zero =>
    intro i k hi hk acc ha
    obtain ⟨k, rfl⟩ : ∃ m, k = m + 1 := ⟨k - 1, by omega⟩
    rw [contangoref08_Total.l0, if_neg (by omega), List.drop_eq_nil_of_le (by omega), rsum_eq acc (by omega) k (by omega), totL]
    rfl
  | succ d ih =>
    intro i k hi hk acc ha
    obtain ⟨k, rfl⟩ : ∃ m, k = m + 1 := ⟨k - 1, by omega⟩
    rw [contangoref08_Total.l0, if_pos (by omega), if_pos (by omega), rbase_eq l hb _ _ _ k (by omega), Option.bind_some, rd_drop nn i (by omega), totL_cons, IntWalk.wrap64_in ((i : Int) + 1) (by omega), show ((i : Int) + 1) = ((i + 1 : Nat) : Int) by omega]
    by_cases hc : (convS l (rd nn (i : Int)) (i : Int) 0 m).2 = 0
    · rw [if_pos hc, if_pos (by omega), if_pos hc, ih (i + 1) k (by omega) (by omega) _ (by simp; omega)]
    · rw [if_neg hc, if_neg hc]
theorem rtotal_eq (l : List Rt) (hb : ∀ r ∈ l, r.f0.size ≤ 9223372036854775807) (n : List Int) (m : Int) (k : Nat) (hk : 100 + szR l ≤ k) : contangoref08_Total.f k l n m = some (totS l n m) := by
  unfold contangoref08_Total.f totS
  rw [rrcheck_eq8 l hb k (by omega), Option.bind_some]
  by_cases h : chkR l = 0
  · have := chkR_len l h
    rw [if_pos h, if_pos h]
    by_cases h1 : l.length < n.length
    · rw [if_pos (by omega), if_pos h1]
    · rw [if_neg (by omega), if_neg h1, show (0 : Int) = ((0 : Nat) : Int) from rfl, rtot_loop l hb n m (by omega) n.length 0 k (by omega) (by omega) [] (by simp), List.drop_zero]
  · rw [if_neg h, if_neg h]
theorem rt_big {l : List Rt} (h : ∀ r ∈ l, ok87 r) : ∀ r ∈ l, r.f0.size ≤ 9223372036854775807 := fun r hr => (h r hr).1
end Go.Proofs.Ytaembbndjpebhaa.Pr
