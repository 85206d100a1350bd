/- Cover: what a member has together, and who is called, by the reference. -/
import Derived.Test.YtfcaaefdmabkhaaQ787LmCoverA
import Derived.Test.YtfcaaefdmabkhaaQ787LmCoverL
import Derived.Test.YtfcaaefdmabkhaaQ787LmName
import Derived.Test.YtfcaaefdmabkhaaQ787LmSums
import Derived.Test.YtfcaaefdmabkhaaQ787P0
import Derived.Test.YtfcaaefdmabkhaaQ787P1
import Derived.Test.YtfcaaefdmabkhaaQ787P5
import Derived.Test.YtfcaaefdmabkhaaQ787P7
import Derived.Test.YtfcaaefdmabkhaaQ787P3
namespace Go.Proofs.Ytfcaaefdmabkhaa.Pr
open Go.RowKit Go.Proofs.Ytfcaaefdmabkhaa.Pr Go.Proofs.YtfcaaefdmabkhaaW.PrintWords Go.Proofs.YtfcaaefdmabkhaaW.PrintLast Go.Proofs.YtfcaaefdmabkhaaW.PrintMore
set_option linter.unusedVariables false
set_option linter.unusedSimpArgs false
theorem QcI (x : Int) : Go.bits .and .i64 x 1073741823 = x % 1073741824 := by
 have h : (BitVec.ofInt 64 x &&& BitVec.ofInt 64 1073741823).toNat = (x % 18446744073709551616).toNat % 1073741824 := by
  rw [BitVec.toNat_and, BitVec.toNat_ofInt, BitVec.toNat_ofInt]
  have e : ((1073741823 : Int) % ((2 ^ 64 : Nat) : Int)).toNat = 2 ^ 30 - 1 := by decide
  have e2 : ((2 ^ 64 : Nat) : Int) = 18446744073709551616 := by decide
  rw [e, Nat.and_two_pow_sub_one_eq_mod, e2]
 show IntKind.i64.wrap (((BitVec.ofInt 64 x &&& BitVec.ofInt 64 1073741823).toNat : Nat) : Int) = _
 rw [h, IntKind.wrap_i64]
 omega
def fitM (S : Int) : Prop := -1152921504606846976 ≤ S ∧ S ≤ 1152921504606846976
instance (S : Int) : Decidable (fitM S) := by unfold fitM; infer_instance
def i64s (l : List Int) : Prop := ∀ x ∈ l, -9223372036854775808 ≤ x ∧ x ≤ 9223372036854775807
def totM (l : List Int) : Int × Int := if fitM l.sum then (l.sum, 0) else (0, 3)
theorem tsplit (x : Int) : 4294967296 * Int.tdiv x 4294967296 + Int.tmod x 4294967296 = x ∧ -4294967296 < Int.tmod x 4294967296 ∧ Int.tmod x 4294967296 < 4294967296 :=
 ⟨Int.mul_tdiv_add_tmod x 4294967296, Int.lt_tmod_of_pos x (by decide), Int.tmod_lt_of_pos x (by decide)⟩
theorem rd_in (l : List Int) (i : Nat) (h : i < l.length) : rd l (i : Int) ∈ l := List.mem_of_mem_drop ((QcV l i h) ▸ List.mem_cons_self)
theorem QdG (l : List Int) (hl : l.length ≤ 1048576) (hw : i64s l) : ∀ d i k : Nat, i + d = l.length → d + 2 ≤ k → ∀ hi lo : Int, -((i : Int) * 2147483649) ≤ hi → hi ≤ (i : Int) * 2147483649 → -((i : Int) * 4294967296) ≤ lo → lo ≤ (i : Int) * 4294967296 →
  QaN.l0 k hi lo l (l.length : Int) (i : Int) = some (if fitM (hi * 4294967296 + lo + (l.drop i).sum) then (hi * 4294967296 + lo + (l.drop i).sum, 0) else (0, 3)) := by
 intro d
 induction d with
 | zero =>
  intro i k hi_ hk hi lo b1 b2 b3 b4
  obtain ⟨k, rfl⟩ : ∃ m, k = m + 2 := ⟨k - 2, by omega⟩
  obtain ⟨t1, t2, t3⟩ := tsplit lo
  rw [QaN.l0, if_neg (by omega), List.drop_eq_nil_of_le (by omega)]
  generalize Int.tdiv lo 4294967296 = q at *
  generalize Int.tmod lo 4294967296 = r at *
  have w0 : wrap64 q = q := by unfold wrap64; omega
  have w1 : wrap64 (hi + q) = hi + q := by unfold wrap64; omega
  rw [w0, w1, List.sum_nil, Int.add_zero]
  clear w0 w1
  by_cases c : hi + q > 268435457
  ·rw [if_pos c, QaN.j1, if_pos rfl, if_neg (by unfold fitM; omega)]
  rw [if_neg c]
  by_cases c2 : hi + q < -268435457
  ·rw [decide_eq_true c2, QaN.j1, if_pos rfl, if_neg (by unfold fitM; omega)]
  rw [decide_eq_false c2, QaN.j1, if_neg (by decide)]
  have w2 : wrap64 (wrap64 ((hi + q) * 4294967296) + r) = hi * 4294967296 + lo := by unfold wrap64; omega
  rw [w2]
  clear w2
  by_cases c3 : hi * 4294967296 + lo > 1152921504606846976
  ·rw [if_pos c3, if_neg (by unfold fitM; omega)]
  rw [if_neg c3]
  by_cases c4 : hi * 4294967296 + lo < -1152921504606846976
  ·rw [if_pos c4, if_neg (by unfold fitM; omega)]
  rw [if_neg c4, if_pos (by unfold fitM; omega)]
 | succ d ih =>
  intro i k hi_ hk hi lo b1 b2 b3 b4
  obtain ⟨k, rfl⟩ : ∃ m, k = m + 1 := ⟨k - 1, by omega⟩
  have hx := hw _ (rd_in l i (by omega))
  rw [QaN.l0, if_pos (by omega), if_pos (by omega), if_pos (by omega), QcV l i (by omega)]
  generalize rd l (i : Int) = x at *
  obtain ⟨t1, t2, t3⟩ := tsplit x
  generalize Int.tdiv x 4294967296 = q at *
  generalize Int.tmod x 4294967296 = r at *
  have w0 : wrap64 q = q := by unfold wrap64; omega
  have w1 : wrap64 (hi + q) = hi + q := by unfold wrap64; omega
  have w2 : wrap64 (lo + r) = lo + r := by unfold wrap64; omega
  rw [w0, w1, w2, nwrap (x := (i : Int) + 1) (by omega) (by omega), show ((i : Int) + 1) = ((i + 1 : Nat) : Int) by omega]
  clear w0 w1 w2
  rw [ih (i + 1) k (by omega) (by omega) _ _ (by omega) (by omega) (by omega) (by omega), List.sum_cons, show (hi + q) * 4294967296 + (lo + r) + (l.drop (i + 1)).sum = hi * 4294967296 + lo + (x + (l.drop (i + 1)).sum) by omega]
theorem QcQ (l : List Int) (hl : l.length ≤ 1048576) (hw : i64s l) (k : Nat) (hk : l.length + 2 ≤ k) : QaN.f k l = some (totM l) := by
 unfold QaN.f totM
 rw [show (0 : Int) = ((0 : Nat) : Int) from rfl, QdG l hl hw l.length 0 k (by omega) hk _ _ (by omega) (by omega) (by omega) (by omega), List.drop_zero]
 simp only [Int.ofNat_zero, Int.zero_mul, Int.zero_add, Int.natCast_zero]
theorem Qdn (l : List Int) (hl : l.length ≤ 1048576) (hw : i64s l) : ∀ d i k : Nat, i + d = l.length → d + 1 ≤ k → ∀ hi lo : Int, -((i : Int) * 8589934592) ≤ hi → hi ≤ (i : Int) * 8589934592 → 0 ≤ lo → lo ≤ (i : Int) * 1073741824 →
  QaE.l0 k l hi lo (i : Int) = some (if fitM (hi * 1073741824 + lo + (l.drop i).sum) then (hi * 1073741824 + lo + (l.drop i).sum, true) else (0, false)) := by
 intro d
 induction d with
 | zero =>
  intro i k hi_ hk hi lo b1 b2 b3 b4
  obtain ⟨k, rfl⟩ : ∃ m, k = m + 1 := ⟨k - 1, by omega⟩
  rw [QaE.l0, if_neg (by omega), List.drop_eq_nil_of_le (by omega), QcI, List.sum_nil, Int.add_zero]
  have w1 : wrap64 (hi + lo / 1073741824) = hi + lo / 1073741824 := by unfold wrap64; omega
  rw [w1]
  clear w1
  by_cases c1 : hi + lo / 1073741824 < -1073741824
  ·rw [if_pos c1, if_neg (by unfold fitM; omega)]
  rw [if_neg c1]
  by_cases c2 : hi + lo / 1073741824 > 1073741824
  ·rw [if_pos c2, if_neg (by unfold fitM; omega)]
  rw [if_neg c2]
  have w2 : wrap64 (wrap64 ((hi + lo / 1073741824) * 1073741824) + lo % 1073741824) = hi * 1073741824 + lo := by unfold wrap64; omega
  rw [w2]
  clear w2
  by_cases c3 : hi + lo / 1073741824 = 1073741824
  ·rw [if_pos c3]
   by_cases c4 : lo % 1073741824 > 0
   ·rw [if_pos c4, if_neg (by unfold fitM; omega)]
   rw [if_neg c4, if_pos (by unfold fitM; omega)]
  rw [if_neg c3, if_pos (by unfold fitM; omega)]
 | succ d ih =>
  intro i k hi_ hk hi lo b1 b2 b3 b4
  obtain ⟨k, rfl⟩ : ∃ m, k = m + 1 := ⟨k - 1, by omega⟩
  have hx := hw _ (rd_in l i (by omega))
  rw [QaE.l0, if_pos (by omega), if_pos (by omega), QcV l i (by omega), QcI]
  generalize rd l (i : Int) = x at *
  have w1 : wrap64 (hi + x / 1073741824) = hi + x / 1073741824 := by unfold wrap64; omega
  have w2 : wrap64 (lo + x % 1073741824) = lo + x % 1073741824 := by unfold wrap64; omega
  rw [w1, w2, nwrap (x := (i : Int) + 1) (by omega) (by omega), show ((i : Int) + 1) = ((i + 1 : Nat) : Int) by omega]
  clear w1 w2
  rw [ih (i + 1) k (by omega) (by omega) _ _ (by omega) (by omega) (by omega) (by omega), List.sum_cons, show (hi + x / 1073741824) * 1073741824 + (lo + x % 1073741824) + (l.drop (i + 1)).sum = hi * 1073741824 + lo + (x + (l.drop (i + 1)).sum) by omega]
theorem Qcr (l : List Int) (hl : l.length ≤ 1048576) (hw : i64s l) (k : Nat) (hk : l.length + 1 ≤ k) : QaE.f k l = some (if fitM l.sum then (l.sum, true) else (0, false)) := by
 unfold QaE.f
 rw [show (0 : Int) = ((0 : Nat) : Int) from rfl, Qdn l hl hw l.length 0 k (by omega) hk _ _ (by omega) (by omega) (by omega) (by omega), List.drop_zero]
 simp only [Int.ofNat_zero, Int.zero_mul, Int.zero_add, Int.natCast_zero]
def memR (A B C : List Int) : Int × Int × Int × Int := if fitM A.sum then (if fitM B.sum then (if fitM C.sum then (A.sum, B.sum, C.sum, 0) else (0, 0, 0, 3)) else (0, 0, 0, 3)) else (0, 0, 0, 3)
theorem QcG {l : List Int} (h : fitM l.sum) : totM l = (l.sum, 0) := by unfold totM; rw [if_pos h]
theorem QcF {l : List Int} (h : ¬ fitM l.sum) : totM l = (0, 3) := by unfold totM; rw [if_neg h]
theorem mem_l2 (A B C : List Int) (k : Nat) (n : Nat) (hn : n ≤ 1048576) (hA : A.length ≤ n) (hB : B.length ≤ n) (hC : C.length ≤ n) (wA : i64s A) (wB : i64s B) (wC : i64s C) (hk : n + 6 ≤ k) : Qaw.l2 k 0 A B C 0 0 0 = some (memR A B C) := by
 obtain ⟨k, rfl⟩ : ∃ m, k = m + 4 := ⟨k - 4, by omega⟩
 unfold memR
 rw [Qaw.l2, if_pos (by decide), if_pos rfl, QcQ A (by omega) wA _ (by omega), Option.bind_some]
 by_cases h1 : fitM A.sum
 ·rw [if_pos h1, QcG h1, if_pos rfl, show wrap64 (0 + 1) = 1 from nwrap (by decide) (by decide), Qaw.l2, if_pos (by decide), if_neg (by decide), if_pos rfl, QcQ B (by omega) wB _ (by omega), Option.bind_some]
  by_cases h2 : fitM B.sum
  ·rw [if_pos h2, QcG h2, if_pos rfl, show wrap64 (1 + 1) = 2 from nwrap (by decide) (by decide), Qaw.l2, if_pos (by decide), if_neg (by decide), if_neg (by decide), if_pos rfl, QcQ C (by omega) wC _ (by omega), Option.bind_some]
   by_cases h3 : fitM C.sum
   ·rw [if_pos h3, QcG h3, if_pos rfl, show wrap64 (2 + 1) = 3 from nwrap (by decide) (by decide), Qaw.l2, if_neg (by decide)]
   rw [if_neg h3, QcF h3, if_neg (by decide)]
  rw [if_neg h2, QcF h2, if_neg (by decide)]
 rw [if_neg h1, QcF h1, if_neg (by decide)]
theorem mem_in (m : ByteArray) (l : List Gp) (n i : Int) (x y z : Int) (A B C : List Int) (k : Nat) (hA : A.length < 17592186044416) (hB : B.length < 17592186044416) (hC : C.length < 17592186044416) :
  Qaw.l1 (k + 4) m l n i [x, y, z] (([x, y, z] : List Int).length : Int) 0 A B C = Qaw.l0 k m l n (wrap64 (i + 1)) (A ++ [x]) (B ++ [y]) (C ++ [z]) := by
 have e1 : wrap64 (0 + 1) = 1 := nwrap (by decide) (by decide)
 have e2 : wrap64 (1 + 1) = 2 := nwrap (by decide) (by decide)
 have e3 : wrap64 (2 + 1) = 3 := nwrap (by decide) (by decide)
 have r0 : rd [x, y, z] 0 = x := rfl
 have r1 : rd [x, y, z] 1 = y := rfl
 have r2 : rd [x, y, z] 2 = z := rfl
 rw [Qaw.l1, if_pos (by simp), if_pos (by decide), if_pos (by simp), if_pos rfl, if_pos hA, r0, e1, Qaw.l1, if_pos (by simp), if_pos (by decide), if_pos (by simp), if_neg (by decide), if_pos rfl, if_pos hB, r1, e2,
  Qaw.l1, if_pos (by simp), if_pos (by decide), if_pos (by simp), if_neg (by decide), if_neg (by decide), if_pos rfl, if_pos hC, r2, e3, Qaw.l1, if_neg (by simp)]
def isM (m : ByteArray) (g : RGp) : Bool := g.f0.f0.toList == m.toList
def wfG (g : RGp) : Prop := (-9223372036854775808 ≤ g.f1 ∧ g.f1 ≤ 9223372036854775807) ∧ (-9223372036854775808 ≤ g.f2 ∧ g.f2 ≤ 9223372036854775807) ∧ (-9223372036854775808 ≤ g.f3 ∧ g.f3 ≤ 9223372036854775807)
theorem QbT {A : List Int} {x : Int} (h : i64s A) (hx : -9223372036854775808 ≤ x ∧ x ≤ 9223372036854775807) : i64s (A ++ [x]) := by
 intro y hy
 rcases List.mem_append.1 hy with hy | hy
 ·exact h y hy
 rw [List.mem_singleton.1 hy]; exact hx
theorem Qdy (l : List RGp) (i : Nat) (h : i < l.length) : rd_T50 (l.map toG) (i : Int) = toG (Qas l (i : Int)) := by
 rw [gp_rd _ _ (by rw [List.length_map]; exact h), rgp_rd l i h, List.getElem_map]
theorem Qd7 (l : List RGp) (m : ByteArray) (hl : l.length ≤ 1048576) (hw : ∀ g ∈ l, wfG g) : ∀ d i k : Nat, i + d = l.length → 5 * d + l.length + 7 ≤ k → ∀ A B C : List Int, A.length ≤ i → B.length ≤ i → C.length ≤ i → i64s A → i64s B → i64s C →
  Qaw.l0 k m (l.map toG) (l.length : Int) (i : Int) A B C = some (memR (A ++ ((l.drop i).filter (isM m)).map (·.f1)) (B ++ ((l.drop i).filter (isM m)).map (·.f2)) (C ++ ((l.drop i).filter (isM m)).map (·.f3))) := by
 intro d
 induction d with
 | zero =>
  intro i k hi hk A B C hA hB hC wA wB wC
  obtain ⟨k, rfl⟩ : ∃ m, k = m + 1 := ⟨k - 1, by omega⟩
  rw [Qaw.l0, if_neg (by omega), List.drop_eq_nil_of_le (by omega), mem_l2 A B C k l.length hl (by omega) (by omega) (by omega) wA wB wC (by omega)]
  simp
 | succ d ih =>
  intro i k hi hk A B C hA hB hC wA wB wC
  obtain ⟨k, rfl⟩ : ∃ m, k = m + 5 := ⟨k - 5, by omega⟩
  have hd := Qcn l i (by omega)
  have hg := hw _ (List.mem_of_mem_drop (hd ▸ List.mem_cons_self))
  rw [Qaw.l0, if_pos (by omega), if_pos (by omega), if_pos (by rw [List.length_map]; omega), Qdy l i (by omega), hd]
  generalize Qas l (i : Int) = g at *
  by_cases h : g.f0.f0.toList = m.toList
  ·rw [if_pos (show (toG g).f0.f0.toList = m.toList from h), Option.bind_some, mem_in _ _ _ _ _ _ _ _ _ _ _ (by omega) (by omega) (by omega), nwrap (x := (i : Int) + 1) (by omega) (by omega), show ((i : Int) + 1) = ((i + 1 : Nat) : Int) by omega]
   show Qaw.l0 k m (l.map toG) (l.length : Int) ((i + 1 : Nat) : Int) (A ++ [g.f1]) (B ++ [g.f2]) (C ++ [g.f3]) = _
   rw [ih (i + 1) k (by omega) (by omega) _ _ _ (by rw [List.length_append]; simp; omega) (by rw [List.length_append]; simp; omega) (by rw [List.length_append]; simp; omega) (QbT wA hg.1) (QbT wB hg.2.1) (QbT wC hg.2.2),
    List.filter_cons, if_pos (show isM m g = true from beq_iff_eq.2 h)]
   simp only [List.map_cons, List.append_assoc, List.cons_append, List.nil_append]
  rw [if_neg (show ¬ (toG g).f0.f0.toList = m.toList from h), nwrap (x := (i : Int) + 1) (by omega) (by omega), show ((i : Int) + 1) = ((i + 1 : Nat) : Int) by omega,
   ih (i + 1) (k + 4) (by omega) (by omega) _ _ _ (by omega) (by omega) (by omega) wA wB wC, List.filter_cons, if_neg (show ¬ isM m g = true from fun e => h (beq_iff_eq.1 e))]
def memS (l : List RGp) (m : ByteArray) : Int × Int × Int × Int := memR ((l.filter (isM m)).map (·.f1)) ((l.filter (isM m)).map (·.f2)) ((l.filter (isM m)).map (·.f3))
theorem Qb2 : i64s [] := fun _ h => by cases h
theorem mem_eq (l : List RGp) (m : ByteArray) (hl : l.length ≤ 1048576) (hw : ∀ g ∈ l, wfG g) (k : Nat) (hk : 6 * l.length + 7 ≤ k) : Qaw.f k (l.map toG) m = some (memS l m) := by
 unfold Qaw.f memS
 rw [List.length_map, show (0 : Int) = ((0 : Nat) : Int) from rfl, Qd7 l m hl hw l.length 0 k (by omega) (by omega) [] [] [] (Nat.le_refl _) (Nat.le_refl _) (Nat.le_refl _) Qb2 Qb2 Qb2, List.drop_zero]
 rfl
theorem Qem (A B C : List Int) (k : Nat) (n : Nat) (hn : n ≤ 1048576) (hA : A.length ≤ n) (hB : B.length ≤ n) (hC : C.length ≤ n) (wA : i64s A) (wB : i64s B) (wC : i64s C) (hk : n + 6 ≤ k) : Qaj.l1 k 0 A B C 0 0 0 = some (memR A B C) := by
 obtain ⟨k, rfl⟩ : ∃ m, k = m + 4 := ⟨k - 4, by omega⟩
 unfold memR
 rw [Qaj.l1, if_pos (by decide), if_pos rfl, Qcr A (by omega) wA _ (by omega), Option.bind_some]
 by_cases h1 : fitM A.sum
 ·rw [if_pos h1, if_pos rfl, show wrap64 (0 + 1) = 1 from nwrap (by decide) (by decide), Qaj.l1, if_pos (by decide), if_neg (by decide), if_pos rfl, Qcr B (by omega) wB _ (by omega), Option.bind_some, if_pos h1]
  by_cases h2 : fitM B.sum
  ·rw [if_pos h2, if_pos rfl, show wrap64 (1 + 1) = 2 from nwrap (by decide) (by decide), Qaj.l1, if_pos (by decide), if_neg (by decide), if_neg (by decide), if_pos rfl, Qcr C (by omega) wC _ (by omega), Option.bind_some, if_pos h2]
   by_cases h3 : fitM C.sum
   ·rw [if_pos h3, if_pos rfl, show wrap64 (2 + 1) = 3 from nwrap (by decide) (by decide), Qaj.l1, if_neg (by decide), if_pos h3]
   rw [if_neg h3, if_neg (by decide), if_neg h3]
  rw [if_neg h2, if_neg (by decide), if_neg h2]
 rw [if_neg h1, if_neg (by decide), if_neg h1]
theorem QdQ (l : List RGp) (m : ByteArray) (hl : l.length ≤ 1048576) (hw : ∀ g ∈ l, wfG g) : ∀ d i k : Nat, i + d = l.length → d + l.length + 7 ≤ k → ∀ A B C : List Int, A.length ≤ i → B.length ≤ i → C.length ≤ i → i64s A → i64s B → i64s C →
  Qaj.l0 k l m (i : Int) A B C = some (memR (A ++ ((l.drop i).filter (isM m)).map (·.f1)) (B ++ ((l.drop i).filter (isM m)).map (·.f2)) (C ++ ((l.drop i).filter (isM m)).map (·.f3))) := by
 intro d
 induction d with
 | zero =>
  intro i k hi hk A B C hA hB hC wA wB wC
  obtain ⟨k, rfl⟩ : ∃ m, k = m + 1 := ⟨k - 1, by omega⟩
  rw [Qaj.l0, if_neg (by omega), List.drop_eq_nil_of_le (by omega), Qem A B C k l.length hl (by omega) (by omega) (by omega) wA wB wC (by omega)]
  simp
 | succ d ih =>
  intro i k hi hk A B C hA hB hC wA wB wC
  obtain ⟨k, rfl⟩ : ∃ m, k = m + 1 := ⟨k - 1, by omega⟩
  have hd := Qcn l i (by omega)
  have hg := hw _ (List.mem_of_mem_drop (hd ▸ List.mem_cons_self))
  rw [Qaj.l0, if_pos (by omega), if_pos (by omega), hd]
  generalize Qas l (i : Int) = g at *
  by_cases h : g.f0.f0.toList = m.toList
  ·rw [if_pos h, if_pos (by omega), if_pos (by omega), if_pos (by omega), nwrap (x := (i : Int) + 1) (by omega) (by omega), show ((i : Int) + 1) = ((i + 1 : Nat) : Int) by omega,
    ih (i + 1) k (by omega) (by omega) _ _ _ (by rw [List.length_append]; simp; omega) (by rw [List.length_append]; simp; omega) (by rw [List.length_append]; simp; omega) (QbT wA hg.1) (QbT wB hg.2.1) (QbT wC hg.2.2),
    List.filter_cons, if_pos (show isM m g = true from beq_iff_eq.2 h)]
   simp only [List.map_cons, List.append_assoc, List.cons_append, List.nil_append]
  rw [if_neg h, nwrap (x := (i : Int) + 1) (by omega) (by omega), show ((i : Int) + 1) = ((i + 1 : Nat) : Int) by omega,
   ih (i + 1) k (by omega) (by omega) _ _ _ (by omega) (by omega) (by omega) wA wB wC, List.filter_cons, if_neg (show ¬ isM m g = true from fun e => h (beq_iff_eq.1 e))]
theorem Qel (l : List RGp) (m : ByteArray) (hl : l.length ≤ 1048576) (hw : ∀ g ∈ l, wfG g) (k : Nat) (hk : 2 * l.length + 7 ≤ k) : Qaj.f k l m = some (memS l m) := by
 unfold Qaj.f memS
 rw [show (0 : Int) = ((0 : Nat) : Int) from rfl, QdQ l m hl hw l.length 0 k (by omega) (by omega) [] [] [] (Nat.le_refl _) (Nat.le_refl _) (Nat.le_refl _) Qb2 Qb2 Qb2, List.drop_zero]
 rfl
def Qb6 (n : Int) (g : RGp) : Bool := decide (g.f3 ≥ n ∧ g.f3 > 0)
theorem Qdk (n : Int) (l : List RGp) (hl : l.length ≤ 1048576) : ∀ d i k : Nat, i + d = l.length → d + 1 ≤ k → ∀ out : List RGp, out.length ≤ i → Qaz.l0 k l n out (i : Int) = some (out ++ (l.drop i).filter (Qb6 n)) := by
 intro d
 induction d with
 | zero =>
  intro i k hi hk out ho
  obtain ⟨k, rfl⟩ : ∃ m, k = m + 1 := ⟨k - 1, by omega⟩
  rw [Qaz.l0, if_neg (by omega), List.drop_eq_nil_of_le (by omega)]
  simp
 | succ d ih =>
  intro i k hi hk out ho
  obtain ⟨k, rfl⟩ : ∃ m, k = m + 1 := ⟨k - 1, by omega⟩
  rw [Qaz.l0, if_pos (by omega), if_pos (by omega), nwrap (by omega) (by omega), show ((i : Int) + 1) = ((i + 1 : Nat) : Int) by omega, Qcn l i (by omega)]
  generalize Qas l (i : Int) = g
  by_cases h2 : g.f3 > 0
  ·rw [if_pos h2]
   by_cases h1 : g.f3 ≥ n
   ·rw [if_pos h1, if_pos (by omega), ih (i + 1) k (by omega) (by omega) _ (by simp; omega), List.filter_cons, if_pos (by unfold Qb6; exact decide_eq_true ⟨h1, h2⟩), List.append_assoc]
    rfl
   rw [if_neg h1, ih (i + 1) k (by omega) (by omega) _ (by omega), List.filter_cons, if_neg (by unfold Qb6; intro e; exact h1 (of_decide_eq_true e).1)]
  rw [if_neg h2, ih (i + 1) k (by omega) (by omega) _ (by omega), List.filter_cons, if_neg (by unfold Qb6; intro e; exact h2 (of_decide_eq_true e).2)]
theorem QdP (n : Int) (l : List RGp) (hl : l.length ≤ 1048576) (k : Nat) (hk : l.length + 1 ≤ k) : Qaz.f k l n = some (l.filter (Qb6 n)) := by
 unfold Qaz.f
 rw [show (0 : Int) = ((0 : Nat) : Int) from rfl, Qdk n l hl l.length 0 k (by omega) hk [] (Nat.le_refl _), List.drop_zero, List.nil_append]
theorem Qdh (n : Int) (l : List RGp) : ((l.map toG).filter (Qb0 n)).map toR = l.filter (Qb6 n) := by
 rw [List.filter_map, List.map_map]
 have e : toR ∘ toG = id := rfl
 rw [e, List.map_id]
 rfl
end Go.Proofs.Ytfcaaefdmabkhaa.Pr
