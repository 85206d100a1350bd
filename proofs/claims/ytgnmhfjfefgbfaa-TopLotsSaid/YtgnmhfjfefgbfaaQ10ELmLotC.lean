/- TopLots: chunks of a portfolio. -/
import Derived.Test.YtgnmhfjfefgbfaaQ10ELmLotJ
import Derived.Test.YtgnmhfjfefgbfaaQ10ELmLotS
import Derived.Test.YtgnmhfjfefgbfaaQ10ELmPos
import Derived.Test.YtgnmhfjfefgbfaaQ10ELmTier
import Derived.Test.YtgnmhfjfefgbfaaQ10EP0
import Derived.Test.YtgnmhfjfefgbfaaQ10EP5
import Derived.Test.YtgnmhfjfefgbfaaQ10EP4
namespace Go.Proofs.Ytgnmhfjfefgbfaa.Pr
open Go.RowKit Go.Proofs.Ytgnmhfjfefgbfaa.Pr Go.Proofs.YtgnmhfjfefgbfaaW.PrintWords Go.Proofs.YtgnmhfjfefgbfaaW.PrintLast Go.Proofs.YtgnmhfjfefgbfaaW.PrintMore
set_option linter.unusedVariables false
set_option linter.unusedSimpArgs false
def EvI (n : Nat) (x : List Int) (t : Int) : Prop := x.length = n ∧ (∀ y ∈ x, 0 ≤ y) ∧ x.sum = t
theorem sum_nn : ∀ l : List Int, (∀ y ∈ l, 0 ≤ y) → 0 ≤ l.sum ∧ ∀ y ∈ l, y ≤ l.sum
 | [], _ => by simp
 | x :: l, h => by
  obtain ⟨a, b⟩ := sum_nn l (fun y hy => h y (List.mem_cons_of_mem _ hy))
  have hx := h x (by simp)
  rw [List.sum_cons]
  refine ⟨by omega, fun y hy => ?_⟩
  rcases List.mem_cons.1 hy with rfl | hy
  ·omega
  have := b y hy; omega
theorem QbV {n : Nat} {x : List Int} {t : Int} (h : EvI n x t) (j : Nat) (hj : j < n) : 0 ≤ rd x (j : Int) ∧ rd x (j : Int) ≤ t := by
 obtain ⟨h1, h2, h3⟩ := h
 rw [rd_at x j (by omega)]
 have m : x[j]'(by omega) ∈ x := List.getElem_mem _
 exact ⟨h2 _ m, h3 ▸ (sum_nn x h2).2 _ m⟩
theorem Qdn {n : Nat} {x : List Int} {t : Int} (h : EvI n x t) (j : Nat) (hj : j < n) : EvI n (x.set j (rd x (j : Int) + 1)) (t + 1) := by
 have g := QbV h j hj
 obtain ⟨h1, h2, h3⟩ := h
 refine ⟨by rw [List.length_set]; exact h1, fun y hy => ?_, ?_⟩
 ·rcases List.mem_or_eq_of_mem_set hy with hy | rfl
  ·exact h2 y hy
  omega
 rw [Qeb x j _ (by omega)]; omega
theorem Qdo (j c : Nat) (q : Int) : (List.replicate j q ++ List.replicate (c + 1) (0 : Int)).set j q = List.replicate (j + 1) q ++ List.replicate c 0 := by
 rw [List.set_append_right _ _ (by rw [List.length_replicate]; exact Nat.le_refl _), List.length_replicate, Nat.sub_self, List.replicate_succ (n := c), List.set_cons_zero, List.replicate_succ', List.append_assoc]
 rfl
theorem Qdm (n : Nat) (q : Int) (hq : 0 ≤ q) : EvI n (List.replicate n q) (n * q) := by
 refine ⟨List.length_replicate, fun y hy => by rw [List.eq_of_mem_replicate hy]; exact hq, ?_⟩
 induction n with
 | zero => simp
 | succ n ih => rw [List.replicate_succ, List.sum_cons, ih]; push_cast; rw [Int.add_mul]; omega
theorem dm (n : Nat) (hn : 1 ≤ n) (x : Int) (hx : 0 ≤ x) : 0 ≤ Int.tdiv x n ∧ Int.tdiv x n ≤ x ∧ ∃ r : Nat, Int.tmod x n = (r : Int) ∧ r < n ∧ (n : Int) * Int.tdiv x n + r = x := by
 have h1 : 0 ≤ Int.tdiv x n := Int.tdiv_nonneg hx (by omega)
 have h2 : 0 ≤ Int.tmod x n := Int.tmod_nonneg _ hx
 have h3 : Int.tmod x n < n := Int.tmod_lt_of_pos _ (by omega)
 have h4 : (n : Int) * Int.tdiv x n + Int.tmod x n = x := Int.mul_tdiv_add_tmod x n
 have h5 : 1 * Int.tdiv x n ≤ (n : Int) * Int.tdiv x n := Int.mul_le_mul_of_nonneg_right (by omega) h1
 refine ⟨h1, by omega, (Int.tmod x n).toNat, by omega, by omega, by omega⟩
theorem ch_l2 (x8 : List (List Posn)) (L : List Posn) (x30 x31 : Int) (n : Nat) (hn : 1 ≤ n) (hn2 : n ≤ 1024) (x nx : Int) (hx : 0 ≤ x ∧ x ≤ 1048576) (s0 : ByteArray) (s1 s2 s3 s4 s5 : Int) : ∀ c j k : Nat, j + c = n → c + 1 ≤ k →
  Qak.l2 k x8 L x30 x31 x (List.replicate j (Int.tdiv x n) ++ List.replicate c 0) (n : Int) (j : Int) (n : Int) nx s0 s1 s2 s3 s4 s5 = Qak.l3 (k - c - 1) x8 L x30 x31 (List.replicate n (Int.tdiv x n)) (Int.tmod x n) 0 (n : Int) nx s0 s1 s2 s3 s4 s5 := by
 obtain ⟨d1, d2, _⟩ := dm n hn x hx.1
 intro c
 induction c with
 | zero =>
  intro j k hj hk
  obtain ⟨k, rfl⟩ : ∃ z, k = z + 1 := ⟨k - 1, by omega⟩
  obtain rfl : j = n := by omega
  rw [Qak.l2, if_neg (by omega), if_neg (by omega), List.replicate_zero, List.append_nil]
  rfl
 | succ c ih =>
  intro j k hj hk
  obtain ⟨k, rfl⟩ : ∃ z, k = z + 1 := ⟨k - 1, by omega⟩
  rw [Qak.l2, if_pos (by omega), if_neg (by omega), if_pos (by omega), if_pos (by rw [List.length_append, List.length_replicate, List.length_replicate]; omega), IntWalk.wrap64_in (Int.tdiv x n) (by omega), IntWalk.wrap64_in ((j : Int) + 1) (by omega), Int.toNat_natCast, Qdo]
  have := ih (j + 1) k (by omega) (by omega)
  rw [show ((j + 1 : Nat) : Int) = (j : Int) + 1 by omega] at this
  rw [show k + 1 - (c + 1) - 1 = k - c - 1 by omega]
  exact this
theorem ch_l4 (x8 : List (List Posn)) (x11 : List Int) (L : List Posn) (x30 x31 : Int) (n : Nat) (hn : 1 ≤ n) (hn2 : n ≤ 1024) (x nx : Int) (hx : 0 ≤ x ∧ x ≤ 1048576) (s0 : ByteArray) (s1 s2 s3 s4 s5 : Int) : ∀ c j k : Nat, j + c = n → c + 1 ≤ k →
  Qak.l4 k x8 x11 L x30 x31 x (List.replicate j (Int.tdiv x n) ++ List.replicate c 0) (n : Int) (j : Int) (n : Int) nx s0 s1 s2 s3 s4 s5 = Qak.l5 (k - c - 1) x8 x11 L x30 x31 (List.replicate n (Int.tdiv x n)) (Int.tmod x n) 0 (n : Int) nx s0 s1 s2 s3 s4 s5 := by
 obtain ⟨d1, d2, _⟩ := dm n hn x hx.1
 intro c
 induction c with
 | zero =>
  intro j k hj hk
  obtain ⟨k, rfl⟩ : ∃ z, k = z + 1 := ⟨k - 1, by omega⟩
  obtain rfl : j = n := by omega
  rw [Qak.l4, if_neg (by omega), if_neg (by omega), List.replicate_zero, List.append_nil]
  rfl
 | succ c ih =>
  intro j k hj hk
  obtain ⟨k, rfl⟩ : ∃ z, k = z + 1 := ⟨k - 1, by omega⟩
  rw [Qak.l4, if_pos (by omega), if_neg (by omega), if_pos (by omega), if_pos (by rw [List.length_append, List.length_replicate, List.length_replicate]; omega), IntWalk.wrap64_in (Int.tdiv x n) (by omega), IntWalk.wrap64_in ((j : Int) + 1) (by omega), Int.toNat_natCast, Qdo]
  have := ih (j + 1) k (by omega) (by omega)
  rw [show ((j + 1 : Nat) : Int) = (j : Int) + 1 by omega] at this
  rw [show k + 1 - (c + 1) - 1 = k - c - 1 by omega]
  exact this
theorem Qd6 (n nx : Nat) (hn : nx < n) : ∃ z : Nat, Int.tmod ((nx : Int) + 1) n = (z : Int) ∧ z < n := by
 have h2 : 0 ≤ Int.tmod ((nx : Int) + 1) n := Int.tmod_nonneg _ (by omega)
 have h3 : Int.tmod ((nx : Int) + 1) n < n := Int.tmod_lt_of_pos _ (by omega)
 exact ⟨(Int.tmod ((nx : Int) + 1) n).toNat, by omega, by omega⟩
theorem ch_l3 (x8 : List (List Posn)) (L : List Posn) (x30 x31 : Int) (n : Nat) (hn : 1 ≤ n) (hn2 : n ≤ 1024) (r : Nat) (hr : r < n) (s0 : ByteArray) (s1 s2 s3 s4 s5 : Int) : ∀ c j k : Nat, j + c = r → c + 1 ≤ k → ∀ (x : List Int) (t : Int) (nx : Nat), EvI n x t → t + c ≤ 2000000 → nx < n →
  ∃ (x' : List Int) (nx' : Nat), EvI n x' (t + c) ∧ nx' < n ∧ Qak.l3 k x8 L x30 x31 x (r : Int) (j : Int) (n : Int) (nx : Int) s0 s1 s2 s3 s4 s5 = Qak.l4 (k - c - 1) x8 x' L x30 x31 s5 (List.replicate n 0) (n : Int) 0 (n : Int) (nx' : Int) s0 s1 s2 s3 s4 s5 := by
 intro c
 induction c with
 | zero =>
  intro j k hj hk x t nx hx ht hnx
  obtain ⟨k, rfl⟩ : ∃ z, k = z + 1 := ⟨k - 1, by omega⟩
  refine ⟨x, nx, by simpa using hx, hnx, ?_⟩
  rw [Qak.l3, if_neg (by omega), if_pos (by omega), if_pos (by omega), Option.bind_some, List.length_replicate, Int.toNat_natCast]
  rfl
 | succ c ih =>
  intro j k hj hk x t nx hx ht hnx
  obtain ⟨k, rfl⟩ : ∃ z, k = z + 1 := ⟨k - 1, by omega⟩
  have g := QbV hx nx hnx
  obtain ⟨z, z1, z2⟩ := Qd6 n nx hnx
  have hl := hx.1
  obtain ⟨x', nx', e1, e2, e3⟩ := ih (j + 1) k (by omega) (by omega) _ _ z (Qdn hx nx hnx) (by omega) z2
  refine ⟨x', nx', by rw [show t + ((c + 1 : Nat) : Int) = t + 1 + (c : Int) by omega]; exact e1, e2, ?_⟩
  rw [Qak.l3, if_pos (by omega), if_pos (by omega), if_pos (by omega), if_neg (by omega), IntWalk.wrap64_in (rd x (nx : Int) + 1) (by omega), IntWalk.wrap64_in ((j : Int) + 1) (by omega), IntWalk.wrap64_in ((nx : Int) + 1) (by omega), z1, Int.toNat_natCast, show k + 1 - (c + 1) - 1 = k - c - 1 by omega]
  rw [show ((j + 1 : Nat) : Int) = (j : Int) + 1 by omega] at e3
  exact e3
theorem ch_l5 (x8 : List (List Posn)) (x11 : List Int) (L : List Posn) (x30 x31 : Int) (n : Nat) (hn : 1 ≤ n) (hn2 : n ≤ 1024) (r : Nat) (hr : r < n) (s0 : ByteArray) (s1 s2 s3 s4 s5 : Int) : ∀ c j k : Nat, j + c = r → c + 1 ≤ k → ∀ (x : List Int) (t : Int) (nx : Nat), EvI n x t → t + c ≤ 2000000 → nx < n →
  ∃ (x' : List Int) (nx' : Nat), EvI n x' (t + c) ∧ nx' < n ∧ Qak.l5 k x8 x11 L x30 x31 x (r : Int) (j : Int) (n : Int) (nx : Int) s0 s1 s2 s3 s4 s5 = Qak.l1 (k - c - 1) x8 x11 x' L x30 x31 (x8.length : Int) 0 (n : Int) (nx' : Int) s0 s1 s2 s3 s4 s5 := by
 intro c
 induction c with
 | zero =>
  intro j k hj hk x t nx hx ht hnx
  obtain ⟨k, rfl⟩ : ∃ z, k = z + 1 := ⟨k - 1, by omega⟩
  refine ⟨x, nx, by simpa using hx, hnx, ?_⟩
  rw [Qak.l5, if_neg (by omega)]
  rfl
 | succ c ih =>
  intro j k hj hk x t nx hx ht hnx
  obtain ⟨k, rfl⟩ : ∃ z, k = z + 1 := ⟨k - 1, by omega⟩
  have g := QbV hx nx hnx
  obtain ⟨z, z1, z2⟩ := Qd6 n nx hnx
  have hl := hx.1
  obtain ⟨x', nx', e1, e2, e3⟩ := ih (j + 1) k (by omega) (by omega) _ _ z (Qdn hx nx hnx) (by omega) z2
  refine ⟨x', nx', by rw [show t + ((c + 1 : Nat) : Int) = t + 1 + (c : Int) by omega]; exact e1, e2, ?_⟩
  rw [Qak.l5, if_pos (by omega), if_pos (by omega), if_pos (by omega), if_neg (by omega), IntWalk.wrap64_in (rd x (nx : Int) + 1) (by omega), IntWalk.wrap64_in ((j : Int) + 1) (by omega), IntWalk.wrap64_in ((nx : Int) + 1) (by omega), z1, Int.toNat_natCast, show k + 1 - (c + 1) - 1 = k - c - 1 by omega]
  rw [show ((j + 1 : Nat) : Int) = (j : Int) + 1 by omega] at e3
  exact e3
theorem QcR (x : List (List Posn)) (j : Nat) (h : j < x.length) : rd_L7 x (j : Int) = x[j] := by
 unfold rd_L7
 rw [Int.toNat_natCast, List.getD_eq_getElem?_getD, List.getElem?_eq_getElem h]
 rfl
def GoodR (L : List Posn) (i : Nat) (r : List Posn) : Prop := (r.map (·.f0)).Sublist ((L.take i).map (·.f0)) ∧ ∀ q ∈ r, lotsOk q
theorem Qeu {L : List Posn} {i : Nat} {r : List Posn} (h : GoodR L i r) : r.length ≤ L.length := by
 have := h.1.length_le
 rw [List.length_map, List.length_map, List.length_take] at this
 omega
theorem QeS {L : List Posn} {i : Nat} {r : List Posn} (h : GoodR L i r) : GoodR L (i + 1) r :=
 ⟨h.1.trans ((List.take_sublist_take_left (Nat.le_succ i)).map _), h.2⟩
theorem Qet {L : List Posn} {i : Nat} {r : List Posn} (h : GoodR L i r) (hi : i < L.length) (q : Posn) (e : q.f0 = L[i].f0) (ok : lotsOk q) : GoodR L (i + 1) (r ++ [q]) := by
 refine ⟨?_, fun x hx => ?_⟩
 ·rw [List.take_succ_eq_append_getElem hi, List.map_append, List.map_append, List.map_cons, List.map_cons, e]
  exact h.1.append (List.Sublist.refl _)
 rcases List.mem_append.1 hx with hx | hx
 ·exact h.2 x hx
 rw [List.mem_singleton.1 hx]; exact ok
theorem Qcl (f : List Posn → Int) (x : List (List Posn)) (j : Nat) (r : List Posn) (h : j < x.length) : ((x.set j r).map f).sum = (x.map f).sum - f x[j] + f r := by
 rw [List.map_set, Qeb _ _ _ (by rw [List.length_map]; exact h), rd_at _ j (by rw [List.length_map]; exact h), List.getElem_map]
theorem Qb0 (a : List Int) (j : Nat) (h : j < a.length) : (a.take (j + 1)).sum = (a.take j).sum + rd a (j : Int) := by
 rw [List.take_succ_eq_append_getElem h, List.sum_append, rd_at a j h]
 simp
def RowI (L : List Posn) (n i : Nat) (p : Posn) (a b : List Int) (j : Nat) (x : List (List Posn)) : Prop :=
 x.length = n ∧ (∀ (m : Nat) (h : m < x.length), (j ≤ m → GoodR L i x[m]) ∧ GoodR L (i + 1) x[m]) ∧ ∀ s, (x.map (sL s)).sum = sL s (L.take i) + (if p.f0 = s then (a.take j).sum else 0) ∧ (x.map (sS s)).sum = sS s (L.take i) + (if p.f0 = s then (b.take j).sum else 0)
theorem Qdy {L : List Posn} {n i : Nat} {p : Posn} {a b : List Int} {j : Nat} {x : List (List Posn)} (h : RowI L n i p a b j x) (hi : i < L.length) (hp : p = L[i]) (hj : j < n) (ha : a.length = n) (hb : b.length = n) (ok : lotsOk ⟨p.f0, rd a (j : Int), rd b (j : Int)⟩) :
  RowI L n i p a b (j + 1) (x.set j (rd_L7 x (j : Int) ++ [⟨p.f0, rd a (j : Int), rd b (j : Int)⟩])) := by
 obtain ⟨h1, h2, h3⟩ := h
 have hx : j < x.length := by omega
 rw [QcR x j hx]
 refine ⟨by rw [List.length_set]; exact h1, fun m hm => ?_, fun s => ?_⟩
 ·rw [List.length_set] at hm
  rw [List.getElem_set]
  by_cases e : j = m
  ·subst e
   rw [if_pos rfl]
   exact ⟨fun h => by omega, Qet ((h2 j hx).1 (Nat.le_refl _)) hi _ (by rw [hp]) ok⟩
  rw [if_neg e]
  exact ⟨fun h => (h2 m hm).1 (by omega), (h2 m hm).2⟩
 obtain ⟨g1, g2⟩ := h3 s
 rw [Qcl _ _ _ _ hx, Qcl _ _ _ _ hx, Qce, Qcf, g1, g2, Qb0 a j (by omega), Qb0 b j (by omega)]
 dsimp only
 by_cases c : p.f0 = s
 ·rw [if_pos c, if_pos c, if_pos c, if_pos c, if_pos c, if_pos c]; omega
 rw [if_neg c, if_neg c, if_neg c, if_neg c, if_neg c, if_neg c]; omega
theorem QeB {L : List Posn} {n i : Nat} {p : Posn} {a b : List Int} {j : Nat} {x : List (List Posn)} (h : RowI L n i p a b j x) (hj : j < n) (ha : a.length = n) (hb : b.length = n) (a0 : rd a (j : Int) = 0) (b0 : rd b (j : Int) = 0) : RowI L n i p a b (j + 1) x := by
 obtain ⟨h1, h2, h3⟩ := h
 refine ⟨h1, fun m hm => ⟨fun h => (h2 m hm).1 (by omega), (h2 m hm).2⟩, fun s => ?_⟩
 obtain ⟨g1, g2⟩ := h3 s
 rw [Qb0 a j (by omega), Qb0 b j (by omega), a0, b0, Int.add_zero, Int.add_zero]
 exact ⟨g1, g2⟩
theorem ch_l1 (L : List Posn) (hL : L.length ≤ 128) (x30 : Int) (n i : Nat) (hn : n ≤ 1024) (hi : i < L.length) (p : Posn) (hp : p = L[i]) (hok : lotsOk p) (a b : List Int) (ha : EvI n a p.f1) (hb : EvI n b p.f2) (nx s4 s5 : Int) : ∀ c j k : Nat, j + c = n → c + 1 ≤ k → ∀ x : List (List Posn), RowI L n i p a b j x →
  ∃ x', RowI L n i p a b n x' ∧ Qak.l1 k x a b L x30 (i : Int) (n : Int) (j : Int) (n : Int) nx p.f0.f0 p.f0.f1 p.f0.f2 p.f0.f3 s4 s5 = Qak.l0 (k - c - 1) x' L x30 ((i : Int) + 1) (n : Int) nx := by
 have hal := ha.1
 have hbl := hb.1
 intro c
 induction c with
 | zero =>
  intro j k hj hk x hx
  obtain ⟨k, rfl⟩ : ∃ z, k = z + 1 := ⟨k - 1, by omega⟩
  obtain rfl : j = n := by omega
  refine ⟨x, hx, ?_⟩
  rw [Qak.l1, if_neg (by omega), IntWalk.wrap64_in ((i : Int) + 1) (by omega)]
  rfl
 | succ c ih =>
  intro j k hj hk x hx
  obtain ⟨k, rfl⟩ : ∃ z, k = z + 1 := ⟨k - 1, by omega⟩
  have ga := QbV ha j (by omega)
  have gb := QbV hb j (by omega)
  have hxl := hx.1
  have rl : (rd_L7 x (j : Int)).length < 2513169434916 := by
   rw [QcR x j (by omega)]
   have := Qeu (hx.2.1 j (by omega)).2
   omega
  unfold lotsOk at hok
  rw [Qak.l1, if_pos (by omega), if_pos (by omega), if_pos (by omega)]
  by_cases c1 : rd a (j : Int) > 0
  ·obtain ⟨x', e1, e2⟩ := ih (j + 1) k (by omega) (by omega) _ (Qdy hx hi hp (by omega) hal hbl ⟨⟨ga.1, by dsimp only; omega⟩, ⟨gb.1, by dsimp only; omega⟩, by dsimp only; omega⟩)
   refine ⟨x', e1, ?_⟩
   rw [if_pos c1, if_pos (by omega), if_pos (by omega), if_pos rl, IntWalk.wrap64_in ((j : Int) + 1) (by omega), Int.toNat_natCast, show k + 1 - (c + 1) - 1 = k - c - 1 by omega]
   rw [show ((j + 1 : Nat) : Int) = (j : Int) + 1 by omega] at e2
   exact e2
  rw [if_neg c1, if_pos (by omega)]
  by_cases c2 : rd b (j : Int) > 0
  ·obtain ⟨x', e1, e2⟩ := ih (j + 1) k (by omega) (by omega) _ (Qdy hx hi hp (by omega) hal hbl ⟨⟨ga.1, by dsimp only; omega⟩, ⟨gb.1, by dsimp only; omega⟩, by dsimp only; omega⟩)
   refine ⟨x', e1, ?_⟩
   rw [if_pos c2, if_pos (by omega), if_pos rl, IntWalk.wrap64_in ((j : Int) + 1) (by omega), Int.toNat_natCast, show k + 1 - (c + 1) - 1 = k - c - 1 by omega]
   rw [show ((j + 1 : Nat) : Int) = (j : Int) + 1 by omega] at e2
   exact e2
  obtain ⟨x', e1, e2⟩ := ih (j + 1) k (by omega) (by omega) _ (QeB hx (by omega) hal hbl (by omega) (by omega))
  refine ⟨x', e1, ?_⟩
  rw [if_neg c2, IntWalk.wrap64_in ((j : Int) + 1) (by omega), show k + 1 - (c + 1) - 1 = k - c - 1 by omega]
  rw [show ((j + 1 : Nat) : Int) = (j : Int) + 1 by omega] at e2
  exact e2
def RowsI (L : List Posn) (n i : Nat) (x : List (List Posn)) : Prop :=
 x.length = n ∧ (∀ r ∈ x, GoodR L i r) ∧ ∀ s, (x.map (sL s)).sum = sL s (L.take i) ∧ (x.map (sS s)).sum = sS s (L.take i)
theorem Qe8 {L : List Posn} {n i : Nat} {x : List (List Posn)} (h : RowsI L n i x) (p : Posn) (a b : List Int) : RowI L n i p a b 0 x := by
 obtain ⟨h1, h2, h3⟩ := h
 refine ⟨h1, fun m hm => ⟨fun _ => h2 _ (List.getElem_mem _), QeS (h2 _ (List.getElem_mem _))⟩, fun s => ?_⟩
 rw [List.take_zero, List.take_zero, List.sum_nil, ite_self, Int.add_zero, Int.add_zero]
 exact h3 s
theorem Qe7 {L : List Posn} {n i : Nat} {p : Posn} {a b : List Int} {x : List (List Posn)} (h : RowI L n i p a b n x) (hi : i < L.length) (hp : p = L[i]) (ha : EvI n a p.f1) (hb : EvI n b p.f2) : RowsI L n (i + 1) x := by
 obtain ⟨h1, h2, h3⟩ := h
 refine ⟨h1, fun r hr => ?_, fun s => ?_⟩
 ·obtain ⟨m, hm, rfl⟩ := List.mem_iff_getElem.1 hr
  exact (h2 m hm).2
 obtain ⟨g1, g2⟩ := h3 s
 rw [g1, g2, List.take_succ_eq_append_getElem hi, Qce, Qcf, ← hp, List.take_of_length_le (l := a) (by rw [ha.1]; exact Nat.le_refl _), List.take_of_length_le (l := b) (by rw [hb.1]; exact Nat.le_refl _), ha.2.2, hb.2.2]
 by_cases c : p.f0 = s
 ·rw [if_pos c, if_pos c, if_pos c, if_pos c]; exact ⟨rfl, rfl⟩
 rw [if_neg c, if_neg c, if_neg c, if_neg c]; omega
theorem ch_l0 (L : List Posn) (hL : QaY L) (n : Nat) (hn : 1 ≤ n) (hn2 : n ≤ 1024) : ∀ c i k : Nat, i + c = L.length → 6000 * c + 10 ≤ k → ∀ (x : List (List Posn)) (nx : Nat), nx < n → RowsI L n i x →
  ∃ x', RowsI L n L.length x' ∧ Qak.l0 k x L (L.length : Int) (i : Int) (n : Int) (nx : Int) = some (someL x' 0, 0) := by
 intro c
 induction c with
 | zero =>
  intro i k hi hk x nx hnx hx
  obtain ⟨k, rfl⟩ : ∃ z, k = z + 1 := ⟨k - 1, by omega⟩
  obtain rfl : i = L.length := by omega
  refine ⟨x, hx, ?_⟩
  have := hx.1
  rw [Qak.l0, if_neg (by omega), if_pos (by omega)]
 | succ c ih =>
  intro i k hi hk x nx hnx hx
  obtain ⟨k, rfl⟩ : ∃ z, k = z + 1 := ⟨k - 1, by omega⟩
  have hlt : i < L.length := by omega
  have ok : lotsOk L[i] := hL.2.2 _ (List.getElem_mem _)
  have ok' := ok
  unfold lotsOk at ok'
  rw [Qak.l0, if_pos (by omega), if_pos (by omega), if_pos (by omega), if_pos (by omega), if_pos (by omega), Option.bind_some, List.length_replicate, Int.toNat_natCast, pos_rd L i hlt]
  obtain ⟨q1, q2, r, q3, q4, q5⟩ := dm n hn L[i].f1 (by omega)
  obtain ⟨u1, u2, v, u3, u4, u5⟩ := dm n hn L[i].f2 (by omega)
  have l2 := ch_l2 x L (L.length : Int) (i : Int) n hn hn2 L[i].f1 (nx : Int) (by omega) L[i].f0.f0 L[i].f0.f1 L[i].f0.f2 L[i].f0.f3 L[i].f1 L[i].f2 n 0 k (by omega) (by omega)
  rw [List.replicate_zero, List.nil_append, show ((0 : Nat) : Int) = 0 from rfl, q3] at l2
  rw [l2]
  obtain ⟨a, nx2, a1, a2, a3⟩ := ch_l3 x L (L.length : Int) (i : Int) n hn hn2 r q4 L[i].f0.f0 L[i].f0.f1 L[i].f0.f2 L[i].f0.f3 L[i].f1 L[i].f2 r 0 (k - n - 1) (by omega) (by omega) _ _ nx (Qdm n _ q1) (by omega) hnx
  rw [show ((0 : Nat) : Int) = 0 from rfl] at a3
  rw [q5] at a1
  rw [a3]
  have l4 := ch_l4 x a L (L.length : Int) (i : Int) n hn hn2 L[i].f2 (nx2 : Int) (by omega) L[i].f0.f0 L[i].f0.f1 L[i].f0.f2 L[i].f0.f3 L[i].f1 L[i].f2 n 0 (k - n - 1 - r - 1) (by omega) (by omega)
  rw [List.replicate_zero, List.nil_append, show ((0 : Nat) : Int) = 0 from rfl, u3] at l4
  rw [l4]
  obtain ⟨b, nx3, b1, b2, b3⟩ := ch_l5 x a L (L.length : Int) (i : Int) n hn hn2 v u4 L[i].f0.f0 L[i].f0.f1 L[i].f0.f2 L[i].f0.f3 L[i].f1 L[i].f2 v 0 (k - n - 1 - r - 1 - n - 1) (by omega) (by omega) _ _ nx2 (Qdm n _ u1) (by omega) a2
  rw [show ((0 : Nat) : Int) = 0 from rfl] at b3
  rw [u5] at b1
  rw [b3, hx.1]
  obtain ⟨x', c1, c2⟩ := ch_l1 L hL.1 (L.length : Int) n i hn2 hlt L[i] rfl ok a b a1 b1 (nx3 : Int) L[i].f1 L[i].f2 n 0 (k - n - 1 - r - 1 - n - 1 - v - 1) (by omega) (by omega) x (Qe8 hx _ a b)
  rw [show ((0 : Nat) : Int) = 0 from rfl] at c2
  rw [c2]
  have := ih (i + 1) (k - n - 1 - r - 1 - n - 1 - v - 1 - n - 1) (by omega) (by omega) x' nx3 b2 (Qe7 c1 hlt rfl a1 b1)
  rw [show ((i + 1 : Nat) : Int) = (i : Int) + 1 by omega] at this
  exact this
theorem QbS : ∀ (x : List (List Posn)) (id : Int), (someL x id).length ≤ x.length ∧ allOf (someL x id) = x.flatten ∧ ∀ t ∈ someL x id, t.f1 ∈ x
 | [], _ => by simp [someL, allOf]
 | r :: x, id => by
  rw [someL]
  by_cases c : r.length = 0
  ·rw [if_pos c]
   obtain ⟨a1, a2, a3⟩ := QbS x id
   refine ⟨by rw [List.length_cons]; omega, by rw [a2, List.flatten_cons, List.length_eq_zero_iff.1 c]; rfl, fun t ht => List.mem_cons_of_mem _ (a3 t ht)⟩
  rw [if_neg c]
  obtain ⟨a1, a2, a3⟩ := QbS x (wrap64 (id + 1))
  refine ⟨by rw [List.length_cons, List.length_cons]; omega, ?_, fun t ht => ?_⟩
  ·unfold allOf at a2 ⊢
   rw [List.map_cons, List.flatten_cons, List.flatten_cons, a2]
  rcases List.mem_cons.1 ht with rfl | ht
  ·exact List.mem_cons_self
  exact List.mem_cons_of_mem _ (a3 t ht)
theorem Qcj {L r : List Posn} (hL : QaY L) (h : (r.map (·.f0)).Sublist (L.map (·.f0))) (ok : ∀ q ∈ r, lotsOk q) : QaY r := by
 refine ⟨?_, ?_, ok⟩
 ·have := h.length_le
  rw [List.length_map, List.length_map] at this
  have := hL.1
  omega
 have p := hL.2.1
 have p2 : (L.map (·.f0)).Pairwise (fun a b => cmpS a b < 0) := List.pairwise_map.2 p
 exact List.pairwise_map.1 (p2.sublist h)
theorem sL_app (s : Ser) (a b : List Posn) : sL s (a ++ b) = sL s a + sL s b ∧ sS s (a ++ b) = sS s a + sS s b := by
 unfold sL sS
 simp
theorem Qd9 (s : Ser) : ∀ x : List (List Posn), sL s x.flatten = (x.map (sL s)).sum ∧ sS s x.flatten = (x.map (sS s)).sum
 | [] => ⟨rfl, rfl⟩
 | r :: x => by
  obtain ⟨a, b⟩ := Qd9 s x
  obtain ⟨c, d⟩ := sL_app s r x.flatten
  rw [List.flatten_cons, c, d, a, b, List.map_cons, List.map_cons, List.sum_cons, List.sum_cons]
  exact ⟨rfl, rfl⟩
theorem sL_own {L : List Posn} (hn : (L.map (·.f0)).Nodup) : ∀ p ∈ L, sL p.f0 L = p.f1 ∧ sS p.f0 L = p.f2 := by
 induction L with
 | nil => intro p hp; simp at hp
 | cons q L ih =>
  intro p hp
  rw [List.map_cons, List.nodup_cons] at hn
  obtain ⟨c1, c2⟩ := Qd8 p.f0 q L
  rw [c1, c2]
  rcases List.mem_cons.1 hp with rfl | hp
  ·obtain ⟨z1, z2⟩ := QcS p.f0 L (fun ⟨x, hx, e⟩ => hn.1 (by rw [← e]; exact List.mem_map_of_mem hx))
   rw [if_pos rfl, if_pos rfl, z1, z2]; omega
  have : ¬ q.f0 = p.f0 := fun e => hn.1 (by rw [e]; exact List.mem_map_of_mem hp)
  rw [if_neg this, if_neg this]
  obtain ⟨a, b⟩ := ih hn.2 p hp
  omega
theorem QdG {L all : List Posn} (hL : QaY L) (hs : ∀ s, sL s all = sL s L ∧ sS s all = sS s L) (hm : ∀ q ∈ all, ∃ p ∈ L, p.f0 = q.f0) : Whole L all := by
 refine ⟨fun p hp => ?_, hm⟩
 obtain ⟨a, b⟩ := hs p.f0
 obtain ⟨c, d⟩ := sL_own (QbZ hL) p hp
 refine ⟨a.trans c, b.trans d, ?_⟩
 refine Classical.byContradiction fun h => ?_
 obtain ⟨z1, z2⟩ := QcS p.f0 all h
 have := (hL.2.2 p hp).2.2
 omega
theorem Qeq {L : List Posn} (hL : QaY L) (n : Nat) (hn : 1 ≤ n) (hn2 : n ≤ 1024) (k : Nat) (hk : 800000 ≤ k) :
  ∃ lts, Qak.f k L (n : Int) = some (lts, 0) ∧ lts.length ≤ n ∧ (∀ x ∈ lts, QaY x.f1) ∧ Whole L (allOf lts) := by
 have r0 : RowsI L n 0 (List.replicate n []) := by
  refine ⟨List.length_replicate, fun r hr => ?_, fun s => ?_⟩
  ·rw [List.eq_of_mem_replicate hr]
   exact ⟨by simp, by simp⟩
  rw [List.map_replicate, List.map_replicate, List.take_zero, show sL s [] = 0 from rfl, show sS s [] = 0 from rfl]
  simp
 obtain ⟨k, rfl⟩ : ∃ z, k = z + 1 := ⟨k - 1, by omega⟩
 obtain ⟨x, e1, e2⟩ := ch_l0 L hL n hn hn2 L.length 0 k (by omega) (by have := hL.1; omega) _ 0 (by omega) r0
 rw [show ((0 : Nat) : Int) = 0 from rfl] at e2
 obtain ⟨p1, p2, p3⟩ := QbS x 0
 have full : L.take L.length = L := List.take_length
 refine ⟨someL x 0, ?_, by rw [← e1.1]; exact p1, fun t ht => ?_, ?_⟩
 ·unfold Qak.f
  rw [Qbw L _ (by omega), Option.bind_some, if_pos ((Qbp L).2 hL), if_neg (by omega), show decide ((n : Int) > 1024) = false from decide_eq_false (by omega), Qak.j0, if_neg (by decide), if_pos (by omega), Int.toNat_natCast, if_pos (by omega)]
  exact e2
 ·have g := e1.2.1 _ (p3 t ht)
  unfold GoodR at g
  rw [full] at g
  exact Qcj hL g.1 g.2
 rw [p2]
 refine QdG hL (fun s => ?_) (fun q hq => ?_)
 ·obtain ⟨a, b⟩ := Qd9 s x
  obtain ⟨c, d⟩ := e1.2.2 s
  rw [full] at c d
  exact ⟨a.trans c, b.trans d⟩
 obtain ⟨r, hr, hq⟩ := List.mem_flatten.1 hq
 have g := (e1.2.1 r hr).1
 rw [full] at g
 obtain ⟨p, hp, e⟩ := List.mem_map.1 (g.subset (List.mem_map_of_mem hq))
 exact ⟨p, hp, e⟩
end Go.Proofs.Ytgnmhfjfefgbfaa.Pr
