/- TopLots: a portfolio as lts by product, in chunks, and whole weighs and loses the same; each product's delta is its lot's. -/
import Derived.Test.YtgnmhfjfefgbfaaQ10ELmLotB
import Derived.Test.YtgnmhfjfefgbfaaQ10ELmLotC
import Derived.Test.YtgnmhfjfefgbfaaQ10ELmLotG
import Derived.Test.YtgnmhfjfefgbfaaQ10ELmLotJ
import Derived.Test.YtgnmhfjfefgbfaaQ10ELmLotR
import Derived.Test.YtgnmhfjfefgbfaaQ10ELmLotS
import Derived.Test.YtgnmhfjfefgbfaaQ10ELmLotW
import Derived.Test.YtgnmhfjfefgbfaaQ10ELmPos
import Derived.Test.YtgnmhfjfefgbfaaQ10ELmReadKinds
import Derived.Test.YtgnmhfjfefgbfaaQ10ELmScan
import Derived.Test.YtgnmhfjfefgbfaaQ10ELmScanR
import Derived.Test.YtgnmhfjfefgbfaaQ10ELmTier
import Derived.Test.YtgnmhfjfefgbfaaQ10EP0
import Derived.Test.YtgnmhfjfefgbfaaQ10EP6
import Derived.Test.YtgnmhfjfefgbfaaQ10EP3
import Derived.Test.YtgnmhfjfefgbfaaQ10EP8
import Derived.Test.YtgnmhfjfefgbfaaQ10EP2
import Derived.Test.YtgnmhfjfefgbfaaQ10EPrxDTopLots
namespace Go.Proofs.Ytgnmhfjfefgbfaa.Pure
open Go.RowKit Go.Proofs.Ytgnmhfjfefgbfaa.Pr Go.Proofs.YtgnmhfjfefgbfaaW.PrintWords Go.Proofs.YtgnmhfjfefgbfaaW.PrintLast Go.Proofs.YtgnmhfjfefgbfaaW.PrintMore
set_option linter.unusedVariables false
set_option linter.unusedSimpArgs false
theorem g22 (k : Nat) (hk : 9000 ≤ k) : ((Qaz.f k).bind fun t => (some t)) = some true := by
 have : Qaz.f k = some true := QbK Qaz.mono (show 400 ≤ k by omega) (by decide +kernel)
 rw [this]; rfl
def dlW (arr : List Arr) (x : List Posn) : Int := wrap64 (wgt (fun s => (arA arr s).f2) x)
theorem hd_loop (arr : List Arr) (N : List ByteArray) (P : List (List Posn)) (hP : P.length ≤ 128) (hd : ∀ r ∈ P, ∀ k, 40000 ≤ k → Qaw.f k r arr = some (dlW arr r, 0)) : ∀ c i k : Nat, i + c = P.length → c + 40001 ≤ k →
  QaC.l0 k arr N ((P.take i).map (dlW arr)) P (P.length : Int) (i : Int) = some (N, P.map (dlW arr), 0) := by
 intro c
 induction c with
 | zero =>
  intro i k hi hk
  obtain ⟨k, rfl⟩ : ∃ z, k = z + 1 := ⟨k - 1, by omega⟩
  obtain rfl : i = P.length := by omega
  rw [QaC.l0, if_neg (by omega), List.take_length]
 | succ c ih =>
  intro i k hi hk
  obtain ⟨k, rfl⟩ : ∃ z, k = z + 1 := ⟨k - 1, by omega⟩
  have hlt : i < P.length := by omega
  rw [QaC.l0, if_pos (by omega), if_pos (by omega), if_pos (by omega), QcR P i hlt, hd _ (List.getElem_mem _) k (by omega), Option.bind_some, if_pos rfl, if_pos (by rw [List.length_map, List.length_take]; omega), IntWalk.wrap64_in ((i : Int) + 1) (by omega)]
  have := ih (i + 1) k (by omega) (by omega)
  rw [List.take_succ_eq_append_getElem hlt, List.map_append, show ((i + 1 : Nat) : Int) = (i : Int) + 1 by omega] at this
  exact this
theorem tl_loop (L : List Posn) (arr : List Arr) (x7 : List Int) (x9 : Int) (lts ch : List Lt) (N : List ByteArray) (hN : N.length = lts.length) (hl : lts.length ≤ 128) (hq : HdQ N (lts.map (·.f1))) (hd : ∀ x ∈ lts, ∀ k, 40000 ≤ k → Qaw.f k x.f1 arr = some (dlW arr x.f1, 0))
  (h9 : dlW arr (allOf lts) = x9) (w1 : ∀ k, 200000 ≤ k → Qai.f k lts L arr x7 x9 = some true) (w2 : ∀ k, 200000 ≤ k → Qai.f k ch L arr x7 x9 = some true) : ∀ c i k : Nat, i + c = lts.length → c + 200001 ≤ k →
  contangotop_TopLots.l0 k L arr x7 x9 lts ch N ((lts.map (·.f1)).map (dlW arr)) (dlW arr (allOf (lts.take i))) (lts.length : Int) (i : Int) = some true := by
 intro c
 induction c with
 | zero =>
  intro i k hi hk
  obtain ⟨k, rfl⟩ : ∃ z, k = z + 1 := ⟨k - 1, by omega⟩
  obtain rfl : i = lts.length := by omega
  rw [contangotop_TopLots.l0, if_neg (by omega), List.take_length, if_pos h9, w1 k (by omega), Option.bind_some, if_pos rfl, w2 k (by omega), Option.bind_some, if_pos rfl]
  exact g22 k (by omega)
 | succ c ih =>
  intro i k hi hk
  obtain ⟨k, rfl⟩ : ∃ z, k = z + 1 := ⟨k - 1, by omega⟩
  have hlt : i < lts.length := by omega
  have e : rd ((lts.map (·.f1)).map (dlW arr)) (i : Int) = dlW arr lts[i].f1 := by
   rw [rd_at _ i (by simpa using hlt), List.getElem_map, List.getElem_map]
  obtain ⟨p, t, q1, q2⟩ := hq i lts[i].f1 (by rw [List.getElem?_map, List.getElem?_eq_getElem hlt]; rfl)
  have q3 : rd_T71 lts[i].f1 0 = p := by rw [q1]; rfl
  have q4 : rdOf ByteArray.empty N (i : Int) = p.f0.f0 := by
   unfold rdOf
   rw [Int.toNat_natCast, List.getD_eq_getElem?_getD, q2]; rfl
  have ql : (lts[i].f1.length : Int) = (t.length : Int) + 1 := by rw [q1]; simp
  have tk : allOf (lts.take (i + 1)) = allOf (lts.take i) ++ lts[i].f1 := by
   rw [List.take_succ_eq_append_getElem hlt]
   unfold allOf
   rw [List.map_append, List.flatten_append]
   simp
  rw [contangotop_TopLots.l0, if_pos (by omega), if_pos (by omega), if_pos (by omega), lot_rd lts i hlt, hd _ (List.getElem_mem _) k (by omega), Option.bind_some, if_pos rfl, if_pos (by rw [List.length_map, List.length_map]; omega), e, if_pos rfl, if_neg (by omega), if_pos (by omega), if_pos (by omega), q3, q4, if_pos rfl, IntWalk.wrap64_in ((i : Int) + 1) (by omega)]
  have := ih (i + 1) k (by omega) (by omega)
  rw [tk, show ((i + 1 : Nat) : Int) = (i : Int) + 1 by omega] at this
  rw [show wrap64 (dlW arr (allOf (lts.take i)) + dlW arr lts[i].f1) = dlW arr (allOf (lts.take i) ++ lts[i].f1) by unfold dlW; rw [addW, addW2, QcT]]
  exact this
theorem chunkN (a : Int) : ∃ m : Nat, wrap64 (1 + wrap64 (Int.tmod (IntKind.u64.wrap a) 40)) = (m : Int) ∧ 1 ≤ m ∧ m ≤ 40 := by
 have h0 : 0 ≤ IntKind.u64.wrap a := by
  unfold IntKind.wrap
  simp [IntKind.signed, IntKind.bits]
  omega
 have h1 := Int.tmod_nonneg 40 h0
 have h2 := Int.tmod_lt_of_pos (IntKind.u64.wrap a) (b := 40) (by decide)
 rw [IntWalk.wrap64_in (Int.tmod (IntKind.u64.wrap a) 40) (by omega), IntWalk.wrap64_in _ (by omega)]
 exact ⟨(1 + Int.tmod (IntKind.u64.wrap a) 40).toNat, by omega, by omega, by omega⟩
theorem TopLots : contangotop_TopLots.Pure := by
 intro L arr0 n _ _ okPs hA hA2 _ szF _
 obtain ⟨b, b1, b2⟩ := QeL L arr0 hA hA2 arr0.length 0 (arr0.length + 1) (by omega) (by omega) 0
 refine ⟨arr0.length + fuelG arr0 + 1000000, ?_⟩
 obtain ⟨K, hK⟩ : ∃ K, K = arr0.length + fuelG arr0 + 1000000 := ⟨_, rfl⟩
 rw [← hK]
 unfold contangotop_TopLots.f
 have bb : Qax.f K L arr0 = some b := QbK (Qax.mono L arr0) (show arr0.length + 1 ≤ K by omega) b1
 rw [bb, Option.bind_some]
 by_cases hb : b = true
 ·rw [if_pos hb]
  obtain ⟨l1, l2⟩ := b2 hb
  rw [gnt_eq arr0 (by omega) szF K (by omega), Option.bind_some]
  have hg := QeR arr0
  generalize arr0.map gnt = arr at hg
  obtain ⟨k, rfl⟩ : ∃ z, K = z + 1 := ⟨K - 1, by omega⟩
  rcases QeY arr L with ⟨e, he, hq⟩ | ⟨hc, ha, hu, hL, hA⟩
  ·obtain ⟨q1, q2⟩ := hq (k + 1) (by omega)
   rw [q1, Option.bind_some, q2, Option.bind_some, if_neg he, contangotop_TopLots.j0, if_pos rfl, if_pos rfl]
   exact g22 k (by omega)
  obtain ⟨q1, q2⟩ := losL arr L (by omega) hc hu hg hL hA (k + 1) (by omega)
  rw [q1, Option.bind_some, q2, Option.bind_some, if_pos rfl, show ((0 : Int) != 0) = false from rfl, contangotop_TopLots.j0, if_neg (by decide)]
  obtain ⟨m, m1, m2, m3⟩ := chunkN n
  obtain ⟨N, lts, y1, y2, y3, y4, y5, y6, y7⟩ := by_ex hL (fun p hp => (okPs p hp).1.1)
  obtain ⟨ch, z1, z2, z3, z4⟩ := Qeq hL m m2 (by omega) k (by omega)
  have okS' : ∀ p ∈ L, okS p.f0 := fun p hp => ⟨(okPs p hp).1.1, wf64 (okPs p hp).1.2.1, wf64 (okPs p hp).1.2.2.1, wf64 (okPs p hp).1.2.2.2⟩
  have sub : ∀ x ∈ lts, hasA arr x.f1 := fun x hx q hq => by
   obtain ⟨p, hp, e⟩ := y6.2 q (List.mem_flatten.2 ⟨x.f1, List.mem_map_of_mem hx, hq⟩)
   have := hA p hp
   have eq : eqA p = eqA q := by funext a; unfold eqA; rw [e]
   rw [eq] at this; exact this
  have hd : ∀ x ∈ lts, ∀ k, 40000 ≤ k → Qaw.f k x.f1 arr = some (dlW arr x.f1, 0) := fun x hx k hk => (losL arr x.f1 (by omega) hc hu hg (y5 x hx) (sub x hx) k hk).2
  have hh : QaC.f k L arr = some (N, (lts.map (·.f1)).map (dlW arr), 0) := by
   unfold QaC.f
   rw [hc k (by omega), Option.bind_some, if_pos rfl, Qbw L k (by omega), Option.bind_some, if_pos ((Qbp L).2 hL), y2 k (by omega), Option.bind_some]
   have := hd_loop arr N (lts.map (·.f1)) (by rw [List.length_map]; omega) (fun r hr => by
    obtain ⟨x, hx, rfl⟩ := List.mem_map.1 hr
    exact hd x hx) (lts.map (·.f1)).length 0 k (by omega) (by rw [List.length_map]; omega)
   rw [show ((0 : Nat) : Int) = 0 from rfl, List.take_zero, List.map_nil] at this
   exact this
  rw [y1 k (by omega), Option.bind_some, m1, z1, Option.bind_some, hh, Option.bind_some]
  dsimp only
  rw [if_pos rfl, if_pos rfl, if_pos rfl, if_pos (by rw [y3]), show (((((lts.map (·.f1)).map (dlW arr)).length : Nat) : Int) != ((N.length : Nat) : Int)) = false by rw [y3]; simp]
  obtain ⟨k, rfl⟩ : ∃ z, k = z + 1 := ⟨k - 1, by omega⟩
  rw [contangotop_TopLots.j1, if_neg (by decide)]
  have := tl_loop L arr (losW arr L) (dlW arr L) lts ch N y3 y4 y7 hd (by unfold dlW; rw [Qca _ hL y6]) (fun k hk => QdF arr (by omega) hc hu hg hL hA okS' lts (by omega) y5 y6 k hk) (fun k hk => QdF arr (by omega) hc hu hg hL hA okS' ch (by omega) z3 z4 k hk) lts.length 0 k (by omega) (by omega)
  rw [show ((0 : Nat) : Int) = 0 from rfl, List.take_zero, show dlW arr (allOf []) = 0 by simp [dlW, allOf, wgt, zeroW]] at this
  exact this
 rw [if_neg hb]
 exact g22 _ (by omega)
end Go.Proofs.Ytgnmhfjfefgbfaa.Pure
