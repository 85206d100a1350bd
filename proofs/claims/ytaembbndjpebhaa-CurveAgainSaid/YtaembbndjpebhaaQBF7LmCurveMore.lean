/- Curves: moved and filled. -/
import Derived.Test.YtaembbndjpebhaaQBF7LmCents
import Derived.Test.YtaembbndjpebhaaQBF7LmCurveAt
import Derived.Test.YtaembbndjpebhaaQBF7LmCurveChk
import Derived.Test.YtaembbndjpebhaaQBF7LmCurveEq
import Derived.Test.YtaembbndjpebhaaQBF7LmCurveFit
import Derived.Test.YtaembbndjpebhaaQBF7LmCurveLaw
import Derived.Test.YtaembbndjpebhaaQBF7LmCurveTop
import Derived.Test.YtaembbndjpebhaaQBF7P0
namespace Go.Proofs.Ytaembbndjpebhaa.Pr
open Go.RowKit Go.Proofs.Ytaembbndjpebhaa.Pr Go.Proofs.YtaembbndjpebhaaW.PrintWords Go.Proofs.YtaembbndjpebhaaW.PrintLast Go.Proofs.YtaembbndjpebhaaW.PrintMore
set_option linter.unusedVariables false
set_option linter.unusedSimpArgs false
theorem Qek (l : List Pt) (f : Pt → Pt) (i : Nat) (h : i < l.length) : rd_T56 (l.map f) (i : Int) = f (rd_T56 l (i : Int)) := by
 rw [pt_rd _ i (by simpa using h), pt_rd l i h, List.getElem_map]
theorem Qdo (l : List Pt) (i : Nat) (h : i < l.length) : rd_T56 l (i : Int) ∈ l := by
 rw [pt_rd l i h]; exact List.getElem_mem _
theorem Qcq {l : List Pt} (hG : GoodC l) {day tick : Int} (hd : 0 ≤ day) (hd' : day ≤ 73048) (ht : 1 ≤ tick) (ht' : tick ≤ 16777216) : AtS l day tick = (atS l day tick, 0) := by
 unfold AtS
 rw [if_pos (chk_of hG), if_neg (by omega), if_neg (by omega)]
theorem QdK {l : List Pt} {f : Pt → Pt} (hf : ∀ p, p.f2 = true → (f p).f2 = true) (h : kn l ≠ []) : kn (l.map f) ≠ [] := by
 obtain ⟨p, hp⟩ := List.exists_mem_of_ne_nil _ h
 obtain ⟨q1, q2⟩ := mem_kn hp
 exact List.ne_nil_of_mem (a := f p) (List.mem_filter.2 ⟨List.mem_map_of_mem q1, hf p q2⟩)
theorem Qc0 {l : List Pt} {f : Pt → Pt} (hG : GoodC l) (h0 : ∀ p, (f p).f0 = p.f0) (h1 : ∀ p ∈ l, QaO (f p).f1 ∨ (f p).f2 = false) (h2 : ∀ p, p.f2 = true → (f p).f2 = true) : GoodC (l.map f) := by
 refine ⟨by simpa using hG.len, fun p hp => ?_, ?_, QdK h2 hG.ne⟩
 ·obtain ⟨q, hq, rfl⟩ := List.mem_map.1 hp
  obtain ⟨r1, r2, _⟩ := hG.rng q hq
  rw [h0]
  refine ⟨r1, r2, fun hk => ?_⟩
  rcases h1 q hq with h | h
  ·exact h
  rw [h] at hk; cases hk
 rw [List.pairwise_map]
 refine hG.srt.imp (fun {a b} hab => ?_)
 rw [h0, h0]
 exact hab
theorem Qdg {l : List Pt} (d : Int) (h : ∀ p ∈ l, -16777216 ≤ p.f1 + d ∧ p.f1 + d ≤ 16777216) : l.map (shiftP d (-16777216) 16777216) = l.map (upP d) := by
 refine List.map_congr_left (fun p hp => ?_)
 have := h p hp
 unfold shiftP upP
 by_cases hk : p.f2 = true
 ·rw [if_pos hk, if_pos hk, IntWalk.wrap64_in _ (by omega)]
  unfold clampS
  rw [if_neg (by omega), if_neg (by omega)]
 rw [if_neg hk, if_neg hk]
theorem Qch {l : List Pt} (hG : GoodC l) {d : Int} (hd : QaO d) (h : ∀ p ∈ l, -16777216 ≤ p.f1 + d ∧ p.f1 + d ≤ 16777216) : ShiftS l d (-16777216) 16777216 = (l.map (upP d), 0) := by
 unfold ShiftS
 rw [if_pos (chk_of hG), if_pos hd, if_neg (by unfold QaO; omega), Qdg d h]
theorem Qeo (l : List Pt) (d : Int) : (l.map (upP d)).map (upP (-d)) = l := by
 rw [List.map_map]
 conv => rhs; rw [← List.map_id l]
 refine List.map_congr_left (fun p _ => ?_)
 show upP (-d) (upP d p) = p
 unfold upP
 by_cases hk : p.f2 = true
 ·rw [if_pos hk, if_pos hk]
  cases p
  simp
  omega
 rw [if_neg hk, if_neg hk]
theorem QcW (l : List Pt) (tick : Int) (p : Pt) : (fillP l tick p).f0 = p.f0 := by unfold fillP; split <;> rfl
theorem Qcd (l : List Pt) (tick : Int) (p : Pt) : (fillP l tick p).f2 = true := by
 unfold fillP
 split
 ·assumption
 rfl
theorem QcX {l : List Pt} (hs : l.Pairwise (fun a b => a.f0 < b.f0)) (tick : Int) {p : Pt} (hp : p ∈ l) : (fillP l tick p).f1 = atS l p.f0 tick := by
 unfold fillP
 by_cases hk : p.f2 = true
 ·rw [if_pos hk, QcQ hs (List.mem_filter.2 ⟨hp, hk⟩)]
 rw [if_neg hk]
theorem QdI {l : List Pt} (hM : Mild l) {tick : Int} (ht : 1 ≤ tick) (ht' : tick ≤ 1000) : GoodC (l.map (fillP l tick)) := by
 refine Qc0 hM.good (QcW l tick) (fun p hp => .inl ?_) (fun p _ => Qcd l tick p)
 rw [QcX hM.good.srt tick hp]
 have := Qbz hM.good (day := p.f0) (lo := -500000) (hi := 500000) ht (by omega) (fun q hq => hM.low q (mem_kn hq).1)
 unfold QaO
 omega
theorem Qdr {a l : List Pt} (tick : Int) (h : ∀ p ∈ a, p.f2 = true) : a.map (fillP l tick) = a := by
 conv => rhs; rw [← List.map_id a]
 refine List.map_congr_left (fun p hp => ?_)
 unfold fillP
 rw [if_pos (h p hp)]
 rfl
end Go.Proofs.Ytaembbndjpebhaa.Pr
