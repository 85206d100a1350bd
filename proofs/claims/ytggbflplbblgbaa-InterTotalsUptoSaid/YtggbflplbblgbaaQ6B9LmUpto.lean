/- What the bound of the second form gives: a top slice's length. -/
import Derived.Test.YtggbflplbblgbaaQ6B9P0
import Derived.Test.YtggbflplbblgbaaRows
namespace Go.Proofs.Ytggbflplbblgbaa.Pr
open Go.RowKit Go.Proofs.Ytggbflplbblgbaa.Pr Go.Proofs.YtggbflplbblgbaaW.PrintWords Go.Proofs.YtggbflplbblgbaaW.PrintLast Go.Proofs.YtggbflplbblgbaaW.PrintMore
set_option linter.unusedVariables false
set_option linter.unusedSimpArgs false
theorem QdD {H : Type} (d : DataW H) : 1 ≤ Rows.uptoBulk d := by
 cases d with
 | lit v => cases v <;> simp [Rows.uptoBulk]
 | _ => simp [Rows.uptoBulk]
theorem QcM {H : Type} (l : List (DataW H)) : l.length ≤ Rows.uptoBulkAll l := by
 induction l with
 | nil => simp [Rows.uptoBulkAll]
 | cons x r ih => have := QdD x; simp only [Rows.uptoBulkAll, List.length_cons]; omega
theorem Qdj {H : Type} {d : DataW H} {l : List (DataW H)} (h : d ∈ l) : Rows.uptoBulk d ≤ Rows.uptoBulkAll l := by
 induction l with
 | nil => cases h
 | cons x r ih =>
  simp only [Rows.uptoBulkAll]
  rcases List.mem_cons.1 h with rfl | h
  ·omega
  have := ih h; omega
theorem QdC {H : Type} {enc : TypeId × Value → H} {P : Program} {W : World} {base : Nat} {spare : Nat → Bool} {held : Bool} {t e : TypeId} {a : Option Addr} {len cap : Nat} {d : DataW H} {ps : List MemPlace} {ds gs : List (DataW H)} {j : Nat}
  (hk : Rows.uptoSmall H (ds ++ gs) = true) (hd : ds[j]? = some d) (hu : P.underlying t = some (.slice e)) (h : DataW.Trod enc P W base spare held t (.slice a len cap) d ps) : len ≤ 1048576 := by
 have hb : Rows.uptoBulkAll (ds ++ gs) ≤ 1048576 := of_decide_eq_true hk
 have hm := Qdj (List.mem_append_left gs (List.mem_of_getElem? hd))
 obtain ⟨fuel, hf⟩ := h
 rcases DataW.trod_slice hu hf with ⟨hcs, _⟩ | ⟨x, l, c, elems, rest, n, _, hcs, hx, _, hl, _, hlen, _⟩
 ·simp [Value.cells] at hcs
  obtain ⟨rfl, rfl, rfl⟩ := hcs
  omega
 simp [Value.cells] at hcs
 obtain ⟨rfl, rfl, rfl⟩ := hcs
 obtain ⟨hx, _⟩ := Prod.mk.inj hx
 subst hx
 simp only [Rows.uptoBulk] at hm
 have h1 := QcM (elems.map (·.1))
 rw [List.length_map] at h1
 omega
end Go.Proofs.Ytggbflplbblgbaa.Pr
