/- Functions' values and contracts, as the print wrote them. -/
import Derived.Test.YtggbflplbblgbaaQ9D3P0
import Derived.Test.YtggbflplbblgbaaQ9D3P1
import Derived.Test.YtggbflplbblgbaaQ9D3P2
namespace Go.Proofs.Ytggbflplbblgbaa.Pr
open Bool renaming true → T
open Go.RowKit Go.Proofs.YtggbflplbblgbaaW.PrintWords Go.Proofs.YtggbflplbblgbaaW.PrintLast Go.Proofs.YtggbflplbblgbaaW.PrintMore
attribute [local go_sem] QaM QaO QaU QaV QaH QaI QaN QaP   -- for this text's walks alone
set_option linter.unusedVariables false
set_option linter.unusedSimpArgs false
mutual
def contangolaw25_InterMore.l0 : Nat → List (S75) → List (S75) → List (S75) → Int → List ByteArray → List Int → List Int → Option (Bool)
 | 0, _, _, _, _, _, _, _ => none
 | k + 1, x1, x7, x8, x9, x951000, x951001, x951002 => if x9 < (x7.length : Int) then (if 0 ≤ x9 then (if x8.length < 2513169434916 then (contangolaw25_InterMore.l0 k x1 x7 (x8 ++ [(⟨(rd_T75 x7 x9).f0, (rd_T75 x7 x9).f1, (rd_T75 x7 x9).f2, (rd_T75 x7 x9).f3, 0⟩ : S75)]) (wrap64 (x9 + 1)) x951000 x951001 x951002) else (none)) else (none)) else ((Qae.f k x951000 x951001 x951002 x1).bind fun bt962 => ((Qae.f k x951000 x951001 x951002 x7).bind fun bt969 => ((Qae.f k x951000 x951001 x951002 x8).bind fun bt976 => (if bt962.2.2 = 0 then (contangolaw25_InterMore.j1 k bt962.1 bt969.1 bt969.2.1 bt976.1 bt976.2.1 bt976.2.2 (bt969.2.2 != 0)) else (contangolaw25_InterMore.j1 k bt962.1 bt969.1 bt969.2.1 bt976.1 bt976.2.1 bt976.2.2 T)))))
def contangolaw25_InterMore.j1 : Nat → List Int → List Int → List Int → List Int → List Int → Int → Bool → Option (Bool)
 | 0, _, _, _, _, _, _, _ => none
 | k + 1, x11, x14, x15, x17, x18, x19, x82 => if x82 = T then ((Qar.f k).bind fun t983 => (some t983)) else (if (x11.length : Int) = (x14.length : Int) then (if (x17.length : Int) = (x14.length : Int) then (if x19 = 0 then ((Qab.f k x15 x18).bind fun t984 => (contangolaw25_InterMore.j2 k x11 x14 x17 (!t984))) else (contangolaw25_InterMore.j2 k x11 x14 x17 T)) else (contangolaw25_InterMore.j2 k x11 x14 x17 T)) else (contangolaw25_InterMore.j2 k x11 x14 x17 T))
def contangolaw25_InterMore.j2 : Nat → List Int → List Int → List Int → Bool → Option (Bool)
 | 0, _, _, _, _ => none
 | k + 1, x11, x14, x17, x105 => if x105 = T then (none) else (contangolaw25_InterMore.l1 k x11 x14 x17 0)
def contangolaw25_InterMore.l1 : Nat → List Int → List Int → List Int → Int → Option (Bool)
 | 0, _, _, _, _ => none
 | k + 1, x11, x14, x17, x20 => if x20 < (x11.length : Int) then (if 0 ≤ x20 then (if x20 < (x14.length : Int) then (if (rd x14 x20) < (rd x11 x20) then (none) else (if x20 < (x17.length : Int) then (if (rd x17 x20) = 0 then (contangolaw25_InterMore.l1 k x11 x14 x17 (wrap64 (x20 + 1))) else (none)) else (none))) else (none)) else (none)) else ((Qar.f k).bind fun t988 => (some t988))
end
def contangolaw25_InterMore.f (k : Nat) (l0_0 : List ByteArray) (l0_1 : List Int) (l0_2 : List Int) (l1 : List (S75)) (l2 : List (S75)) : Option (Bool) := if ([] : List (S75)).length + l1.length < 2513169434916 then ((some (([] : List (S75)) ++ l1 : List (S75))).bind fun y951 => (if y951.length + l2.length < 2513169434916 then (contangolaw25_InterMore.l0 k l1 (y951 ++ l2) ([] : List (S75)) 0 l0_0 l0_1 l0_2) else (none))) else (none)
theorem contangolaw25_InterMore.mono_l : ∀ k, (∀ y0 y1 y2 y3 y4 y5 y6, LeO (contangolaw25_InterMore.l0 k y0 y1 y2 y3 y4 y5 y6) (contangolaw25_InterMore.l0 (k + 1) y0 y1 y2 y3 y4 y5 y6)) ∧ (∀ y0 y1 y2 y3 y4 y5 y6, LeO (contangolaw25_InterMore.j1 k y0 y1 y2 y3 y4 y5 y6) (contangolaw25_InterMore.j1 (k + 1) y0 y1 y2 y3 y4 y5 y6)) ∧ (∀ y0 y1 y2 y3, LeO (contangolaw25_InterMore.j2 k y0 y1 y2 y3) (contangolaw25_InterMore.j2 (k + 1) y0 y1 y2 y3)) ∧ (∀ y0 y1 y2 y3, LeO (contangolaw25_InterMore.l1 k y0 y1 y2 y3) (contangolaw25_InterMore.l1 (k + 1) y0 y1 y2 y3))
 | 0 => ⟨fun _ _ _ _ _ _ _ r h => by simp [contangolaw25_InterMore.l0] at h, fun _ _ _ _ _ _ _ r h => by simp [contangolaw25_InterMore.j1] at h, fun _ _ _ _ r h => by simp [contangolaw25_InterMore.j2] at h, fun _ _ _ _ r h => by simp [contangolaw25_InterMore.l1] at h⟩
 | k + 1 => by
  obtain ⟨ih0, ih1, ih2, ih3⟩ := contangolaw25_InterMore.mono_l k
  refine ⟨?_, ?_, ?_, ?_⟩
  ·intro y0 y1 y2 y3 y4 y5 y6
   unfold contangolaw25_InterMore.l0
   exact ZM7 ih0 ih1 ih2 ih3 Qar.mono Qab.mono Qae.mono
  ·intro y0 y1 y2 y3 y4 y5 y6
   unfold contangolaw25_InterMore.j1
   exact ZM7 ih0 ih1 ih2 ih3 Qar.mono Qab.mono Qae.mono
  ·intro y0 y1 y2 y3
   unfold contangolaw25_InterMore.j2
   exact ZM7 ih0 ih1 ih2 ih3 Qar.mono Qab.mono Qae.mono
  intro y0 y1 y2 y3
  unfold contangolaw25_InterMore.l1
  exact ZM7 ih0 ih1 ih2 ih3 Qar.mono Qab.mono Qae.mono
theorem contangolaw25_InterMore.mono : ∀ a0 a1 a2 a3 a4 k, LeO (contangolaw25_InterMore.f k a0 a1 a2 a3 a4) (contangolaw25_InterMore.f (k + 1) a0 a1 a2 a3 a4) := by
 intro a0 a1 a2 a3 a4 k
 obtain ⟨ih0, ih1, ih2, ih3⟩ := contangolaw25_InterMore.mono_l k
 unfold contangolaw25_InterMore.f
 exact ZM7 ih0 ih1 ih2 ih3 Qar.mono Qab.mono Qae.mono
set_option maxHeartbeats 8000000 in
set_option maxRecDepth 100000 in
theorem contangolaw25_InterMore.calls (k : Nat) (A0_0 : Option Addr) (c0_0 : Nat) (l0_0 : List ByteArray) (A0_1 : Option Addr) (c0_1 : Nat) (l0_1 : List Int) (A0_2 : Option Addr) (c0_2 : Nat) (l0_2 : List Int) (A1 : Option Addr) (c1 : Nat) (l1 : List (S75)) (A2 : Option Addr) (c2 : Nat) (l2 : List (S75)) (r : Bool) (w : World) (hr0_0 : Kd.C Kd.string w A0_0 l0_0.length l0_0) (hc0_0 : l0_0.length ≤ c0_0) (hr0_1 : Kd.C (Kd.int .i64) w A0_1 l0_1.length l0_1) (hc0_1 : l0_1.length ≤ c0_1) (hr0_2 : Kd.C (Kd.int .i64) w A0_2 l0_2.length l0_2) (hc0_2 : l0_2.length ≤ c0_2) (hr1 : Kd.C k75 w A1 l1.length l1) (hc1 : l1.length ≤ c1) (hr2 : Kd.C k75 w A2 l2.length l2) (hc2 : l2.length ≤ c2) (h : contangolaw25_InterMore.f k l0_0 l0_1 l0_2 l1 l2 = some r) :
  Calls Try.prog 13 #[.agg #[.slice A0_0 l0_0.length c0_0, .slice A0_1 l0_1.length c0_1, .slice A0_2 l0_2.length c0_2], .slice A1 l1.length c1, .slice A2 l2.length c2] w fun e w' => e = .returned (.bool r) ∧ Below w.heap.size w w' := by
 have hu67 := Try.underlying67
 have hu75 := Try.underlying75
 have HR0_0 := Aside0.mk hr0_0
 have HC0_0 := Aside0.mk hc0_0
 clear hr0_0 hc0_0
 have HR0_1 := Aside0.mk hr0_1
 have HC0_1 := Aside0.mk hc0_1
 clear hr0_1 hc0_1
 have HR0_2 := Aside0.mk hr0_2
 have HC0_2 := Aside0.mk hc0_2
 clear hr0_2 hc0_2
 have HR1 := Aside0.mk hr1
 have HC1 := Aside0.mk hc1
 clear hr1 hc1
 have HR2 := Aside0.mk hr2
 have HC2 := Aside0.mk hc2
 clear hr2 hc2
 have HB := Aside0.mk (Below.refl w.heap.size w)
 have H : (if ([] : List (S75)).length + l1.length < 2513169434916 then ((some (([] : List (S75)) ++ l1 : List (S75))).bind fun y951 => (if y951.length + l2.length < 2513169434916 then (contangolaw25_InterMore.l0 k l1 (y951 ++ l2) ([] : List (S75)) 0 l0_0 l0_1 l0_2) else (none))) else (none)) = some r := h
 clear h
 by_cases c4 : ([] : List (S75)).length + l1.length < 2513169434916
 ·rw [if_pos c4] at H
  have LMc4 := Aside0.mk c4
  clear c4
  obtain ⟨y951, hy951⟩ : ∃ y_ : List (S75), y_ = (([] : List (S75)) ++ l1) := ⟨_, rfl⟩
  replace H : (if y951.length + l2.length < 2513169434916 then (contangolaw25_InterMore.l0 k l1 (y951 ++ l2) ([] : List (S75)) 0 l0_0 l0_1 l0_2) else (none)) = some r := by first | (rw [hy951]; with_reducible exact H) | (have H2_ := (Option.bind_some _ _).symm.trans H; rw [hy951]; with_reducible exact H2_) | (have H2_ := (Option.bind_some _ _).symm.trans H; with_reducible exact H2_) | with_reducible exact H | (rw [hy951]; exact H) | exact H
  have Ny951 := Aside0.mk hy951
  clear hy951
  by_cases c5 : y951.length + l2.length < 2513169434916
  ·rw [if_pos c5] at H
   have LMc5 := Aside0.mk c5
   clear c5
   obtain ⟨y954, hy954⟩ : ∃ y_ : List (S75), y_ = (y951 ++ l2) := ⟨_, rfl⟩
   replace H : (contangolaw25_InterMore.l0 k l1 y954 ([] : List (S75)) 0 l0_0 l0_1 l0_2) = some r := by first | (rw [hy954]; with_reducible exact H) | (have H2_ := (Option.bind_some _ _).symm.trans H; rw [hy954]; with_reducible exact H2_) | (have H2_ := (Option.bind_some _ _).symm.trans H; with_reducible exact H2_) | with_reducible exact H | (rw [hy954]; exact H) | exact H
   have Ny954 := Aside0.mk hy954
   clear hy954
   have H' := Aside0.mk H
   clear H
   go_enter Try.func13, Try.ntmps13
   go_wp2_with (first | ((with_reducible refine QaC (N := 3) rfl ?_); (try (refine Qay (by rfl) ?_; dsimp only)); refine Zbx (N := 3) (cs := #[.slice A0_0 l0_0.length c0_0, .slice A0_1 l0_1.length c0_1, .slice A0_2 l0_2.length c0_2]) (t := 67) ?_; intro gb950 hg w6 hbox hb; have BK950 := Aside0.mk (hbox); have GW950 := Aside0.mk (Zt w hg (Zb)); have GE950 := GW950; replace HB := Aside0.mk (Qan (Zb) hb); clear hb hbox hg) | ((with_reducible refine QaY (b := .append) (xs := #[.tmp 21, .tmp 22]) rfl ?_); (try (refine Qay (by rfl) ?_; dsimp only)); at_builtin; refine Kd.R_append_rows k75 (w0 := w) w.heap.size rfl (.tmp 21) (.tmp 22) 68 75 (.agg #[(.string ⟨#[]⟩), (.string ⟨#[]⟩), (.int .i64 0), (.int .i64 0), (.int .i64 0)]) 56 rfl Try.underlying68 info75 rfl (by decide) (by omega) (.slice none 0 0) ([] : List (S75)) l1 _ _ _ (fun _ => True) (fun _ => False) rfl rfl ?aO ?aR (fun _ _ h => h) (fun _ h => h.elim) ?aF ?aB ?aS ?aL ?_; (case aR => exact Zv (Kd.C_below HR1.out HB.out)); (case aB => exact (Zc1 GE950.out)); (case aF => exact (fun _ _ => trivial)); (case aO => exact ((Kd.R_nil _ _ _ _ (fun _ => True)))); (case aS => exact (Qao (Zc1 GE950.out))); (case aL => have := LMc4.out; omega); intro v952 w7 ho hb hg hat; rw [← Ny951.out] at ho; have HO953 := Aside0.mk (ho); replace BK950 := Aside0.mk (QaG (g := gb950) (o := .cells #[.slice A0_0 l0_0.length c0_0, .slice A0_1 l0_1.length c0_1, .slice A0_2 l0_2.length c0_2] 67 (0, 0)) (Zu BK950.out) hg (by simp [Value.ownBlock])); replace HB := Aside0.mk (hb); clear ho hb hg hat) | ((with_reducible refine QaY (b := .append) (xs := #[.tmp 23, .tmp 24]) rfl ?_); (try (refine Qay (by rfl) ?_; dsimp only)); at_builtin; refine Kd.R_append_rows k75 (w0 := w) w.heap.size rfl (.tmp 23) (.tmp 24) 68 75 (.agg #[(.string ⟨#[]⟩), (.string ⟨#[]⟩), (.int .i64 0), (.int .i64 0), (.int .i64 0)]) 56 rfl Try.underlying68 info75 rfl (by decide) (by omega) v952 y951 l2 _ _ _ (fun _ => True) (fun _ => False) rfl rfl ?aO ?aR (fun _ _ h => h) (fun _ h => h.elim) ?aF ?aB ?aS ?aL ?_; (case aR => exact Zv (Kd.C_below HR2.out HB.out)); (case aB => exact (Zc1 GE950.out)); (case aF => exact (fun _ _ => trivial)); (case aO => exact (Zr HO953.out)); (case aS => exact (Qao (Zc1 GE950.out))); (case aL => have := LMc5.out; omega); intro v955 w8 ho hb hg hat; rw [← Ny954.out] at ho; have HO956 := Aside0.mk (ho); replace BK950 := Aside0.mk (QaG (g := gb950) (o := .cells #[.slice A0_0 l0_0.length c0_0, .slice A0_1 l0_1.length c0_1, .slice A0_2 l0_2.length c0_2] 67 (0, 0)) (Zu BK950.out) hg (Kd.R_ne HO953.out BK950.out (by decide))); replace HB := Aside0.mk (hb); clear HO953; clear ho hb hg hat))
   repeat (go_quiet (first | ((with_reducible refine QaC (N := 3) rfl ?_); (try (refine Qay (by rfl) ?_; dsimp only)); refine Zbx (N := 3) (cs := #[.slice A0_0 l0_0.length c0_0, .slice A0_1 l0_1.length c0_1, .slice A0_2 l0_2.length c0_2]) (t := 67) ?_; intro gb950 hg w6 hbox hb; have BK950 := Aside0.mk (hbox); have GW950 := Aside0.mk (Zt w hg (Zb)); have GE950 := GW950; replace HB := Aside0.mk (Qan (Zb) hb); clear hb hbox hg) | ((with_reducible refine QaY (b := .append) (xs := #[.tmp 21, .tmp 22]) rfl ?_); (try (refine Qay (by rfl) ?_; dsimp only)); at_builtin; refine Kd.R_append_rows k75 (w0 := w) w.heap.size rfl (.tmp 21) (.tmp 22) 68 75 (.agg #[(.string ⟨#[]⟩), (.string ⟨#[]⟩), (.int .i64 0), (.int .i64 0), (.int .i64 0)]) 56 rfl Try.underlying68 info75 rfl (by decide) (by omega) (.slice none 0 0) ([] : List (S75)) l1 _ _ _ (fun _ => True) (fun _ => False) rfl rfl ?aO ?aR (fun _ _ h => h) (fun _ h => h.elim) ?aF ?aB ?aS ?aL ?_; (case aR => exact Zv (Kd.C_below HR1.out HB.out)); (case aB => exact (Zc1 GE950.out)); (case aF => exact (fun _ _ => trivial)); (case aO => exact ((Kd.R_nil _ _ _ _ (fun _ => True)))); (case aS => exact (Qao (Zc1 GE950.out))); (case aL => have := LMc4.out; omega); intro v952 w7 ho hb hg hat; rw [← Ny951.out] at ho; have HO953 := Aside0.mk (ho); replace BK950 := Aside0.mk (QaG (g := gb950) (o := .cells #[.slice A0_0 l0_0.length c0_0, .slice A0_1 l0_1.length c0_1, .slice A0_2 l0_2.length c0_2] 67 (0, 0)) (Zu BK950.out) hg (by simp [Value.ownBlock])); replace HB := Aside0.mk (hb); clear ho hb hg hat) | ((with_reducible refine QaY (b := .append) (xs := #[.tmp 23, .tmp 24]) rfl ?_); (try (refine Qay (by rfl) ?_; dsimp only)); at_builtin; refine Kd.R_append_rows k75 (w0 := w) w.heap.size rfl (.tmp 23) (.tmp 24) 68 75 (.agg #[(.string ⟨#[]⟩), (.string ⟨#[]⟩), (.int .i64 0), (.int .i64 0), (.int .i64 0)]) 56 rfl Try.underlying68 info75 rfl (by decide) (by omega) v952 y951 l2 _ _ _ (fun _ => True) (fun _ => False) rfl rfl ?aO ?aR (fun _ _ h => h) (fun _ h => h.elim) ?aF ?aB ?aS ?aL ?_; (case aR => exact Zv (Kd.C_below HR2.out HB.out)); (case aB => exact (Zc1 GE950.out)); (case aF => exact (fun _ _ => trivial)); (case aO => exact (Zr HO953.out)); (case aS => exact (Qao (Zc1 GE950.out))); (case aL => have := LMc5.out; omega); intro v955 w8 ho hb hg hat; rw [← Ny954.out] at ho; have HO956 := Aside0.mk (ho); replace BK950 := Aside0.mk (QaG (g := gb950) (o := .cells #[.slice A0_0 l0_0.length c0_0, .slice A0_1 l0_1.length c0_1, .slice A0_2 l0_2.length c0_2] 67 (0, 0)) (Zu BK950.out) hg (Kd.R_ne HO953.out BK950.out (by decide))); replace HB := Aside0.mk (hb); clear HO953; clear ho hb hg hat)); try go_wp2_with (first | ((with_reducible refine QaC (N := 3) rfl ?_); (try (refine Qay (by rfl) ?_; dsimp only)); refine Zbx (N := 3) (cs := #[.slice A0_0 l0_0.length c0_0, .slice A0_1 l0_1.length c0_1, .slice A0_2 l0_2.length c0_2]) (t := 67) ?_; intro gb950 hg w6 hbox hb; have BK950 := Aside0.mk (hbox); have GW950 := Aside0.mk (Zt w hg (Zb)); have GE950 := GW950; replace HB := Aside0.mk (Qan (Zb) hb); clear hb hbox hg) | ((with_reducible refine QaY (b := .append) (xs := #[.tmp 21, .tmp 22]) rfl ?_); (try (refine Qay (by rfl) ?_; dsimp only)); at_builtin; refine Kd.R_append_rows k75 (w0 := w) w.heap.size rfl (.tmp 21) (.tmp 22) 68 75 (.agg #[(.string ⟨#[]⟩), (.string ⟨#[]⟩), (.int .i64 0), (.int .i64 0), (.int .i64 0)]) 56 rfl Try.underlying68 info75 rfl (by decide) (by omega) (.slice none 0 0) ([] : List (S75)) l1 _ _ _ (fun _ => True) (fun _ => False) rfl rfl ?aO ?aR (fun _ _ h => h) (fun _ h => h.elim) ?aF ?aB ?aS ?aL ?_; (case aR => exact Zv (Kd.C_below HR1.out HB.out)); (case aB => exact (Zc1 GE950.out)); (case aF => exact (fun _ _ => trivial)); (case aO => exact ((Kd.R_nil _ _ _ _ (fun _ => True)))); (case aS => exact (Qao (Zc1 GE950.out))); (case aL => have := LMc4.out; omega); intro v952 w7 ho hb hg hat; rw [← Ny951.out] at ho; have HO953 := Aside0.mk (ho); replace BK950 := Aside0.mk (QaG (g := gb950) (o := .cells #[.slice A0_0 l0_0.length c0_0, .slice A0_1 l0_1.length c0_1, .slice A0_2 l0_2.length c0_2] 67 (0, 0)) (Zu BK950.out) hg (by simp [Value.ownBlock])); replace HB := Aside0.mk (hb); clear ho hb hg hat) | ((with_reducible refine QaY (b := .append) (xs := #[.tmp 23, .tmp 24]) rfl ?_); (try (refine Qay (by rfl) ?_; dsimp only)); at_builtin; refine Kd.R_append_rows k75 (w0 := w) w.heap.size rfl (.tmp 23) (.tmp 24) 68 75 (.agg #[(.string ⟨#[]⟩), (.string ⟨#[]⟩), (.int .i64 0), (.int .i64 0), (.int .i64 0)]) 56 rfl Try.underlying68 info75 rfl (by decide) (by omega) v952 y951 l2 _ _ _ (fun _ => True) (fun _ => False) rfl rfl ?aO ?aR (fun _ _ h => h) (fun _ h => h.elim) ?aF ?aB ?aS ?aL ?_; (case aR => exact Zv (Kd.C_below HR2.out HB.out)); (case aB => exact (Zc1 GE950.out)); (case aF => exact (fun _ _ => trivial)); (case aO => exact (Zr HO953.out)); (case aS => exact (Qao (Zc1 GE950.out))); (case aL => have := LMc5.out; omega); intro v955 w8 ho hb hg hat; rw [← Ny954.out] at ho; have HO956 := Aside0.mk (ho); replace BK950 := Aside0.mk (QaG (g := gb950) (o := .cells #[.slice A0_0 l0_0.length c0_0, .slice A0_1 l0_1.length c0_1, .slice A0_2 l0_2.length c0_2] 67 (0, 0)) (Zu BK950.out) hg (Kd.R_ne HO953.out BK950.out (by decide))); replace HB := Aside0.mk (hb); clear HO953; clear ho hb hg hat)))
   go_loopg [8, 9] k (fun kq v8 v9 w' => ∃ (x8_1 : List (S75)) (x9_1 : Int), v9 = .int .i64 x9_1 ∧ Aside0 (contangolaw25_InterMore.l0 kq l1 y954 x8_1 x9_1 l0_0 l0_1 l0_2 = some r) ∧ Aside0 (kq ≤ k) ∧ Aside0 (Kd.R k75 75 w' w.heap.size (fun k_ => some k_ ≠ (v8 : Value).ownBlock) v955 y954) ∧ Aside0 (Kd.R k75 75 w' w.heap.size (fun k_ => some k_ ≠ (v955 : Value).ownBlock) v8 x8_1) ∧ Aside0 (w'.heap[gb950]? = some (.cells #[(.slice A0_0 l0_0.length c0_0), (.slice A0_1 l0_1.length c0_1), (.slice A0_2 l0_2.length c0_2)] 67 (0, 0))) ∧ Aside0 (Below w.heap.size w w'))
   case atStart => exact ⟨(([] : List (S75))), (0), (Zs), H', ⟨Nat.le_refl _⟩, ⟨by (with_reducible repeat (first | apply Kd.R_alloc | apply Kd.R_drewN | apply Kd.R_drew)); exact Kd.R_mono HO956.out (fun _ hk => (by simp [Value.ownBlock]))⟩, ⟨by first | exact Kd.R_nil _ _ _ _ _ | exact Kd.N_nil _ _ _ _ _ | exact Kd.V_nil _ _ _ _ _ | exact Kd.Q_nil _ _ _ _ _ | exact Kd.S_nil _ _ _ _ _⟩, ⟨Zu BK950.out⟩, ⟨Zc1 GE950.out⟩⟩
   case round =>
    clear H'
    try clear c1
    try clear c2
    try clear p2
    try clear c4
    try clear c5
    obtain ⟨x8_1, x9_1, rfl, HA, HK1, HO_7, HO_8, BK950, HB⟩ := hrel
    cases gk with
    | zero => exact absurd HA.out (by simp [contangolaw25_InterMore.l0])
    | succ k1 =>
     have H := HA.out
     clear HA
     simp only [contangolaw25_InterMore.l0] at H
     obtain ⟨Ao9, co9, eo9⟩ := Kd.R_slice HO_7.out
     subst eo9
     go_upto_if 29 with (fail)
     repeat (go_quiet (fail); go_upto_if 29 with (fail))
     by_cases c10 : x9_1 < (y954.length : Int)
     ·rw [if_pos c10] at H
      have c10b0 : decide (x9_1 < (y954.length : Int)) = T := decide_eq_true c10
      clear c10
      (try simp only [c10b0])
      by_cases c11 : 0 ≤ x9_1
      ·rw [if_pos c11] at H
       have c11b0 : decide (0 ≤ x9_1) = T := decide_eq_true c11
       clear c11
       by_cases c12 : x8_1.length < 2513169434916
       ·rw [if_pos c12] at H
        have LMc12 := Aside0.mk c12
        clear c12
        obtain ⟨y959, hy959⟩ : ∃ y_ : List (S75), y_ = (x8_1 ++ [(⟨(rd_T75 y954 x9_1).f0, (rd_T75 y954 x9_1).f1, (rd_T75 y954 x9_1).f2, (rd_T75 y954 x9_1).f3, 0⟩ : S75)]) := ⟨_, rfl⟩
        replace H : (contangolaw25_InterMore.l0 k1 l1 y954 y959 (wrap64 (x9_1 + 1)) l0_0 l0_1 l0_2) = some r := by first | (rw [hy959]; with_reducible exact H) | (have H2_ := (Option.bind_some _ _).symm.trans H; rw [hy959]; with_reducible exact H2_) | (have H2_ := (Option.bind_some _ _).symm.trans H; with_reducible exact H2_) | with_reducible exact H | (rw [hy959]; exact H) | exact H
        have Ny959 := Aside0.mk hy959
        clear hy959
        have H' := Aside0.mk H
        clear H
        have p957 : 0 ≤ (x9_1 : Int) := Ze
        have q957 : x9_1 < (y954.length : Int) := Ze
        obtain ⟨ad957, e957, hx957_0, hx957_1, hx957_2, hx957_3, hx957_4⟩ := at_T75 (Kd.R_reads' HO_7.out).2.2 x9_1 p957 q957
        cases e957
        replace p957 := eq_true p957
        replace q957 := eq_true q957
        go_wp2_with (first | ((with_reducible refine QaC (N := 10) rfl ?_); (try (refine Qay (by rfl) ?_; dsimp only)); refine Zbx (N := 10) (cs := #[.string (⟨#[]⟩ : ByteArray), .string (⟨#[]⟩ : ByteArray), .int .i64 0, .int .i64 0, .int .i64 0]) (t := 75) ?_; intro gb958 hg w13 hbox hb; have BK958 := Aside0.mk (hbox); have GW958 := Aside0.mk (Zt w hg (Zc1 GE950.out)); have GE958 := GW958; have NB950_958 := Aside0.mk (Zn hg BK950.out); have NB958_950 := Aside0.mk NB950_958.out.symm; replace HO_7 := Aside0.mk (Kd.R_below (Kd.R_elderB (Zr HO_7.out) gb958 (Nat.le_of_eq hg.symm)) hb); replace HO_8 := Aside0.mk (Kd.R_below (Kd.R_elderB (Zr HO_8.out) gb958 (Nat.le_of_eq hg.symm)) hb); replace BK950 := Aside0.mk (Zi BK950.out hb); replace HB := Aside0.mk (Qan (Zc1 GE950.out) hb); clear hb hbox hg; have hnb14 := NB958_950.out; have hnc14 := NB950_958.out; obtain ⟨hcz15_0, hfz15_0⟩ := Zy (v := (.string (⟨#[]⟩ : ByteArray))) BK958.out 0; obtain ⟨hcz15_1, hfz15_1⟩ := Zy (v := (.string (⟨#[]⟩ : ByteArray))) BK958.out 1; obtain ⟨hcz15_2, hfz15_2⟩ := Zy (v := (.int .i64 0)) BK958.out 2; obtain ⟨hcz15_3, hfz15_3⟩ := Zy (v := (.int .i64 0)) BK958.out 3; obtain ⟨hcz15_4, hfz15_4⟩ := Zy (v := (.int .i64 0)) BK958.out 4) | ((with_reducible refine Qbg (t := 75) (p := 10) rfl ?_); (try (rw [Qbf w13]; generalize hq_ : World.drewN w13 _ = w13; have n0_ := Aside0.mk (Kd.R_at hq_ HO_7.out); have n1_ := Aside0.mk (Kd.R_at hq_ HO_8.out); have n2_ := Aside0.mk (blk_at hq_ BK950.out); have n3_ := Aside0.mk (blk_at hq_ BK958.out); have n4_ := Aside0.mk (Qbo hq_ HB.out); clear hq_ HO_7 HO_8 BK950 BK958 HB; have HO_7 := n0_; have HO_8 := n1_; have BK950 := n2_; have BK958 := n3_; have HB := n4_; clear n0_ n1_ n2_ n3_ n4_)); refine Qbc (t := 75) (p := 10) (v := ?vo_w16) (w1 := (((((w13.setCell ⟨gb958, 0, none⟩ (.string ((rd_T75 y954 x9_1).f0))).setCell ⟨gb958, 1, none⟩ (.string ((rd_T75 y954 x9_1).f1))).setCell ⟨gb958, 2, none⟩ (.int .i64 ((rd_T75 y954 x9_1).f2))).setCell ⟨gb958, 3, none⟩ (.int .i64 ((rd_T75 y954 x9_1).f3))).setCell ⟨gb958, 4, none⟩ (.int .i64 ((rd_T75 y954 x9_1).f4)))) ?hg ?ho ?hn ?hr ?_; (case ho => rfl); (case hg => rfl); (case hn => rfl); (case hr => first | (exact QaL (cs := #[.string (⟨#[]⟩ : ByteArray), .string (⟨#[]⟩ : ByteArray), .int .i64 0, .int .i64 0, .int .i64 0]) (seg := [.string ((rd_T75 y954 x9_1).f0), .string ((rd_T75 y954 x9_1).f1), .int .i64 ((rd_T75 y954 x9_1).f2), .int .i64 ((rd_T75 y954 x9_1).f3), .int .i64 ((rd_T75 y954 x9_1).f4)]) BK958.out rfl (by first | rfl | (go_simp; done)) (by first | rfl | (go_simp; done)) (by rfl) (by first | rfl | kernel_rfl) (by simp) (by first | rfl | simp [Value.oneCell'])) | (go_simp; done) | (go_simp; rfl)); intro w16 hw; replace HO_7 : Aside0 (Kd.R k75 75 w16 w.heap.size (fun k_ => some k_ ≠ (u8 : Value).ownBlock ∧ k_ ≠ gb958) (.slice (some ad957) y954.length co9) y954) := ⟨(by rw [hw]; exact (by (with_reducible repeat (first | apply Kd.R_alloc | apply Kd.R_drewN | apply Kd.R_drew)); exact Kd.R_mono (Zf gb958 4 (Zf gb958 3 (Zf gb958 2 (Zf gb958 1 (Zf gb958 0 (Kd.R_mono HO_7.out (fun k_ hk => (⟨hk, hk.2⟩ : _ ∧ k_ ≠ gb958))) (.string ((rd_T75 y954 x9_1).f0))) (.string ((rd_T75 y954 x9_1).f1))) (.int .i64 ((rd_T75 y954 x9_1).f2))) (.int .i64 ((rd_T75 y954 x9_1).f3))) (.int .i64 ((rd_T75 y954 x9_1).f4))) (fun _ hk => ⟨hk.1.1, hk.1.2⟩)))⟩; replace HO_8 : Aside0 (Kd.R k75 75 w16 w.heap.size (fun k_ => some k_ ≠ (.slice (some ad957) y954.length co9 : Value).ownBlock ∧ k_ ≠ gb958) u8 x8_1) := ⟨(by rw [hw]; exact (by (with_reducible repeat (first | apply Kd.R_alloc | apply Kd.R_drewN | apply Kd.R_drew)); exact Kd.R_mono (Zf gb958 4 (Zf gb958 3 (Zf gb958 2 (Zf gb958 1 (Zf gb958 0 (Kd.R_mono HO_8.out (fun k_ hk => (⟨hk, hk.2⟩ : _ ∧ k_ ≠ gb958))) (.string ((rd_T75 y954 x9_1).f0))) (.string ((rd_T75 y954 x9_1).f1))) (.int .i64 ((rd_T75 y954 x9_1).f2))) (.int .i64 ((rd_T75 y954 x9_1).f3))) (.int .i64 ((rd_T75 y954 x9_1).f4))) (fun _ hk => ⟨hk.1.1, hk.1.2⟩)))⟩; replace BK950 : Aside0 (w16.heap[gb950]? = some (.cells #[.slice A0_0 l0_0.length c0_0, .slice A0_1 l0_1.length c0_1, .slice A0_2 l0_2.length c0_2] 67 (0, 0))) := ⟨(by rw [hw]; exact (Zg5 BK950.out NB950_958.out NB950_958.out NB950_958.out NB950_958.out NB950_958.out))⟩; replace BK958 : Aside0 (w16.heap[gb958]? = some (.cells #[.string ((rd_T75 y954 x9_1).f0), .string ((rd_T75 y954 x9_1).f1), .int .i64 ((rd_T75 y954 x9_1).f2), .int .i64 ((rd_T75 y954 x9_1).f3), .int .i64 ((rd_T75 y954 x9_1).f4)] 75 (0, 0))) := ⟨(by rw [hw]; exact (Zp2 BK958.out))⟩; replace HB : Aside0 (Below w.heap.size w w16) := ⟨(by rw [hw]; exact (Zc2 GE950.out GE958.out))⟩; clear hw; obtain ⟨hcz17_0, hfz17_0⟩ := Zy (v := (.string ((rd_T75 y954 x9_1).f0))) BK958.out 0; obtain ⟨hcz17_1, hfz17_1⟩ := Zy (v := (.string ((rd_T75 y954 x9_1).f1))) BK958.out 1; obtain ⟨hcz17_2, hfz17_2⟩ := Zy (v := (.int .i64 ((rd_T75 y954 x9_1).f2))) BK958.out 2; obtain ⟨hcz17_3, hfz17_3⟩ := Zy (v := (.int .i64 ((rd_T75 y954 x9_1).f3))) BK958.out 3; obtain ⟨hcz17_4, hfz17_4⟩ := Zy (v := (.int .i64 ((rd_T75 y954 x9_1).f4))) BK958.out 4) | ((with_reducible refine Qbg (t := 3) (p := 36) rfl ?_); (try (rw [Qbf w16]; generalize hq_ : World.drewN w16 _ = w16; have n0_ := Aside0.mk (Kd.R_at hq_ HO_7.out); have n1_ := Aside0.mk (Kd.R_at hq_ HO_8.out); have n2_ := Aside0.mk (blk_at hq_ BK950.out); have n3_ := Aside0.mk (blk_at hq_ BK958.out); have n4_ := Aside0.mk (Qbo hq_ HB.out); clear hq_ HO_7 HO_8 BK950 BK958 HB; have HO_7 := n0_; have HO_8 := n1_; have BK950 := n2_; have BK958 := n3_; have HB := n4_; clear n0_ n1_ n2_ n3_ n4_)); refine Qbc (t := 3) (p := 36) (v := ?vo_w18) (w1 := (w16.setCell ⟨gb958, 4, none⟩ (.int .i64 0))) ?hg ?ho ?hn ?hr ?_; (case ho => rfl); (case hg => rfl); (case hn => rfl); (case hr => first | (exact QaL (cs := #[.string ((rd_T75 y954 x9_1).f0), .string ((rd_T75 y954 x9_1).f1), .int .i64 ((rd_T75 y954 x9_1).f2), .int .i64 ((rd_T75 y954 x9_1).f3), .int .i64 ((rd_T75 y954 x9_1).f4)]) (seg := [.int .i64 0]) BK958.out rfl (by first | rfl | (go_simp; done)) (by first | rfl | (go_simp; done)) (by rfl) (by first | rfl | kernel_rfl) (by simp) (by first | rfl | simp [Value.oneCell'])) | (go_simp; done) | (go_simp; rfl)); intro w18 hw; replace HO_7 : Aside0 (Kd.R k75 75 w18 w.heap.size (fun k_ => some k_ ≠ (u8 : Value).ownBlock ∧ k_ ≠ gb958) (.slice (some ad957) y954.length co9) y954) := ⟨(by rw [hw]; exact (by (with_reducible repeat (first | apply Kd.R_alloc | apply Kd.R_drewN | apply Kd.R_drew)); exact Kd.R_mono (Zf gb958 4 (Kd.R_mono HO_7.out (fun k_ hk => (⟨hk, hk.2⟩ : _ ∧ k_ ≠ gb958))) (.int .i64 0)) (fun _ hk => ⟨hk.1.1, hk.1.2⟩)))⟩; replace HO_8 : Aside0 (Kd.R k75 75 w18 w.heap.size (fun k_ => some k_ ≠ (.slice (some ad957) y954.length co9 : Value).ownBlock ∧ k_ ≠ gb958) u8 x8_1) := ⟨(by rw [hw]; exact (by (with_reducible repeat (first | apply Kd.R_alloc | apply Kd.R_drewN | apply Kd.R_drew)); exact Kd.R_mono (Zf gb958 4 (Kd.R_mono HO_8.out (fun k_ hk => (⟨hk, hk.2⟩ : _ ∧ k_ ≠ gb958))) (.int .i64 0)) (fun _ hk => ⟨hk.1.1, hk.1.2⟩)))⟩; replace BK950 : Aside0 (w18.heap[gb950]? = some (.cells #[.slice A0_0 l0_0.length c0_0, .slice A0_1 l0_1.length c0_1, .slice A0_2 l0_2.length c0_2] 67 (0, 0))) := ⟨(by rw [hw]; exact (Zg1 BK950.out NB950_958.out))⟩; replace BK958 : Aside0 (w18.heap[gb958]? = some (.cells #[.string ((rd_T75 y954 x9_1).f0), .string ((rd_T75 y954 x9_1).f1), .int .i64 ((rd_T75 y954 x9_1).f2), .int .i64 ((rd_T75 y954 x9_1).f3), .int .i64 0] 75 (0, 0))) := ⟨(by rw [hw]; exact (Zp2 BK958.out))⟩; replace HB : Aside0 (Below w.heap.size w w18) := ⟨(by rw [hw]; exact (Zc2 GE950.out GE958.out))⟩; clear hw; obtain ⟨hcz19_0, hfz19_0⟩ := Zy (v := (.string ((rd_T75 y954 x9_1).f0))) BK958.out 0; obtain ⟨hcz19_1, hfz19_1⟩ := Zy (v := (.string ((rd_T75 y954 x9_1).f1))) BK958.out 1; obtain ⟨hcz19_2, hfz19_2⟩ := Zy (v := (.int .i64 ((rd_T75 y954 x9_1).f2))) BK958.out 2; obtain ⟨hcz19_3, hfz19_3⟩ := Zy (v := (.int .i64 ((rd_T75 y954 x9_1).f3))) BK958.out 3; obtain ⟨hcz19_4, hfz19_4⟩ := Zy (v := (.int .i64 0)) BK958.out 4) | ((with_reducible refine QaY (b := .append) (xs := #[.tmp 37, .tmp 39]) rfl ?_); (try (refine Qay (by rfl) ?_; dsimp only)); at_builtin; refine Kd.R_append k75 (w0 := w) w.heap.size rfl (.tmp 37) (.tmp 39) 68 75 (.agg #[(.string ⟨#[]⟩), (.string ⟨#[]⟩), (.int .i64 0), (.int .i64 0), (.int .i64 0)]) 56 rfl Try.underlying68 info75 rfl (by decide) (by omega) u8 x8_1 (⟨(rd_T75 y954 x9_1).f0, (rd_T75 y954 x9_1).f1, (rd_T75 y954 x9_1).f2, (rd_T75 y954 x9_1).f3, 0⟩ : S75) [.string ((rd_T75 y954 x9_1).f0), .string ((rd_T75 y954 x9_1).f1), .int .i64 ((rd_T75 y954 x9_1).f2), .int .i64 ((rd_T75 y954 x9_1).f3), .int .i64 0] (fun k_ => some k_ ≠ (.slice (some ad957) y954.length co9 : Value).ownBlock ∧ k_ ≠ gb958) (fun _ => False) rfl rfl ?aP (fun _ hk => hk.elim) ?aF ?aO ?aB ?aS ?aL ?_; (case aP => exact QbX _ _ _ (⟨(rd_T75 y954 x9_1).f0, (rd_T75 y954 x9_1).f1, (rd_T75 y954 x9_1).f2, (rd_T75 y954 x9_1).f3, 0⟩ : S75)); (case aB => exact (Zc2 GE950.out GE958.out)); (case aF => exact (fun k_ hk => ⟨Kd.fresh' (Kd.R_lt (Zr HO_7.out)) k_ hk, Kd.freshB (g := gb958) (o := .cells #[.string ((rd_T75 y954 x9_1).f0), .string ((rd_T75 y954 x9_1).f1), .int .i64 ((rd_T75 y954 x9_1).f2), .int .i64 ((rd_T75 y954 x9_1).f3), .int .i64 0] 75 (0, 0)) (Zu BK958.out) k_ hk⟩)); (case aO => exact (Zr HO_8.out)); (case aS => exact (Qao (Zc2 GE950.out GE958.out))); (case aL => have := LMc12.out; omega); intro v960 w20 ho hb hg hat; rw [← Ny959.out] at ho; have HO961 := Aside0.mk (ho); replace HO_7 := Aside0.mk (Kd.R_after (ok := (fun k_ => k_ ≠ gb958)) (by (with_reducible repeat (first | apply Kd.R_alloc | apply Kd.R_drewN | apply Kd.R_drew)); exact Kd.R_mono HO_7.out (fun _ hk => ⟨hk.2, hk.1⟩)) hg hat); replace BK950 := Aside0.mk (QaG (g := gb950) (o := .cells #[.slice A0_0 l0_0.length c0_0, .slice A0_1 l0_1.length c0_1, .slice A0_2 l0_2.length c0_2] 67 (0, 0)) (Zu BK950.out) hg (Kd.R_ne HO_8.out BK950.out (by decide))); replace BK958 := Aside0.mk (QaG (g := gb958) (o := .cells #[.string ((rd_T75 y954 x9_1).f0), .string ((rd_T75 y954 x9_1).f1), .int .i64 ((rd_T75 y954 x9_1).f2), .int .i64 ((rd_T75 y954 x9_1).f3), .int .i64 0] 75 (0, 0)) (Zu BK958.out) hg (Kd.R_away HO_8.out (fun _ hk => hk.2))); replace HB := Aside0.mk (hb); clear HO_8; clear ho hb hg hat))
        repeat (go_quiet (first | ((with_reducible refine QaC (N := 10) rfl ?_); (try (refine Qay (by rfl) ?_; dsimp only)); refine Zbx (N := 10) (cs := #[.string (⟨#[]⟩ : ByteArray), .string (⟨#[]⟩ : ByteArray), .int .i64 0, .int .i64 0, .int .i64 0]) (t := 75) ?_; intro gb958 hg w13 hbox hb; have BK958 := Aside0.mk (hbox); have GW958 := Aside0.mk (Zt w hg (Zc1 GE950.out)); have GE958 := GW958; have NB950_958 := Aside0.mk (Zn hg BK950.out); have NB958_950 := Aside0.mk NB950_958.out.symm; replace HO_7 := Aside0.mk (Kd.R_below (Kd.R_elderB (Zr HO_7.out) gb958 (Nat.le_of_eq hg.symm)) hb); replace HO_8 := Aside0.mk (Kd.R_below (Kd.R_elderB (Zr HO_8.out) gb958 (Nat.le_of_eq hg.symm)) hb); replace BK950 := Aside0.mk (Zi BK950.out hb); replace HB := Aside0.mk (Qan (Zc1 GE950.out) hb); clear hb hbox hg; have hnb14 := NB958_950.out; have hnc14 := NB950_958.out; obtain ⟨hcz15_0, hfz15_0⟩ := Zy (v := (.string (⟨#[]⟩ : ByteArray))) BK958.out 0; obtain ⟨hcz15_1, hfz15_1⟩ := Zy (v := (.string (⟨#[]⟩ : ByteArray))) BK958.out 1; obtain ⟨hcz15_2, hfz15_2⟩ := Zy (v := (.int .i64 0)) BK958.out 2; obtain ⟨hcz15_3, hfz15_3⟩ := Zy (v := (.int .i64 0)) BK958.out 3; obtain ⟨hcz15_4, hfz15_4⟩ := Zy (v := (.int .i64 0)) BK958.out 4) | ((with_reducible refine Qbg (t := 75) (p := 10) rfl ?_); (try (rw [Qbf w13]; generalize hq_ : World.drewN w13 _ = w13; have n0_ := Aside0.mk (Kd.R_at hq_ HO_7.out); have n1_ := Aside0.mk (Kd.R_at hq_ HO_8.out); have n2_ := Aside0.mk (blk_at hq_ BK950.out); have n3_ := Aside0.mk (blk_at hq_ BK958.out); have n4_ := Aside0.mk (Qbo hq_ HB.out); clear hq_ HO_7 HO_8 BK950 BK958 HB; have HO_7 := n0_; have HO_8 := n1_; have BK950 := n2_; have BK958 := n3_; have HB := n4_; clear n0_ n1_ n2_ n3_ n4_)); refine Qbc (t := 75) (p := 10) (v := ?vo_w16) (w1 := (((((w13.setCell ⟨gb958, 0, none⟩ (.string ((rd_T75 y954 x9_1).f0))).setCell ⟨gb958, 1, none⟩ (.string ((rd_T75 y954 x9_1).f1))).setCell ⟨gb958, 2, none⟩ (.int .i64 ((rd_T75 y954 x9_1).f2))).setCell ⟨gb958, 3, none⟩ (.int .i64 ((rd_T75 y954 x9_1).f3))).setCell ⟨gb958, 4, none⟩ (.int .i64 ((rd_T75 y954 x9_1).f4)))) ?hg ?ho ?hn ?hr ?_; (case ho => rfl); (case hg => rfl); (case hn => rfl); (case hr => first | (exact QaL (cs := #[.string (⟨#[]⟩ : ByteArray), .string (⟨#[]⟩ : ByteArray), .int .i64 0, .int .i64 0, .int .i64 0]) (seg := [.string ((rd_T75 y954 x9_1).f0), .string ((rd_T75 y954 x9_1).f1), .int .i64 ((rd_T75 y954 x9_1).f2), .int .i64 ((rd_T75 y954 x9_1).f3), .int .i64 ((rd_T75 y954 x9_1).f4)]) BK958.out rfl (by first | rfl | (go_simp; done)) (by first | rfl | (go_simp; done)) (by rfl) (by first | rfl | kernel_rfl) (by simp) (by first | rfl | simp [Value.oneCell'])) | (go_simp; done) | (go_simp; rfl)); intro w16 hw; replace HO_7 : Aside0 (Kd.R k75 75 w16 w.heap.size (fun k_ => some k_ ≠ (u8 : Value).ownBlock ∧ k_ ≠ gb958) (.slice (some ad957) y954.length co9) y954) := ⟨(by rw [hw]; exact (by (with_reducible repeat (first | apply Kd.R_alloc | apply Kd.R_drewN | apply Kd.R_drew)); exact Kd.R_mono (Zf gb958 4 (Zf gb958 3 (Zf gb958 2 (Zf gb958 1 (Zf gb958 0 (Kd.R_mono HO_7.out (fun k_ hk => (⟨hk, hk.2⟩ : _ ∧ k_ ≠ gb958))) (.string ((rd_T75 y954 x9_1).f0))) (.string ((rd_T75 y954 x9_1).f1))) (.int .i64 ((rd_T75 y954 x9_1).f2))) (.int .i64 ((rd_T75 y954 x9_1).f3))) (.int .i64 ((rd_T75 y954 x9_1).f4))) (fun _ hk => ⟨hk.1.1, hk.1.2⟩)))⟩; replace HO_8 : Aside0 (Kd.R k75 75 w16 w.heap.size (fun k_ => some k_ ≠ (.slice (some ad957) y954.length co9 : Value).ownBlock ∧ k_ ≠ gb958) u8 x8_1) := ⟨(by rw [hw]; exact (by (with_reducible repeat (first | apply Kd.R_alloc | apply Kd.R_drewN | apply Kd.R_drew)); exact Kd.R_mono (Zf gb958 4 (Zf gb958 3 (Zf gb958 2 (Zf gb958 1 (Zf gb958 0 (Kd.R_mono HO_8.out (fun k_ hk => (⟨hk, hk.2⟩ : _ ∧ k_ ≠ gb958))) (.string ((rd_T75 y954 x9_1).f0))) (.string ((rd_T75 y954 x9_1).f1))) (.int .i64 ((rd_T75 y954 x9_1).f2))) (.int .i64 ((rd_T75 y954 x9_1).f3))) (.int .i64 ((rd_T75 y954 x9_1).f4))) (fun _ hk => ⟨hk.1.1, hk.1.2⟩)))⟩; replace BK950 : Aside0 (w16.heap[gb950]? = some (.cells #[.slice A0_0 l0_0.length c0_0, .slice A0_1 l0_1.length c0_1, .slice A0_2 l0_2.length c0_2] 67 (0, 0))) := ⟨(by rw [hw]; exact (Zg5 BK950.out NB950_958.out NB950_958.out NB950_958.out NB950_958.out NB950_958.out))⟩; replace BK958 : Aside0 (w16.heap[gb958]? = some (.cells #[.string ((rd_T75 y954 x9_1).f0), .string ((rd_T75 y954 x9_1).f1), .int .i64 ((rd_T75 y954 x9_1).f2), .int .i64 ((rd_T75 y954 x9_1).f3), .int .i64 ((rd_T75 y954 x9_1).f4)] 75 (0, 0))) := ⟨(by rw [hw]; exact (Zp2 BK958.out))⟩; replace HB : Aside0 (Below w.heap.size w w16) := ⟨(by rw [hw]; exact (Zc2 GE950.out GE958.out))⟩; clear hw; obtain ⟨hcz17_0, hfz17_0⟩ := Zy (v := (.string ((rd_T75 y954 x9_1).f0))) BK958.out 0; obtain ⟨hcz17_1, hfz17_1⟩ := Zy (v := (.string ((rd_T75 y954 x9_1).f1))) BK958.out 1; obtain ⟨hcz17_2, hfz17_2⟩ := Zy (v := (.int .i64 ((rd_T75 y954 x9_1).f2))) BK958.out 2; obtain ⟨hcz17_3, hfz17_3⟩ := Zy (v := (.int .i64 ((rd_T75 y954 x9_1).f3))) BK958.out 3; obtain ⟨hcz17_4, hfz17_4⟩ := Zy (v := (.int .i64 ((rd_T75 y954 x9_1).f4))) BK958.out 4) | ((with_reducible refine Qbg (t := 3) (p := 36) rfl ?_); (try (rw [Qbf w16]; generalize hq_ : World.drewN w16 _ = w16; have n0_ := Aside0.mk (Kd.R_at hq_ HO_7.out); have n1_ := Aside0.mk (Kd.R_at hq_ HO_8.out); have n2_ := Aside0.mk (blk_at hq_ BK950.out); have n3_ := Aside0.mk (blk_at hq_ BK958.out); have n4_ := Aside0.mk (Qbo hq_ HB.out); clear hq_ HO_7 HO_8 BK950 BK958 HB; have HO_7 := n0_; have HO_8 := n1_; have BK950 := n2_; have BK958 := n3_; have HB := n4_; clear n0_ n1_ n2_ n3_ n4_)); refine Qbc (t := 3) (p := 36) (v := ?vo_w18) (w1 := (w16.setCell ⟨gb958, 4, none⟩ (.int .i64 0))) ?hg ?ho ?hn ?hr ?_; (case ho => rfl); (case hg => rfl); (case hn => rfl); (case hr => first | (exact QaL (cs := #[.string ((rd_T75 y954 x9_1).f0), .string ((rd_T75 y954 x9_1).f1), .int .i64 ((rd_T75 y954 x9_1).f2), .int .i64 ((rd_T75 y954 x9_1).f3), .int .i64 ((rd_T75 y954 x9_1).f4)]) (seg := [.int .i64 0]) BK958.out rfl (by first | rfl | (go_simp; done)) (by first | rfl | (go_simp; done)) (by rfl) (by first | rfl | kernel_rfl) (by simp) (by first | rfl | simp [Value.oneCell'])) | (go_simp; done) | (go_simp; rfl)); intro w18 hw; replace HO_7 : Aside0 (Kd.R k75 75 w18 w.heap.size (fun k_ => some k_ ≠ (u8 : Value).ownBlock ∧ k_ ≠ gb958) (.slice (some ad957) y954.length co9) y954) := ⟨(by rw [hw]; exact (by (with_reducible repeat (first | apply Kd.R_alloc | apply Kd.R_drewN | apply Kd.R_drew)); exact Kd.R_mono (Zf gb958 4 (Kd.R_mono HO_7.out (fun k_ hk => (⟨hk, hk.2⟩ : _ ∧ k_ ≠ gb958))) (.int .i64 0)) (fun _ hk => ⟨hk.1.1, hk.1.2⟩)))⟩; replace HO_8 : Aside0 (Kd.R k75 75 w18 w.heap.size (fun k_ => some k_ ≠ (.slice (some ad957) y954.length co9 : Value).ownBlock ∧ k_ ≠ gb958) u8 x8_1) := ⟨(by rw [hw]; exact (by (with_reducible repeat (first | apply Kd.R_alloc | apply Kd.R_drewN | apply Kd.R_drew)); exact Kd.R_mono (Zf gb958 4 (Kd.R_mono HO_8.out (fun k_ hk => (⟨hk, hk.2⟩ : _ ∧ k_ ≠ gb958))) (.int .i64 0)) (fun _ hk => ⟨hk.1.1, hk.1.2⟩)))⟩; replace BK950 : Aside0 (w18.heap[gb950]? = some (.cells #[.slice A0_0 l0_0.length c0_0, .slice A0_1 l0_1.length c0_1, .slice A0_2 l0_2.length c0_2] 67 (0, 0))) := ⟨(by rw [hw]; exact (Zg1 BK950.out NB950_958.out))⟩; replace BK958 : Aside0 (w18.heap[gb958]? = some (.cells #[.string ((rd_T75 y954 x9_1).f0), .string ((rd_T75 y954 x9_1).f1), .int .i64 ((rd_T75 y954 x9_1).f2), .int .i64 ((rd_T75 y954 x9_1).f3), .int .i64 0] 75 (0, 0))) := ⟨(by rw [hw]; exact (Zp2 BK958.out))⟩; replace HB : Aside0 (Below w.heap.size w w18) := ⟨(by rw [hw]; exact (Zc2 GE950.out GE958.out))⟩; clear hw; obtain ⟨hcz19_0, hfz19_0⟩ := Zy (v := (.string ((rd_T75 y954 x9_1).f0))) BK958.out 0; obtain ⟨hcz19_1, hfz19_1⟩ := Zy (v := (.string ((rd_T75 y954 x9_1).f1))) BK958.out 1; obtain ⟨hcz19_2, hfz19_2⟩ := Zy (v := (.int .i64 ((rd_T75 y954 x9_1).f2))) BK958.out 2; obtain ⟨hcz19_3, hfz19_3⟩ := Zy (v := (.int .i64 ((rd_T75 y954 x9_1).f3))) BK958.out 3; obtain ⟨hcz19_4, hfz19_4⟩ := Zy (v := (.int .i64 0)) BK958.out 4) | ((with_reducible refine QaY (b := .append) (xs := #[.tmp 37, .tmp 39]) rfl ?_); (try (refine Qay (by rfl) ?_; dsimp only)); at_builtin; refine Kd.R_append k75 (w0 := w) w.heap.size rfl (.tmp 37) (.tmp 39) 68 75 (.agg #[(.string ⟨#[]⟩), (.string ⟨#[]⟩), (.int .i64 0), (.int .i64 0), (.int .i64 0)]) 56 rfl Try.underlying68 info75 rfl (by decide) (by omega) u8 x8_1 (⟨(rd_T75 y954 x9_1).f0, (rd_T75 y954 x9_1).f1, (rd_T75 y954 x9_1).f2, (rd_T75 y954 x9_1).f3, 0⟩ : S75) [.string ((rd_T75 y954 x9_1).f0), .string ((rd_T75 y954 x9_1).f1), .int .i64 ((rd_T75 y954 x9_1).f2), .int .i64 ((rd_T75 y954 x9_1).f3), .int .i64 0] (fun k_ => some k_ ≠ (.slice (some ad957) y954.length co9 : Value).ownBlock ∧ k_ ≠ gb958) (fun _ => False) rfl rfl ?aP (fun _ hk => hk.elim) ?aF ?aO ?aB ?aS ?aL ?_; (case aP => exact QbX _ _ _ (⟨(rd_T75 y954 x9_1).f0, (rd_T75 y954 x9_1).f1, (rd_T75 y954 x9_1).f2, (rd_T75 y954 x9_1).f3, 0⟩ : S75)); (case aB => exact (Zc2 GE950.out GE958.out)); (case aF => exact (fun k_ hk => ⟨Kd.fresh' (Kd.R_lt (Zr HO_7.out)) k_ hk, Kd.freshB (g := gb958) (o := .cells #[.string ((rd_T75 y954 x9_1).f0), .string ((rd_T75 y954 x9_1).f1), .int .i64 ((rd_T75 y954 x9_1).f2), .int .i64 ((rd_T75 y954 x9_1).f3), .int .i64 0] 75 (0, 0)) (Zu BK958.out) k_ hk⟩)); (case aO => exact (Zr HO_8.out)); (case aS => exact (Qao (Zc2 GE950.out GE958.out))); (case aL => have := LMc12.out; omega); intro v960 w20 ho hb hg hat; rw [← Ny959.out] at ho; have HO961 := Aside0.mk (ho); replace HO_7 := Aside0.mk (Kd.R_after (ok := (fun k_ => k_ ≠ gb958)) (by (with_reducible repeat (first | apply Kd.R_alloc | apply Kd.R_drewN | apply Kd.R_drew)); exact Kd.R_mono HO_7.out (fun _ hk => ⟨hk.2, hk.1⟩)) hg hat); replace BK950 := Aside0.mk (QaG (g := gb950) (o := .cells #[.slice A0_0 l0_0.length c0_0, .slice A0_1 l0_1.length c0_1, .slice A0_2 l0_2.length c0_2] 67 (0, 0)) (Zu BK950.out) hg (Kd.R_ne HO_8.out BK950.out (by decide))); replace BK958 := Aside0.mk (QaG (g := gb958) (o := .cells #[.string ((rd_T75 y954 x9_1).f0), .string ((rd_T75 y954 x9_1).f1), .int .i64 ((rd_T75 y954 x9_1).f2), .int .i64 ((rd_T75 y954 x9_1).f3), .int .i64 0] 75 (0, 0)) (Zu BK958.out) hg (Kd.R_away HO_8.out (fun _ hk => hk.2))); replace HB := Aside0.mk (hb); clear HO_8; clear ho hb hg hat)); try go_wp2_with (first | ((with_reducible refine QaC (N := 10) rfl ?_); (try (refine Qay (by rfl) ?_; dsimp only)); refine Zbx (N := 10) (cs := #[.string (⟨#[]⟩ : ByteArray), .string (⟨#[]⟩ : ByteArray), .int .i64 0, .int .i64 0, .int .i64 0]) (t := 75) ?_; intro gb958 hg w13 hbox hb; have BK958 := Aside0.mk (hbox); have GW958 := Aside0.mk (Zt w hg (Zc1 GE950.out)); have GE958 := GW958; have NB950_958 := Aside0.mk (Zn hg BK950.out); have NB958_950 := Aside0.mk NB950_958.out.symm; replace HO_7 := Aside0.mk (Kd.R_below (Kd.R_elderB (Zr HO_7.out) gb958 (Nat.le_of_eq hg.symm)) hb); replace HO_8 := Aside0.mk (Kd.R_below (Kd.R_elderB (Zr HO_8.out) gb958 (Nat.le_of_eq hg.symm)) hb); replace BK950 := Aside0.mk (Zi BK950.out hb); replace HB := Aside0.mk (Qan (Zc1 GE950.out) hb); clear hb hbox hg; have hnb14 := NB958_950.out; have hnc14 := NB950_958.out; obtain ⟨hcz15_0, hfz15_0⟩ := Zy (v := (.string (⟨#[]⟩ : ByteArray))) BK958.out 0; obtain ⟨hcz15_1, hfz15_1⟩ := Zy (v := (.string (⟨#[]⟩ : ByteArray))) BK958.out 1; obtain ⟨hcz15_2, hfz15_2⟩ := Zy (v := (.int .i64 0)) BK958.out 2; obtain ⟨hcz15_3, hfz15_3⟩ := Zy (v := (.int .i64 0)) BK958.out 3; obtain ⟨hcz15_4, hfz15_4⟩ := Zy (v := (.int .i64 0)) BK958.out 4) | ((with_reducible refine Qbg (t := 75) (p := 10) rfl ?_); (try (rw [Qbf w13]; generalize hq_ : World.drewN w13 _ = w13; have n0_ := Aside0.mk (Kd.R_at hq_ HO_7.out); have n1_ := Aside0.mk (Kd.R_at hq_ HO_8.out); have n2_ := Aside0.mk (blk_at hq_ BK950.out); have n3_ := Aside0.mk (blk_at hq_ BK958.out); have n4_ := Aside0.mk (Qbo hq_ HB.out); clear hq_ HO_7 HO_8 BK950 BK958 HB; have HO_7 := n0_; have HO_8 := n1_; have BK950 := n2_; have BK958 := n3_; have HB := n4_; clear n0_ n1_ n2_ n3_ n4_)); refine Qbc (t := 75) (p := 10) (v := ?vo_w16) (w1 := (((((w13.setCell ⟨gb958, 0, none⟩ (.string ((rd_T75 y954 x9_1).f0))).setCell ⟨gb958, 1, none⟩ (.string ((rd_T75 y954 x9_1).f1))).setCell ⟨gb958, 2, none⟩ (.int .i64 ((rd_T75 y954 x9_1).f2))).setCell ⟨gb958, 3, none⟩ (.int .i64 ((rd_T75 y954 x9_1).f3))).setCell ⟨gb958, 4, none⟩ (.int .i64 ((rd_T75 y954 x9_1).f4)))) ?hg ?ho ?hn ?hr ?_; (case ho => rfl); (case hg => rfl); (case hn => rfl); (case hr => first | (exact QaL (cs := #[.string (⟨#[]⟩ : ByteArray), .string (⟨#[]⟩ : ByteArray), .int .i64 0, .int .i64 0, .int .i64 0]) (seg := [.string ((rd_T75 y954 x9_1).f0), .string ((rd_T75 y954 x9_1).f1), .int .i64 ((rd_T75 y954 x9_1).f2), .int .i64 ((rd_T75 y954 x9_1).f3), .int .i64 ((rd_T75 y954 x9_1).f4)]) BK958.out rfl (by first | rfl | (go_simp; done)) (by first | rfl | (go_simp; done)) (by rfl) (by first | rfl | kernel_rfl) (by simp) (by first | rfl | simp [Value.oneCell'])) | (go_simp; done) | (go_simp; rfl)); intro w16 hw; replace HO_7 : Aside0 (Kd.R k75 75 w16 w.heap.size (fun k_ => some k_ ≠ (u8 : Value).ownBlock ∧ k_ ≠ gb958) (.slice (some ad957) y954.length co9) y954) := ⟨(by rw [hw]; exact (by (with_reducible repeat (first | apply Kd.R_alloc | apply Kd.R_drewN | apply Kd.R_drew)); exact Kd.R_mono (Zf gb958 4 (Zf gb958 3 (Zf gb958 2 (Zf gb958 1 (Zf gb958 0 (Kd.R_mono HO_7.out (fun k_ hk => (⟨hk, hk.2⟩ : _ ∧ k_ ≠ gb958))) (.string ((rd_T75 y954 x9_1).f0))) (.string ((rd_T75 y954 x9_1).f1))) (.int .i64 ((rd_T75 y954 x9_1).f2))) (.int .i64 ((rd_T75 y954 x9_1).f3))) (.int .i64 ((rd_T75 y954 x9_1).f4))) (fun _ hk => ⟨hk.1.1, hk.1.2⟩)))⟩; replace HO_8 : Aside0 (Kd.R k75 75 w16 w.heap.size (fun k_ => some k_ ≠ (.slice (some ad957) y954.length co9 : Value).ownBlock ∧ k_ ≠ gb958) u8 x8_1) := ⟨(by rw [hw]; exact (by (with_reducible repeat (first | apply Kd.R_alloc | apply Kd.R_drewN | apply Kd.R_drew)); exact Kd.R_mono (Zf gb958 4 (Zf gb958 3 (Zf gb958 2 (Zf gb958 1 (Zf gb958 0 (Kd.R_mono HO_8.out (fun k_ hk => (⟨hk, hk.2⟩ : _ ∧ k_ ≠ gb958))) (.string ((rd_T75 y954 x9_1).f0))) (.string ((rd_T75 y954 x9_1).f1))) (.int .i64 ((rd_T75 y954 x9_1).f2))) (.int .i64 ((rd_T75 y954 x9_1).f3))) (.int .i64 ((rd_T75 y954 x9_1).f4))) (fun _ hk => ⟨hk.1.1, hk.1.2⟩)))⟩; replace BK950 : Aside0 (w16.heap[gb950]? = some (.cells #[.slice A0_0 l0_0.length c0_0, .slice A0_1 l0_1.length c0_1, .slice A0_2 l0_2.length c0_2] 67 (0, 0))) := ⟨(by rw [hw]; exact (Zg5 BK950.out NB950_958.out NB950_958.out NB950_958.out NB950_958.out NB950_958.out))⟩; replace BK958 : Aside0 (w16.heap[gb958]? = some (.cells #[.string ((rd_T75 y954 x9_1).f0), .string ((rd_T75 y954 x9_1).f1), .int .i64 ((rd_T75 y954 x9_1).f2), .int .i64 ((rd_T75 y954 x9_1).f3), .int .i64 ((rd_T75 y954 x9_1).f4)] 75 (0, 0))) := ⟨(by rw [hw]; exact (Zp2 BK958.out))⟩; replace HB : Aside0 (Below w.heap.size w w16) := ⟨(by rw [hw]; exact (Zc2 GE950.out GE958.out))⟩; clear hw; obtain ⟨hcz17_0, hfz17_0⟩ := Zy (v := (.string ((rd_T75 y954 x9_1).f0))) BK958.out 0; obtain ⟨hcz17_1, hfz17_1⟩ := Zy (v := (.string ((rd_T75 y954 x9_1).f1))) BK958.out 1; obtain ⟨hcz17_2, hfz17_2⟩ := Zy (v := (.int .i64 ((rd_T75 y954 x9_1).f2))) BK958.out 2; obtain ⟨hcz17_3, hfz17_3⟩ := Zy (v := (.int .i64 ((rd_T75 y954 x9_1).f3))) BK958.out 3; obtain ⟨hcz17_4, hfz17_4⟩ := Zy (v := (.int .i64 ((rd_T75 y954 x9_1).f4))) BK958.out 4) | ((with_reducible refine Qbg (t := 3) (p := 36) rfl ?_); (try (rw [Qbf w16]; generalize hq_ : World.drewN w16 _ = w16; have n0_ := Aside0.mk (Kd.R_at hq_ HO_7.out); have n1_ := Aside0.mk (Kd.R_at hq_ HO_8.out); have n2_ := Aside0.mk (blk_at hq_ BK950.out); have n3_ := Aside0.mk (blk_at hq_ BK958.out); have n4_ := Aside0.mk (Qbo hq_ HB.out); clear hq_ HO_7 HO_8 BK950 BK958 HB; have HO_7 := n0_; have HO_8 := n1_; have BK950 := n2_; have BK958 := n3_; have HB := n4_; clear n0_ n1_ n2_ n3_ n4_)); refine Qbc (t := 3) (p := 36) (v := ?vo_w18) (w1 := (w16.setCell ⟨gb958, 4, none⟩ (.int .i64 0))) ?hg ?ho ?hn ?hr ?_; (case ho => rfl); (case hg => rfl); (case hn => rfl); (case hr => first | (exact QaL (cs := #[.string ((rd_T75 y954 x9_1).f0), .string ((rd_T75 y954 x9_1).f1), .int .i64 ((rd_T75 y954 x9_1).f2), .int .i64 ((rd_T75 y954 x9_1).f3), .int .i64 ((rd_T75 y954 x9_1).f4)]) (seg := [.int .i64 0]) BK958.out rfl (by first | rfl | (go_simp; done)) (by first | rfl | (go_simp; done)) (by rfl) (by first | rfl | kernel_rfl) (by simp) (by first | rfl | simp [Value.oneCell'])) | (go_simp; done) | (go_simp; rfl)); intro w18 hw; replace HO_7 : Aside0 (Kd.R k75 75 w18 w.heap.size (fun k_ => some k_ ≠ (u8 : Value).ownBlock ∧ k_ ≠ gb958) (.slice (some ad957) y954.length co9) y954) := ⟨(by rw [hw]; exact (by (with_reducible repeat (first | apply Kd.R_alloc | apply Kd.R_drewN | apply Kd.R_drew)); exact Kd.R_mono (Zf gb958 4 (Kd.R_mono HO_7.out (fun k_ hk => (⟨hk, hk.2⟩ : _ ∧ k_ ≠ gb958))) (.int .i64 0)) (fun _ hk => ⟨hk.1.1, hk.1.2⟩)))⟩; replace HO_8 : Aside0 (Kd.R k75 75 w18 w.heap.size (fun k_ => some k_ ≠ (.slice (some ad957) y954.length co9 : Value).ownBlock ∧ k_ ≠ gb958) u8 x8_1) := ⟨(by rw [hw]; exact (by (with_reducible repeat (first | apply Kd.R_alloc | apply Kd.R_drewN | apply Kd.R_drew)); exact Kd.R_mono (Zf gb958 4 (Kd.R_mono HO_8.out (fun k_ hk => (⟨hk, hk.2⟩ : _ ∧ k_ ≠ gb958))) (.int .i64 0)) (fun _ hk => ⟨hk.1.1, hk.1.2⟩)))⟩; replace BK950 : Aside0 (w18.heap[gb950]? = some (.cells #[.slice A0_0 l0_0.length c0_0, .slice A0_1 l0_1.length c0_1, .slice A0_2 l0_2.length c0_2] 67 (0, 0))) := ⟨(by rw [hw]; exact (Zg1 BK950.out NB950_958.out))⟩; replace BK958 : Aside0 (w18.heap[gb958]? = some (.cells #[.string ((rd_T75 y954 x9_1).f0), .string ((rd_T75 y954 x9_1).f1), .int .i64 ((rd_T75 y954 x9_1).f2), .int .i64 ((rd_T75 y954 x9_1).f3), .int .i64 0] 75 (0, 0))) := ⟨(by rw [hw]; exact (Zp2 BK958.out))⟩; replace HB : Aside0 (Below w.heap.size w w18) := ⟨(by rw [hw]; exact (Zc2 GE950.out GE958.out))⟩; clear hw; obtain ⟨hcz19_0, hfz19_0⟩ := Zy (v := (.string ((rd_T75 y954 x9_1).f0))) BK958.out 0; obtain ⟨hcz19_1, hfz19_1⟩ := Zy (v := (.string ((rd_T75 y954 x9_1).f1))) BK958.out 1; obtain ⟨hcz19_2, hfz19_2⟩ := Zy (v := (.int .i64 ((rd_T75 y954 x9_1).f2))) BK958.out 2; obtain ⟨hcz19_3, hfz19_3⟩ := Zy (v := (.int .i64 ((rd_T75 y954 x9_1).f3))) BK958.out 3; obtain ⟨hcz19_4, hfz19_4⟩ := Zy (v := (.int .i64 0)) BK958.out 4) | ((with_reducible refine QaY (b := .append) (xs := #[.tmp 37, .tmp 39]) rfl ?_); (try (refine Qay (by rfl) ?_; dsimp only)); at_builtin; refine Kd.R_append k75 (w0 := w) w.heap.size rfl (.tmp 37) (.tmp 39) 68 75 (.agg #[(.string ⟨#[]⟩), (.string ⟨#[]⟩), (.int .i64 0), (.int .i64 0), (.int .i64 0)]) 56 rfl Try.underlying68 info75 rfl (by decide) (by omega) u8 x8_1 (⟨(rd_T75 y954 x9_1).f0, (rd_T75 y954 x9_1).f1, (rd_T75 y954 x9_1).f2, (rd_T75 y954 x9_1).f3, 0⟩ : S75) [.string ((rd_T75 y954 x9_1).f0), .string ((rd_T75 y954 x9_1).f1), .int .i64 ((rd_T75 y954 x9_1).f2), .int .i64 ((rd_T75 y954 x9_1).f3), .int .i64 0] (fun k_ => some k_ ≠ (.slice (some ad957) y954.length co9 : Value).ownBlock ∧ k_ ≠ gb958) (fun _ => False) rfl rfl ?aP (fun _ hk => hk.elim) ?aF ?aO ?aB ?aS ?aL ?_; (case aP => exact QbX _ _ _ (⟨(rd_T75 y954 x9_1).f0, (rd_T75 y954 x9_1).f1, (rd_T75 y954 x9_1).f2, (rd_T75 y954 x9_1).f3, 0⟩ : S75)); (case aB => exact (Zc2 GE950.out GE958.out)); (case aF => exact (fun k_ hk => ⟨Kd.fresh' (Kd.R_lt (Zr HO_7.out)) k_ hk, Kd.freshB (g := gb958) (o := .cells #[.string ((rd_T75 y954 x9_1).f0), .string ((rd_T75 y954 x9_1).f1), .int .i64 ((rd_T75 y954 x9_1).f2), .int .i64 ((rd_T75 y954 x9_1).f3), .int .i64 0] 75 (0, 0)) (Zu BK958.out) k_ hk⟩)); (case aO => exact (Zr HO_8.out)); (case aS => exact (Qao (Zc2 GE950.out GE958.out))); (case aL => have := LMc12.out; omega); intro v960 w20 ho hb hg hat; rw [← Ny959.out] at ho; have HO961 := Aside0.mk (ho); replace HO_7 := Aside0.mk (Kd.R_after (ok := (fun k_ => k_ ≠ gb958)) (by (with_reducible repeat (first | apply Kd.R_alloc | apply Kd.R_drewN | apply Kd.R_drew)); exact Kd.R_mono HO_7.out (fun _ hk => ⟨hk.2, hk.1⟩)) hg hat); replace BK950 := Aside0.mk (QaG (g := gb950) (o := .cells #[.slice A0_0 l0_0.length c0_0, .slice A0_1 l0_1.length c0_1, .slice A0_2 l0_2.length c0_2] 67 (0, 0)) (Zu BK950.out) hg (Kd.R_ne HO_8.out BK950.out (by decide))); replace BK958 := Aside0.mk (QaG (g := gb958) (o := .cells #[.string ((rd_T75 y954 x9_1).f0), .string ((rd_T75 y954 x9_1).f1), .int .i64 ((rd_T75 y954 x9_1).f2), .int .i64 ((rd_T75 y954 x9_1).f3), .int .i64 0] 75 (0, 0)) (Zu BK958.out) hg (Kd.R_away HO_8.out (fun _ hk => hk.2))); replace HB := Aside0.mk (hb); clear HO_8; clear ho hb hg hat)))
        go_roundg k1
        case measure => have := HK1.out; omega
        case rel => exact ⟨(y959), (wrap64 (x9_1 + 1)), (Zs), H', ⟨by have := HK1.out; omega⟩, ⟨by (with_reducible repeat (first | apply Kd.R_alloc | apply Kd.R_drewN | apply Kd.R_drew)); exact Kd.R_mono HO_7.out (fun _ hk => hk.2)⟩, ⟨by (with_reducible repeat (first | apply Kd.R_alloc | apply Kd.R_drewN | apply Kd.R_drew)); exact Kd.R_mono HO961.out (fun _ hk => hk.1)⟩, ⟨Zu BK950.out⟩, ⟨Zc2 GE950.out GE958.out⟩⟩
       rw [if_neg c12] at H
       exact absurd H (by simp)
      rw [if_neg c11] at H
      exact absurd H (by simp)
     rw [if_neg c10] at H
     have c10b0 : decide (x9_1 < (y954.length : Int)) = false := decide_eq_false c10
     clear c10
     (try simp only [c10b0])
     replace H := Option.bind_eq_some_iff.mp H
     obtain ⟨⟨t962, t963, t964⟩, A210, H⟩ := H
     replace H : ((Qae.f k1 l0_0 l0_1 l0_2 y954).bind fun bt969 => ((Qae.f k1 l0_0 l0_1 l0_2 x8_1).bind fun bt976 => (if t964 = 0 then (contangolaw25_InterMore.j1 k1 t962 bt969.1 bt969.2.1 bt976.1 bt976.2.1 bt976.2.2 (bt969.2.2 != 0)) else (contangolaw25_InterMore.j1 k1 t962 bt969.1 bt969.2.1 bt976.1 bt976.2.1 bt976.2.2 T)))) = some r := H
     have A21 := Aside0.mk A210
     clear A210
     replace H := Option.bind_eq_some_iff.mp H
     obtain ⟨⟨t969, t970, t971⟩, A220, H⟩ := H
     replace H : ((Qae.f k1 l0_0 l0_1 l0_2 x8_1).bind fun bt976 => (if t964 = 0 then (contangolaw25_InterMore.j1 k1 t962 t969 t970 bt976.1 bt976.2.1 bt976.2.2 (t971 != 0)) else (contangolaw25_InterMore.j1 k1 t962 t969 t970 bt976.1 bt976.2.1 bt976.2.2 T))) = some r := H
     have A22 := Aside0.mk A220
     clear A220
     replace H := Option.bind_eq_some_iff.mp H
     obtain ⟨⟨t976, t977, t978⟩, A230, H⟩ := H
     replace H : (if t964 = 0 then (contangolaw25_InterMore.j1 k1 t962 t969 t970 t976 t977 t978 (t971 != 0)) else (contangolaw25_InterMore.j1 k1 t962 t969 t970 t976 t977 t978 T)) = some r := H
     have A23 := Aside0.mk A230
     clear A230
     have HC24 := Aside0.mk H
     clear H
     obtain ⟨hcz25_0, hfz25_0⟩ := Zy (v := (.slice A0_0 l0_0.length c0_0)) BK950.out 0
     obtain ⟨hcz25_1, hfz25_1⟩ := Zy (v := (.slice A0_1 l0_1.length c0_1)) BK950.out 1
     obtain ⟨hcz25_2, hfz25_2⟩ := Zy (v := (.slice A0_2 l0_2.length c0_2)) BK950.out 2
     go_upto_region 12 with (first | (go_at_call 42; (with_reducible refine (Qae.calls k1 _ _ l0_0 _ _ l0_1 _ _ l0_2 _ _ l1 t962 t963 t964 _ ?side1 ?side2 ?side3 ?side4 ?side5 ?side6 ?side7 ?side8 A21.out).mono ?_); (case side1 => exact Zv (Kd.C_below HR0_0.out HB.out)); (case side2 => exact HC0_0.out); (case side3 => exact Zv (Kd.C_below HR0_1.out HB.out)); (case side4 => exact HC0_1.out); (case side5 => exact Zv (Kd.C_below HR0_2.out HB.out)); (case side6 => exact HC0_2.out); (case side7 => exact Zv (Kd.C_below HR1.out HB.out)); (case side8 => exact HC1.out); rintro e w26 ⟨v965, v967, rfl, ho0, ho1, hb⟩; have HO966 := Aside0.mk (Kd.R_lower ho0 (Qao (Zc1 GE950.out))); have HO968 := Aside0.mk (Kd.R_lower ho1 (Qao (Zc1 GE950.out))); replace HO_7 := Aside0.mk (Kd.R_below (Zr HO_7.out) hb); replace HO_8 := Aside0.mk (Kd.R_below (Zr HO_8.out) hb); replace BK950 := Aside0.mk (Zi BK950.out hb); replace HB := Aside0.mk (Qan (Zc1 GE950.out) hb); (try clear hb); (try clear hb2); (try clear hk); (try clear hi); (try clear ho0); (try clear ho1); obtain ⟨hcz27_0, hfz27_0⟩ := Zy (v := (.slice A0_0 l0_0.length c0_0)) BK950.out 0; obtain ⟨hcz27_1, hfz27_1⟩ := Zy (v := (.slice A0_1 l0_1.length c0_1)) BK950.out 1; obtain ⟨hcz27_2, hfz27_2⟩ := Zy (v := (.slice A0_2 l0_2.length c0_2)) BK950.out 2) | (go_at_call 42; (with_reducible refine (Qae.calls k1 _ _ l0_0 _ _ l0_1 _ _ l0_2 _ _ y954 t969 t970 t971 _ ?side1 ?side2 ?side3 ?side4 ?side5 ?side6 ?side7 ?side8 A22.out).mono ?_); (case side1 => exact Zv (Kd.C_below HR0_0.out HB.out)); (case side2 => exact HC0_0.out); (case side3 => exact Zv (Kd.C_below HR0_1.out HB.out)); (case side4 => exact HC0_1.out); (case side5 => exact Zv (Kd.C_below HR0_2.out HB.out)); (case side6 => exact HC0_2.out); (case side7 => exact Zv (Kd.R_reads' HO_7.out).2.2); (case side8 => exact (Kd.R_reads' HO_7.out).2.1); rintro e w28 ⟨v972, v974, rfl, ho0, ho1, hb⟩; have HO973 := Aside0.mk (Kd.R_lower (Kd.R_new' (Kd.R_new' ho0 (Kd.R_lt (Zr HO966.out))) (Kd.R_lt (Zr HO968.out))) (Qao (Zc1 GE950.out))); have HO975 := Aside0.mk (Kd.R_lower (Kd.R_new' (Kd.R_new' ho1 (Kd.R_lt (Zr HO966.out))) (Kd.R_lt (Zr HO968.out))) (Qao (Zc1 GE950.out))); replace HO_7 := Aside0.mk (Kd.R_below (Zr HO_7.out) hb); replace HO_8 := Aside0.mk (Kd.R_below (Zr HO_8.out) hb); replace HO966 := Aside0.mk (Kd.R_mono (Kd.R_told (Kd.R_told (Kd.R_old (Zr HO966.out) hb) (Kd.R_base ho0)) (Kd.R_base ho1)) (fun _ h_ => h_.1)); replace HO968 := Aside0.mk (Kd.R_mono (Kd.R_told (Kd.R_told (Kd.R_old (Zr HO968.out) hb) (Kd.R_base ho0)) (Kd.R_base ho1)) (fun _ h_ => h_.1)); replace BK950 := Aside0.mk (Zi BK950.out hb); replace HB := Aside0.mk (Qan (Zc1 GE950.out) hb); (try clear hb); (try clear hb2); (try clear hk); (try clear hi); (try clear ho0); (try clear ho1); obtain ⟨hcz29_0, hfz29_0⟩ := Zy (v := (.slice A0_0 l0_0.length c0_0)) BK950.out 0; obtain ⟨hcz29_1, hfz29_1⟩ := Zy (v := (.slice A0_1 l0_1.length c0_1)) BK950.out 1; obtain ⟨hcz29_2, hfz29_2⟩ := Zy (v := (.slice A0_2 l0_2.length c0_2)) BK950.out 2; obtain ⟨Ao30, co30, eo30⟩ := Kd.R_slice HO_8.out; subst eo30) | (go_at_call 42; (with_reducible refine (Qae.calls k1 _ _ l0_0 _ _ l0_1 _ _ l0_2 _ _ x8_1 t976 t977 t978 _ ?side1 ?side2 ?side3 ?side4 ?side5 ?side6 ?side7 ?side8 A23.out).mono ?_); (case side1 => exact Zv (Kd.C_below HR0_0.out HB.out)); (case side2 => exact HC0_0.out); (case side3 => exact Zv (Kd.C_below HR0_1.out HB.out)); (case side4 => exact HC0_1.out); (case side5 => exact Zv (Kd.C_below HR0_2.out HB.out)); (case side6 => exact HC0_2.out); (case side7 => exact Zv (Kd.R_reads' HO_8.out).2.2); (case side8 => exact (Kd.R_reads' HO_8.out).2.1); rintro e w31 ⟨v979, v981, rfl, ho0, ho1, hb⟩; have HO980 := Aside0.mk (Kd.R_lower (Kd.R_new' (Kd.R_new' (Kd.R_new' (Kd.R_new' ho0 (Kd.R_lt (Zr HO966.out))) (Kd.R_lt (Zr HO968.out))) (Kd.R_lt (Zr HO973.out))) (Kd.R_lt (Zr HO975.out))) (Qao (Zc1 GE950.out))); have HO982 := Aside0.mk (Kd.R_lower (Kd.R_new' (Kd.R_new' (Kd.R_new' (Kd.R_new' ho1 (Kd.R_lt (Zr HO966.out))) (Kd.R_lt (Zr HO968.out))) (Kd.R_lt (Zr HO973.out))) (Kd.R_lt (Zr HO975.out))) (Qao (Zc1 GE950.out))); replace HO_7 := Aside0.mk (Kd.R_below (Zr HO_7.out) hb); replace HO_8 := Aside0.mk (Kd.R_below (Zr HO_8.out) hb); replace HO966 := Aside0.mk (Kd.R_mono (Kd.R_told (Kd.R_told (Kd.R_old (Zr HO966.out) hb) (Kd.R_base ho0)) (Kd.R_base ho1)) (fun _ h_ => h_.1)); replace HO968 := Aside0.mk (Kd.R_mono (Kd.R_told (Kd.R_told (Kd.R_old (Zr HO968.out) hb) (Kd.R_base ho0)) (Kd.R_base ho1)) (fun _ h_ => h_.1)); replace HO973 := Aside0.mk (Kd.R_mono (Kd.R_told (Kd.R_told (Kd.R_old (Zr HO973.out) hb) (Kd.R_base ho0)) (Kd.R_base ho1)) (fun _ h_ => h_.1)); replace HO975 := Aside0.mk (Kd.R_mono (Kd.R_told (Kd.R_told (Kd.R_old (Zr HO975.out) hb) (Kd.R_base ho0)) (Kd.R_base ho1)) (fun _ h_ => h_.1)); replace BK950 := Aside0.mk (Zi BK950.out hb); replace HB := Aside0.mk (Qan (Zc1 GE950.out) hb); (try clear hb); (try clear hb2); (try clear hk); (try clear hi); (try clear ho0); (try clear ho1)))
     repeat (go_quiet (first | (go_at_call 42; (with_reducible refine (Qae.calls k1 _ _ l0_0 _ _ l0_1 _ _ l0_2 _ _ l1 t962 t963 t964 _ ?side1 ?side2 ?side3 ?side4 ?side5 ?side6 ?side7 ?side8 A21.out).mono ?_); (case side1 => exact Zv (Kd.C_below HR0_0.out HB.out)); (case side2 => exact HC0_0.out); (case side3 => exact Zv (Kd.C_below HR0_1.out HB.out)); (case side4 => exact HC0_1.out); (case side5 => exact Zv (Kd.C_below HR0_2.out HB.out)); (case side6 => exact HC0_2.out); (case side7 => exact Zv (Kd.C_below HR1.out HB.out)); (case side8 => exact HC1.out); rintro e w26 ⟨v965, v967, rfl, ho0, ho1, hb⟩; have HO966 := Aside0.mk (Kd.R_lower ho0 (Qao (Zc1 GE950.out))); have HO968 := Aside0.mk (Kd.R_lower ho1 (Qao (Zc1 GE950.out))); replace HO_7 := Aside0.mk (Kd.R_below (Zr HO_7.out) hb); replace HO_8 := Aside0.mk (Kd.R_below (Zr HO_8.out) hb); replace BK950 := Aside0.mk (Zi BK950.out hb); replace HB := Aside0.mk (Qan (Zc1 GE950.out) hb); (try clear hb); (try clear hb2); (try clear hk); (try clear hi); (try clear ho0); (try clear ho1); obtain ⟨hcz27_0, hfz27_0⟩ := Zy (v := (.slice A0_0 l0_0.length c0_0)) BK950.out 0; obtain ⟨hcz27_1, hfz27_1⟩ := Zy (v := (.slice A0_1 l0_1.length c0_1)) BK950.out 1; obtain ⟨hcz27_2, hfz27_2⟩ := Zy (v := (.slice A0_2 l0_2.length c0_2)) BK950.out 2) | (go_at_call 42; (with_reducible refine (Qae.calls k1 _ _ l0_0 _ _ l0_1 _ _ l0_2 _ _ y954 t969 t970 t971 _ ?side1 ?side2 ?side3 ?side4 ?side5 ?side6 ?side7 ?side8 A22.out).mono ?_); (case side1 => exact Zv (Kd.C_below HR0_0.out HB.out)); (case side2 => exact HC0_0.out); (case side3 => exact Zv (Kd.C_below HR0_1.out HB.out)); (case side4 => exact HC0_1.out); (case side5 => exact Zv (Kd.C_below HR0_2.out HB.out)); (case side6 => exact HC0_2.out); (case side7 => exact Zv (Kd.R_reads' HO_7.out).2.2); (case side8 => exact (Kd.R_reads' HO_7.out).2.1); rintro e w28 ⟨v972, v974, rfl, ho0, ho1, hb⟩; have HO973 := Aside0.mk (Kd.R_lower (Kd.R_new' (Kd.R_new' ho0 (Kd.R_lt (Zr HO966.out))) (Kd.R_lt (Zr HO968.out))) (Qao (Zc1 GE950.out))); have HO975 := Aside0.mk (Kd.R_lower (Kd.R_new' (Kd.R_new' ho1 (Kd.R_lt (Zr HO966.out))) (Kd.R_lt (Zr HO968.out))) (Qao (Zc1 GE950.out))); replace HO_7 := Aside0.mk (Kd.R_below (Zr HO_7.out) hb); replace HO_8 := Aside0.mk (Kd.R_below (Zr HO_8.out) hb); replace HO966 := Aside0.mk (Kd.R_mono (Kd.R_told (Kd.R_told (Kd.R_old (Zr HO966.out) hb) (Kd.R_base ho0)) (Kd.R_base ho1)) (fun _ h_ => h_.1)); replace HO968 := Aside0.mk (Kd.R_mono (Kd.R_told (Kd.R_told (Kd.R_old (Zr HO968.out) hb) (Kd.R_base ho0)) (Kd.R_base ho1)) (fun _ h_ => h_.1)); replace BK950 := Aside0.mk (Zi BK950.out hb); replace HB := Aside0.mk (Qan (Zc1 GE950.out) hb); (try clear hb); (try clear hb2); (try clear hk); (try clear hi); (try clear ho0); (try clear ho1); obtain ⟨hcz29_0, hfz29_0⟩ := Zy (v := (.slice A0_0 l0_0.length c0_0)) BK950.out 0; obtain ⟨hcz29_1, hfz29_1⟩ := Zy (v := (.slice A0_1 l0_1.length c0_1)) BK950.out 1; obtain ⟨hcz29_2, hfz29_2⟩ := Zy (v := (.slice A0_2 l0_2.length c0_2)) BK950.out 2; obtain ⟨Ao30, co30, eo30⟩ := Kd.R_slice HO_8.out; subst eo30) | (go_at_call 42; (with_reducible refine (Qae.calls k1 _ _ l0_0 _ _ l0_1 _ _ l0_2 _ _ x8_1 t976 t977 t978 _ ?side1 ?side2 ?side3 ?side4 ?side5 ?side6 ?side7 ?side8 A23.out).mono ?_); (case side1 => exact Zv (Kd.C_below HR0_0.out HB.out)); (case side2 => exact HC0_0.out); (case side3 => exact Zv (Kd.C_below HR0_1.out HB.out)); (case side4 => exact HC0_1.out); (case side5 => exact Zv (Kd.C_below HR0_2.out HB.out)); (case side6 => exact HC0_2.out); (case side7 => exact Zv (Kd.R_reads' HO_8.out).2.2); (case side8 => exact (Kd.R_reads' HO_8.out).2.1); rintro e w31 ⟨v979, v981, rfl, ho0, ho1, hb⟩; have HO980 := Aside0.mk (Kd.R_lower (Kd.R_new' (Kd.R_new' (Kd.R_new' (Kd.R_new' ho0 (Kd.R_lt (Zr HO966.out))) (Kd.R_lt (Zr HO968.out))) (Kd.R_lt (Zr HO973.out))) (Kd.R_lt (Zr HO975.out))) (Qao (Zc1 GE950.out))); have HO982 := Aside0.mk (Kd.R_lower (Kd.R_new' (Kd.R_new' (Kd.R_new' (Kd.R_new' ho1 (Kd.R_lt (Zr HO966.out))) (Kd.R_lt (Zr HO968.out))) (Kd.R_lt (Zr HO973.out))) (Kd.R_lt (Zr HO975.out))) (Qao (Zc1 GE950.out))); replace HO_7 := Aside0.mk (Kd.R_below (Zr HO_7.out) hb); replace HO_8 := Aside0.mk (Kd.R_below (Zr HO_8.out) hb); replace HO966 := Aside0.mk (Kd.R_mono (Kd.R_told (Kd.R_told (Kd.R_old (Zr HO966.out) hb) (Kd.R_base ho0)) (Kd.R_base ho1)) (fun _ h_ => h_.1)); replace HO968 := Aside0.mk (Kd.R_mono (Kd.R_told (Kd.R_told (Kd.R_old (Zr HO968.out) hb) (Kd.R_base ho0)) (Kd.R_base ho1)) (fun _ h_ => h_.1)); replace HO973 := Aside0.mk (Kd.R_mono (Kd.R_told (Kd.R_told (Kd.R_old (Zr HO973.out) hb) (Kd.R_base ho0)) (Kd.R_base ho1)) (fun _ h_ => h_.1)); replace HO975 := Aside0.mk (Kd.R_mono (Kd.R_told (Kd.R_told (Kd.R_old (Zr HO975.out) hb) (Kd.R_base ho0)) (Kd.R_base ho1)) (fun _ h_ => h_.1)); replace BK950 := Aside0.mk (Zi BK950.out hb); replace HB := Aside0.mk (Qan (Zc1 GE950.out) hb); (try clear hb); (try clear hb2); (try clear hk); (try clear hi); (try clear ho0); (try clear ho1))); go_upto_region 12 with (first | (go_at_call 42; (with_reducible refine (Qae.calls k1 _ _ l0_0 _ _ l0_1 _ _ l0_2 _ _ l1 t962 t963 t964 _ ?side1 ?side2 ?side3 ?side4 ?side5 ?side6 ?side7 ?side8 A21.out).mono ?_); (case side1 => exact Zv (Kd.C_below HR0_0.out HB.out)); (case side2 => exact HC0_0.out); (case side3 => exact Zv (Kd.C_below HR0_1.out HB.out)); (case side4 => exact HC0_1.out); (case side5 => exact Zv (Kd.C_below HR0_2.out HB.out)); (case side6 => exact HC0_2.out); (case side7 => exact Zv (Kd.C_below HR1.out HB.out)); (case side8 => exact HC1.out); rintro e w26 ⟨v965, v967, rfl, ho0, ho1, hb⟩; have HO966 := Aside0.mk (Kd.R_lower ho0 (Qao (Zc1 GE950.out))); have HO968 := Aside0.mk (Kd.R_lower ho1 (Qao (Zc1 GE950.out))); replace HO_7 := Aside0.mk (Kd.R_below (Zr HO_7.out) hb); replace HO_8 := Aside0.mk (Kd.R_below (Zr HO_8.out) hb); replace BK950 := Aside0.mk (Zi BK950.out hb); replace HB := Aside0.mk (Qan (Zc1 GE950.out) hb); (try clear hb); (try clear hb2); (try clear hk); (try clear hi); (try clear ho0); (try clear ho1); obtain ⟨hcz27_0, hfz27_0⟩ := Zy (v := (.slice A0_0 l0_0.length c0_0)) BK950.out 0; obtain ⟨hcz27_1, hfz27_1⟩ := Zy (v := (.slice A0_1 l0_1.length c0_1)) BK950.out 1; obtain ⟨hcz27_2, hfz27_2⟩ := Zy (v := (.slice A0_2 l0_2.length c0_2)) BK950.out 2) | (go_at_call 42; (with_reducible refine (Qae.calls k1 _ _ l0_0 _ _ l0_1 _ _ l0_2 _ _ y954 t969 t970 t971 _ ?side1 ?side2 ?side3 ?side4 ?side5 ?side6 ?side7 ?side8 A22.out).mono ?_); (case side1 => exact Zv (Kd.C_below HR0_0.out HB.out)); (case side2 => exact HC0_0.out); (case side3 => exact Zv (Kd.C_below HR0_1.out HB.out)); (case side4 => exact HC0_1.out); (case side5 => exact Zv (Kd.C_below HR0_2.out HB.out)); (case side6 => exact HC0_2.out); (case side7 => exact Zv (Kd.R_reads' HO_7.out).2.2); (case side8 => exact (Kd.R_reads' HO_7.out).2.1); rintro e w28 ⟨v972, v974, rfl, ho0, ho1, hb⟩; have HO973 := Aside0.mk (Kd.R_lower (Kd.R_new' (Kd.R_new' ho0 (Kd.R_lt (Zr HO966.out))) (Kd.R_lt (Zr HO968.out))) (Qao (Zc1 GE950.out))); have HO975 := Aside0.mk (Kd.R_lower (Kd.R_new' (Kd.R_new' ho1 (Kd.R_lt (Zr HO966.out))) (Kd.R_lt (Zr HO968.out))) (Qao (Zc1 GE950.out))); replace HO_7 := Aside0.mk (Kd.R_below (Zr HO_7.out) hb); replace HO_8 := Aside0.mk (Kd.R_below (Zr HO_8.out) hb); replace HO966 := Aside0.mk (Kd.R_mono (Kd.R_told (Kd.R_told (Kd.R_old (Zr HO966.out) hb) (Kd.R_base ho0)) (Kd.R_base ho1)) (fun _ h_ => h_.1)); replace HO968 := Aside0.mk (Kd.R_mono (Kd.R_told (Kd.R_told (Kd.R_old (Zr HO968.out) hb) (Kd.R_base ho0)) (Kd.R_base ho1)) (fun _ h_ => h_.1)); replace BK950 := Aside0.mk (Zi BK950.out hb); replace HB := Aside0.mk (Qan (Zc1 GE950.out) hb); (try clear hb); (try clear hb2); (try clear hk); (try clear hi); (try clear ho0); (try clear ho1); obtain ⟨hcz29_0, hfz29_0⟩ := Zy (v := (.slice A0_0 l0_0.length c0_0)) BK950.out 0; obtain ⟨hcz29_1, hfz29_1⟩ := Zy (v := (.slice A0_1 l0_1.length c0_1)) BK950.out 1; obtain ⟨hcz29_2, hfz29_2⟩ := Zy (v := (.slice A0_2 l0_2.length c0_2)) BK950.out 2; obtain ⟨Ao30, co30, eo30⟩ := Kd.R_slice HO_8.out; subst eo30) | (go_at_call 42; (with_reducible refine (Qae.calls k1 _ _ l0_0 _ _ l0_1 _ _ l0_2 _ _ x8_1 t976 t977 t978 _ ?side1 ?side2 ?side3 ?side4 ?side5 ?side6 ?side7 ?side8 A23.out).mono ?_); (case side1 => exact Zv (Kd.C_below HR0_0.out HB.out)); (case side2 => exact HC0_0.out); (case side3 => exact Zv (Kd.C_below HR0_1.out HB.out)); (case side4 => exact HC0_1.out); (case side5 => exact Zv (Kd.C_below HR0_2.out HB.out)); (case side6 => exact HC0_2.out); (case side7 => exact Zv (Kd.R_reads' HO_8.out).2.2); (case side8 => exact (Kd.R_reads' HO_8.out).2.1); rintro e w31 ⟨v979, v981, rfl, ho0, ho1, hb⟩; have HO980 := Aside0.mk (Kd.R_lower (Kd.R_new' (Kd.R_new' (Kd.R_new' (Kd.R_new' ho0 (Kd.R_lt (Zr HO966.out))) (Kd.R_lt (Zr HO968.out))) (Kd.R_lt (Zr HO973.out))) (Kd.R_lt (Zr HO975.out))) (Qao (Zc1 GE950.out))); have HO982 := Aside0.mk (Kd.R_lower (Kd.R_new' (Kd.R_new' (Kd.R_new' (Kd.R_new' ho1 (Kd.R_lt (Zr HO966.out))) (Kd.R_lt (Zr HO968.out))) (Kd.R_lt (Zr HO973.out))) (Kd.R_lt (Zr HO975.out))) (Qao (Zc1 GE950.out))); replace HO_7 := Aside0.mk (Kd.R_below (Zr HO_7.out) hb); replace HO_8 := Aside0.mk (Kd.R_below (Zr HO_8.out) hb); replace HO966 := Aside0.mk (Kd.R_mono (Kd.R_told (Kd.R_told (Kd.R_old (Zr HO966.out) hb) (Kd.R_base ho0)) (Kd.R_base ho1)) (fun _ h_ => h_.1)); replace HO968 := Aside0.mk (Kd.R_mono (Kd.R_told (Kd.R_told (Kd.R_old (Zr HO968.out) hb) (Kd.R_base ho0)) (Kd.R_base ho1)) (fun _ h_ => h_.1)); replace HO973 := Aside0.mk (Kd.R_mono (Kd.R_told (Kd.R_told (Kd.R_old (Zr HO973.out) hb) (Kd.R_base ho0)) (Kd.R_base ho1)) (fun _ h_ => h_.1)); replace HO975 := Aside0.mk (Kd.R_mono (Kd.R_told (Kd.R_told (Kd.R_old (Zr HO975.out) hb) (Kd.R_base ho0)) (Kd.R_base ho1)) (fun _ h_ => h_.1)); replace BK950 := Aside0.mk (Zi BK950.out hb); replace HB := Aside0.mk (Qan (Zc1 GE950.out) hb); (try clear hb); (try clear hb2); (try clear hk); (try clear hi); (try clear ho0); (try clear ho1))))
     (try simp only [Act.put, Zj, Zk, Zm])
     go_cut [82] (fun v82 wc => ∃ (kq : Nat) (x82_23 : Bool), v82 = .bool x82_23 ∧ Aside0 (contangolaw25_InterMore.j1 kq t962 t969 t970 t976 t977 t978 x82_23 = some r) ∧ Aside0 (kq ≤ k1) ∧ Aside0 (Kd.R (Kd.int .i64) 3 wc w.heap.size (fun k_ => some k_ ≠ (v972 : Value).ownBlock ∧ some k_ ≠ (v974 : Value).ownBlock ∧ some k_ ≠ (v979 : Value).ownBlock ∧ some k_ ≠ (v981 : Value).ownBlock) v965 t962) ∧ Aside0 (Kd.R (Kd.int .i64) 3 wc w.heap.size (fun k_ => some k_ ≠ (v965 : Value).ownBlock ∧ some k_ ≠ (v974 : Value).ownBlock ∧ some k_ ≠ (v979 : Value).ownBlock ∧ some k_ ≠ (v981 : Value).ownBlock) v972 t969) ∧ Aside0 (Kd.R (Kd.int .i64) 3 wc w.heap.size (fun k_ => some k_ ≠ (v965 : Value).ownBlock ∧ some k_ ≠ (v972 : Value).ownBlock ∧ some k_ ≠ (v979 : Value).ownBlock ∧ some k_ ≠ (v981 : Value).ownBlock) v974 t970) ∧ Aside0 (Kd.R (Kd.int .i64) 3 wc w.heap.size (fun k_ => some k_ ≠ (v965 : Value).ownBlock ∧ some k_ ≠ (v972 : Value).ownBlock ∧ some k_ ≠ (v974 : Value).ownBlock ∧ some k_ ≠ (v981 : Value).ownBlock) v979 t976) ∧ Aside0 (Kd.R (Kd.int .i64) 3 wc w.heap.size (fun k_ => some k_ ≠ (v965 : Value).ownBlock ∧ some k_ ≠ (v972 : Value).ownBlock ∧ some k_ ≠ (v974 : Value).ownBlock ∧ some k_ ≠ (v979 : Value).ownBlock) v981 t977) ∧ Aside0 (wc.heap[gb950]? = some (.cells #[(.slice A0_0 l0_0.length c0_0), (.slice A0_1 l0_1.length c0_1), (.slice A0_2 l0_2.length c0_2)] 67 (0, 0))) ∧ Aside0 (Below w.heap.size w wc))
     case first =>
      have H := HC24.out
      clear HC24
      by_cases c32 : t964 = 0
      ·rw [if_pos c32] at H
       have c32b0 : (t964 == 0) = T := beq_iff_eq.mpr c32
       have c32b1 : (t964 != 0) = false := bne_eq_false_iff_eq.mpr c32
       clear c32
       have H' := Aside0.mk H
       clear H
       go_wp2
       repeat (go_quiet (fail); try go_wp2)
       go_meet
       case rel => exact ⟨_, ((t971 != 0)), (Zs), H', ⟨by have := HK1.out; first | omega | exact Nat.le_refl _⟩, ⟨by (with_reducible repeat (first | apply Kd.R_alloc | apply Kd.R_drewN | apply Kd.R_drew)); exact Kd.R_mono HO966.out (fun _ hk => ⟨hk.1.1.1.2, ⟨hk.1.1.2, ⟨hk.1.2, hk.2⟩⟩⟩)⟩, ⟨by (with_reducible repeat (first | apply Kd.R_alloc | apply Kd.R_drewN | apply Kd.R_drew)); exact Kd.R_mono HO973.out (fun _ hk => ⟨hk.1.1.1.2, ⟨hk.1.1.1.1, ⟨hk.1.2, hk.2⟩⟩⟩)⟩, ⟨by (with_reducible repeat (first | apply Kd.R_alloc | apply Kd.R_drewN | apply Kd.R_drew)); exact Kd.R_mono HO975.out (fun _ hk => ⟨hk.1.1.1.2, ⟨hk.1.1.1.1, ⟨hk.1.2, hk.2⟩⟩⟩)⟩, ⟨by (with_reducible repeat (first | apply Kd.R_alloc | apply Kd.R_drewN | apply Kd.R_drew)); exact Kd.R_mono HO980.out (fun _ hk => ⟨hk.1.1.1.2, ⟨hk.1.2, ⟨hk.2, hk.1.1.1.1⟩⟩⟩)⟩, ⟨by (with_reducible repeat (first | apply Kd.R_alloc | apply Kd.R_drewN | apply Kd.R_drew)); exact Kd.R_mono HO982.out (fun _ hk => ⟨hk.1.1.1.2, ⟨hk.1.2, ⟨hk.2, hk.1.1.1.1⟩⟩⟩)⟩, ⟨Zu BK950.out⟩, ⟨Zc1 GE950.out⟩⟩
      rw [if_neg c32] at H
      have c32b0 : (t964 == 0) = false := beq_eq_false_iff_ne.mpr c32
      have c32b1 : (t964 != 0) = T := bne_iff_ne.mpr c32
      have H' := Aside0.mk H
      clear H
      go_wp2
      repeat (go_quiet (fail); try go_wp2)
      go_meet
      case rel => exact ⟨_, (T), (Zs), H', ⟨by have := HK1.out; first | omega | exact Nat.le_refl _⟩, ⟨by (with_reducible repeat (first | apply Kd.R_alloc | apply Kd.R_drewN | apply Kd.R_drew)); exact Kd.R_mono HO966.out (fun _ hk => ⟨hk.1.1.1.2, ⟨hk.1.1.2, ⟨hk.1.2, hk.2⟩⟩⟩)⟩, ⟨by (with_reducible repeat (first | apply Kd.R_alloc | apply Kd.R_drewN | apply Kd.R_drew)); exact Kd.R_mono HO973.out (fun _ hk => ⟨hk.1.1.1.2, ⟨hk.1.1.1.1, ⟨hk.1.2, hk.2⟩⟩⟩)⟩, ⟨by (with_reducible repeat (first | apply Kd.R_alloc | apply Kd.R_drewN | apply Kd.R_drew)); exact Kd.R_mono HO975.out (fun _ hk => ⟨hk.1.1.1.2, ⟨hk.1.1.1.1, ⟨hk.1.2, hk.2⟩⟩⟩)⟩, ⟨by (with_reducible repeat (first | apply Kd.R_alloc | apply Kd.R_drewN | apply Kd.R_drew)); exact Kd.R_mono HO980.out (fun _ hk => ⟨hk.1.1.1.2, ⟨hk.1.2, ⟨hk.2, hk.1.1.1.1⟩⟩⟩)⟩, ⟨by (with_reducible repeat (first | apply Kd.R_alloc | apply Kd.R_drewN | apply Kd.R_drew)); exact Kd.R_mono HO982.out (fun _ hk => ⟨hk.1.1.1.2, ⟨hk.1.2, ⟨hk.2, hk.1.1.1.1⟩⟩⟩)⟩, ⟨Zu BK950.out⟩, ⟨Zc1 GE950.out⟩⟩
     case rest =>
      clear HC24
      try clear c1
      try clear c2
      try clear p2
      try clear c3
      try clear c4
      try clear c5
      try clear p6
      try clear p9
      try clear q9
      try clear hx9
      try clear c10
      try clear c10b0
      try clear c11
      try clear c11b0
      try clear c12
      try clear c13
      try clear c14
      try clear c32
      try clear c32b0
      try clear c32b1
      try clear hcz15_0
      try clear hcz15_1
      try clear hcz15_2
      try clear hcz15_3
      try clear hcz15_4
      try clear hcz17_0
      try clear hcz17_1
      try clear hcz17_2
      try clear hcz17_3
      try clear hcz17_4
      try clear hcz19_0
      try clear hcz19_1
      try clear hcz19_2
      try clear hcz19_3
      try clear hcz19_4
      try clear hcz25_0
      try clear hcz25_1
      try clear hcz25_2
      try clear hcz27_0
      try clear hcz27_1
      try clear hcz27_2
      try clear hcz29_0
      try clear hcz29_1
      try clear hcz29_2
      try clear hfz15_0
      try clear hfz15_1
      try clear hfz15_2
      try clear hfz15_3
      try clear hfz15_4
      try clear hfz17_0
      try clear hfz17_1
      try clear hfz17_2
      try clear hfz17_3
      try clear hfz17_4
      try clear hfz19_0
      try clear hfz19_1
      try clear hfz19_2
      try clear hfz19_3
      try clear hfz19_4
      try clear hfz25_0
      try clear hfz25_1
      try clear hfz25_2
      try clear hfz27_0
      try clear hfz27_1
      try clear hfz27_2
      try clear hfz29_0
      try clear hfz29_1
      try clear hfz29_2
      try clear hx957_0
      try clear hx957_1
      try clear hx957_2
      try clear hx957_3
      try clear hx957_4
      try clear p2
      try clear p957
      try clear q957
      obtain ⟨kq, x82_23, rfl, HA, HJ23, HO_11, HO_14, HO_15, HO_17, HO_18, BK950, HB⟩ := hcut
      cases kq with
      | zero => exact absurd HA.out (by simp [contangolaw25_InterMore.j1])
      | succ kj23 =>
       have H := HA.out
       clear HA
       simp only [contangolaw25_InterMore.j1] at H
       by_cases c33 : x82_23 = T
       ·subst c33
        have H1 : ((Qar.f kj23).bind fun t983 => (some t983)) = some r := by rw [if_pos rfl] at H; exact H
        clear H
        have H := H1
        clear H1
        replace H := Option.bind_eq_some_iff.mp H
        obtain ⟨t983, A340, H⟩ := H
        replace H : (some t983) = some r := H
        have A34 := Aside0.mk A340
        clear A340
        obtain rfl := Option.some.inj H
        go_wp2_with (first | (go_at_call 47; (with_reducible refine (Qar.calls kj23  t983 _ A34.out).mono ?_); rintro e w35 ⟨rfl, hb⟩; replace HO_11 := Aside0.mk (Kd.R_below (Zr HO_11.out) hb); replace HO_14 := Aside0.mk (Kd.R_below (Zr HO_14.out) hb); replace HO_15 := Aside0.mk (Kd.R_below (Zr HO_15.out) hb); replace HO_17 := Aside0.mk (Kd.R_below (Zr HO_17.out) hb); replace HO_18 := Aside0.mk (Kd.R_below (Zr HO_18.out) hb); replace BK950 := Aside0.mk (Zi BK950.out hb); replace HB := Aside0.mk (Qan (Zc1 GE950.out) hb); (try clear hb); (try clear hb2); (try clear hk); (try clear hi)))
        repeat (go_quiet (first | (go_at_call 47; (with_reducible refine (Qar.calls kj23  t983 _ A34.out).mono ?_); rintro e w35 ⟨rfl, hb⟩; replace HO_11 := Aside0.mk (Kd.R_below (Zr HO_11.out) hb); replace HO_14 := Aside0.mk (Kd.R_below (Zr HO_14.out) hb); replace HO_15 := Aside0.mk (Kd.R_below (Zr HO_15.out) hb); replace HO_17 := Aside0.mk (Kd.R_below (Zr HO_17.out) hb); replace HO_18 := Aside0.mk (Kd.R_below (Zr HO_18.out) hb); replace BK950 := Aside0.mk (Zi BK950.out hb); replace HB := Aside0.mk (Qan (Zc1 GE950.out) hb); (try clear hb); (try clear hb2); (try clear hk); (try clear hi))); try go_wp2_with (first | (go_at_call 47; (with_reducible refine (Qar.calls kj23  t983 _ A34.out).mono ?_); rintro e w35 ⟨rfl, hb⟩; replace HO_11 := Aside0.mk (Kd.R_below (Zr HO_11.out) hb); replace HO_14 := Aside0.mk (Kd.R_below (Zr HO_14.out) hb); replace HO_15 := Aside0.mk (Kd.R_below (Zr HO_15.out) hb); replace HO_17 := Aside0.mk (Kd.R_below (Zr HO_17.out) hb); replace HO_18 := Aside0.mk (Kd.R_below (Zr HO_18.out) hb); replace BK950 := Aside0.mk (Zi BK950.out hb); replace HB := Aside0.mk (Qan (Zc1 GE950.out) hb); (try clear hb); (try clear hb2); (try clear hk); (try clear hi))))
        go_ret
        exact ⟨Zq, Zc1 GE950.out⟩
       replace c33 := Bool.eq_false_iff.mpr c33
       subst c33
       have H1 : (if (t962.length : Int) = (t969.length : Int) then (if (t976.length : Int) = (t969.length : Int) then (if t978 = 0 then ((Qab.f kj23 t970 t977).bind fun t984 => (contangolaw25_InterMore.j2 kj23 t962 t969 t976 (!t984))) else (contangolaw25_InterMore.j2 kj23 t962 t969 t976 T)) else (contangolaw25_InterMore.j2 kj23 t962 t969 t976 T)) else (contangolaw25_InterMore.j2 kj23 t962 t969 t976 T)) = some r := by rw [if_neg (show ¬ (false = T) by decide)] at H; exact H
       clear H
       have H := H1
       clear H1
       have HC36 := Aside0.mk H
       clear H
       go_upto_region 14 with (fail)
       repeat (go_quiet (fail); go_upto_region 14 with (fail))
       go_cut [105] (fun v105 wc => ∃ (kq : Nat) (x105_35 : Bool), v105 = .bool x105_35 ∧ Aside0 (contangolaw25_InterMore.j2 kq t962 t969 t976 x105_35 = some r) ∧ Aside0 (kq ≤ kj23) ∧ Aside0 (Kd.R (Kd.int .i64) 3 wc w.heap.size (fun k_ => some k_ ≠ (v972 : Value).ownBlock ∧ some k_ ≠ (v979 : Value).ownBlock) v965 t962) ∧ Aside0 (Kd.R (Kd.int .i64) 3 wc w.heap.size (fun k_ => some k_ ≠ (v965 : Value).ownBlock ∧ some k_ ≠ (v979 : Value).ownBlock) v972 t969) ∧ Aside0 (Kd.R (Kd.int .i64) 3 wc w.heap.size (fun k_ => some k_ ≠ (v965 : Value).ownBlock ∧ some k_ ≠ (v972 : Value).ownBlock) v979 t976) ∧ Aside0 (wc.heap[gb950]? = some (.cells #[(.slice A0_0 l0_0.length c0_0), (.slice A0_1 l0_1.length c0_1), (.slice A0_2 l0_2.length c0_2)] 67 (0, 0))) ∧ Aside0 (Below w.heap.size w wc))
       case first =>
        have H := HC36.out
        clear HC36
        by_cases c37 : (t962.length : Int) = (t969.length : Int)
        ·rw [if_pos c37] at H
         have c37b0 : ((t962.length : Int) == (t969.length : Int)) = T := beq_iff_eq.mpr c37
         have c37b1 : ((t962.length : Int) != (t969.length : Int)) = false := bne_eq_false_iff_eq.mpr c37
         have c37b2 : (t962.length == t969.length) = T := by first | simpa using c37 | (simp at c37 ⊢; omega)
         clear c37
         by_cases c38 : (t976.length : Int) = (t969.length : Int)
         ·rw [if_pos c38] at H
          have c38b0 : ((t976.length : Int) == (t969.length : Int)) = T := beq_iff_eq.mpr c38
          have c38b1 : ((t976.length : Int) != (t969.length : Int)) = false := bne_eq_false_iff_eq.mpr c38
          have c38b2 : (t976.length == t969.length) = T := by first | simpa using c38 | (simp at c38 ⊢; omega)
          clear c38
          by_cases c39 : t978 = 0
          ·rw [if_pos c39] at H
           have c39b0 : (t978 == 0) = T := beq_iff_eq.mpr c39
           have c39b1 : (t978 != 0) = false := bne_eq_false_iff_eq.mpr c39
           clear c39
           replace H := Option.bind_eq_some_iff.mp H
           obtain ⟨t984, A400, H⟩ := H
           replace H : (contangolaw25_InterMore.j2 kj23 t962 t969 t976 (!t984)) = some r := H
           have A40 := Aside0.mk A400
           clear A400
           have H' := Aside0.mk H
           clear H
           obtain ⟨Ao41, co41, eo41⟩ := Kd.R_slice HO_11.out
           subst eo41
           obtain ⟨Ao42, co42, eo42⟩ := Kd.R_slice HO_14.out
           subst eo42
           obtain ⟨Ao43, co43, eo43⟩ := Kd.R_slice HO_17.out
           subst eo43
           obtain ⟨Ao44, co44, eo44⟩ := Kd.R_slice HO_15.out
           subst eo44
           obtain ⟨Ao45, co45, eo45⟩ := Kd.R_slice HO_18.out
           subst eo45
           go_wp2_with (first | (go_at_call 46; (with_reducible refine (Qab.calls kj23 _ _ t970 _ _ t977 t984 _ ?side1 ?side2 ?side3 ?side4 A40.out).mono ?_); (case side1 => exact Zv (Kd.R_reads' HO_15.out).2.2); (case side2 => exact (Kd.R_reads' HO_15.out).2.1); (case side3 => exact Zv (Kd.R_reads' HO_18.out).2.2); (case side4 => exact (Kd.R_reads' HO_18.out).2.1); rintro e w' ⟨rfl, ⟨nd, rfl⟩⟩; (try first | exact ⟨rfl, _, World.drewN_drewN _ _ _⟩ | exact ⟨rfl, _, Eq.trans (World.drewN_drewN _ _ _) (congrArg (World.drewN _) (Nat.add_assoc _ _ _))⟩)))
           repeat (go_quiet (first | (go_at_call 46; (with_reducible refine (Qab.calls kj23 _ _ t970 _ _ t977 t984 _ ?side1 ?side2 ?side3 ?side4 A40.out).mono ?_); (case side1 => exact Zv (Kd.R_reads' HO_15.out).2.2); (case side2 => exact (Kd.R_reads' HO_15.out).2.1); (case side3 => exact Zv (Kd.R_reads' HO_18.out).2.2); (case side4 => exact (Kd.R_reads' HO_18.out).2.1); rintro e w' ⟨rfl, ⟨nd, rfl⟩⟩; (try first | exact ⟨rfl, _, World.drewN_drewN _ _ _⟩ | exact ⟨rfl, _, Eq.trans (World.drewN_drewN _ _ _) (congrArg (World.drewN _) (Nat.add_assoc _ _ _))⟩))); try go_wp2_with (first | (go_at_call 46; (with_reducible refine (Qab.calls kj23 _ _ t970 _ _ t977 t984 _ ?side1 ?side2 ?side3 ?side4 A40.out).mono ?_); (case side1 => exact Zv (Kd.R_reads' HO_15.out).2.2); (case side2 => exact (Kd.R_reads' HO_15.out).2.1); (case side3 => exact Zv (Kd.R_reads' HO_18.out).2.2); (case side4 => exact (Kd.R_reads' HO_18.out).2.1); rintro e w' ⟨rfl, ⟨nd, rfl⟩⟩; (try first | exact ⟨rfl, _, World.drewN_drewN _ _ _⟩ | exact ⟨rfl, _, Eq.trans (World.drewN_drewN _ _ _) (congrArg (World.drewN _) (Nat.add_assoc _ _ _))⟩))))
           go_meet
           case rel => exact ⟨_, (!t984), (Zs), H', ⟨by have := HK1.out; have := HJ23.out; first | omega | exact Nat.le_refl _⟩, ⟨by (with_reducible repeat (first | apply Kd.R_alloc | apply Kd.R_drewN | apply Kd.R_drew)); exact Kd.R_mono HO_11.out (fun _ hk => ⟨hk.1, hk.2.2.1⟩)⟩, ⟨by (with_reducible repeat (first | apply Kd.R_alloc | apply Kd.R_drewN | apply Kd.R_drew)); exact Kd.R_mono HO_14.out (fun _ hk => ⟨hk.1, hk.2.2.1⟩)⟩, ⟨by (with_reducible repeat (first | apply Kd.R_alloc | apply Kd.R_drewN | apply Kd.R_drew)); exact Kd.R_mono HO_17.out (fun _ hk => ⟨hk.1, hk.2.1⟩)⟩, ⟨Zu BK950.out⟩, ⟨Zc1 GE950.out⟩⟩
          rw [if_neg c39] at H
          have c39b0 : (t978 == 0) = false := beq_eq_false_iff_ne.mpr c39
          have c39b1 : (t978 != 0) = T := bne_iff_ne.mpr c39
          have H' := Aside0.mk H
          clear H
          obtain ⟨Ao46, co46, eo46⟩ := Kd.R_slice HO_11.out
          subst eo46
          obtain ⟨Ao47, co47, eo47⟩ := Kd.R_slice HO_14.out
          subst eo47
          obtain ⟨Ao48, co48, eo48⟩ := Kd.R_slice HO_17.out
          subst eo48
          go_wp2
          repeat (go_quiet (fail); try go_wp2)
          go_meet
          case rel => exact ⟨_, (T), (Zs), H', ⟨by have := HK1.out; have := HJ23.out; first | omega | exact Nat.le_refl _⟩, ⟨by (with_reducible repeat (first | apply Kd.R_alloc | apply Kd.R_drewN | apply Kd.R_drew)); exact Kd.R_mono HO_11.out (fun _ hk => ⟨hk.1, hk.2.2.1⟩)⟩, ⟨by (with_reducible repeat (first | apply Kd.R_alloc | apply Kd.R_drewN | apply Kd.R_drew)); exact Kd.R_mono HO_14.out (fun _ hk => ⟨hk.1, hk.2.2.1⟩)⟩, ⟨by (with_reducible repeat (first | apply Kd.R_alloc | apply Kd.R_drewN | apply Kd.R_drew)); exact Kd.R_mono HO_17.out (fun _ hk => ⟨hk.1, hk.2.1⟩)⟩, ⟨Zu BK950.out⟩, ⟨Zc1 GE950.out⟩⟩
         rw [if_neg c38] at H
         have c38b0 : ((t976.length : Int) == (t969.length : Int)) = false := beq_eq_false_iff_ne.mpr c38
         have c38b1 : ((t976.length : Int) != (t969.length : Int)) = T := bne_iff_ne.mpr c38
         have c38b2 : (t976.length == t969.length) = false := by first | simpa using c38 | (simp at c38 ⊢; omega)
         have H' := Aside0.mk H
         clear H
         obtain ⟨Ao49, co49, eo49⟩ := Kd.R_slice HO_11.out
         subst eo49
         obtain ⟨Ao50, co50, eo50⟩ := Kd.R_slice HO_14.out
         subst eo50
         obtain ⟨Ao51, co51, eo51⟩ := Kd.R_slice HO_17.out
         subst eo51
         go_wp2
         repeat (go_quiet (fail); try go_wp2)
         go_meet
         case rel => exact ⟨_, (T), (Zs), H', ⟨by have := HK1.out; have := HJ23.out; first | omega | exact Nat.le_refl _⟩, ⟨by (with_reducible repeat (first | apply Kd.R_alloc | apply Kd.R_drewN | apply Kd.R_drew)); exact Kd.R_mono HO_11.out (fun _ hk => ⟨hk.1, hk.2.2.1⟩)⟩, ⟨by (with_reducible repeat (first | apply Kd.R_alloc | apply Kd.R_drewN | apply Kd.R_drew)); exact Kd.R_mono HO_14.out (fun _ hk => ⟨hk.1, hk.2.2.1⟩)⟩, ⟨by (with_reducible repeat (first | apply Kd.R_alloc | apply Kd.R_drewN | apply Kd.R_drew)); exact Kd.R_mono HO_17.out (fun _ hk => ⟨hk.1, hk.2.1⟩)⟩, ⟨Zu BK950.out⟩, ⟨Zc1 GE950.out⟩⟩
        rw [if_neg c37] at H
        have c37b0 : ((t962.length : Int) == (t969.length : Int)) = false := beq_eq_false_iff_ne.mpr c37
        have c37b1 : ((t962.length : Int) != (t969.length : Int)) = T := bne_iff_ne.mpr c37
        have c37b2 : (t962.length == t969.length) = false := by first | simpa using c37 | (simp at c37 ⊢; omega)
        have H' := Aside0.mk H
        clear H
        obtain ⟨Ao52, co52, eo52⟩ := Kd.R_slice HO_11.out
        subst eo52
        obtain ⟨Ao53, co53, eo53⟩ := Kd.R_slice HO_14.out
        subst eo53
        go_wp2
        repeat (go_quiet (fail); try go_wp2)
        go_meet
        case rel => exact ⟨_, (T), (Zs), H', ⟨by have := HK1.out; have := HJ23.out; first | omega | exact Nat.le_refl _⟩, ⟨by (with_reducible repeat (first | apply Kd.R_alloc | apply Kd.R_drewN | apply Kd.R_drew)); exact Kd.R_mono HO_11.out (fun _ hk => ⟨hk.1, hk.2.2.1⟩)⟩, ⟨by (with_reducible repeat (first | apply Kd.R_alloc | apply Kd.R_drewN | apply Kd.R_drew)); exact Kd.R_mono HO_14.out (fun _ hk => ⟨hk.1, hk.2.2.1⟩)⟩, ⟨by (with_reducible repeat (first | apply Kd.R_alloc | apply Kd.R_drewN | apply Kd.R_drew)); exact Kd.R_mono HO_17.out (fun _ hk => ⟨hk.1, hk.2.1⟩)⟩, ⟨Zu BK950.out⟩, ⟨Zc1 GE950.out⟩⟩
       case rest =>
        clear HC36
        try clear c1
        try clear c2
        try clear p2
        try clear c3
        try clear c4
        try clear c5
        try clear p6
        try clear p9
        try clear q9
        try clear hx9
        try clear c10
        try clear c10b0
        try clear c11
        try clear c11b0
        try clear c12
        try clear c13
        try clear c14
        try clear c32
        try clear c32b0
        try clear c32b1
        try clear c33
        try clear c37
        try clear c37b0
        try clear c37b1
        try clear c37b2
        try clear c38
        try clear c38b0
        try clear c38b1
        try clear c38b2
        try clear c39
        try clear c39b0
        try clear c39b1
        try clear hcz15_0
        try clear hcz15_1
        try clear hcz15_2
        try clear hcz15_3
        try clear hcz15_4
        try clear hcz17_0
        try clear hcz17_1
        try clear hcz17_2
        try clear hcz17_3
        try clear hcz17_4
        try clear hcz19_0
        try clear hcz19_1
        try clear hcz19_2
        try clear hcz19_3
        try clear hcz19_4
        try clear hcz25_0
        try clear hcz25_1
        try clear hcz25_2
        try clear hcz27_0
        try clear hcz27_1
        try clear hcz27_2
        try clear hcz29_0
        try clear hcz29_1
        try clear hcz29_2
        try clear hfz15_0
        try clear hfz15_1
        try clear hfz15_2
        try clear hfz15_3
        try clear hfz15_4
        try clear hfz17_0
        try clear hfz17_1
        try clear hfz17_2
        try clear hfz17_3
        try clear hfz17_4
        try clear hfz19_0
        try clear hfz19_1
        try clear hfz19_2
        try clear hfz19_3
        try clear hfz19_4
        try clear hfz25_0
        try clear hfz25_1
        try clear hfz25_2
        try clear hfz27_0
        try clear hfz27_1
        try clear hfz27_2
        try clear hfz29_0
        try clear hfz29_1
        try clear hfz29_2
        try clear hx957_0
        try clear hx957_1
        try clear hx957_2
        try clear hx957_3
        try clear hx957_4
        try clear p2
        try clear p6
        try clear p9
        try clear p957
        try clear q9
        try clear q957
        obtain ⟨kq, x105_35, rfl, HA, HJ35, HO_11, HO_14, HO_17, BK950, HB⟩ := hcut
        cases kq with
        | zero => exact absurd HA.out (by simp [contangolaw25_InterMore.j2])
        | succ kj35 =>
         have H := HA.out
         clear HA
         simp only [contangolaw25_InterMore.j2] at H
         by_cases c54 : x105_35 = T
         ·subst c54
          have H1 : (none) = some r := by rw [if_pos rfl] at H; exact H
          clear H
          have H := H1
          clear H1
          exact absurd H (by simp)
         replace c54 := Bool.eq_false_iff.mpr c54
         subst c54
         have H1 : (contangolaw25_InterMore.l1 kj35 t962 t969 t976 0) = some r := by rw [if_neg (show ¬ (false = T) by decide)] at H; exact H
         clear H
         have H := H1
         clear H1
         have H' := Aside0.mk H
         clear H
         go_wp2
         repeat (go_quiet (fail); try go_wp2)
         go_loopg [20] kj35 (fun kq v20 w' => ∃ (x20_4 : Int), v20 = .int .i64 x20_4 ∧ Aside0 (contangolaw25_InterMore.l1 kq t962 t969 t976 x20_4 = some r) ∧ Aside0 (kq ≤ kj35) ∧ Aside0 (Kd.R (Kd.int .i64) 3 w' w.heap.size (fun k_ => some k_ ≠ (v972 : Value).ownBlock ∧ some k_ ≠ (v979 : Value).ownBlock) v965 t962) ∧ Aside0 (Kd.R (Kd.int .i64) 3 w' w.heap.size (fun k_ => some k_ ≠ (v965 : Value).ownBlock ∧ some k_ ≠ (v979 : Value).ownBlock) v972 t969) ∧ Aside0 (Kd.R (Kd.int .i64) 3 w' w.heap.size (fun k_ => some k_ ≠ (v965 : Value).ownBlock ∧ some k_ ≠ (v972 : Value).ownBlock) v979 t976) ∧ Aside0 (w'.heap[gb950]? = some (.cells #[(.slice A0_0 l0_0.length c0_0), (.slice A0_1 l0_1.length c0_1), (.slice A0_2 l0_2.length c0_2)] 67 (0, 0))) ∧ Aside0 (Below w.heap.size w w'))
         case atStart => exact ⟨(0), (Zs), H', ⟨Nat.le_refl _⟩, ⟨Zr HO_11.out⟩, ⟨Zr HO_14.out⟩, ⟨Zr HO_17.out⟩, ⟨Zu BK950.out⟩, ⟨Zc1 GE950.out⟩⟩
         case round =>
          clear H'
          try clear c1
          try clear c2
          try clear p2
          try clear c3
          try clear c4
          try clear c5
          try clear p6
          try clear p9
          try clear q9
          try clear hx9
          try clear c10
          try clear c10b0
          try clear c11
          try clear c11b0
          try clear c12
          try clear c13
          try clear c14
          try clear c32
          try clear c32b0
          try clear c32b1
          try clear c33
          try clear c37
          try clear c37b0
          try clear c37b1
          try clear c37b2
          try clear c38
          try clear c38b0
          try clear c38b1
          try clear c38b2
          try clear c39
          try clear c39b0
          try clear c39b1
          try clear c54
          try clear hcz15_0
          try clear hcz15_1
          try clear hcz15_2
          try clear hcz15_3
          try clear hcz15_4
          try clear hcz17_0
          try clear hcz17_1
          try clear hcz17_2
          try clear hcz17_3
          try clear hcz17_4
          try clear hcz19_0
          try clear hcz19_1
          try clear hcz19_2
          try clear hcz19_3
          try clear hcz19_4
          try clear hcz25_0
          try clear hcz25_1
          try clear hcz25_2
          try clear hcz27_0
          try clear hcz27_1
          try clear hcz27_2
          try clear hcz29_0
          try clear hcz29_1
          try clear hcz29_2
          try clear hfz15_0
          try clear hfz15_1
          try clear hfz15_2
          try clear hfz15_3
          try clear hfz15_4
          try clear hfz17_0
          try clear hfz17_1
          try clear hfz17_2
          try clear hfz17_3
          try clear hfz17_4
          try clear hfz19_0
          try clear hfz19_1
          try clear hfz19_2
          try clear hfz19_3
          try clear hfz19_4
          try clear hfz25_0
          try clear hfz25_1
          try clear hfz25_2
          try clear hfz27_0
          try clear hfz27_1
          try clear hfz27_2
          try clear hfz29_0
          try clear hfz29_1
          try clear hfz29_2
          try clear hx957_0
          try clear hx957_1
          try clear hx957_2
          try clear hx957_3
          try clear hx957_4
          try clear p2
          try clear p6
          try clear p9
          try clear p957
          try clear q9
          try clear q957
          obtain ⟨x20_4, rfl, HA, HK4, HO_11, HO_14, HO_17, BK950, HB⟩ := hrel
          cases gk with
          | zero => exact absurd HA.out (by simp [contangolaw25_InterMore.l1])
          | succ k4 =>
           have H := HA.out
           clear HA
           simp only [contangolaw25_InterMore.l1] at H
           obtain ⟨Ao55, co55, eo55⟩ := Kd.R_slice HO_11.out
           subst eo55
           go_upto_if 109 with (fail)
           repeat (go_quiet (fail); go_upto_if 109 with (fail))
           by_cases c56 : x20_4 < (t962.length : Int)
           ·rw [if_pos c56] at H
            have c56b0 : decide (x20_4 < (t962.length : Int)) = T := decide_eq_true c56
            clear c56
            (try simp only [c56b0])
            by_cases c57 : 0 ≤ x20_4
            ·rw [if_pos c57] at H
             have c57b0 : decide (0 ≤ x20_4) = T := decide_eq_true c57
             clear c57
             by_cases c58 : x20_4 < (t969.length : Int)
             ·rw [if_pos c58] at H
              have c58b0 : decide (x20_4 < (t969.length : Int)) = T := decide_eq_true c58
              clear c58
              by_cases c59 : (rd t969 x20_4) < (rd t962 x20_4)
              ·rw [if_pos c59] at H
               exact absurd H (by simp)
              rw [if_neg c59] at H
              have c59b0 : decide ((rd t969 x20_4) < (rd t962 x20_4)) = false := decide_eq_false c59
              clear c59
              by_cases c60 : x20_4 < (t976.length : Int)
              ·rw [if_pos c60] at H
               have c60b0 : decide (x20_4 < (t976.length : Int)) = T := decide_eq_true c60
               clear c60
               obtain ⟨Ao61, co61, eo61⟩ := Kd.R_slice HO_14.out
               subst eo61
               have p985 : 0 ≤ (x20_4 : Int) := Ze
               have q985 : x20_4 < (t969.length : Int) := Ze
               obtain ⟨ad985, e985, hx985_0⟩ := Kd.at_int (Kd.R_reads' HO_14.out).2.2 x20_4 p985 q985
               cases e985
               replace p985 := eq_true p985
               replace q985 := eq_true q985
               have p986 : 0 ≤ (x20_4 : Int) := Ze
               have q986 : x20_4 < (t962.length : Int) := Ze
               obtain ⟨ad986, e986, hx986_0⟩ := Kd.at_int (Kd.R_reads' HO_11.out).2.2 x20_4 p986 q986
               cases e986
               replace p986 := eq_true p986
               replace q986 := eq_true q986
               obtain ⟨Ao62, co62, eo62⟩ := Kd.R_slice HO_17.out
               subst eo62
               have p987 : 0 ≤ (x20_4 : Int) := Ze
               have q987 : x20_4 < (t976.length : Int) := Ze
               obtain ⟨ad987, e987, hx987_0⟩ := Kd.at_int (Kd.R_reads' HO_17.out).2.2 x20_4 p987 q987
               cases e987
               replace p987 := eq_true p987
               replace q987 := eq_true q987
               go_upto_if 127 with (fail)
               repeat (go_quiet (fail); go_upto_if 127 with (fail))
               by_cases c63 : (rd t976 x20_4) = 0
               ·rw [if_pos c63] at H
                have c63b0 : ((rd t976 x20_4) == 0) = T := beq_iff_eq.mpr c63
                have c63b1 : ((rd t976 x20_4) != 0) = false := bne_eq_false_iff_eq.mpr c63
                clear c63
                (try simp only [c63b0, c63b1])
                have H' := Aside0.mk H
                clear H
                go_wp2
                repeat (go_quiet (fail); try go_wp2)
                go_roundg k4
                case measure => have := HK1.out; have := HJ23.out; have := HJ35.out; have := HK4.out; omega
                case rel => exact ⟨(wrap64 (x20_4 + 1)), (Zs), H', ⟨by have := HK1.out; have := HJ23.out; have := HJ35.out; have := HK4.out; omega⟩, ⟨Zr HO_11.out⟩, ⟨Zr HO_14.out⟩, ⟨Zr HO_17.out⟩, ⟨Zu BK950.out⟩, ⟨Zc1 GE950.out⟩⟩
               rw [if_neg c63] at H
               exact absurd H (by simp)
              rw [if_neg c60] at H
              exact absurd H (by simp)
             rw [if_neg c58] at H
             exact absurd H (by simp)
            rw [if_neg c57] at H
            exact absurd H (by simp)
           rw [if_neg c56] at H
           have c56b0 : decide (x20_4 < (t962.length : Int)) = false := decide_eq_false c56
           clear c56
           (try simp only [c56b0])
           replace H := Option.bind_eq_some_iff.mp H
           obtain ⟨t988, A640, H⟩ := H
           replace H : (some t988) = some r := H
           have A64 := Aside0.mk A640
           clear A640
           obtain rfl := Option.some.inj H
           go_wp2_with (first | (go_at_call 47; (with_reducible refine (Qar.calls k4  t988 _ A64.out).mono ?_); rintro e w65 ⟨rfl, hb⟩; replace HO_11 := Aside0.mk (Kd.R_below (Zr HO_11.out) hb); replace HO_14 := Aside0.mk (Kd.R_below (Zr HO_14.out) hb); replace HO_17 := Aside0.mk (Kd.R_below (Zr HO_17.out) hb); replace BK950 := Aside0.mk (Zi BK950.out hb); replace HB := Aside0.mk (Qan (Zc1 GE950.out) hb); (try clear hb); (try clear hb2); (try clear hk); (try clear hi)))
           repeat (go_quiet (first | (go_at_call 47; (with_reducible refine (Qar.calls k4  t988 _ A64.out).mono ?_); rintro e w65 ⟨rfl, hb⟩; replace HO_11 := Aside0.mk (Kd.R_below (Zr HO_11.out) hb); replace HO_14 := Aside0.mk (Kd.R_below (Zr HO_14.out) hb); replace HO_17 := Aside0.mk (Kd.R_below (Zr HO_17.out) hb); replace BK950 := Aside0.mk (Zi BK950.out hb); replace HB := Aside0.mk (Qan (Zc1 GE950.out) hb); (try clear hb); (try clear hb2); (try clear hk); (try clear hi))); try go_wp2_with (first | (go_at_call 47; (with_reducible refine (Qar.calls k4  t988 _ A64.out).mono ?_); rintro e w65 ⟨rfl, hb⟩; replace HO_11 := Aside0.mk (Kd.R_below (Zr HO_11.out) hb); replace HO_14 := Aside0.mk (Kd.R_below (Zr HO_14.out) hb); replace HO_17 := Aside0.mk (Kd.R_below (Zr HO_17.out) hb); replace BK950 := Aside0.mk (Zi BK950.out hb); replace HB := Aside0.mk (Qan (Zc1 GE950.out) hb); (try clear hb); (try clear hb2); (try clear hk); (try clear hi))))
           go_ret
           exact ⟨Zq, Zc1 GE950.out⟩
  rw [if_neg c5] at H
  exact absurd H (by simp)
 rw [if_neg c4] at H
 exact absurd H (by simp)
end Go.Proofs.Ytggbflplbblgbaa.Pr
