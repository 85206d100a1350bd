/- Functions' values and contracts, as the print wrote them. -/
import Derived.Test.YtfcaaefdmabkhaaQEB3P0
import Derived.Test.YtfcaaefdmabkhaaQEB3P1
import Derived.Test.YtfcaaefdmabkhaaQEB3P2
import Derived.Test.YtfcaaefdmabkhaaQEB3P3
namespace Go.Proofs.Ytfcaaefdmabkhaa.Pr
open Bool renaming true → T
open Bool renaming false → F
open Go.RowKit Go.Proofs.YtfcaaefdmabkhaaW.PrintWords Go.Proofs.YtfcaaefdmabkhaaW.PrintLast Go.Proofs.YtfcaaefdmabkhaaW.PrintMore
attribute [local go_sem] QaN QaP QaT QaU QaH QaI QaO QaQ   -- for this text's walks alone
set_option linter.unusedVariables false
set_option linter.unusedSimpArgs false
set_option maxRecDepth 100000
set_option maxHeartbeats 8000000
mutual
def Qas.l1 : Nat → Int → List (S84) → List (S98) → List (S46) → Int → Int → List Int → List Int → Option (List Int × Int)
 | 0, _, _, _, _, _, _, _, _ => none
 | k + 1, x2, x302, x303, x332, x333, x334, x233000, x234000 => if x334 < x333 then (if 0 ≤ x334 then (if x334 < (x332.length : Int) then ((Qa4.f k x302 ((rd_T46 x332 x334).f1)).bind fun bt247 => ((Qa0.f k bt247.1 bt247.2.1 bt247.2.2.1 bt247.2.2.2.1 bt247.2.2.2.2.1 bt247.2.2.2.2.2.1 ((rd_T46 x332 x334).f2) x303).bind fun bt255 => (if bt255.2 = 0 then ((some (([bt255.1] : List Int) : List Int)).bind fun y258 => (if x233000.length + y258.length < 17592186044416 then ((some (([bt247.2.2.2.2.2.1] : List Int) : List Int)).bind fun y264 => (if x234000.length + y264.length < 17592186044416 then (Qas.l1 k x2 x302 x303 x332 x333 (wrap64 (x334 + 1)) (x233000 ++ y258) (x234000 ++ y264)) else (none))) else (none))) else (some (([] : List Int), bt255.2))))) else (none)) else (none)) else (if x2 < 0 then (Qas.j1 k x2 T x233000 x234000) else (Qas.j1 k x2 (decide (x2 > 1152921504606846976)) x233000 x234000))
def Qas.j1 : Nat → Int → Bool → List Int → List Int → Option (List Int × Int)
 | 0, _, _, _, _ => none
 | k + 1, x2, x30, x233000, x234000 => if x30 = T then (some (([] : List Int), 2)) else (Qas.l0 k x2 (x233000.length : Int) 0 x233000 x234000)
def Qas.l0 : Nat → Int → Int → Int → List Int → List Int → Option (List Int × Int)
 | 0, _, _, _, _, _ => none
 | k + 1, x2, x32, x33, x233000, x234000 => if x33 < x32 then (if 0 ≤ x33 then (if x33 < (x234000.length : Int) then ((QaC.f x2 (rd x234000 x33) 1000 3).bind fun bt241 => (if bt241.2 = 0 then (if x33 < (x233000.length : Int) then (Qas.l0 k x2 x32 (wrap64 (x33 + 1)) (x233000.set (x33 : Int).toNat (mn (rd x233000 x33) bt241.1)) x234000) else (none)) else (some (([] : List Int), bt241.2)))) else (none)) else (none)) else (some (x233000, 0))
end
def Qas.f (k : Nat) (l0 : List (S46)) (a1_0 : ByteArray) (a1_1 : ByteArray) (a2 : Int) (l3 : List (S84)) (l4 : List (S98)) : Option (List Int × Int) := (QaB.f k l0 a1_0 a1_1 l3 l4).bind fun bt235 => (if bt235.2 = 0 then ((QaM.f k l0 a1_0 a1_1).bind fun t237 => (Qas.l1 k a2 l3 l4 t237 (t237.length : Int) 0 ([] : List Int) ([] : List Int))) else (some (([] : List Int), bt235.2)))
theorem Qas.mono_l : ∀ k, (∀ y0 y1 y2 y3 y4 y5 y6 y7, LeO (Qas.l1 k y0 y1 y2 y3 y4 y5 y6 y7) (Qas.l1 (k + 1) y0 y1 y2 y3 y4 y5 y6 y7)) ∧ (∀ y0 y1 y2 y3, LeO (Qas.j1 k y0 y1 y2 y3) (Qas.j1 (k + 1) y0 y1 y2 y3)) ∧ (∀ y0 y1 y2 y3 y4, LeO (Qas.l0 k y0 y1 y2 y3 y4) (Qas.l0 (k + 1) y0 y1 y2 y3 y4))
 | 0 => ⟨fun _ _ _ _ _ _ _ _ r h => by simp [Qas.l1] at h, fun _ _ _ _ r h => by simp [Qas.j1] at h, fun _ _ _ _ _ r h => by simp [Qas.l0] at h⟩
 | k + 1 => by
  obtain ⟨ih0, ih1, ih2⟩ := Qas.mono_l k
  refine ⟨?_, ?_, ?_⟩
  ·intro y0 y1 y2 y3 y4 y5 y6 y7
   unfold Qas.l1
   exact ZM7 ih0 ih1 ih2 Qa4.mono Qa0.mono QaM.mono QaB.mono
  ·intro y0 y1 y2 y3
   unfold Qas.j1
   exact ZM7 ih0 ih1 ih2 Qa4.mono Qa0.mono QaM.mono QaB.mono
  intro y0 y1 y2 y3 y4
  unfold Qas.l0
  exact ZM7 ih0 ih1 ih2 Qa4.mono Qa0.mono QaM.mono QaB.mono
theorem Qas.mono : ∀ a0 a1 a2 a3 a4 a5 k, LeO (Qas.f k a0 a1 a2 a3 a4 a5) (Qas.f (k + 1) a0 a1 a2 a3 a4 a5) := by
 intro a0 a1 a2 a3 a4 a5 k
 obtain ⟨ih0, ih1, ih2⟩ := Qas.mono_l k
 unfold Qas.f
 exact ZM7 ih0 ih1 ih2 Qa4.mono Qa0.mono QaM.mono QaB.mono
def Qas.T13 : Bool × List (List Nat × List Nat) := (T, [([], []), ([], []), ([], []), ([], []), ([2, 3], [2, 3]), ([4], [4]), ([], []), ([5, 6], [5, 6]), ([0, 1, 0, 1, 2, 3, 4, 5, 6, 7], [0, 1]), ([8, 7, 0, 1, 2, 3, 4, 5, 6, 7], [7, 8])])
def Qas.B13 : List Nat := [0, 0, 0, 0, 12, 28, 0, 124, 255, 511]
theorem Qas.tab13 : rtab .any (opsOf Try.f28 13) = Qas.T13 := by kernel_rfl
theorem Qas.bits13 : QbJ Qas.T13.2 Qas.B13 = T := by kernel_rfl
theorem Qas.calls (k : Nat) (A0 : Option Addr) (c0 : Nat) (l0 : List (S46)) (a1_0 : ByteArray) (a1_1 : ByteArray) (a2 : Int) (A3 : Option Addr) (c3 : Nat) (l3 : List (S84)) (A4 : Option Addr) (c4 : Nat) (l4 : List (S98)) (r1 : List Int) (r2 : Int) (w : World) (hr0 : Kd.C k46 w A0 l0.length l0) (hc0 : l0.length ≤ c0) (hr3 : Kd.C k84 w A3 l3.length l3) (hc3 : l3.length ≤ c3) (hr4 : Kd.C k98 w A4 l4.length l4) (hc4 : l4.length ≤ c4) (h : Qas.f k l0 a1_0 a1_1 a2 l3 l4 = some (r1, r2)) :
  Calls Try.prog 28 #[.slice A0 l0.length c0, .agg #[.string a1_0, .string a1_1], .int .i64 a2, .slice A3 l3.length c3, .slice A4 l4.length c4] w fun e w' => ∃ v0_ : Value, e = .returned (.tuple #[v0_, .int .i64 r2]) ∧ Kd.R (Kd.int .i64) 3 w' w.heap.size (fun _ => True) v0_ r1 ∧ Below w.heap.size w w' := by
 have hu44 := Try.underlying44
 have HR0 := Aside0.mk hr0
 have HC0 := Aside0.mk hc0
 clear hr0 hc0
 have HR3 := Aside0.mk hr3
 have HC3 := Aside0.mk hc3
 clear hr3 hc3
 have HR4 := Aside0.mk hr4
 have HC4 := Aside0.mk hc4
 clear hr4 hc4
 have HB := Aside0.mk (Below.refl w.heap.size w)
 have H : ((QaB.f k l0 a1_0 a1_1 l3 l4).bind fun bt235 => (if bt235.2 = 0 then ((QaM.f k l0 a1_0 a1_1).bind fun t237 => (Qas.l1 k a2 l3 l4 t237 (t237.length : Int) 0 ([] : List Int) ([] : List Int))) else (some (([] : List Int), bt235.2)))) = some (r1, r2) := h
 clear h
 replace H := Option.bind_eq_some_iff.mp H
 obtain ⟨⟨t235, t236⟩, A60, H⟩ := H
 replace H : (if t236 = 0 then ((QaM.f k l0 a1_0 a1_1).bind fun t237 => (Qas.l1 k a2 l3 l4 t237 (t237.length : Int) 0 ([] : List Int) ([] : List Int))) else (some (([] : List Int), t236))) = some (r1, r2) := H
 have A6 := Aside0.mk A60
 clear A60
 go_enter Try.func28, Try.ntmps28
 go_upto_if 28 with (first | ((with_reducible refine QaE (N := 6) rfl ?_); (refine gate_n (n := 59) rfl ?_); refine Zbx (N := 6) (cs := #[.string a1_0, .string a1_1]) (t := 44) ?_; intro gb231 hg w7 hbox hb; have BK231 := Aside0.mk (hbox); have GW231 := Aside0.mk (Zt w hg (Zb)); have GE231 := GW231; replace HB := Aside0.mk (Qaq (Zb) hb); clear hb hbox hg) | ((with_reducible refine QaE (N := 10) rfl ?_); (refine gate_n (n := 59) rfl ?_); refine Zbx (N := 10) (cs := #[.slice none 0 0]) (t := 63) ?_; intro gb232 hg w8 hbox hb; have BK232 := Aside0.mk (hbox); have GW232 := Aside0.mk (Zt w hg (Zc1 GE231.out)); have GE232 := GW232; have NB231_232 := Aside0.mk (Zn hg BK231.out); have NB232_231 := Aside0.mk NB231_232.out.symm; replace BK231 := Aside0.mk (Zi BK231.out hb); replace HB := Aside0.mk (Qaq (Zc1 GE231.out) hb); clear hb hbox hg) | ((with_reducible refine QaE (N := 12) rfl ?_); (refine gate_n (n := 59) rfl ?_); refine Zbx (N := 12) (cs := #[.slice none 0 0]) (t := 63) ?_; intro gb233 hg w9 hbox hb; have BK233 := Aside0.mk (hbox); have GW233 := Aside0.mk (Zt w hg (Zc2 GE231.out GE232.out)); have GE233 := GW233; have NB231_233 := Aside0.mk (Zn hg BK231.out); have NB233_231 := Aside0.mk NB231_233.out.symm; have NB232_233 := Aside0.mk (Zn hg BK232.out); have NB233_232 := Aside0.mk NB232_233.out.symm; replace BK231 := Aside0.mk (Zi BK231.out hb); replace BK232 := Aside0.mk (Zi BK232.out hb); replace HB := Aside0.mk (Qaq (Zc2 GE231.out GE232.out) hb); clear hb hbox hg; have hnb10 := NB231_232.out; have hnc10 := NB232_231.out; have hnb11 := NB231_233.out; have hnc11 := NB233_231.out; obtain ⟨hcz12_0, hfz12_0⟩ := Zy (v := (.string a1_0)) BK231.out 0; obtain ⟨hcz12_1, hfz12_1⟩ := Zy (v := (.string a1_1)) BK231.out 1) | (go_at_call 55; go_in) | ((with_reducible refine QaE (N := 6) rfl ?_); (refine gate_n (n := 61) rfl ?_); refine Zbx (N := 6) (cs := #[.string a1_0, .string a1_1]) (t := 44) ?_; intro gb234 hg w13 hbox hb; have BK234 := Aside0.mk (hbox); have GW234 := Aside0.mk (Zt w hg (Zc3 GE231.out GE232.out GE233.out)); have GE234 := GW234; have NB231_234 := Aside0.mk (Zn hg BK231.out); have NB234_231 := Aside0.mk NB231_234.out.symm; have NB232_234 := Aside0.mk (Zn hg BK232.out); have NB234_232 := Aside0.mk NB232_234.out.symm; have NB233_234 := Aside0.mk (Zn hg BK233.out); have NB234_233 := Aside0.mk NB233_234.out.symm; replace BK231 := Aside0.mk (Zi BK231.out hb); replace BK232 := Aside0.mk (Zi BK232.out hb); replace BK233 := Aside0.mk (Zi BK233.out hb); replace HB := Aside0.mk (Qaq (Zc3 GE231.out GE232.out GE233.out) hb); clear hb hbox hg; have hnb14 := NB234_231.out; have hnc14 := NB231_234.out; have hnb15 := NB234_232.out; have hnc15 := NB232_234.out; have hnb16 := NB234_233.out; have hnc16 := NB233_234.out; obtain ⟨hcz17_0, hfz17_0⟩ := Zy (v := (.string a1_0)) BK234.out 0; obtain ⟨hcz17_1, hfz17_1⟩ := Zy (v := (.string a1_1)) BK234.out 1) | ((with_reducible refine QaA (f := 85) rfl ?_); refine goesL_ (some 24) rfl rfl Try.func85 (by kernel_rfl) rfl #[.slice A0 l0.length c0, .agg #[.string a1_0, .string a1_1], .slice A3 l3.length c3, .slice A4 l4.length c4] rfl (Zl) ?_; (with_reducible refine (QaB.calls k _ _ l0 a1_0 a1_1 _ _ l3 _ _ l4 t235 t236 _ ?side1 ?side2 ?side3 ?side4 ?side5 ?side6 A6.out).mono ?_); (case side1 => exact Zv (Kd.C_below HR0.out HB.out)); (case side2 => exact HC0.out); (case side3 => exact Zv (Kd.C_below HR3.out HB.out)); (case side4 => exact HC3.out); (case side5 => exact Zv (Kd.C_below HR4.out HB.out)); (case side6 => exact HC4.out); rintro e w18 ⟨rfl, hb⟩; refine ⟨_, rfl, ?_⟩; replace BK231 := Aside0.mk (Zi BK231.out hb); replace BK232 := Aside0.mk (Zi BK232.out hb); replace BK233 := Aside0.mk (Zi BK233.out hb); replace BK234 := Aside0.mk (Zi BK234.out hb); replace HB := Aside0.mk (Qaq (Zc4 GE231.out GE232.out GE233.out GE234.out) hb); (try clear hb); (try clear hb2); (try clear hk); (try clear hi)))
 (try simp only [Act.put, Zj, Zk, Zm])
 by_cases c19 : t236 = 0
 ·rw [if_pos c19] at H
  have c19b0 : (t236 == 0) = T := beq_iff_eq.mpr c19
  have c19b1 : (t236 != 0) = F := bne_eq_false_iff_eq.mpr c19
  clear c19
  (try simp only [c19b0, c19b1])
  replace H := Option.bind_eq_some_iff.mp H
  obtain ⟨t237, A200, H⟩ := H
  replace H : (Qas.l1 k a2 l3 l4 t237 (t237.length : Int) 0 ([] : List Int) ([] : List Int)) = some (r1, r2) := H
  have A20 := Aside0.mk A200
  clear A200
  have H' := Aside0.mk H
  clear H
  have hnb21 := NB234_231.out
  have hnc21 := NB231_234.out
  have hnb22 := NB234_232.out
  have hnc22 := NB232_234.out
  have hnb23 := NB234_233.out
  have hnc23 := NB233_234.out
  obtain ⟨hcz24_0, hfz24_0⟩ := Zy (v := (.string a1_0)) BK234.out 0
  obtain ⟨hcz24_1, hfz24_1⟩ := Zy (v := (.string a1_1)) BK234.out 1
  go_wp2_with (first | ((with_reducible refine QaA (f := 86) rfl ?_); refine goesL_ (some 32) rfl rfl Try.func86 (by kernel_rfl) rfl #[.slice A0 l0.length c0, .agg #[.string a1_0, .string a1_1]] rfl (Zl) ?_; (with_reducible refine (QaM.calls k _ _ l0 a1_0 a1_1 t237 _ ?side1 ?side2 A20.out).mono ?_); (case side1 => exact Zv (Kd.C_below HR0.out HB.out)); (case side2 => exact HC0.out); rintro e w25 ⟨v238, rfl, ho0, hb⟩; refine ⟨_, rfl, ?_⟩; have HO239 := Aside0.mk (Kd.R_lower ho0 (Qap (Zc4 GE231.out GE232.out GE233.out GE234.out))); replace BK231 := Aside0.mk (Zi BK231.out hb); replace BK232 := Aside0.mk (Zi BK232.out hb); replace BK233 := Aside0.mk (Zi BK233.out hb); replace BK234 := Aside0.mk (Zi BK234.out hb); replace HB := Aside0.mk (Qaq (Zc4 GE231.out GE232.out GE233.out GE234.out) hb); (try clear hb); (try clear hb2); (try clear hk); (try clear hi); (try clear ho0); obtain ⟨Ao26, co26, eo26⟩ := Kd.R_slice HO239.out; subst eo26))
  go_loopg [34] k (fun kq v334 w' => ∃ (x334_1 : Int) (x233000_1 : List Int) (x234000_1 : List Int) (u233000 : Value) (u234000 : Value), v334 = .int .i64 x334_1 ∧ Aside0 (Qas.l1 kq a2 l3 l4 t237 (t237.length : Int) x334_1 x233000_1 x234000_1 = some (r1, r2)) ∧ Aside0 (kq ≤ k) ∧ Aside0 (Kd.R k46 46 w' w.heap.size (fun _ => True) (.slice Ao26 t237.length co26) t237) ∧ Aside0 (Kd.R (Kd.int .i64) 3 w' w.heap.size (fun k_ => some k_ ≠ (u234000 : Value).ownBlock) u233000 x233000_1) ∧ Aside0 (Kd.R (Kd.int .i64) 3 w' w.heap.size (fun k_ => some k_ ≠ (u233000 : Value).ownBlock) u234000 x234000_1) ∧ Aside0 (w'.heap[gb231]? = some (.cells #[.string a1_0, .string a1_1] 44 (0, 0))) ∧ Aside0 (w'.heap[gb232]? = some (.cells #[u233000] 63 (0, 0))) ∧ Aside0 (w'.heap[gb233]? = some (.cells #[u234000] 63 (0, 0))) ∧ Aside0 (w'.heap[gb234]? = some (.cells #[.string a1_0, .string a1_1] 44 (0, 0))) ∧ Aside0 (Below w.heap.size w w'))
  case atStart => exact ⟨(0), (([] : List Int)), (([] : List Int)), (.slice none 0 0), (.slice none 0 0), (Zs), H', ⟨Nat.le_refl _⟩, ⟨Zr HO239.out⟩, ⟨by first | exact Kd.R_nil _ _ _ _ _ | exact Kd.N_nil _ _ _ _ _ | exact Kd.V_nil _ _ _ _ _ | exact Kd.Q_nil _ _ _ _ _ | exact Kd.S_nil _ _ _ _ _⟩, ⟨by first | exact Kd.R_nil _ _ _ _ _ | exact Kd.N_nil _ _ _ _ _ | exact Kd.V_nil _ _ _ _ _ | exact Kd.Q_nil _ _ _ _ _ | exact Kd.S_nil _ _ _ _ _⟩, ⟨Zu BK231.out⟩, ⟨Zu BK232.out⟩, ⟨Zu BK233.out⟩, ⟨Zu BK234.out⟩, ⟨Zc4 GE231.out GE232.out GE233.out GE234.out⟩⟩
  case round =>
   clear H'
   try clear c1
   try clear c2
   try clear p2
   try clear c3
   try clear c4
   try clear c8
   try clear c10
   try clear c11
   try clear c14
   try clear c15
   try clear c16
   try clear c19
   try clear c19b0
   try clear c19b1
   try clear c21
   try clear c22
   try clear c23
   try clear hcz12_0
   try clear hcz12_1
   try clear hcz17_0
   try clear hcz17_1
   try clear hcz24_0
   try clear hcz24_1
   try clear hfz12_0
   try clear hfz12_1
   try clear hfz17_0
   try clear hfz17_1
   try clear hfz24_0
   try clear hfz24_1
   obtain ⟨x334_1, x233000_1, x234000_1, u233000, u234000, rfl, HA, HK1, HO_332, HO_233000, HO_234000, BK231, BK232, BK233, BK234, HB⟩ := hrel
   cases gk with
   | zero => exact absurd HA.out (by simp [Qas.l1])
   | succ k1 =>
    have H := HA.out
    clear HA
    simp only [Qas.l1] at H
    by_cases c27 : x334_1 < (t237.length : Int)
    ·rw [if_pos c27] at H
     have c27b0 : decide (x334_1 < (t237.length : Int)) = T := decide_eq_true c27
     clear c27
     (try simp only [c27b0])
     by_cases c28 : 0 ≤ x334_1
     ·rw [if_pos c28] at H
      have c28b0 : decide (0 ≤ x334_1) = T := decide_eq_true c28
      clear c28
      by_cases c29 : x334_1 < (t237.length : Int)
      ·rw [if_pos c29] at H
       have c29b0 : decide (x334_1 < (t237.length : Int)) = T := decide_eq_true c29
       clear c29
       replace H := Option.bind_eq_some_iff.mp H
       obtain ⟨⟨t247, t248, t249, t250, t251, t252, t253⟩, A300, H⟩ := H
       replace H : ((Qa0.f k1 t247 t248 t249 t250 t251 t252 ((rd_T46 t237 x334_1).f2) l4).bind fun bt255 => (if bt255.2 = 0 then ((some (([bt255.1] : List Int) : List Int)).bind fun y258 => (if x233000_1.length + y258.length < 17592186044416 then ((some (([t252] : List Int) : List Int)).bind fun y264 => (if x234000_1.length + y264.length < 17592186044416 then (Qas.l1 k1 a2 l3 l4 t237 (t237.length : Int) (wrap64 (x334_1 + 1)) (x233000_1 ++ y258) (x234000_1 ++ y264)) else (none))) else (none))) else (some (([] : List Int), bt255.2)))) = some (r1, r2) := H
       have A30 := Aside0.mk A300
       clear A300
       replace H := Option.bind_eq_some_iff.mp H
       obtain ⟨⟨t255, t256⟩, A310, H⟩ := H
       replace H : (if t256 = 0 then ((some (([t255] : List Int) : List Int)).bind fun y258 => (if x233000_1.length + y258.length < 17592186044416 then ((some (([t252] : List Int) : List Int)).bind fun y264 => (if x234000_1.length + y264.length < 17592186044416 then (Qas.l1 k1 a2 l3 l4 t237 (t237.length : Int) (wrap64 (x334_1 + 1)) (x233000_1 ++ y258) (x234000_1 ++ y264)) else (none))) else (none))) else (some (([] : List Int), t256))) = some (r1, r2) := H
       have A31 := Aside0.mk A310
       clear A310
       have p245 : 0 ≤ (x334_1 : Int) := Ze
       have q245 : x334_1 < (t237.length : Int) := Ze
       obtain ⟨ad245, e245, hx245_0, hx245_1, hx245_2, hx245_3⟩ := at_T46 (Kd.R_reads' HO_332.out).2.2 x334_1 p245 q245
       cases e245
       replace p245 := eq_true p245
       replace q245 := eq_true q245
       go_upto_if 54 with (first | ((with_reducible refine QaE (N := 14) rfl ?_); (refine gate_n (n := 61) rfl ?_); refine Zbx (N := 14) (cs := #[.string (⟨#[]⟩ : ByteArray), .string (⟨#[]⟩ : ByteArray), .string (⟨#[]⟩ : ByteArray), .int .i64 0]) (t := 46) ?_; intro gb246 hg w32 hbox hb; have BK246 := Aside0.mk (hbox); have GW246 := Aside0.mk (Zt w hg (Zc4 GE231.out GE232.out GE233.out GE234.out)); have GE246 := GW246; have NB231_246 := Aside0.mk (Zn hg BK231.out); have NB246_231 := Aside0.mk NB231_246.out.symm; have NB232_246 := Aside0.mk (Zn hg BK232.out); have NB246_232 := Aside0.mk NB232_246.out.symm; have NB233_246 := Aside0.mk (Zn hg BK233.out); have NB246_233 := Aside0.mk NB233_246.out.symm; have NB234_246 := Aside0.mk (Zn hg BK234.out); have NB246_234 := Aside0.mk NB234_246.out.symm; replace HO_332 := Aside0.mk (Kd.R_below (Kd.R_elderB (Zr HO_332.out) gb246 (Nat.le_of_eq hg.symm)) hb); replace HO_233000 := Aside0.mk (Kd.R_below (Zr HO_233000.out) hb); replace HO_234000 := Aside0.mk (Kd.R_below (Zr HO_234000.out) hb); replace BK231 := Aside0.mk (Zi BK231.out hb); replace BK232 := Aside0.mk (Zi BK232.out hb); replace BK233 := Aside0.mk (Zi BK233.out hb); replace BK234 := Aside0.mk (Zi BK234.out hb); replace HB := Aside0.mk (Qaq (Zc4 GE231.out GE232.out GE233.out GE234.out) hb); clear hb hbox hg; have hnb33 := NB246_231.out; have hnc33 := NB231_246.out; have hnb34 := NB246_232.out; have hnc34 := NB232_246.out; have hnb35 := NB246_233.out; have hnc35 := NB233_246.out; have hnb36 := NB246_234.out; have hnc36 := NB234_246.out; obtain ⟨hcz37_0, hfz37_0⟩ := Zy (v := (.string (⟨#[]⟩ : ByteArray))) BK246.out 0; obtain ⟨hcz37_1, hfz37_1⟩ := Zy (v := (.string (⟨#[]⟩ : ByteArray))) BK246.out 1; obtain ⟨hcz37_2, hfz37_2⟩ := Zy (v := (.string (⟨#[]⟩ : ByteArray))) BK246.out 2; obtain ⟨hcz37_3, hfz37_3⟩ := Zy (v := (.int .i64 0)) BK246.out 3) | ((with_reducible refine QaA (f := 48) rfl ?_); refine goesL_ (some 42) rfl rfl Try.func48 (by kernel_rfl) rfl #[.slice A3 l3.length c3, .string ((rd_T46 t237 x334_1).f1)] rfl (Zl) ?_; (with_reducible refine (Qa4.calls k1 _ _ l3 ((rd_T46 t237 x334_1).f1) t247 t248 t249 t250 t251 t252 t253 _ ?side1 ?side2 A30.out).mono ?_); (case side1 => exact Kd.C_below HR3.out (Zc5 GE231.out GE232.out GE233.out GE234.out GE246.out)); (case side2 => exact HC3.out); rintro e w38 ⟨rfl, hb⟩; refine ⟨_, rfl, ?_⟩; replace HO_332 := Aside0.mk (Kd.R_below (by (with_reducible repeat (first | apply Kd.R_alloc | apply Kd.R_drewN | apply Kd.R_drew)); exact (Kd.R_mono (Kd.R_far (p := ⟨gb246, 3, none⟩) (Kd.R_far (p := ⟨gb246, 2, none⟩) (Kd.R_far (p := ⟨gb246, 1, none⟩) (Kd.R_far (p := ⟨gb246, 0, none⟩) (Kd.R_mono HO_332.out (fun k_ hk => (⟨hk, hk.2⟩ : _ ∧ k_ ≠ gb246))) (fun _ hk => hk.2) (.string ((rd_T46 t237 x334_1).f0.f0))) (fun _ hk => hk.2) (.string ((rd_T46 t237 x334_1).f0.f1))) (fun _ hk => hk.2) (.string ((rd_T46 t237 x334_1).f1))) (fun _ hk => hk.2) (.int .i64 ((rd_T46 t237 x334_1).f2))) (fun _ h_ => h_.1))) hb); replace HO_233000 := Aside0.mk (Kd.R_below (by (with_reducible repeat (first | apply Kd.R_alloc | apply Kd.R_drewN | apply Kd.R_drew)); exact (Kd.R_mono (Kd.R_far (p := ⟨gb246, 3, none⟩) (Kd.R_far (p := ⟨gb246, 2, none⟩) (Kd.R_far (p := ⟨gb246, 1, none⟩) (Kd.R_far (p := ⟨gb246, 0, none⟩) (Kd.R_types HO_233000.out BK246.out (by decide)) (fun _ hk => hk.2) (.string ((rd_T46 t237 x334_1).f0.f0))) (fun _ hk => hk.2) (.string ((rd_T46 t237 x334_1).f0.f1))) (fun _ hk => hk.2) (.string ((rd_T46 t237 x334_1).f1))) (fun _ hk => hk.2) (.int .i64 ((rd_T46 t237 x334_1).f2))) (fun _ h_ => h_.1))) hb); replace HO_234000 := Aside0.mk (Kd.R_below (by (with_reducible repeat (first | apply Kd.R_alloc | apply Kd.R_drewN | apply Kd.R_drew)); exact (Kd.R_mono (Kd.R_far (p := ⟨gb246, 3, none⟩) (Kd.R_far (p := ⟨gb246, 2, none⟩) (Kd.R_far (p := ⟨gb246, 1, none⟩) (Kd.R_far (p := ⟨gb246, 0, none⟩) (Kd.R_types HO_234000.out BK246.out (by decide)) (fun _ hk => hk.2) (.string ((rd_T46 t237 x334_1).f0.f0))) (fun _ hk => hk.2) (.string ((rd_T46 t237 x334_1).f0.f1))) (fun _ hk => hk.2) (.string ((rd_T46 t237 x334_1).f1))) (fun _ hk => hk.2) (.int .i64 ((rd_T46 t237 x334_1).f2))) (fun _ h_ => h_.1))) hb); replace BK231 := Aside0.mk (Qan (g := gb231) (o := .cells #[.string a1_0, .string a1_1] 44 (0, 0)) (Zg4 BK231.out NB231_246.out NB231_246.out NB231_246.out NB231_246.out) hb); replace BK232 := Aside0.mk (Qan (g := gb232) (o := .cells #[u233000] 63 (0, 0)) (Zg4 BK232.out NB232_246.out NB232_246.out NB232_246.out NB232_246.out) hb); replace BK233 := Aside0.mk (Qan (g := gb233) (o := .cells #[u234000] 63 (0, 0)) (Zg4 BK233.out NB233_246.out NB233_246.out NB233_246.out NB233_246.out) hb); replace BK234 := Aside0.mk (Qan (g := gb234) (o := .cells #[.string a1_0, .string a1_1] 44 (0, 0)) (Zg4 BK234.out NB234_246.out NB234_246.out NB234_246.out NB234_246.out) hb); replace BK246 := Aside0.mk (Zpi #[.string ((rd_T46 t237 x334_1).f0.f0), .string ((rd_T46 t237 x334_1).f0.f1), .string ((rd_T46 t237 x334_1).f1), .int .i64 ((rd_T46 t237 x334_1).f2)] BK246.out hb); replace HB := Aside0.mk (Qaq (Zc5 GE231.out GE232.out GE233.out GE234.out GE246.out) hb); (try clear hb); (try clear hb2); (try clear hk); (try clear hi)) | ((with_reducible refine QaE (N := 15) rfl ?_); (refine gate_n (n := 61) rfl ?_); refine Zbx (N := 15) (cs := #[.string (⟨#[]⟩ : ByteArray), .int .i64 0, .int .i64 0, .int .i64 0, .int .i64 0, .int .i64 0]) (t := 84) ?_; intro gb254 hg w39 hbox hb; have BK254 := Aside0.mk (hbox); have GW254 := Aside0.mk (Zt w hg (Zc5 GE231.out GE232.out GE233.out GE234.out GE246.out)); have GE254 := GW254; have NB231_254 := Aside0.mk (Zn hg BK231.out); have NB254_231 := Aside0.mk NB231_254.out.symm; have NB232_254 := Aside0.mk (Zn hg BK232.out); have NB254_232 := Aside0.mk NB232_254.out.symm; have NB233_254 := Aside0.mk (Zn hg BK233.out); have NB254_233 := Aside0.mk NB233_254.out.symm; have NB234_254 := Aside0.mk (Zn hg BK234.out); have NB254_234 := Aside0.mk NB234_254.out.symm; have NB246_254 := Aside0.mk (Zn hg BK246.out); have NB254_246 := Aside0.mk NB246_254.out.symm; replace HO_332 := Aside0.mk (Kd.R_below (Zr HO_332.out) hb); replace HO_233000 := Aside0.mk (Kd.R_below (Zr HO_233000.out) hb); replace HO_234000 := Aside0.mk (Kd.R_below (Zr HO_234000.out) hb); replace BK231 := Aside0.mk (Zi BK231.out hb); replace BK232 := Aside0.mk (Zi BK232.out hb); replace BK233 := Aside0.mk (Zi BK233.out hb); replace BK234 := Aside0.mk (Zi BK234.out hb); replace BK246 := Aside0.mk (Zi BK246.out hb); replace HB := Aside0.mk (Qaq (Zc5 GE231.out GE232.out GE233.out GE234.out GE246.out) hb); clear hb hbox hg; have hnb40 := NB254_231.out; have hnc40 := NB231_254.out; have hnb41 := NB254_232.out; have hnc41 := NB232_254.out; have hnb42 := NB254_233.out; have hnc42 := NB233_254.out; have hnb43 := NB254_234.out; have hnc43 := NB234_254.out; have hnb44 := NB254_246.out; have hnc44 := NB246_254.out; obtain ⟨hcz45_0, hfz45_0⟩ := Zy (v := (.string (⟨#[]⟩ : ByteArray))) BK254.out 0; obtain ⟨hcz45_1, hfz45_1⟩ := Zy (v := (.int .i64 0)) BK254.out 1; obtain ⟨hcz45_2, hfz45_2⟩ := Zy (v := (.int .i64 0)) BK254.out 2; obtain ⟨hcz45_3, hfz45_3⟩ := Zy (v := (.int .i64 0)) BK254.out 3; obtain ⟨hcz45_4, hfz45_4⟩ := Zy (v := (.int .i64 0)) BK254.out 4; obtain ⟨hcz45_5, hfz45_5⟩ := Zy (v := (.int .i64 0)) BK254.out 5; obtain ⟨hcz46_0, hfz46_0⟩ := Zy (v := (.string ((rd_T46 t237 x334_1).f0.f0))) BK246.out 0; obtain ⟨hcz46_1, hfz46_1⟩ := Zy (v := (.string ((rd_T46 t237 x334_1).f0.f1))) BK246.out 1; obtain ⟨hcz46_2, hfz46_2⟩ := Zy (v := (.string ((rd_T46 t237 x334_1).f1))) BK246.out 2; obtain ⟨hcz46_3, hfz46_3⟩ := Zy (v := (.int .i64 ((rd_T46 t237 x334_1).f2))) BK246.out 3) | ((with_reducible refine QaA (f := 82) rfl ?_); refine goesL_ (some 50) rfl rfl Try.func82 (by kernel_rfl) rfl #[.agg #[.string t247, .int .i64 t248, .int .i64 t249, .int .i64 t250, .int .i64 t251, .int .i64 t252], .int .i64 ((rd_T46 t237 x334_1).f2), .slice A4 l4.length c4] rfl (Zl) ?_; (with_reducible refine (Qa0.calls k1 t247 t248 t249 t250 t251 t252 ((rd_T46 t237 x334_1).f2) _ _ l4 t255 t256 _ ?side1 ?side2 A31.out).mono ?_); (case side1 => exact Kd.C_below HR4.out (Zc6 GE231.out GE232.out GE233.out GE234.out GE246.out GE254.out)); (case side2 => exact HC4.out); rintro e w47 ⟨rfl, hb⟩; refine ⟨_, rfl, ?_⟩; replace HO_332 := Aside0.mk (Kd.R_below (by (with_reducible repeat (first | apply Kd.R_alloc | apply Kd.R_drewN | apply Kd.R_drew)); exact (Kd.R_mono (Kd.R_far (p := ⟨gb254, 5, none⟩) (Kd.R_far (p := ⟨gb254, 4, none⟩) (Kd.R_far (p := ⟨gb254, 3, none⟩) (Kd.R_far (p := ⟨gb254, 2, none⟩) (Kd.R_far (p := ⟨gb254, 1, none⟩) (Kd.R_far (p := ⟨gb254, 0, none⟩) (Kd.R_types HO_332.out BK254.out (by decide)) (fun _ hk => hk.2) (.string t247)) (fun _ hk => hk.2) (.int .i64 t248)) (fun _ hk => hk.2) (.int .i64 t249)) (fun _ hk => hk.2) (.int .i64 t250)) (fun _ hk => hk.2) (.int .i64 t251)) (fun _ hk => hk.2) (.int .i64 t252)) (fun _ h_ => h_.1))) hb); replace HO_233000 := Aside0.mk (Kd.R_below (by (with_reducible repeat (first | apply Kd.R_alloc | apply Kd.R_drewN | apply Kd.R_drew)); exact (Kd.R_mono (Kd.R_far (p := ⟨gb254, 5, none⟩) (Kd.R_far (p := ⟨gb254, 4, none⟩) (Kd.R_far (p := ⟨gb254, 3, none⟩) (Kd.R_far (p := ⟨gb254, 2, none⟩) (Kd.R_far (p := ⟨gb254, 1, none⟩) (Kd.R_far (p := ⟨gb254, 0, none⟩) (Kd.R_types HO_233000.out BK254.out (by decide)) (fun _ hk => hk.2) (.string t247)) (fun _ hk => hk.2) (.int .i64 t248)) (fun _ hk => hk.2) (.int .i64 t249)) (fun _ hk => hk.2) (.int .i64 t250)) (fun _ hk => hk.2) (.int .i64 t251)) (fun _ hk => hk.2) (.int .i64 t252)) (fun _ h_ => h_.1))) hb); replace HO_234000 := Aside0.mk (Kd.R_below (by (with_reducible repeat (first | apply Kd.R_alloc | apply Kd.R_drewN | apply Kd.R_drew)); exact (Kd.R_mono (Kd.R_far (p := ⟨gb254, 5, none⟩) (Kd.R_far (p := ⟨gb254, 4, none⟩) (Kd.R_far (p := ⟨gb254, 3, none⟩) (Kd.R_far (p := ⟨gb254, 2, none⟩) (Kd.R_far (p := ⟨gb254, 1, none⟩) (Kd.R_far (p := ⟨gb254, 0, none⟩) (Kd.R_types HO_234000.out BK254.out (by decide)) (fun _ hk => hk.2) (.string t247)) (fun _ hk => hk.2) (.int .i64 t248)) (fun _ hk => hk.2) (.int .i64 t249)) (fun _ hk => hk.2) (.int .i64 t250)) (fun _ hk => hk.2) (.int .i64 t251)) (fun _ hk => hk.2) (.int .i64 t252)) (fun _ h_ => h_.1))) hb); replace BK231 := Aside0.mk (Qan (g := gb231) (o := .cells #[.string a1_0, .string a1_1] 44 (0, 0)) (Zg6 BK231.out NB231_254.out NB231_254.out NB231_254.out NB231_254.out NB231_254.out NB231_254.out) hb); replace BK232 := Aside0.mk (Qan (g := gb232) (o := .cells #[u233000] 63 (0, 0)) (Zg6 BK232.out NB232_254.out NB232_254.out NB232_254.out NB232_254.out NB232_254.out NB232_254.out) hb); replace BK233 := Aside0.mk (Qan (g := gb233) (o := .cells #[u234000] 63 (0, 0)) (Zg6 BK233.out NB233_254.out NB233_254.out NB233_254.out NB233_254.out NB233_254.out NB233_254.out) hb); replace BK234 := Aside0.mk (Qan (g := gb234) (o := .cells #[.string a1_0, .string a1_1] 44 (0, 0)) (Zg6 BK234.out NB234_254.out NB234_254.out NB234_254.out NB234_254.out NB234_254.out NB234_254.out) hb); replace BK246 := Aside0.mk (Qan (g := gb246) (o := .cells #[.string ((rd_T46 t237 x334_1).f0.f0), .string ((rd_T46 t237 x334_1).f0.f1), .string ((rd_T46 t237 x334_1).f1), .int .i64 ((rd_T46 t237 x334_1).f2)] 46 (0, 0)) (Zg6 BK246.out NB246_254.out NB246_254.out NB246_254.out NB246_254.out NB246_254.out NB246_254.out) hb); replace BK254 := Aside0.mk (Zpi #[.string t247, .int .i64 t248, .int .i64 t249, .int .i64 t250, .int .i64 t251, .int .i64 t252] BK254.out hb); replace HB := Aside0.mk (Qaq (Zc6 GE231.out GE232.out GE233.out GE234.out GE246.out GE254.out) hb); (try clear hb); (try clear hb2); (try clear hk); (try clear hi)))
       (try simp only [Act.put, Zj, Zk, Zm])
       by_cases c48 : t256 = 0
       ·rw [if_pos c48] at H
        have c48b0 : (t256 == 0) = T := beq_iff_eq.mpr c48
        have c48b1 : (t256 != 0) = F := bne_eq_false_iff_eq.mpr c48
        clear c48
        (try simp only [c48b0, c48b1])
        obtain ⟨y258, hy258⟩ : ∃ y_ : List Int, y_ = (([t255] : List Int)) := ⟨_, rfl⟩
        replace H : (if x233000_1.length + y258.length < 17592186044416 then ((some (([t252] : List Int) : List Int)).bind fun y264 => (if x234000_1.length + y264.length < 17592186044416 then (Qas.l1 k1 a2 l3 l4 t237 (t237.length : Int) (wrap64 (x334_1 + 1)) (x233000_1 ++ y258) (x234000_1 ++ y264)) else (none))) else (none)) = some (r1, r2) := by first | (rw [hy258]; with_reducible exact H) | (have H2_ := (Option.bind_some _ _).symm.trans H; rw [hy258]; with_reducible exact H2_) | (have H2_ := (Option.bind_some _ _).symm.trans H; with_reducible exact H2_) | with_reducible exact H | (rw [hy258]; exact H) | exact H
        have Ny258 := Aside0.mk hy258
        clear hy258
        by_cases c49 : x233000_1.length + y258.length < 17592186044416
        ·rw [if_pos c49] at H
         have LMc49 := Aside0.mk c49
         clear c49
         obtain ⟨y261, hy261⟩ : ∃ y_ : List Int, y_ = (x233000_1 ++ y258) := ⟨_, rfl⟩
         replace H : ((some (([t252] : List Int) : List Int)).bind fun y264 => (if x234000_1.length + y264.length < 17592186044416 then (Qas.l1 k1 a2 l3 l4 t237 (t237.length : Int) (wrap64 (x334_1 + 1)) y261 (x234000_1 ++ y264)) else (none))) = some (r1, r2) := by first | (rw [hy261]; with_reducible exact H) | (have H2_ := (Option.bind_some _ _).symm.trans H; rw [hy261]; with_reducible exact H2_) | (have H2_ := (Option.bind_some _ _).symm.trans H; with_reducible exact H2_) | with_reducible exact H | (rw [hy261]; exact H) | exact H
         have Ny261 := Aside0.mk hy261
         clear hy261
         obtain ⟨y264, hy264⟩ : ∃ y_ : List Int, y_ = (([t252] : List Int)) := ⟨_, rfl⟩
         replace H : (if x234000_1.length + y264.length < 17592186044416 then (Qas.l1 k1 a2 l3 l4 t237 (t237.length : Int) (wrap64 (x334_1 + 1)) y261 (x234000_1 ++ y264)) else (none)) = some (r1, r2) := by first | (rw [hy264]; with_reducible exact H) | (have H2_ := (Option.bind_some _ _).symm.trans H; rw [hy264]; with_reducible exact H2_) | (have H2_ := (Option.bind_some _ _).symm.trans H; with_reducible exact H2_) | with_reducible exact H | (rw [hy264]; exact H) | exact H
         have Ny264 := Aside0.mk hy264
         clear hy264
         by_cases c50 : x234000_1.length + y264.length < 17592186044416
         ·rw [if_pos c50] at H
          have LMc50 := Aside0.mk c50
          clear c50
          obtain ⟨y267, hy267⟩ : ∃ y_ : List Int, y_ = (x234000_1 ++ y264) := ⟨_, rfl⟩
          replace H : (Qas.l1 k1 a2 l3 l4 t237 (t237.length : Int) (wrap64 (x334_1 + 1)) y261 y267) = some (r1, r2) := by first | (rw [hy267]; with_reducible exact H) | (have H2_ := (Option.bind_some _ _).symm.trans H; rw [hy267]; with_reducible exact H2_) | (have H2_ := (Option.bind_some _ _).symm.trans H; with_reducible exact H2_) | with_reducible exact H | (rw [hy267]; exact H) | exact H
          have Ny267 := Aside0.mk hy267
          clear hy267
          have hnb51 := NB254_231.out
          have hnc51 := NB231_254.out
          have hnb52 := NB254_232.out
          have hnc52 := NB232_254.out
          have hnb53 := NB254_233.out
          have hnc53 := NB233_254.out
          have hnb54 := NB254_234.out
          have hnc54 := NB234_254.out
          have hnb55 := NB254_246.out
          have hnc55 := NB246_254.out
          obtain ⟨hcz56_0, hfz56_0⟩ := Zy (v := (.string t247)) BK254.out 0
          obtain ⟨hcz56_1, hfz56_1⟩ := Zy (v := (.int .i64 t248)) BK254.out 1
          obtain ⟨hcz56_2, hfz56_2⟩ := Zy (v := (.int .i64 t249)) BK254.out 2
          obtain ⟨hcz56_3, hfz56_3⟩ := Zy (v := (.int .i64 t250)) BK254.out 3
          obtain ⟨hcz56_4, hfz56_4⟩ := Zy (v := (.int .i64 t251)) BK254.out 4
          obtain ⟨hcz56_5, hfz56_5⟩ := Zy (v := (.int .i64 t252)) BK254.out 5
          try go_wp2_with (first | (go_at_call 56; go_in) | ((with_reducible refine QaE (N := 4) rfl ?_); (refine gate_n (n := 15) rfl ?_); refine Zbx (N := 4) (cs := #[.string t247, .int .i64 t248, .int .i64 t249, .int .i64 t250, .int .i64 t251, .int .i64 t252]) (t := 84) ?_; intro gb257 hg w57 hbox hb; have BK257 := Aside0.mk (hbox); have GW257 := Aside0.mk (Zt w hg (Zc6 GE231.out GE232.out GE233.out GE234.out GE246.out GE254.out)); have GE257 := GW257; have NB231_257 := Aside0.mk (Zn hg BK231.out); have NB257_231 := Aside0.mk NB231_257.out.symm; have NB232_257 := Aside0.mk (Zn hg BK232.out); have NB257_232 := Aside0.mk NB232_257.out.symm; have NB233_257 := Aside0.mk (Zn hg BK233.out); have NB257_233 := Aside0.mk NB233_257.out.symm; have NB234_257 := Aside0.mk (Zn hg BK234.out); have NB257_234 := Aside0.mk NB234_257.out.symm; have NB246_257 := Aside0.mk (Zn hg BK246.out); have NB257_246 := Aside0.mk NB246_257.out.symm; have NB254_257 := Aside0.mk (Zn hg BK254.out); have NB257_254 := Aside0.mk NB254_257.out.symm; replace HO_332 := Aside0.mk (Kd.R_below (Zr HO_332.out) hb); replace HO_233000 := Aside0.mk (Kd.R_below (Zr HO_233000.out) hb); replace HO_234000 := Aside0.mk (Kd.R_below (Zr HO_234000.out) hb); replace BK231 := Aside0.mk (Zi BK231.out hb); replace BK232 := Aside0.mk (Zi BK232.out hb); replace BK233 := Aside0.mk (Zi BK233.out hb); replace BK234 := Aside0.mk (Zi BK234.out hb); replace BK246 := Aside0.mk (Zi BK246.out hb); replace BK254 := Aside0.mk (Zi BK254.out hb); replace HB := Aside0.mk (Qaq (Zc6 GE231.out GE232.out GE233.out GE234.out GE246.out GE254.out) hb); clear hb hbox hg; obtain ⟨Ao58, co58, eo58⟩ := Kd.R_slice HO_233000.out; subst eo58; obtain ⟨Ao59, co59, eo59⟩ := Kd.R_slice HO_234000.out; subst eo59))
          replace HO_332 := Aside0.mk (Kd.R_drew HO_332.out)
          replace HO_233000 := Aside0.mk (Kd.R_drew HO_233000.out)
          replace HO_234000 := Aside0.mk (Kd.R_drew HO_234000.out)
          replace BK231 := Aside0.mk (Qac BK231.out)
          replace BK232 := Aside0.mk (Qac BK232.out)
          replace BK233 := Aside0.mk (Qac BK233.out)
          replace BK234 := Aside0.mk (Qac BK234.out)
          replace BK246 := Aside0.mk (Qac BK246.out)
          replace BK254 := Aside0.mk (Qac BK254.out)
          replace BK257 := Aside0.mk (Qac BK257.out)
          replace HB := Aside0.mk (Qag HB.out)
          refine start_ (n := 11) (S := fun w' => w'.cell? ⟨gb232, 0, none⟩ = some (.slice Ao58 x233000_1.length co58) ∧ w'.cell? ⟨gb233, 0, none⟩ = some (.slice Ao59 x234000_1.length co59) ∧ w'.cell? ⟨gb257, 0, none⟩ = some (.string t247) ∧ w'.cell? ⟨gb257, 1, none⟩ = some (.int .i64 t248) ∧ w'.cell? ⟨gb257, 2, none⟩ = some (.int .i64 t249) ∧ w'.cell? ⟨gb257, 3, none⟩ = some (.int .i64 t250) ∧ w'.cell? ⟨gb257, 4, none⟩ = some (.int .i64 t251) ∧ w'.cell? ⟨gb257, 5, none⟩ = some (.int .i64 t252)) (ds := [9, 10]) #[F, F, F, F, F, F, F, F, F, F, F] (by kernel_rfl) rfl rfl ⟨(Qah BK232.out 0).trans rfl, (Qah BK233.out 0).trans rfl, (Qah BK257.out 0).trans rfl, (Qah BK257.out 1).trans rfl, (Qah BK257.out 2).trans rfl, (Qah BK257.out 3).trans rfl, (Qah BK257.out 4).trans rfl, (Qah BK257.out 5).trans rfl⟩ (fun hHeld => ?_)
          generalize w57.drew = w60 at HO_332 HO_233000 HO_234000 BK231 BK232 BK233 BK234 BK246 BK254 BK257 HB hHeld ⊢
          refine pure_ (i := 1) (N := some 7) (v := ?_) (a' := ?_) #[F, T, F, F, F, F, F, F, F, F, F] rfl rfl (by kernel_rfl) (fun _ _ _ h => h) (Or.inl ⟨by rfl, ?_⟩) ?_ ?_
          rotate_left
          ·intro w'
           go_simp
           with_reducible rfl
          rotate_left
          ·simp only [Act.put, Zj, Zk, Zm, i64_w, i32_w]
           rfl
          refine pure_ (i := 5) (N := some 11) (v := ?_) (a' := ?_) #[F, T, F, F, F, T, F, F, F, F, F] rfl rfl (by kernel_rfl) (fun _ _ _ h => h) (Or.inl ⟨by rfl, ?_⟩) ?_ ?_
          rotate_left
          ·intro w'
           go_simp
           with_reducible rfl
          rotate_left
          ·simp only [Act.put, Zj, Zk, Zm, i64_w, i32_w]
           rfl
          refine take_ (i := 0) (N := some 6) (v := ?_) (a' := ?_) #[T, T, F, F, F, T, F, F, F, F, F] rfl rfl (by kernel_rfl) (fun _ _ _ h => h) (Or.inl ⟨by rfl, ?_⟩) hHeld ?_ ?_
          rotate_left
          ·rintro w' ⟨s0, s1, s2, s3, s4, s5, s6, s7⟩
           go_simp
           with_reducible rfl
          rotate_left
          ·simp only [Act.put, Zj, Zk, Zm, i64_w, i32_w]
           rfl
          refine take_ (i := 4) (N := some 10) (v := ?_) (a' := ?_) #[T, T, F, F, T, T, F, F, F, F, F] rfl rfl (by kernel_rfl) (fun _ _ _ h => h) (Or.inl ⟨by rfl, ?_⟩) hHeld ?_ ?_
          rotate_left
          ·rintro w' ⟨s0, s1, s2, s3, s4, s5, s6, s7⟩
           go_simp
           with_reducible rfl
          rotate_left
          ·simp only [Act.put, Zj, Zk, Zm, i64_w, i32_w]
           rfl
          refine take_ (i := 6) (N := some 12) (v := ?_) (a' := ?_) #[T, T, F, F, T, T, T, F, F, F, F] rfl rfl (by kernel_rfl) (fun _ _ _ h => h) (Or.inl ⟨by rfl, ?_⟩) hHeld ?_ ?_
          rotate_left
          ·rintro w' ⟨s0, s1, s2, s3, s4, s5, s6, s7⟩
           go_simp
           with_reducible rfl
          rotate_left
          ·simp only [Act.put, Zj, Zk, Zm, i64_w, i32_w]
           rfl
          refine join_ (σ := Value × Value × Value) 3 #[T, T, T, T, T, T, T, T, F, F, F] (fun s_ => [(8, s_.1), (9, s_.2.1), (13, s_.2.2)]) (fun s_ w' => (w'.cell? ⟨gb232, 0, none⟩ = some (.slice Ao58 x233000_1.length co58) ∧ w'.cell? ⟨gb233, 0, none⟩ = some (.slice Ao59 x234000_1.length co59) ∧ w'.cell? ⟨gb257, 0, none⟩ = some (.string t247) ∧ w'.cell? ⟨gb257, 1, none⟩ = some (.int .i64 t248) ∧ w'.cell? ⟨gb257, 2, none⟩ = some (.int .i64 t249) ∧ w'.cell? ⟨gb257, 3, none⟩ = some (.int .i64 t250) ∧ w'.cell? ⟨gb257, 4, none⟩ = some (.int .i64 t251) ∧ w'.cell? ⟨gb257, 5, none⟩ = some (.int .i64 t252)) ∧ (Kd.R (Kd.int .i64) 3 w' w.heap.size (fun k_ => some k_ ≠ (s_.2.1 : Value).ownBlock ∧ some k_ ≠ (s_.2.2 : Value).ownBlock ∧ some k_ ≠ (.slice Ao59 x234000_1.length co59 : Value).ownBlock) s_.1 y258) ∧ (Kd.R (Kd.int .i64) 3 w' w.heap.size (fun k_ => some k_ ≠ (s_.1 : Value).ownBlock ∧ some k_ ≠ (s_.2.2 : Value).ownBlock ∧ some k_ ≠ (.slice Ao59 x234000_1.length co59 : Value).ownBlock) s_.2.1 y261) ∧ (Kd.R (Kd.int .i64) 3 w' w.heap.size (fun k_ => some k_ ≠ (s_.1 : Value).ownBlock ∧ some k_ ≠ (s_.2.1 : Value).ownBlock ∧ some k_ ≠ (.slice Ao59 x234000_1.length co59 : Value).ownBlock) s_.2.2 y264) ∧ (Kd.R (Kd.int .i64) 3 w' w.heap.size (fun k_ => some k_ ≠ (s_.1 : Value).ownBlock ∧ some k_ ≠ (s_.2.1 : Value).ownBlock ∧ some k_ ≠ (s_.2.2 : Value).ownBlock) (.slice Ao59 x234000_1.length co59) x234000_1) ∧ (Kd.R k46 46 w' w.heap.size (fun k_ => k_ ≠ gb246) (.slice (some ad245) t237.length co26) t237) ∧ (w'.heap[gb231]? = some (.cells #[.string a1_0, .string a1_1] 44 (0, 0))) ∧ (w'.heap[gb232]? = some (.cells #[.slice Ao58 x233000_1.length co58] 63 (0, 0))) ∧ (w'.heap[gb233]? = some (.cells #[.slice Ao59 x234000_1.length co59] 63 (0, 0))) ∧ (w'.heap[gb234]? = some (.cells #[.string a1_0, .string a1_1] 44 (0, 0))) ∧ (w'.heap[gb246]? = some (.cells #[.string ((rd_T46 t237 x334_1).f0.f0), .string ((rd_T46 t237 x334_1).f0.f1), .string ((rd_T46 t237 x334_1).f1), .int .i64 ((rd_T46 t237 x334_1).f2)] 46 (0, 0))) ∧ (w'.heap[gb254]? = some (.cells #[.string t247, .int .i64 t248, .int .i64 t249, .int .i64 t250, .int .i64 t251, .int .i64 t252] 84 (0, 0))) ∧ (w'.heap[gb257]? = some (.cells #[.string t247, .int .i64 t248, .int .i64 t249, .int .i64 t250, .int .i64 t251, .int .i64 t252] 84 (0, 0))) ∧ (Below w.heap.size w w')) ?_ ?_
          rotate_left
          ·intro hCont
           refine two_ (i := 2) (j := 7) (Ni := some 8) (Nj := some 13) #[T, T, T, F, T, T, T, F, F, F, F] #[T, T, F, F, T, T, T, T, F, F, F] rfl rfl rfl rfl (by kernel_rfl) (by decide) (by decide) (fun K hK => ?_) (fun K hK => ?_)
           ·skip
            refine Kd.R_lit_step (Kd.int .i64) _ 3 ?hg (N := 8) ?hd (xs := ([t255] : List Int)) (inner := [.int .i64 t255]) (ok := fun _ => True) (okp := fun _ => True) ?hr ?hp (fun _ hk => hk) trivial (Below.refl _ _) (Nat.le_refl _) (by simp) ?_; (case hd => rfl); (case hg => rfl); (case hr => first | (go_simp; done) | (go_simp; rfl)); (case hp => exact (Reps.one (show Kd.M (Kd.int .i64) _ _ _ t255 [.int .i64 t255] from rfl) (Reps.none _ _)))
            intro v259 w61 ho62 hb hg_ hnew_
            clear hg_ hnew_
            (first | rw [← Ny258.out] at ho62 | (simp only [Int.reduceToNat] at ho62; rw [← Ny258.out] at ho62))
            have HO260 := Aside0.mk (Kd.R_lower (Kd.R_new' (Kd.R_new' ho62 (Kd.R_lt (Zr HO_233000.out))) (Kd.R_lt (Zr HO_234000.out))) (Qap (Zc7 GE231.out GE232.out GE233.out GE234.out GE246.out GE254.out GE257.out)))
            replace HO_332 := Aside0.mk (Kd.R_below (Zr HO_332.out) hb)
            replace HO_233000 := Aside0.mk (Kd.R_elder' (Zr HO_233000.out) (Kd.R_base ho62) hb)
            replace HO_234000 := Aside0.mk (Kd.R_elder' (Zr HO_234000.out) (Kd.R_base ho62) hb)
            replace BK231 := Aside0.mk (Zi BK231.out hb)
            replace BK232 := Aside0.mk (Zi BK232.out hb)
            replace BK233 := Aside0.mk (Zi BK233.out hb)
            replace BK234 := Aside0.mk (Zi BK234.out hb)
            replace BK246 := Aside0.mk (Zi BK246.out hb)
            replace BK254 := Aside0.mk (Zi BK254.out hb)
            replace BK257 := Aside0.mk (Zi BK257.out hb)
            replace HB := Aside0.mk (Qaq (Zc7 GE231.out GE232.out GE233.out GE234.out GE246.out GE254.out GE257.out) hb)
            clear hb ho62
            obtain ⟨Ao64, co64, eo64⟩ := Kd.R_slice HO260.out
            (first | subst eo64 | (injection eo64 with f1_ f2_ f3_; have f4_ := f1_.symm; have f5_ := f3_.symm; clear f1_ f2_ f3_; subst f4_; subst f5_))
            refine hK.out _ _ ⟨(Qah BK232.out 0).trans rfl, (Qah BK233.out 0).trans rfl, (Qah BK257.out 0).trans rfl, (Qah BK257.out 1).trans rfl, (Qah BK257.out 2).trans rfl, (Qah BK257.out 3).trans rfl, (Qah BK257.out 4).trans rfl, (Qah BK257.out 5).trans rfl⟩ (fun hHeld => ?_)
            clear hK K
            refine norm_ (a' := ?_) ?_ ?_
            rotate_left
            ·show Act.put _ (some 8) _ = _
             simp only [Act.put, Zj, Zk, Zm, i64_w, i32_w]
             rfl
            refine two_ (i := 3) (j := 7) (Ni := some 9) (Nj := some 13) #[T, T, T, T, T, T, T, F, F, F, F] #[T, T, T, F, T, T, T, T, F, F, F] rfl rfl rfl rfl (by kernel_rfl) (by decide) (by decide) (fun K hK => ?_) (fun K hK => ?_)
            ·skip
             refine Kd.R_append_rows_step (Kd.int .i64) (w0 := w) w.heap.size (by rfl) (.tmp 6) (.tmp 8) 63 3 (.int .i64 0) 8 rfl Try.underlying63 info3 rfl (by decide) (by omega) (.slice Ao58 x233000_1.length co58) x233000_1 y258 _ _ _ (fun k_ => some k_ ≠ (.slice Ao59 x234000_1.length co59 : Value).ownBlock ∧ some k_ ≠ (.slice Ao64 y258.length co64 : Value).ownBlock) (fun _ => False) rfl rfl ?aO ?aR (fun _ _ h => h) (fun _ h => h.elim) ?aF ?aB ?aS ?aL ?_
             (case aR => exact Zv (Kd.R_reads' HO260.out).2.2)
             (case aB => exact (Zc7 GE231.out GE232.out GE233.out GE234.out GE246.out GE254.out GE257.out))
             (case aF => exact (fun k_ hk => ⟨Kd.fresh' (Kd.R_lt (Zr HO_234000.out)) k_ hk, Kd.fresh' (Kd.R_lt (Zr HO260.out)) k_ hk⟩))
             (case aO => exact (Zr HO_233000.out))
             (case aS => exact (Qap (Zc7 GE231.out GE232.out GE233.out GE234.out GE246.out GE254.out GE257.out)))
             (case aL => have := LMc49.out; omega)
             intro v262 w63 ho hb hg hat
             rw [← Ny261.out] at ho
             have HO263 := Aside0.mk (ho)
             replace HO_332 := Aside0.mk (Kd.R_over' (Zr HO_332.out) (Kd.R_typed (Zr HO_233000.out)) (by decide) hg)
             replace HO_234000 := Aside0.mk (Kd.R_after (ok := (fun k_ => some k_ ≠ (.slice Ao64 y258.length co64 : Value).ownBlock)) (by (with_reducible repeat (first | apply Kd.R_alloc | apply Kd.R_drewN | apply Kd.R_drew)); exact Kd.R_mono HO_234000.out (fun _ hk => ⟨hk.2, hk.1⟩)) hg hat)
             replace BK231 := Aside0.mk (QaW (g := gb231) (o := .cells #[.string a1_0, .string a1_1] 44 (0, 0)) (Zu BK231.out) hg (Kd.R_ne HO_233000.out BK231.out (by decide)))
             replace BK232 := Aside0.mk (QaW (g := gb232) (o := .cells #[.slice Ao58 x233000_1.length co58] 63 (0, 0)) (Zu BK232.out) hg (Kd.R_ne HO_233000.out BK232.out (by decide)))
             replace BK233 := Aside0.mk (QaW (g := gb233) (o := .cells #[.slice Ao59 x234000_1.length co59] 63 (0, 0)) (Zu BK233.out) hg (Kd.R_ne HO_233000.out BK233.out (by decide)))
             replace BK234 := Aside0.mk (QaW (g := gb234) (o := .cells #[.string a1_0, .string a1_1] 44 (0, 0)) (Zu BK234.out) hg (Kd.R_ne HO_233000.out BK234.out (by decide)))
             replace BK246 := Aside0.mk (QaW (g := gb246) (o := .cells #[.string ((rd_T46 t237 x334_1).f0.f0), .string ((rd_T46 t237 x334_1).f0.f1), .string ((rd_T46 t237 x334_1).f1), .int .i64 ((rd_T46 t237 x334_1).f2)] 46 (0, 0)) (Zu BK246.out) hg (Kd.R_ne HO_233000.out BK246.out (by decide)))
             replace BK254 := Aside0.mk (QaW (g := gb254) (o := .cells #[.string t247, .int .i64 t248, .int .i64 t249, .int .i64 t250, .int .i64 t251, .int .i64 t252] 84 (0, 0)) (Zu BK254.out) hg (Kd.R_ne HO_233000.out BK254.out (by decide)))
             replace BK257 := Aside0.mk (QaW (g := gb257) (o := .cells #[.string t247, .int .i64 t248, .int .i64 t249, .int .i64 t250, .int .i64 t251, .int .i64 t252] 84 (0, 0)) (Zu BK257.out) hg (Kd.R_ne HO_233000.out BK257.out (by decide)))
             replace HO260 := Aside0.mk (Kd.R_after (ok := (fun k_ => some k_ ≠ (.slice Ao59 x234000_1.length co59 : Value).ownBlock)) (by (with_reducible repeat (first | apply Kd.R_alloc | apply Kd.R_drewN | apply Kd.R_drew)); exact Kd.R_mono HO260.out (fun _ hk => ⟨hk.2, hk.1.2⟩)) hg hat)
             replace HB := Aside0.mk (hb)
             clear HO_233000
             clear ho hb hg hat
             refine hK.out _ _ ⟨(Qah BK232.out 0).trans rfl, (Qah BK233.out 0).trans rfl, (Qah BK257.out 0).trans rfl, (Qah BK257.out 1).trans rfl, (Qah BK257.out 2).trans rfl, (Qah BK257.out 3).trans rfl, (Qah BK257.out 4).trans rfl, (Qah BK257.out 5).trans rfl⟩ (fun hHeld => ?_)
             clear hK K
             refine norm_ (a' := ?_) ?_ ?_
             rotate_left
             ·show Act.put _ (some 9) _ = _
              simp only [Act.put, Zj, Zk, Zm, i64_w, i32_w]
              rfl
             refine one_ (i := 7) (N := some 13) #[T, T, T, T, T, T, T, T, F, F, F] rfl rfl (by kernel_rfl) (by decide) (fun K hK => ?_)
             refine Kd.R_lit_step (Kd.int .i64) _ 3 ?hg (N := 13) ?hd (xs := ([t252] : List Int)) (inner := [.int .i64 t252]) (ok := fun _ => True) (okp := fun _ => True) ?hr ?hp (fun _ hk => hk) trivial (Below.refl _ _) (Nat.le_refl _) (by simp) ?_; (case hd => rfl); (case hg => rfl); (case hr => first | (go_simp; done) | (go_simp; rfl)); (case hp => exact (Reps.one (show Kd.M (Kd.int .i64) _ _ _ t252 [.int .i64 t252] from rfl) (Reps.none _ _)))
             intro v265 w65 ho66 hb hg_ hnew_
             clear hg_ hnew_
             (first | rw [← Ny264.out] at ho66 | (simp only [Int.reduceToNat] at ho66; rw [← Ny264.out] at ho66))
             have HO266 := Aside0.mk (Kd.R_lower (Kd.R_new' (Kd.R_new' (Kd.R_new' ho66 (Kd.R_lt (Zr HO_234000.out))) (Kd.R_lt (Zr HO260.out))) (Kd.R_lt (Zr HO263.out))) (Qap (Zc7 GE231.out GE232.out GE233.out GE234.out GE246.out GE254.out GE257.out)))
             replace HO_332 := Aside0.mk (Kd.R_below (Zr HO_332.out) hb)
             replace HO_234000 := Aside0.mk (Kd.R_elder' (Zr HO_234000.out) (Kd.R_base ho66) hb)
             replace HO260 := Aside0.mk (Kd.R_elder' (Zr HO260.out) (Kd.R_base ho66) hb)
             replace HO263 := Aside0.mk (Kd.R_elder' (Zr HO263.out) (Kd.R_base ho66) hb)
             replace BK231 := Aside0.mk (Zi BK231.out hb)
             replace BK232 := Aside0.mk (Zi BK232.out hb)
             replace BK233 := Aside0.mk (Zi BK233.out hb)
             replace BK234 := Aside0.mk (Zi BK234.out hb)
             replace BK246 := Aside0.mk (Zi BK246.out hb)
             replace BK254 := Aside0.mk (Zi BK254.out hb)
             replace BK257 := Aside0.mk (Zi BK257.out hb)
             replace HB := Aside0.mk (Qaq (Zc7 GE231.out GE232.out GE233.out GE234.out GE246.out GE254.out GE257.out) hb)
             clear hb ho66
             refine hK.out _ _ ⟨(Qah BK232.out 0).trans rfl, (Qah BK233.out 0).trans rfl, (Qah BK257.out 0).trans rfl, (Qah BK257.out 1).trans rfl, (Qah BK257.out 2).trans rfl, (Qah BK257.out 3).trans rfl, (Qah BK257.out 4).trans rfl, (Qah BK257.out 5).trans rfl⟩ (fun hHeld => ?_)
             clear hK K
             refine norm_ (a' := ?_) ?_ ?_
             rotate_left
             ·show Act.put _ (some 13) _ = _
              simp only [Act.put, Zj, Zk, Zm, i64_w, i32_w]
              rfl
             exact norm_ (by simp only [putAll, Act.put, Zj, Zk, Zm]) (hCont (.slice Ao64 y258.length co64, v262, v265) _ ⟨hHeld, (by (with_reducible repeat (first | apply Kd.R_alloc | apply Kd.R_drewN | apply Kd.R_drew)); exact Kd.R_mono HO260.out (fun _ hk => ⟨hk.1.2, ⟨hk.2, hk.1.1⟩⟩)), (by (with_reducible repeat (first | apply Kd.R_alloc | apply Kd.R_drewN | apply Kd.R_drew)); exact Kd.R_mono HO263.out (fun _ hk => ⟨hk.1.2, ⟨hk.2, hk.1.1⟩⟩)), (by (with_reducible repeat (first | apply Kd.R_alloc | apply Kd.R_drewN | apply Kd.R_drew)); exact Kd.R_mono HO266.out (fun _ hk => ⟨hk.1.2, ⟨hk.2, hk.1.1.2⟩⟩)), (by (with_reducible repeat (first | apply Kd.R_alloc | apply Kd.R_drewN | apply Kd.R_drew)); exact Kd.R_mono HO_234000.out (fun _ hk => ⟨hk.1.1, ⟨hk.1.2, hk.2⟩⟩)), (by (with_reducible repeat (first | apply Kd.R_alloc | apply Kd.R_drewN | apply Kd.R_drew)); exact Kd.R_mono HO_332.out (fun _ hk => hk.2)), (Zu BK231.out), (Zu BK232.out), (Zu BK233.out), (Zu BK234.out), (Zu BK246.out), (Zu BK254.out), (Zu BK257.out), (Zc7 GE231.out GE232.out GE233.out GE234.out GE246.out GE254.out GE257.out)⟩)
            skip
            refine Kd.R_lit_step (Kd.int .i64) _ 3 ?hg (N := 13) ?hd (xs := ([t252] : List Int)) (inner := [.int .i64 t252]) (ok := fun _ => True) (okp := fun _ => True) ?hr ?hp (fun _ hk => hk) trivial (Below.refl _ _) (Nat.le_refl _) (by simp) ?_; (case hd => rfl); (case hg => rfl); (case hr => first | (go_simp; done) | (go_simp; rfl)); (case hp => exact (Reps.one (show Kd.M (Kd.int .i64) _ _ _ t252 [.int .i64 t252] from rfl) (Reps.none _ _)))
            intro v265 w63 ho64 hb hg_ hnew_
            clear hg_ hnew_
            (first | rw [← Ny264.out] at ho64 | (simp only [Int.reduceToNat] at ho64; rw [← Ny264.out] at ho64))
            have HO266 := Aside0.mk (Kd.R_lower (Kd.R_new' (Kd.R_new' (Kd.R_new' ho64 (Kd.R_lt (Zr HO_233000.out))) (Kd.R_lt (Zr HO_234000.out))) (Kd.R_lt (Zr HO260.out))) (Qap (Zc7 GE231.out GE232.out GE233.out GE234.out GE246.out GE254.out GE257.out)))
            replace HO_332 := Aside0.mk (Kd.R_below (Zr HO_332.out) hb)
            replace HO_233000 := Aside0.mk (Kd.R_elder' (Zr HO_233000.out) (Kd.R_base ho64) hb)
            replace HO_234000 := Aside0.mk (Kd.R_elder' (Zr HO_234000.out) (Kd.R_base ho64) hb)
            replace HO260 := Aside0.mk (Kd.R_elder' (Zr HO260.out) (Kd.R_base ho64) hb)
            replace BK231 := Aside0.mk (Zi BK231.out hb)
            replace BK232 := Aside0.mk (Zi BK232.out hb)
            replace BK233 := Aside0.mk (Zi BK233.out hb)
            replace BK234 := Aside0.mk (Zi BK234.out hb)
            replace BK246 := Aside0.mk (Zi BK246.out hb)
            replace BK254 := Aside0.mk (Zi BK254.out hb)
            replace BK257 := Aside0.mk (Zi BK257.out hb)
            replace HB := Aside0.mk (Qaq (Zc7 GE231.out GE232.out GE233.out GE234.out GE246.out GE254.out GE257.out) hb)
            clear hb ho64
            obtain ⟨Ao66, co66, eo66⟩ := Kd.R_slice HO260.out
            (first | subst eo66 | (injection eo66 with f1_ f2_ f3_; have f4_ := f1_.symm; have f5_ := f3_.symm; clear f1_ f2_ f3_; subst f4_; subst f5_))
            refine hK.out _ _ ⟨(Qah BK232.out 0).trans rfl, (Qah BK233.out 0).trans rfl, (Qah BK257.out 0).trans rfl, (Qah BK257.out 1).trans rfl, (Qah BK257.out 2).trans rfl, (Qah BK257.out 3).trans rfl, (Qah BK257.out 4).trans rfl, (Qah BK257.out 5).trans rfl⟩ (fun hHeld => ?_)
            clear hK K
            refine norm_ (a' := ?_) ?_ ?_
            rotate_left
            ·show Act.put _ (some 13) _ = _
             simp only [Act.put, Zj, Zk, Zm, i64_w, i32_w]
             rfl
            refine one_ (i := 3) (N := some 9) #[T, T, T, T, T, T, T, T, F, F, F] rfl rfl (by kernel_rfl) (by decide) (fun K hK => ?_)
            refine Kd.R_append_rows_step (Kd.int .i64) (w0 := w) w.heap.size (by rfl) (.tmp 6) (.tmp 8) 63 3 (.int .i64 0) 8 rfl Try.underlying63 info3 rfl (by decide) (by omega) (.slice Ao58 x233000_1.length co58) x233000_1 y258 _ _ _ (fun k_ => some k_ ≠ (.slice Ao59 x234000_1.length co59 : Value).ownBlock ∧ some k_ ≠ (.slice Ao66 y258.length co66 : Value).ownBlock ∧ some k_ ≠ (v265 : Value).ownBlock) (fun _ => False) rfl rfl ?aO ?aR (fun _ _ h => h) (fun _ h => h.elim) ?aF ?aB ?aS ?aL ?_
            (case aR => exact Zv (Kd.R_reads' HO260.out).2.2)
            (case aB => exact (Zc7 GE231.out GE232.out GE233.out GE234.out GE246.out GE254.out GE257.out))
            (case aF => exact (fun k_ hk => ⟨Kd.fresh' (Kd.R_lt (Zr HO_234000.out)) k_ hk, Kd.fresh' (Kd.R_lt (Zr HO260.out)) k_ hk, Kd.fresh' (Kd.R_lt (Zr HO266.out)) k_ hk⟩))
            (case aO => exact (by (with_reducible repeat (first | apply Kd.R_alloc | apply Kd.R_drewN | apply Kd.R_drew)); exact Kd.R_mono HO_233000.out (fun _ hk => ⟨hk.1.1, ⟨hk.1.2, hk.2⟩⟩)))
            (case aS => exact (Qap (Zc7 GE231.out GE232.out GE233.out GE234.out GE246.out GE254.out GE257.out)))
            (case aL => have := LMc49.out; omega)
            intro v262 w65 ho hb hg hat
            rw [← Ny261.out] at ho
            have HO263 := Aside0.mk (ho)
            replace HO_332 := Aside0.mk (Kd.R_over' (Zr HO_332.out) (Kd.R_typed (Zr HO_233000.out)) (by decide) hg)
            replace HO_234000 := Aside0.mk (Kd.R_after (ok := (fun k_ => some k_ ≠ (.slice Ao66 y258.length co66 : Value).ownBlock ∧ some k_ ≠ (v265 : Value).ownBlock)) (by (with_reducible repeat (first | apply Kd.R_alloc | apply Kd.R_drewN | apply Kd.R_drew)); exact Kd.R_mono HO_234000.out (fun _ hk => ⟨⟨hk.1.2, hk.2⟩, hk.1.1⟩)) hg hat)
            replace BK231 := Aside0.mk (QaW (g := gb231) (o := .cells #[.string a1_0, .string a1_1] 44 (0, 0)) (Zu BK231.out) hg (Kd.R_ne HO_233000.out BK231.out (by decide)))
            replace BK232 := Aside0.mk (QaW (g := gb232) (o := .cells #[.slice Ao58 x233000_1.length co58] 63 (0, 0)) (Zu BK232.out) hg (Kd.R_ne HO_233000.out BK232.out (by decide)))
            replace BK233 := Aside0.mk (QaW (g := gb233) (o := .cells #[.slice Ao59 x234000_1.length co59] 63 (0, 0)) (Zu BK233.out) hg (Kd.R_ne HO_233000.out BK233.out (by decide)))
            replace BK234 := Aside0.mk (QaW (g := gb234) (o := .cells #[.string a1_0, .string a1_1] 44 (0, 0)) (Zu BK234.out) hg (Kd.R_ne HO_233000.out BK234.out (by decide)))
            replace BK246 := Aside0.mk (QaW (g := gb246) (o := .cells #[.string ((rd_T46 t237 x334_1).f0.f0), .string ((rd_T46 t237 x334_1).f0.f1), .string ((rd_T46 t237 x334_1).f1), .int .i64 ((rd_T46 t237 x334_1).f2)] 46 (0, 0)) (Zu BK246.out) hg (Kd.R_ne HO_233000.out BK246.out (by decide)))
            replace BK254 := Aside0.mk (QaW (g := gb254) (o := .cells #[.string t247, .int .i64 t248, .int .i64 t249, .int .i64 t250, .int .i64 t251, .int .i64 t252] 84 (0, 0)) (Zu BK254.out) hg (Kd.R_ne HO_233000.out BK254.out (by decide)))
            replace BK257 := Aside0.mk (QaW (g := gb257) (o := .cells #[.string t247, .int .i64 t248, .int .i64 t249, .int .i64 t250, .int .i64 t251, .int .i64 t252] 84 (0, 0)) (Zu BK257.out) hg (Kd.R_ne HO_233000.out BK257.out (by decide)))
            replace HO260 := Aside0.mk (Kd.R_after (ok := (fun k_ => some k_ ≠ (.slice Ao59 x234000_1.length co59 : Value).ownBlock ∧ some k_ ≠ (v265 : Value).ownBlock)) (by (with_reducible repeat (first | apply Kd.R_alloc | apply Kd.R_drewN | apply Kd.R_drew)); exact Kd.R_mono HO260.out (fun _ hk => ⟨⟨hk.1.2, hk.2⟩, hk.1.1.2⟩)) hg hat)
            replace HO266 := Aside0.mk (Kd.R_after (ok := (fun k_ => some k_ ≠ (.slice Ao59 x234000_1.length co59 : Value).ownBlock ∧ some k_ ≠ (.slice Ao66 y258.length co66 : Value).ownBlock)) (by (with_reducible repeat (first | apply Kd.R_alloc | apply Kd.R_drewN | apply Kd.R_drew)); exact Kd.R_mono HO266.out (fun _ hk => ⟨⟨hk.1.2, hk.2⟩, hk.1.1.2⟩)) hg hat)
            replace HB := Aside0.mk (hb)
            clear HO_233000
            clear ho hb hg hat
            refine hK.out _ _ ⟨(Qah BK232.out 0).trans rfl, (Qah BK233.out 0).trans rfl, (Qah BK257.out 0).trans rfl, (Qah BK257.out 1).trans rfl, (Qah BK257.out 2).trans rfl, (Qah BK257.out 3).trans rfl, (Qah BK257.out 4).trans rfl, (Qah BK257.out 5).trans rfl⟩ (fun hHeld => ?_)
            clear hK K
            refine norm_ (a' := ?_) ?_ ?_
            rotate_left
            ·show Act.put _ (some 9) _ = _
             simp only [Act.put, Zj, Zk, Zm, i64_w, i32_w]
             rfl
            exact norm_ (by simp only [putAll, Act.put, Zj, Zk, Zm]) (hCont (.slice Ao66 y258.length co66, v262, v265) _ ⟨hHeld, (by (with_reducible repeat (first | apply Kd.R_alloc | apply Kd.R_drewN | apply Kd.R_drew)); exact Kd.R_mono HO260.out (fun _ hk => ⟨hk.2, ⟨hk.1.2, hk.1.1⟩⟩)), (by (with_reducible repeat (first | apply Kd.R_alloc | apply Kd.R_drewN | apply Kd.R_drew)); exact Kd.R_mono HO263.out (fun _ hk => ⟨hk.2.1, ⟨hk.2.2, hk.1⟩⟩)), (by (with_reducible repeat (first | apply Kd.R_alloc | apply Kd.R_drewN | apply Kd.R_drew)); exact Kd.R_mono HO266.out (fun _ hk => ⟨hk.1.2, ⟨hk.2, hk.1.1⟩⟩)), (by (with_reducible repeat (first | apply Kd.R_alloc | apply Kd.R_drewN | apply Kd.R_drew)); exact Kd.R_mono HO_234000.out (fun _ hk => ⟨hk.1.1, ⟨hk.2, hk.1.2⟩⟩)), (by (with_reducible repeat (first | apply Kd.R_alloc | apply Kd.R_drewN | apply Kd.R_drew)); exact Kd.R_mono HO_332.out (fun _ hk => hk.2)), (Zu BK231.out), (Zu BK232.out), (Zu BK233.out), (Zu BK234.out), (Zu BK246.out), (Zu BK254.out), (Zu BK257.out), (Zc7 GE231.out GE232.out GE233.out GE234.out GE246.out GE254.out GE257.out)⟩)
           skip
           refine Kd.R_lit_step (Kd.int .i64) _ 3 ?hg (N := 13) ?hd (xs := ([t252] : List Int)) (inner := [.int .i64 t252]) (ok := fun _ => True) (okp := fun _ => True) ?hr ?hp (fun _ hk => hk) trivial (Below.refl _ _) (Nat.le_refl _) (by simp) ?_; (case hd => rfl); (case hg => rfl); (case hr => first | (go_simp; done) | (go_simp; rfl)); (case hp => exact (Reps.one (show Kd.M (Kd.int .i64) _ _ _ t252 [.int .i64 t252] from rfl) (Reps.none _ _)))
           intro v265 w61 ho62 hb hg_ hnew_
           clear hg_ hnew_
           (first | rw [← Ny264.out] at ho62 | (simp only [Int.reduceToNat] at ho62; rw [← Ny264.out] at ho62))
           have HO266 := Aside0.mk (Kd.R_lower (Kd.R_new' (Kd.R_new' ho62 (Kd.R_lt (Zr HO_233000.out))) (Kd.R_lt (Zr HO_234000.out))) (Qap (Zc7 GE231.out GE232.out GE233.out GE234.out GE246.out GE254.out GE257.out)))
           replace HO_332 := Aside0.mk (Kd.R_below (Zr HO_332.out) hb)
           replace HO_233000 := Aside0.mk (Kd.R_elder' (Zr HO_233000.out) (Kd.R_base ho62) hb)
           replace HO_234000 := Aside0.mk (Kd.R_elder' (Zr HO_234000.out) (Kd.R_base ho62) hb)
           replace BK231 := Aside0.mk (Zi BK231.out hb)
           replace BK232 := Aside0.mk (Zi BK232.out hb)
           replace BK233 := Aside0.mk (Zi BK233.out hb)
           replace BK234 := Aside0.mk (Zi BK234.out hb)
           replace BK246 := Aside0.mk (Zi BK246.out hb)
           replace BK254 := Aside0.mk (Zi BK254.out hb)
           replace BK257 := Aside0.mk (Zi BK257.out hb)
           replace HB := Aside0.mk (Qaq (Zc7 GE231.out GE232.out GE233.out GE234.out GE246.out GE254.out GE257.out) hb)
           clear hb ho62
           refine hK.out _ _ ⟨(Qah BK232.out 0).trans rfl, (Qah BK233.out 0).trans rfl, (Qah BK257.out 0).trans rfl, (Qah BK257.out 1).trans rfl, (Qah BK257.out 2).trans rfl, (Qah BK257.out 3).trans rfl, (Qah BK257.out 4).trans rfl, (Qah BK257.out 5).trans rfl⟩ (fun hHeld => ?_)
           clear hK K
           refine norm_ (a' := ?_) ?_ ?_
           rotate_left
           ·show Act.put _ (some 13) _ = _
            simp only [Act.put, Zj, Zk, Zm, i64_w, i32_w]
            rfl
           refine one_ (i := 2) (N := some 8) #[T, T, T, F, T, T, T, T, F, F, F] rfl rfl (by kernel_rfl) (by decide) (fun K hK => ?_)
           refine Kd.R_lit_step (Kd.int .i64) _ 3 ?hg (N := 8) ?hd (xs := ([t255] : List Int)) (inner := [.int .i64 t255]) (ok := fun _ => True) (okp := fun _ => True) ?hr ?hp (fun _ hk => hk) trivial (Below.refl _ _) (Nat.le_refl _) (by simp) ?_; (case hd => rfl); (case hg => rfl); (case hr => first | (go_simp; done) | (go_simp; rfl)); (case hp => exact (Reps.one (show Kd.M (Kd.int .i64) _ _ _ t255 [.int .i64 t255] from rfl) (Reps.none _ _)))
           intro v259 w63 ho64 hb hg_ hnew_
           clear hg_ hnew_
           (first | rw [← Ny258.out] at ho64 | (simp only [Int.reduceToNat] at ho64; rw [← Ny258.out] at ho64))
           have HO260 := Aside0.mk (Kd.R_lower (Kd.R_new' (Kd.R_new' (Kd.R_new' ho64 (Kd.R_lt (Zr HO_233000.out))) (Kd.R_lt (Zr HO_234000.out))) (Kd.R_lt (Zr HO266.out))) (Qap (Zc7 GE231.out GE232.out GE233.out GE234.out GE246.out GE254.out GE257.out)))
           replace HO_332 := Aside0.mk (Kd.R_below (Zr HO_332.out) hb)
           replace HO_233000 := Aside0.mk (Kd.R_elder' (Zr HO_233000.out) (Kd.R_base ho64) hb)
           replace HO_234000 := Aside0.mk (Kd.R_elder' (Zr HO_234000.out) (Kd.R_base ho64) hb)
           replace HO266 := Aside0.mk (Kd.R_elder' (Zr HO266.out) (Kd.R_base ho64) hb)
           replace BK231 := Aside0.mk (Zi BK231.out hb)
           replace BK232 := Aside0.mk (Zi BK232.out hb)
           replace BK233 := Aside0.mk (Zi BK233.out hb)
           replace BK234 := Aside0.mk (Zi BK234.out hb)
           replace BK246 := Aside0.mk (Zi BK246.out hb)
           replace BK254 := Aside0.mk (Zi BK254.out hb)
           replace BK257 := Aside0.mk (Zi BK257.out hb)
           replace HB := Aside0.mk (Qaq (Zc7 GE231.out GE232.out GE233.out GE234.out GE246.out GE254.out GE257.out) hb)
           clear hb ho64
           obtain ⟨Ao66, co66, eo66⟩ := Kd.R_slice HO260.out
           (first | subst eo66 | (injection eo66 with f1_ f2_ f3_; have f4_ := f1_.symm; have f5_ := f3_.symm; clear f1_ f2_ f3_; subst f4_; subst f5_))
           refine hK.out _ _ ⟨(Qah BK232.out 0).trans rfl, (Qah BK233.out 0).trans rfl, (Qah BK257.out 0).trans rfl, (Qah BK257.out 1).trans rfl, (Qah BK257.out 2).trans rfl, (Qah BK257.out 3).trans rfl, (Qah BK257.out 4).trans rfl, (Qah BK257.out 5).trans rfl⟩ (fun hHeld => ?_)
           clear hK K
           refine norm_ (a' := ?_) ?_ ?_
           rotate_left
           ·show Act.put _ (some 8) _ = _
            simp only [Act.put, Zj, Zk, Zm, i64_w, i32_w]
            rfl
           refine one_ (i := 3) (N := some 9) #[T, T, T, T, T, T, T, T, F, F, F] rfl rfl (by kernel_rfl) (by decide) (fun K hK => ?_)
           refine Kd.R_append_rows_step (Kd.int .i64) (w0 := w) w.heap.size (by rfl) (.tmp 6) (.tmp 8) 63 3 (.int .i64 0) 8 rfl Try.underlying63 info3 rfl (by decide) (by omega) (.slice Ao58 x233000_1.length co58) x233000_1 y258 _ _ _ (fun k_ => some k_ ≠ (.slice Ao59 x234000_1.length co59 : Value).ownBlock ∧ some k_ ≠ (v265 : Value).ownBlock ∧ some k_ ≠ (.slice Ao66 y258.length co66 : Value).ownBlock) (fun _ => False) rfl rfl ?aO ?aR (fun _ _ h => h) (fun _ h => h.elim) ?aF ?aB ?aS ?aL ?_
           (case aR => exact Zv (Kd.R_reads' HO260.out).2.2)
           (case aB => exact (Zc7 GE231.out GE232.out GE233.out GE234.out GE246.out GE254.out GE257.out))
           (case aF => exact (fun k_ hk => ⟨Kd.fresh' (Kd.R_lt (Zr HO_234000.out)) k_ hk, Kd.fresh' (Kd.R_lt (Zr HO266.out)) k_ hk, Kd.fresh' (Kd.R_lt (Zr HO260.out)) k_ hk⟩))
           (case aO => exact (by (with_reducible repeat (first | apply Kd.R_alloc | apply Kd.R_drewN | apply Kd.R_drew)); exact Kd.R_mono HO_233000.out (fun _ hk => ⟨hk.1.1, ⟨hk.1.2, hk.2⟩⟩)))
           (case aS => exact (Qap (Zc7 GE231.out GE232.out GE233.out GE234.out GE246.out GE254.out GE257.out)))
           (case aL => have := LMc49.out; omega)
           intro v262 w65 ho hb hg hat
           rw [← Ny261.out] at ho
           have HO263 := Aside0.mk (ho)
           replace HO_332 := Aside0.mk (Kd.R_over' (Zr HO_332.out) (Kd.R_typed (Zr HO_233000.out)) (by decide) hg)
           replace HO_234000 := Aside0.mk (Kd.R_after (ok := (fun k_ => some k_ ≠ (v265 : Value).ownBlock ∧ some k_ ≠ (.slice Ao66 y258.length co66 : Value).ownBlock)) (by (with_reducible repeat (first | apply Kd.R_alloc | apply Kd.R_drewN | apply Kd.R_drew)); exact Kd.R_mono HO_234000.out (fun _ hk => ⟨⟨hk.1.2, hk.2⟩, hk.1.1⟩)) hg hat)
           replace BK231 := Aside0.mk (QaW (g := gb231) (o := .cells #[.string a1_0, .string a1_1] 44 (0, 0)) (Zu BK231.out) hg (Kd.R_ne HO_233000.out BK231.out (by decide)))
           replace BK232 := Aside0.mk (QaW (g := gb232) (o := .cells #[.slice Ao58 x233000_1.length co58] 63 (0, 0)) (Zu BK232.out) hg (Kd.R_ne HO_233000.out BK232.out (by decide)))
           replace BK233 := Aside0.mk (QaW (g := gb233) (o := .cells #[.slice Ao59 x234000_1.length co59] 63 (0, 0)) (Zu BK233.out) hg (Kd.R_ne HO_233000.out BK233.out (by decide)))
           replace BK234 := Aside0.mk (QaW (g := gb234) (o := .cells #[.string a1_0, .string a1_1] 44 (0, 0)) (Zu BK234.out) hg (Kd.R_ne HO_233000.out BK234.out (by decide)))
           replace BK246 := Aside0.mk (QaW (g := gb246) (o := .cells #[.string ((rd_T46 t237 x334_1).f0.f0), .string ((rd_T46 t237 x334_1).f0.f1), .string ((rd_T46 t237 x334_1).f1), .int .i64 ((rd_T46 t237 x334_1).f2)] 46 (0, 0)) (Zu BK246.out) hg (Kd.R_ne HO_233000.out BK246.out (by decide)))
           replace BK254 := Aside0.mk (QaW (g := gb254) (o := .cells #[.string t247, .int .i64 t248, .int .i64 t249, .int .i64 t250, .int .i64 t251, .int .i64 t252] 84 (0, 0)) (Zu BK254.out) hg (Kd.R_ne HO_233000.out BK254.out (by decide)))
           replace BK257 := Aside0.mk (QaW (g := gb257) (o := .cells #[.string t247, .int .i64 t248, .int .i64 t249, .int .i64 t250, .int .i64 t251, .int .i64 t252] 84 (0, 0)) (Zu BK257.out) hg (Kd.R_ne HO_233000.out BK257.out (by decide)))
           replace HO266 := Aside0.mk (Kd.R_after (ok := (fun k_ => some k_ ≠ (.slice Ao59 x234000_1.length co59 : Value).ownBlock ∧ some k_ ≠ (.slice Ao66 y258.length co66 : Value).ownBlock)) (by (with_reducible repeat (first | apply Kd.R_alloc | apply Kd.R_drewN | apply Kd.R_drew)); exact Kd.R_mono HO266.out (fun _ hk => ⟨⟨hk.1.2, hk.2⟩, hk.1.1.2⟩)) hg hat)
           replace HO260 := Aside0.mk (Kd.R_after (ok := (fun k_ => some k_ ≠ (.slice Ao59 x234000_1.length co59 : Value).ownBlock ∧ some k_ ≠ (v265 : Value).ownBlock)) (by (with_reducible repeat (first | apply Kd.R_alloc | apply Kd.R_drewN | apply Kd.R_drew)); exact Kd.R_mono HO260.out (fun _ hk => ⟨⟨hk.1.2, hk.2⟩, hk.1.1.2⟩)) hg hat)
           replace HB := Aside0.mk (hb)
           clear HO_233000
           clear ho hb hg hat
           refine hK.out _ _ ⟨(Qah BK232.out 0).trans rfl, (Qah BK233.out 0).trans rfl, (Qah BK257.out 0).trans rfl, (Qah BK257.out 1).trans rfl, (Qah BK257.out 2).trans rfl, (Qah BK257.out 3).trans rfl, (Qah BK257.out 4).trans rfl, (Qah BK257.out 5).trans rfl⟩ (fun hHeld => ?_)
           clear hK K
           refine norm_ (a' := ?_) ?_ ?_
           rotate_left
           ·show Act.put _ (some 9) _ = _
            simp only [Act.put, Zj, Zk, Zm, i64_w, i32_w]
            rfl
           exact norm_ (by simp only [putAll, Act.put, Zj, Zk, Zm]) (hCont (.slice Ao66 y258.length co66, v262, v265) _ ⟨hHeld, (by (with_reducible repeat (first | apply Kd.R_alloc | apply Kd.R_drewN | apply Kd.R_drew)); exact Kd.R_mono HO260.out (fun _ hk => ⟨hk.2, ⟨hk.1.2, hk.1.1⟩⟩)), (by (with_reducible repeat (first | apply Kd.R_alloc | apply Kd.R_drewN | apply Kd.R_drew)); exact Kd.R_mono HO263.out (fun _ hk => ⟨hk.2.2, ⟨hk.2.1, hk.1⟩⟩)), (by (with_reducible repeat (first | apply Kd.R_alloc | apply Kd.R_drewN | apply Kd.R_drew)); exact Kd.R_mono HO266.out (fun _ hk => ⟨hk.1.2, ⟨hk.2, hk.1.1⟩⟩)), (by (with_reducible repeat (first | apply Kd.R_alloc | apply Kd.R_drewN | apply Kd.R_drew)); exact Kd.R_mono HO_234000.out (fun _ hk => ⟨hk.1.2, ⟨hk.2, hk.1.1⟩⟩)), (by (with_reducible repeat (first | apply Kd.R_alloc | apply Kd.R_drewN | apply Kd.R_drew)); exact Kd.R_mono HO_332.out (fun _ hk => hk.2)), (Zu BK231.out), (Zu BK232.out), (Zu BK233.out), (Zu BK234.out), (Zu BK246.out), (Zu BK254.out), (Zu BK257.out), (Zc7 GE231.out GE232.out GE233.out GE234.out GE246.out GE254.out GE257.out)⟩)
          rintro ⟨v259, v262, v265⟩ w67 ⟨hS_, h0_, h1_, h2_, h3_, h4_, h5_, h6_, h7_, h8_, h9_, h10_, h11_, h12_⟩
          have n0_ : Aside0 (Kd.R (Kd.int .i64) 3 w67 w.heap.size (fun k_ => some k_ ≠ (v262 : Value).ownBlock ∧ some k_ ≠ (v265 : Value).ownBlock ∧ some k_ ≠ (.slice Ao59 x234000_1.length co59 : Value).ownBlock) v259 y258) := ⟨h0_⟩
          have n1_ : Aside0 (Kd.R (Kd.int .i64) 3 w67 w.heap.size (fun k_ => some k_ ≠ (v259 : Value).ownBlock ∧ some k_ ≠ (v265 : Value).ownBlock ∧ some k_ ≠ (.slice Ao59 x234000_1.length co59 : Value).ownBlock) v262 y261) := ⟨h1_⟩
          have n2_ : Aside0 (Kd.R (Kd.int .i64) 3 w67 w.heap.size (fun k_ => some k_ ≠ (v259 : Value).ownBlock ∧ some k_ ≠ (v262 : Value).ownBlock ∧ some k_ ≠ (.slice Ao59 x234000_1.length co59 : Value).ownBlock) v265 y264) := ⟨h2_⟩
          have n3_ : Aside0 (Kd.R (Kd.int .i64) 3 w67 w.heap.size (fun k_ => some k_ ≠ (v259 : Value).ownBlock ∧ some k_ ≠ (v262 : Value).ownBlock ∧ some k_ ≠ (v265 : Value).ownBlock) (.slice Ao59 x234000_1.length co59) x234000_1) := ⟨h3_⟩
          have n4_ : Aside0 (Kd.R k46 46 w67 w.heap.size (fun k_ => k_ ≠ gb246) (.slice (some ad245) t237.length co26) t237) := ⟨h4_⟩
          have n5_ : Aside0 (w67.heap[gb231]? = some (.cells #[.string a1_0, .string a1_1] 44 (0, 0))) := ⟨h5_⟩
          have n6_ : Aside0 (w67.heap[gb232]? = some (.cells #[.slice Ao58 x233000_1.length co58] 63 (0, 0))) := ⟨h6_⟩
          have n7_ : Aside0 (w67.heap[gb233]? = some (.cells #[.slice Ao59 x234000_1.length co59] 63 (0, 0))) := ⟨h7_⟩
          have n8_ : Aside0 (w67.heap[gb234]? = some (.cells #[.string a1_0, .string a1_1] 44 (0, 0))) := ⟨h8_⟩
          have n9_ : Aside0 (w67.heap[gb246]? = some (.cells #[.string ((rd_T46 t237 x334_1).f0.f0), .string ((rd_T46 t237 x334_1).f0.f1), .string ((rd_T46 t237 x334_1).f1), .int .i64 ((rd_T46 t237 x334_1).f2)] 46 (0, 0))) := ⟨h9_⟩
          have n10_ : Aside0 (w67.heap[gb254]? = some (.cells #[.string t247, .int .i64 t248, .int .i64 t249, .int .i64 t250, .int .i64 t251, .int .i64 t252] 84 (0, 0))) := ⟨h10_⟩
          have n11_ : Aside0 (w67.heap[gb257]? = some (.cells #[.string t247, .int .i64 t248, .int .i64 t249, .int .i64 t250, .int .i64 t251, .int .i64 t252] 84 (0, 0))) := ⟨h11_⟩
          have n12_ : Aside0 (Below w.heap.size w w67) := ⟨h12_⟩
          clear HO_332
          clear HO_233000
          clear HO_234000
          clear BK231
          clear BK232
          clear BK233
          clear BK234
          clear BK246
          clear BK254
          clear BK257
          clear HB
          clear h0_ h1_ h2_ h3_ h4_ h5_ h6_ h7_ h8_ h9_ h10_ h11_ h12_
          have HO260 := n0_
          have HO263 := n1_
          have HO266 := n2_
          have HO_234000 := n3_
          have HO_332 := n4_
          have BK231 := n5_
          have BK232 := n6_
          have BK233 := n7_
          have BK234 := n8_
          have BK246 := n9_
          have BK254 := n10_
          have BK257 := n11_
          have HB := n12_
          clear n0_ n1_ n2_ n3_ n4_ n5_ n6_ n7_ n8_ n9_ n10_ n11_ n12_
          have hHeld : w67.cell? ⟨gb232, 0, none⟩ = some (.slice Ao58 x233000_1.length co58) ∧ w67.cell? ⟨gb233, 0, none⟩ = some (.slice Ao59 x234000_1.length co59) ∧ w67.cell? ⟨gb257, 0, none⟩ = some (.string t247) ∧ w67.cell? ⟨gb257, 1, none⟩ = some (.int .i64 t248) ∧ w67.cell? ⟨gb257, 2, none⟩ = some (.int .i64 t249) ∧ w67.cell? ⟨gb257, 3, none⟩ = some (.int .i64 t250) ∧ w67.cell? ⟨gb257, 4, none⟩ = some (.int .i64 t251) ∧ w67.cell? ⟨gb257, 5, none⟩ = some (.int .i64 t252) := hS_
          obtain ⟨Ao69, co69, eo69⟩ := Kd.R_slice HO266.out
          (first | subst eo69 | (injection eo69 with f1_ f2_ f3_; have f4_ := f1_.symm; have f5_ := f3_.symm; clear f1_ f2_ f3_; subst f4_; subst f5_))
          refine norm_ (a' := ?_) ?_ ?_
          rotate_left
          ·simp only [putAll, Act.put, Zj, Zk, Zm]
           rfl
          refine one_ (i := 8) (N := some 14) #[T, T, T, T, T, T, T, T, T, F, F] rfl rfl (by kernel_rfl) (by decide) (fun K hK => ?_)
          refine Kd.R_append_rows_step (Kd.int .i64) (w0 := w) w.heap.size (by rfl) (.tmp 10) (.tmp 13) 63 3 (.int .i64 0) 8 rfl Try.underlying63 info3 rfl (by decide) (by omega) (.slice Ao59 x234000_1.length co59) x234000_1 y264 _ _ _ (fun k_ => some k_ ≠ (v259 : Value).ownBlock ∧ some k_ ≠ (v262 : Value).ownBlock ∧ some k_ ≠ (.slice Ao69 y264.length co69 : Value).ownBlock) (fun _ => False) rfl rfl ?aO ?aR (fun _ _ h => h) (fun _ h => h.elim) ?aF ?aB ?aS ?aL ?_
          (case aR => exact Zv (Kd.R_reads' HO266.out).2.2)
          (case aB => exact (Zc7 GE231.out GE232.out GE233.out GE234.out GE246.out GE254.out GE257.out))
          (case aF => exact (fun k_ hk => ⟨Kd.fresh' (Kd.R_lt (Zr HO260.out)) k_ hk, Kd.fresh' (Kd.R_lt (Zr HO263.out)) k_ hk, Kd.fresh' (Kd.R_lt (Zr HO266.out)) k_ hk⟩))
          (case aO => exact (Zr HO_234000.out))
          (case aS => exact (Qap (Zc7 GE231.out GE232.out GE233.out GE234.out GE246.out GE254.out GE257.out)))
          (case aL => have := LMc50.out; omega)
          intro v268 w68 ho hb hg hat
          rw [← Ny267.out] at ho
          have HO269 := Aside0.mk (ho)
          replace HO_332 := Aside0.mk (Kd.R_over' (Zr HO_332.out) (Kd.R_typed (Zr HO_234000.out)) (by decide) hg)
          replace BK231 := Aside0.mk (QaW (g := gb231) (o := .cells #[.string a1_0, .string a1_1] 44 (0, 0)) (Zu BK231.out) hg (Kd.R_ne HO_234000.out BK231.out (by decide)))
          replace BK232 := Aside0.mk (QaW (g := gb232) (o := .cells #[.slice Ao58 x233000_1.length co58] 63 (0, 0)) (Zu BK232.out) hg (Kd.R_ne HO_234000.out BK232.out (by decide)))
          replace BK233 := Aside0.mk (QaW (g := gb233) (o := .cells #[.slice Ao59 x234000_1.length co59] 63 (0, 0)) (Zu BK233.out) hg (Kd.R_ne HO_234000.out BK233.out (by decide)))
          replace BK234 := Aside0.mk (QaW (g := gb234) (o := .cells #[.string a1_0, .string a1_1] 44 (0, 0)) (Zu BK234.out) hg (Kd.R_ne HO_234000.out BK234.out (by decide)))
          replace BK246 := Aside0.mk (QaW (g := gb246) (o := .cells #[.string ((rd_T46 t237 x334_1).f0.f0), .string ((rd_T46 t237 x334_1).f0.f1), .string ((rd_T46 t237 x334_1).f1), .int .i64 ((rd_T46 t237 x334_1).f2)] 46 (0, 0)) (Zu BK246.out) hg (Kd.R_ne HO_234000.out BK246.out (by decide)))
          replace BK254 := Aside0.mk (QaW (g := gb254) (o := .cells #[.string t247, .int .i64 t248, .int .i64 t249, .int .i64 t250, .int .i64 t251, .int .i64 t252] 84 (0, 0)) (Zu BK254.out) hg (Kd.R_ne HO_234000.out BK254.out (by decide)))
          replace BK257 := Aside0.mk (QaW (g := gb257) (o := .cells #[.string t247, .int .i64 t248, .int .i64 t249, .int .i64 t250, .int .i64 t251, .int .i64 t252] 84 (0, 0)) (Zu BK257.out) hg (Kd.R_ne HO_234000.out BK257.out (by decide)))
          replace HO260 := Aside0.mk (Kd.R_after (ok := (fun k_ => some k_ ≠ (v262 : Value).ownBlock ∧ some k_ ≠ (.slice Ao69 y264.length co69 : Value).ownBlock)) (by (with_reducible repeat (first | apply Kd.R_alloc | apply Kd.R_drewN | apply Kd.R_drew)); exact Kd.R_mono HO260.out (fun _ hk => ⟨⟨hk.1, hk.2.1⟩, hk.2.2⟩)) hg hat)
          replace HO263 := Aside0.mk (Kd.R_after (ok := (fun k_ => some k_ ≠ (v259 : Value).ownBlock ∧ some k_ ≠ (.slice Ao69 y264.length co69 : Value).ownBlock)) (by (with_reducible repeat (first | apply Kd.R_alloc | apply Kd.R_drewN | apply Kd.R_drew)); exact Kd.R_mono HO263.out (fun _ hk => ⟨⟨hk.1, hk.2.1⟩, hk.2.2⟩)) hg hat)
          replace HO266 := Aside0.mk (Kd.R_after (ok := (fun k_ => some k_ ≠ (v259 : Value).ownBlock ∧ some k_ ≠ (v262 : Value).ownBlock)) (by (with_reducible repeat (first | apply Kd.R_alloc | apply Kd.R_drewN | apply Kd.R_drew)); exact Kd.R_mono HO266.out (fun _ hk => ⟨⟨hk.1, hk.2.1⟩, hk.2.2⟩)) hg hat)
          replace HB := Aside0.mk (hb)
          clear HO_234000
          clear ho hb hg hat
          obtain ⟨Ao70, co70, eo70⟩ := Kd.R_slice HO263.out
          (first | subst eo70 | (injection eo70 with f1_ f2_ f3_; have f4_ := f1_.symm; have f5_ := f3_.symm; clear f1_ f2_ f3_; subst f4_; subst f5_))
          obtain ⟨Ao72, co72, eo72⟩ := Kd.R_slice HO269.out
          (first | subst eo72 | (injection eo72 with f1_ f2_ f3_; have f4_ := f1_.symm; have f5_ := f3_.symm; clear f1_ f2_ f3_; subst f4_; subst f5_))
          refine hK.out _ _ ⟨(Qah BK232.out 0).trans rfl, (Qah BK233.out 0).trans rfl, (Qah BK257.out 0).trans rfl, (Qah BK257.out 1).trans rfl, (Qah BK257.out 2).trans rfl, (Qah BK257.out 3).trans rfl, (Qah BK257.out 4).trans rfl, (Qah BK257.out 5).trans rfl⟩ (fun hHeld => ?_)
          clear hK K
          refine norm_ (a' := ?_) ?_ ?_
          rotate_left
          ·show Act.put _ (some 14) _ = _
           simp only [Act.put, Zj, Zk, Zm, i64_w, i32_w]
           rfl
          refine last_ (i := 9) (N := none) #[T, T, T, T, T, T, T, T, T, T, F] rfl rfl (by kernel_rfl) (by decide) (fun K hK => ?_)
          have hs71 : w68.cell? ⟨gb232, 0, none⟩ = some (.slice Ao58 x233000_1.length co58) := (Qah BK232.out 0).trans rfl
          have hfs71 := Qai BK232.out 0
          have hns71_0 := NB231_232.out
          have hns71_2 := NB233_232.out
          have hns71_3 := NB234_232.out
          have hns71_4 := NB246_232.out
          have hns71_5 := NB254_232.out
          have hns71_6 := NB257_232.out
          have hms71_0 := NB232_231.out
          have hms71_2 := NB232_233.out
          have hms71_3 := NB232_234.out
          have hms71_4 := NB232_246.out
          have hms71_5 := NB232_254.out
          have hms71_6 := NB232_257.out
          refine skip_ (w1 := ?_) (by rfl) rfl ?_ ?_
          rotate_left
          ·go_simp
           rfl
          refine hK.out _ _ ?_
          clear hK K
          refine last_ (i := 10) (N := none) #[T, T, T, T, T, T, T, T, T, T, T] rfl rfl (by kernel_rfl) (by decide) (fun K hK => ?_)
          have hs73 : w68.cell? ⟨gb233, 0, none⟩ = some (.slice Ao59 x234000_1.length co59) := (Qah BK233.out 0).trans rfl
          have hfs73 := Qai BK233.out 0
          have hns73_0 := NB231_233.out
          have hns73_1 := NB232_233.out
          have hns73_3 := NB234_233.out
          have hns73_4 := NB246_233.out
          have hns73_5 := NB254_233.out
          have hns73_6 := NB257_233.out
          have hms73_0 := NB233_231.out
          have hms73_1 := NB233_232.out
          have hms73_3 := NB233_234.out
          have hms73_4 := NB233_246.out
          have hms73_5 := NB233_254.out
          have hms73_6 := NB233_257.out
          refine skip_ (w1 := ?_) (by rfl) rfl ?_ ?_
          rotate_left
          ·go_simp
           rfl
          refine hK.out _ _ ?_
          clear hK K
          refine done_ (by kernel_rfl) ?_
          go_upto_region 12 with (first | ((first | go_end0 | (refine bodyPost_ret (results_none rfl _ _ _) rfl ?_))))
          (try simp only [Act.put, Zj, Zk, Zm])
          have H' := Aside0.mk H
          clear H
          go_wp2
          go_roundg k1
          case measure => have := HK1.out; omega
          case rel => exact ⟨(wrap64 (x334_1 + 1)), (y261), (y267), (.slice Ao70 y261.length co70), (.slice Ao72 y267.length co72), (Zs), H', ⟨by have := HK1.out; omega⟩, ⟨by (with_reducible repeat (first | apply Kd.R_alloc | apply Kd.R_drewN | apply Kd.R_drew)); exact Kd.R_mono (Kd.R_far (p := ⟨gb233, 0, none⟩) (Kd.R_far (p := ⟨gb232, 0, none⟩) (Kd.R_types (Kd.R_types HO_332.out BK232.out (by decide)) BK233.out (by decide)) (fun _ hk => hk.1.2) (.slice Ao70 y261.length co70)) (fun _ hk => hk.2) (.slice Ao72 y267.length co72)) (fun _ hk => trivial)⟩, ⟨by (with_reducible repeat (first | apply Kd.R_alloc | apply Kd.R_drewN | apply Kd.R_drew)); exact Kd.R_mono (Kd.R_far (p := ⟨gb233, 0, none⟩) (Kd.R_far (p := ⟨gb232, 0, none⟩) (Kd.R_types (Kd.R_types HO263.out BK232.out (by decide)) BK233.out (by decide)) (fun _ hk => hk.1.2) (.slice Ao70 y261.length co70)) (fun _ hk => hk.2) (.slice Ao72 y267.length co72)) (fun _ hk => hk.1.1.2)⟩, ⟨by (with_reducible repeat (first | apply Kd.R_alloc | apply Kd.R_drewN | apply Kd.R_drew)); exact Kd.R_mono (Kd.R_far (p := ⟨gb233, 0, none⟩) (Kd.R_far (p := ⟨gb232, 0, none⟩) (Kd.R_types (Kd.R_types HO269.out BK232.out (by decide)) BK233.out (by decide)) (fun _ hk => hk.1.2) (.slice Ao70 y261.length co70)) (fun _ hk => hk.2) (.slice Ao72 y267.length co72)) (fun _ hk => hk.1.1.2.1)⟩, ⟨Zg2 BK231.out NB231_233.out NB231_232.out⟩, ⟨by (with_reducible repeat (first | refine Qab ?_ _ | refine Qac ?_ | refine Qaa ?_ _)); refine Qao ?_ NB232_233.out _; (with_reducible repeat (first | refine Qab ?_ _ | refine Qac ?_ | refine Qaa ?_ _)); refine Qar (cs := #[.slice Ao58 x233000_1.length co58]) ?_ 0 _ rfl; (with_reducible repeat (first | refine Qab ?_ _ | refine Qac ?_ | refine Qaa ?_ _)); exact BK232.out⟩, ⟨by (with_reducible repeat (first | refine Qab ?_ _ | refine Qac ?_ | refine Qaa ?_ _)); refine Qar (cs := #[.slice Ao59 x234000_1.length co59]) ?_ 0 _ rfl; (with_reducible repeat (first | refine Qab ?_ _ | refine Qac ?_ | refine Qaa ?_ _)); refine Qao ?_ NB233_232.out _; (with_reducible repeat (first | refine Qab ?_ _ | refine Qac ?_ | refine Qaa ?_ _)); exact BK233.out⟩, ⟨Zg2 BK234.out NB234_233.out NB234_232.out⟩, ⟨Zc7 GE231.out GE232.out GE233.out GE234.out GE246.out GE254.out GE257.out⟩⟩
         rw [if_neg c50] at H
         exact absurd H (by simp)
        rw [if_neg c49] at H
        exact absurd H (by simp)
       rw [if_neg c48] at H
       have c48b0 : (t256 == 0) = F := beq_eq_false_iff_ne.mpr c48
       have c48b1 : (t256 != 0) = T := bne_iff_ne.mpr c48
       (try simp only [c48b0, c48b1])
       go_upto_region 3 with (fail)
       simp only [Option.some.injEq, Prod.mk.injEq] at H
       obtain ⟨rfl, rfl⟩ := H
       have hnb74 := NB232_231.out
       have hnc74 := NB231_232.out
       have hnb75 := NB232_233.out
       have hnc75 := NB233_232.out
       have hnb76 := NB232_234.out
       have hnc76 := NB234_232.out
       have hnb77 := NB232_246.out
       have hnc77 := NB246_232.out
       have hnb78 := NB232_254.out
       have hnc78 := NB254_232.out
       obtain ⟨hcz79_0, hfz79_0⟩ := Zy (v := (u233000)) BK232.out 0
       go_wp2
       refine bodyPost_ret (QbO rfl _ _ gb232 63 (.slice none 0 0) (0, 0) _ rfl (Zp2 BK232.out) Try.underlying63 rfl (by kernel_rfl)) rfl ?_
       exact ⟨_, Zq, by first | exact Kd.R_nil _ _ _ _ _ | exact Kd.N_nil _ _ _ _ _ | exact Kd.V_nil _ _ _ _ _ | exact Kd.Q_nil _ _ _ _ _ | exact Kd.S_nil _ _ _ _ _, Zc6 GE231.out GE232.out GE233.out GE234.out GE246.out GE254.out⟩
      rw [if_neg c29] at H
      exact absurd H (by simp)
     rw [if_neg c28] at H
     exact absurd H (by simp)
    rw [if_neg c27] at H
    have c27b0 : decide (x334_1 < (t237.length : Int)) = F := decide_eq_false c27
    clear c27
    (try simp only [c27b0])
    go_upto_region 3 with (fail)
    have HC80 := Aside0.mk H
    clear H
    go_upto_region 5 with (fail)
    go_cut [30] (fun v30 wc => ∃ (kq : Nat) (x30_79 : Bool), v30 = .bool x30_79 ∧ Aside0 (Qas.j1 kq a2 x30_79 x233000_1 x234000_1 = some (r1, r2)) ∧ Aside0 (kq ≤ k1) ∧ Aside0 (Kd.R (Kd.int .i64) 3 wc w.heap.size (fun k_ => some k_ ≠ (u234000 : Value).ownBlock) u233000 x233000_1) ∧ Aside0 (Kd.R (Kd.int .i64) 3 wc w.heap.size (fun k_ => some k_ ≠ (u233000 : Value).ownBlock) u234000 x234000_1) ∧ Aside0 (wc.heap[gb231]? = some (.cells #[.string a1_0, .string a1_1] 44 (0, 0))) ∧ Aside0 (wc.heap[gb232]? = some (.cells #[u233000] 63 (0, 0))) ∧ Aside0 (wc.heap[gb233]? = some (.cells #[u234000] 63 (0, 0))) ∧ Aside0 (wc.heap[gb234]? = some (.cells #[.string a1_0, .string a1_1] 44 (0, 0))) ∧ Aside0 (Below w.heap.size w wc))
    case first =>
     have H := HC80.out
     clear HC80
     by_cases c81 : a2 < 0
     ·rw [if_pos c81] at H
      have c81b0 : decide (a2 < 0) = T := decide_eq_true c81
      clear c81
      have H' := Aside0.mk H
      clear H
      go_wp2
      go_meet
      case rel => exact ⟨_, (T), (Zs), H', ⟨by have := HK1.out; first | omega | exact Nat.le_refl _⟩, ⟨Zr HO_233000.out⟩, ⟨Zr HO_234000.out⟩, ⟨Zu BK231.out⟩, ⟨Zu BK232.out⟩, ⟨Zu BK233.out⟩, ⟨Zu BK234.out⟩, ⟨Zc4 GE231.out GE232.out GE233.out GE234.out⟩⟩
     rw [if_neg c81] at H
     have c81b0 : decide (a2 < 0) = F := decide_eq_false c81
     clear c81
     have H' := Aside0.mk H
     clear H
     go_wp2
     go_meet
     case rel => exact ⟨_, (decide (a2 > 1152921504606846976)), (Zs), H', ⟨by have := HK1.out; first | omega | exact Nat.le_refl _⟩, ⟨Zr HO_233000.out⟩, ⟨Zr HO_234000.out⟩, ⟨Zu BK231.out⟩, ⟨Zu BK232.out⟩, ⟨Zu BK233.out⟩, ⟨Zu BK234.out⟩, ⟨Zc4 GE231.out GE232.out GE233.out GE234.out⟩⟩
    case rest =>
     clear HC80
     try clear c2
     try clear p2
     try clear c4
     try clear c5
     try clear p6
     try clear c7
     try clear c8
     try clear c27
     try clear c27b0
     try clear c28
     try clear c29
     try clear c48
     try clear c48b0
     try clear c48b1
     try clear c49
     try clear c50
     try clear p64
     try clear c74
     try clear c75
     try clear c76
     try clear c77
     try clear c78
     try clear c81
     try clear c81b0
     try clear hcz79_0
     try clear hfz79_0
     obtain ⟨kq, x30_79, rfl, HA, HJ79, HO_233000, HO_234000, BK231, BK232, BK233, BK234, HB⟩ := hcut
     cases kq with
     | zero => exact absurd HA.out (by simp [Qas.j1])
     | succ kj79 =>
      have H := HA.out
      clear HA
      simp only [Qas.j1] at H
      by_cases c82 : x30_79 = T
      ·subst c82
       have H1 : (some (([] : List Int), 2)) = some (r1, r2) := by rw [if_pos rfl] at H; exact H
       clear H
       have H := H1
       clear H1
       simp only [Option.some.injEq, Prod.mk.injEq] at H
       obtain ⟨rfl, rfl⟩ := H
       have hnb83 := NB232_231.out
       have hnc83 := NB231_232.out
       have hnb84 := NB232_233.out
       have hnc84 := NB233_232.out
       have hnb85 := NB232_234.out
       have hnc85 := NB234_232.out
       obtain ⟨hcz86_0, hfz86_0⟩ := Zy (v := (u233000)) BK232.out 0
       go_wp2
       refine bodyPost_ret (QbO rfl _ _ gb232 63 (.slice none 0 0) (0, 0) _ rfl (Zp2 BK232.out) Try.underlying63 rfl (by kernel_rfl)) rfl ?_
       exact ⟨_, Zq, by first | exact Kd.R_nil _ _ _ _ _ | exact Kd.N_nil _ _ _ _ _ | exact Kd.V_nil _ _ _ _ _ | exact Kd.Q_nil _ _ _ _ _ | exact Kd.S_nil _ _ _ _ _, Zc4 GE231.out GE232.out GE233.out GE234.out⟩
      replace c82 := Bool.eq_false_iff.mpr c82
      subst c82
      have H1 : (Qas.l0 kj79 a2 (x233000_1.length : Int) 0 x233000_1 x234000_1) = some (r1, r2) := by rw [if_neg (show ¬ (F = T) by decide)] at H; exact H
      clear H
      have H := H1
      clear H1
      have H' := Aside0.mk H
      clear H
      have hnb87 := NB232_231.out
      have hnc87 := NB231_232.out
      have hnb88 := NB232_233.out
      have hnc88 := NB233_232.out
      have hnb89 := NB232_234.out
      have hnc89 := NB234_232.out
      obtain ⟨hcz90_0, hfz90_0⟩ := Zy (v := (u233000)) BK232.out 0
      obtain ⟨Ao91, co91, eo91⟩ := Kd.R_slice HO_233000.out
      subst eo91
      go_wp2
      go_loopg [33] kj79 (fun kq v33 w' => ∃ (x33_3 : Int) (x233000_3 : List Int) (x234000_3 : List Int) (u233000 : Value) (u234000 : Value), v33 = .int .i64 x33_3 ∧ Aside0 (Qas.l0 kq a2 (x233000_1.length : Int) x33_3 x233000_3 x234000_3 = some (r1, r2)) ∧ Aside0 (kq ≤ kj79) ∧ Aside0 (Kd.R (Kd.int .i64) 3 w' w.heap.size (fun k_ => some k_ ≠ (u234000 : Value).ownBlock) u233000 x233000_3) ∧ Aside0 (Kd.R (Kd.int .i64) 3 w' w.heap.size (fun k_ => some k_ ≠ (u233000 : Value).ownBlock) u234000 x234000_3) ∧ Aside0 (w'.heap[gb231]? = some (.cells #[.string a1_0, .string a1_1] 44 (0, 0))) ∧ Aside0 (w'.heap[gb232]? = some (.cells #[u233000] 63 (0, 0))) ∧ Aside0 (w'.heap[gb233]? = some (.cells #[u234000] 63 (0, 0))) ∧ Aside0 (w'.heap[gb234]? = some (.cells #[.string a1_0, .string a1_1] 44 (0, 0))) ∧ Aside0 (Below w.heap.size w w'))
      case atStart => exact ⟨(0), (x233000_1), (x234000_1), (.slice Ao91 x233000_1.length co91), (u234000), (Zs), H', ⟨Nat.le_refl _⟩, ⟨Zr HO_233000.out⟩, ⟨Zr HO_234000.out⟩, ⟨Zu BK231.out⟩, ⟨Zu BK232.out⟩, ⟨Zu BK233.out⟩, ⟨Zu BK234.out⟩, ⟨Zc4 GE231.out GE232.out GE233.out GE234.out⟩⟩
      case round =>
       clear H'
       try clear c2
       try clear p2
       try clear c4
       try clear c5
       try clear p6
       try clear c7
       try clear c8
       try clear c27
       try clear c27b0
       try clear c28
       try clear c29
       try clear c48
       try clear c48b0
       try clear c48b1
       try clear c49
       try clear c50
       try clear p64
       try clear c74
       try clear c75
       try clear c76
       try clear c77
       try clear c78
       try clear c81
       try clear c81b0
       try clear c82
       try clear c83
       try clear c84
       try clear c85
       try clear c87
       try clear c88
       try clear c89
       try clear hcz79_0
       try clear hcz86_0
       try clear hcz90_0
       try clear hfz79_0
       try clear hfz86_0
       try clear hfz90_0
       try clear p2
       try clear p6
       try clear p64
       obtain ⟨x33_3, x233000_3, x234000_3, u233000, u234000, rfl, HA, HK3, HO_233000, HO_234000, BK231, BK232, BK233, BK234, HB⟩ := hrel
       cases gk with
       | zero => exact absurd HA.out (by simp [Qas.l0])
       | succ k3 =>
        have H := HA.out
        clear HA
        simp only [Qas.l0] at H
        by_cases c92 : x33_3 < (x233000_1.length : Int)
        ·rw [if_pos c92] at H
         have c92b0 : decide (x33_3 < (x233000_1.length : Int)) = T := decide_eq_true c92
         clear c92
         (try simp only [c92b0])
         by_cases c93 : 0 ≤ x33_3
         ·rw [if_pos c93] at H
          have c93b0 : decide (0 ≤ x33_3) = T := decide_eq_true c93
          clear c93
          by_cases c94 : x33_3 < (x234000_3.length : Int)
          ·rw [if_pos c94] at H
           have c94b0 : decide (x33_3 < (x234000_3.length : Int)) = T := decide_eq_true c94
           clear c94
           replace H := Option.bind_eq_some_iff.mp H
           obtain ⟨⟨t241, t242⟩, A950, H⟩ := H
           replace H : (if t242 = 0 then (if x33_3 < (x233000_3.length : Int) then (Qas.l0 k3 a2 (x233000_1.length : Int) (wrap64 (x33_3 + 1)) (x233000_3.set (x33_3 : Int).toNat (mn (rd x233000_3 x33_3) t241)) x234000_3) else (none)) else (some (([] : List Int), t242))) = some (r1, r2) := H
           have A95 := Aside0.mk A950
           clear A950
           have hnb96 := NB233_231.out
           have hnc96 := NB231_233.out
           have hnb97 := NB233_232.out
           have hnc97 := NB232_233.out
           have hnb98 := NB233_234.out
           have hnc98 := NB234_233.out
           obtain ⟨hcz99_0, hfz99_0⟩ := Zy (v := (u234000)) BK233.out 0
           obtain ⟨Ao100, co100, eo100⟩ := Kd.R_slice HO_234000.out
           subst eo100
           have p240 : 0 ≤ (x33_3 : Int) := Ze
           have q240 : x33_3 < (x234000_3.length : Int) := Ze
           obtain ⟨ad240, e240, hx240_0⟩ := Kd.at_int (Kd.R_reads' HO_234000.out).2.2 x33_3 p240 q240
           cases e240
           replace p240 := eq_true p240
           replace q240 := eq_true q240
           go_upto_if 46 with (first | ((with_reducible refine QaA (f := 57) rfl ?_); refine goesL_ (some 42) rfl rfl Try.func57 (by kernel_rfl) rfl #[.int .i64 a2, .int .i64 (rd x234000_3 x33_3), .int .i64 1000, .int .i64 3] rfl (Zl) ?_; (with_reducible refine (QaC.calls a2 (rd x234000_3 x33_3) 1000 3 t241 t242 _ A95.out).mono ?_); rintro e w101 ⟨rfl, hb⟩; refine ⟨_, rfl, ?_⟩; replace HO_233000 := Aside0.mk (Kd.R_below (Zr HO_233000.out) hb); replace HO_234000 := Aside0.mk (Kd.R_below (Zr HO_234000.out) hb); replace BK231 := Aside0.mk (Zi BK231.out hb); replace BK232 := Aside0.mk (Zi BK232.out hb); replace BK233 := Aside0.mk (Zi BK233.out hb); replace BK234 := Aside0.mk (Zi BK234.out hb); replace HB := Aside0.mk (Qaq (Zc4 GE231.out GE232.out GE233.out GE234.out) hb); (try clear hb); (try clear hb2); (try clear hk); (try clear hi)))
           (try simp only [Act.put, Zj, Zk, Zm])
           by_cases c102 : t242 = 0
           ·rw [if_pos c102] at H
            have c102b0 : (t242 == 0) = T := beq_iff_eq.mpr c102
            have c102b1 : (t242 != 0) = F := bne_eq_false_iff_eq.mpr c102
            clear c102
            (try simp only [c102b0, c102b1])
            by_cases c103 : x33_3 < (x233000_3.length : Int)
            ·rw [if_pos c103] at H
             have c103b0 : decide (x33_3 < (x233000_3.length : Int)) = T := decide_eq_true c103
             clear c103
             obtain ⟨ji104, hji104⟩ : ∃ j_ : Int, (mn (rd x233000_3 x33_3) t241) = j_ := ⟨_, rfl⟩
             replace H : (Qas.l0 k3 a2 (x233000_1.length : Int) (wrap64 (x33_3 + 1)) (x233000_3.set (x33_3 : Int).toNat (ji104)) x234000_3) = some (r1, r2) := by first | (rw [hji104] at H; exact H) | (simp only [hji104] at H ⊢; exact H)
             have hji104_ : (if t241 < (rd x233000_3 x33_3) then t241 else (rd x233000_3 x33_3)) = ji104 := hji104
             obtain ⟨y244, hy244⟩ : ∃ y_ : List Int, y_ = (x233000_3.set (x33_3 : Int).toNat (ji104)) := ⟨_, rfl⟩
             replace H : (Qas.l0 k3 a2 (x233000_1.length : Int) (wrap64 (x33_3 + 1)) y244 x234000_3) = some (r1, r2) := by first | (rw [hy244]; with_reducible exact H) | (have H2_ := (Option.bind_some _ _).symm.trans H; rw [hy244]; with_reducible exact H2_) | (have H2_ := (Option.bind_some _ _).symm.trans H; with_reducible exact H2_) | with_reducible exact H | (rw [hy244]; exact H) | exact H
             have Ny244 := Aside0.mk hy244
             clear hy244
             have H' := Aside0.mk H
             clear H
             try go_wp2
             replace HO_233000 := Aside0.mk (Kd.R_drew HO_233000.out)
             replace HO_234000 := Aside0.mk (Kd.R_drew HO_234000.out)
             replace BK231 := Aside0.mk (Qac BK231.out)
             replace BK232 := Aside0.mk (Qac BK232.out)
             replace BK233 := Aside0.mk (Qac BK233.out)
             replace BK234 := Aside0.mk (Qac BK234.out)
             replace HB := Aside0.mk (Qag HB.out)
             obtain ⟨Ao107, co107, eo107⟩ := Kd.R_slice HO_233000.out
             (first | subst eo107 | (injection eo107 with f1_ f2_ f3_; have f4_ := f1_.symm; have f5_ := f3_.symm; clear f1_ f2_ f3_; subst f4_; subst f5_))
             have p243 : 0 ≤ (x33_3 : Int) := Ze
             have q243 : x33_3 < (x233000_3.length : Int) := Ze
             obtain ⟨ad243, e243, hx243_0⟩ := Kd.at_int (Kd.R_reads' HO_233000.out).2.2 x33_3 p243 q243
             cases e243
             replace p243 := eq_true p243
             replace q243 := eq_true q243
             have p105 : 0 ≤ (x33_3 : Int) := Ze
             have q105 : (x33_3 : Int) < ((x233000_3.length : Int) : Int) := Ze
             obtain ⟨go105, co105, eo105, gb105, gl105, cl105, HG105⟩ := Kd.R_form HO_233000.out (by omega)
             (first | cases eo105 | (injection eo105 with ea_ en_ ec_; (first | subst ea_ | (injection ea_ with ea_; subst ea_)); subst ec_; clear en_))
             have GB105 := Aside0.mk gb105
             have GG105 := Aside0.mk HG105
             clear gb105 gl105 HG105
             (first | simp only [Qc2] at hx243_0 | skip)
             obtain ⟨hx105_0, hf105_0⟩ := Kd.R_celln 0 HO_233000.out (x33_3 : Int) p105 q105
             replace p105 := eq_true p105
             replace q105 := eq_true q105
             have HP108 := Kd.R_putn HO_233000.out (x33_3 : Int) ji104
             rw [← Ny244.out] at HP108
             have HQ108 := Aside0.mk HP108
             clear HP108
             refine start_ (n := 10) (S := fun w' => w'.cell? ⟨gb232, 0, none⟩ = some (.slice (some ⟨go105, 0, none⟩) x233000_3.length co107) ∧ w'.cell? ⟨go105, (x33_3).toNat, none⟩ = some (.int .i64 (rd x233000_3 x33_3))) (ds := [9]) #[F, F, F, F, F, F, F, F, F, F] (by kernel_rfl) rfl rfl ⟨(Qah BK232.out 0).trans rfl, hx243_0⟩ (fun hHeld => ?_); refine Qbt Qas.tab13 Qas.bits13 (fun HT_ HW_ => ?_)
             generalize w101.drew = w106 at HO_233000 HO_234000 BK231 BK232 BK233 BK234 HB GG105 HQ108 hf105_0 hx105_0 hx243_0 hHeld ⊢
             refine pure_ (i := 1) (N := some 49) (v := ?_) (a' := ?_) #[F, T, F, F, F, F, F, F, F, F] rfl rfl (any_of HT_.out (by kernel_rfl)) (fun _ _ _ h => h) (Or.inl ⟨by rfl, ?_⟩) ?_ ?_
             rotate_left
             ·intro w'
              go_simp
              with_reducible rfl
             rotate_left
             ·simp only [Act.put, Zj, Zk, Zm, i64_w, i32_w]
              rfl
             refine pure_ (i := 3) (N := some 51) (v := ?_) (a' := ?_) #[F, T, F, T, F, F, F, F, F, F] rfl rfl (any_of HT_.out (by kernel_rfl)) (fun _ _ _ h => h) (Or.inl ⟨by rfl, ?_⟩) ?_ ?_
             rotate_left
             ·intro w'
              go_simp
              with_reducible rfl
             rotate_left
             ·simp only [Act.put, Zj, Zk, Zm, i64_w, i32_w]
              rfl
             refine pure_ (i := 6) (N := some 54) (v := ?_) (a' := ?_) #[F, T, F, T, F, F, T, F, F, F] rfl rfl (any_of HT_.out (by kernel_rfl)) (fun _ _ _ h => h) (Or.inl ⟨by rfl, ?_⟩) ?_ ?_
             rotate_left
             ·intro w'
              go_simp
              with_reducible rfl
             rotate_left
             ·simp only [Act.put, Zj, Zk, Zm, i64_w, i32_w]
              rfl
             refine take_ (i := 0) (N := some 48) (v := ?_) (a' := ?_) #[T, T, F, T, F, F, T, F, F, F] rfl rfl (QaF HT_.out HW_.out (by kernel_rfl)) (fun _ _ _ h => h) (Or.inl ⟨by rfl, ?_⟩) hHeld ?_ ?_
             rotate_left
             ·rintro w' ⟨s0, s1⟩
              go_simp
              with_reducible rfl
             rotate_left
             ·simp only [Act.put, Zj, Zk, Zm, i64_w, i32_w]
              rfl
             refine take_ (i := 2) (N := some 50) (v := ?_) (a' := ?_) #[T, T, T, T, F, F, T, F, F, F] rfl rfl (QaF HT_.out HW_.out (by kernel_rfl)) (fun _ _ _ h => h) (Or.inl ⟨by rfl, ?_⟩) hHeld ?_ ?_
             rotate_left
             ·rintro w' ⟨s0, s1⟩
              go_simp
              with_reducible rfl
             rotate_left
             ·simp only [Act.put, Zj, Zk, Zm, i64_w, i32_w]
              rfl
             refine pure_ (i := 4) (N := some 52) (v := ?_) (a' := ?_) #[T, T, T, T, T, F, T, F, F, F] rfl rfl (any_of HT_.out (by kernel_rfl)) (fun _ _ _ h => h) (Or.inl ⟨by rfl, ?_⟩) ?_ ?_
             rotate_left
             ·intro w'
              go_simp
              with_reducible rfl
             rotate_left
             ·simp only [Act.put, Zj, Zk, Zm, i64_w, i32_w]
              rfl
             refine take_ (i := 5) (N := some 53) (v := ?_) (a' := ?_) #[T, T, T, T, T, T, T, F, F, F] rfl rfl (QaF HT_.out HW_.out (by kernel_rfl)) (fun _ _ _ h => h) (Or.inl ⟨by rfl, ?_⟩) hHeld ?_ ?_
             rotate_left
             ·rintro w' ⟨s0, s1⟩
              go_simp
              with_reducible rfl
             rotate_left
             ·simp only [Act.put, Zj, Zk, Zm, i64_w, i32_w]
              rfl
             refine pure_ (i := 7) (N := some 55) (v := ?_) (a' := ?_) #[T, T, T, T, T, T, T, T, F, F] rfl rfl (any_of HT_.out (by kernel_rfl)) (fun _ _ _ h => h) (Or.inl ⟨by rfl, ?_⟩) ?_ ?_
             rotate_left
             ·intro w'
              go_simp
              with_reducible rfl
             rotate_left
             ·simp only [Act.put, Zj, Zk, Zm, i64_w, i32_w]
              rfl
             refine pure_ (i := 8) (N := some 56) (v := ?_) (a' := ?_) #[T, T, T, T, T, T, T, T, T, F] rfl rfl (any_of HT_.out (by kernel_rfl)) (fun _ _ _ h => h) (Or.inl ⟨by rfl, ?_⟩) ?_ ?_
             rotate_left
             ·intro w'
              go_simp
              with_reducible rfl
             rotate_left
             ·simp only [Act.put, Zj, Zk, Zm, i64_w, i32_w]
              rfl
             refine last_ (i := 9) (N := none) #[T, T, T, T, T, T, T, T, T, T] rfl rfl (one_of HT_.out (by kernel_rfl)) (by decide) (fun K hK => ?_)
             refine skip_ (w1 := ?_) (by rfl) rfl ?_ ?_
             rotate_left
             ·go_simp
              rfl
             refine hK.out _ _ ?_
             clear hK K
             refine done_ (QbC HT_.out (by kernel_rfl)) ?_
             try go_wp2
             go_roundg k3
             case measure => have := HK1.out; have := HJ79.out; have := HK3.out; omega
             case rel => exact ⟨(wrap64 (x33_3 + 1)), (y244), (x234000_3), (.slice (some ⟨go105, 0, none⟩) x233000_3.length co107), (.slice (some ad240) x234000_3.length co100), (Zs), H', ⟨by have := HK1.out; have := HJ79.out; have := HK3.out; omega⟩, ⟨by (with_reducible repeat (first | apply Kd.R_alloc | apply Kd.R_drewN | apply Kd.R_drew)); exact HQ108.out⟩, ⟨by (with_reducible repeat (first | apply Kd.R_alloc | apply Kd.R_drewN | apply Kd.R_drew)); exact Kd.R_mono (Kd.R_far (p := ⟨go105, (x33_3 : Int).toNat, none⟩) (Kd.R_mono HO_234000.out (fun k_ hk => (⟨hk, fun e_ => hk (by rw [e_]; rfl)⟩ : _ ∧ k_ ≠ go105))) (fun _ hk => hk.2) (.int .i64 ji104)) (fun _ hk => hk.1)⟩, ⟨by (with_reducible repeat (first | refine Qab ?_ _ | refine Qac ?_ | refine Qaa ?_ _)); refine Qao ?_ (by have h_ := Kd.R_ne HO_233000.out BK231.out (by decide); intro e_; exact h_ (by rw [e_]; rfl)) _; (with_reducible repeat (first | refine Qab ?_ _ | refine Qac ?_ | refine Qaa ?_ _)); exact BK231.out⟩, ⟨by (with_reducible repeat (first | refine Qab ?_ _ | refine Qac ?_ | refine Qaa ?_ _)); refine Qao ?_ (by have h_ := Kd.R_ne HO_233000.out BK232.out (by decide); intro e_; exact h_ (by rw [e_]; rfl)) _; (with_reducible repeat (first | refine Qab ?_ _ | refine Qac ?_ | refine Qaa ?_ _)); exact BK232.out⟩, ⟨by (with_reducible repeat (first | refine Qab ?_ _ | refine Qac ?_ | refine Qaa ?_ _)); refine Qao ?_ (by have h_ := Kd.R_ne HO_233000.out BK233.out (by decide); intro e_; exact h_ (by rw [e_]; rfl)) _; (with_reducible repeat (first | refine Qab ?_ _ | refine Qac ?_ | refine Qaa ?_ _)); exact BK233.out⟩, ⟨by (with_reducible repeat (first | refine Qab ?_ _ | refine Qac ?_ | refine Qaa ?_ _)); refine Qao ?_ (by have h_ := Kd.R_ne HO_233000.out BK234.out (by decide); intro e_; exact h_ (by rw [e_]; rfl)) _; (with_reducible repeat (first | refine Qab ?_ _ | refine Qac ?_ | refine Qaa ?_ _)); exact BK234.out⟩, ⟨by repeat (first | (with_reducible first | exact HB.out | apply Qaf | apply Qad | apply Qag | refine Qae ?_ GB105.out | refine Qae ?_ GE231.out | refine Qae ?_ GE232.out | refine Qae ?_ GE233.out | refine Qae ?_ GE234.out) | exact HB.out)⟩⟩
            rw [if_neg c103] at H
            exact absurd H (by simp)
           rw [if_neg c102] at H
           have c102b0 : (t242 == 0) = F := beq_eq_false_iff_ne.mpr c102
           have c102b1 : (t242 != 0) = T := bne_iff_ne.mpr c102
           (try simp only [c102b0, c102b1])
           simp only [Option.some.injEq, Prod.mk.injEq] at H
           obtain ⟨rfl, rfl⟩ := H
           have hnb109 := NB232_231.out
           have hnc109 := NB231_232.out
           have hnb110 := NB232_233.out
           have hnc110 := NB233_232.out
           have hnb111 := NB232_234.out
           have hnc111 := NB234_232.out
           obtain ⟨hcz112_0, hfz112_0⟩ := Zy (v := (u233000)) BK232.out 0
           go_wp2
           refine bodyPost_ret (QbO rfl _ _ gb232 63 (.slice none 0 0) (0, 0) _ rfl (Zp2 BK232.out) Try.underlying63 rfl (by kernel_rfl)) rfl ?_
           exact ⟨_, Zq, by first | exact Kd.R_nil _ _ _ _ _ | exact Kd.N_nil _ _ _ _ _ | exact Kd.V_nil _ _ _ _ _ | exact Kd.Q_nil _ _ _ _ _ | exact Kd.S_nil _ _ _ _ _, Zc4 GE231.out GE232.out GE233.out GE234.out⟩
          rw [if_neg c94] at H
          exact absurd H (by simp)
         rw [if_neg c93] at H
         exact absurd H (by simp)
        rw [if_neg c92] at H
        have c92b0 : decide (x33_3 < (x233000_1.length : Int)) = F := decide_eq_false c92
        clear c92
        (try simp only [c92b0])
        simp only [Option.some.injEq, Prod.mk.injEq] at H
        obtain ⟨rfl, rfl⟩ := H
        have hnb113 := NB232_231.out
        have hnc113 := NB231_232.out
        have hnb114 := NB232_233.out
        have hnc114 := NB233_232.out
        have hnb115 := NB232_234.out
        have hnc115 := NB234_232.out
        obtain ⟨hcz116_0, hfz116_0⟩ := Zy (v := (u233000)) BK232.out 0
        obtain ⟨Ao117, co117, eo117⟩ := Kd.R_slice HO_233000.out
        subst eo117
        go_wp2
        refine bodyPost_ret (QbO rfl _ _ gb232 63 (.slice Ao117 x233000_3.length co117) (0, 0) _ rfl (Zp2 BK232.out) Try.underlying63 rfl (by kernel_rfl)) rfl ?_
        exact ⟨_, Zq, by (with_reducible repeat (first | apply Kd.R_alloc | apply Kd.R_drewN | apply Kd.R_drew)); exact Kd.R_mono (Kd.R_far (p := ⟨gb232, 0, none⟩) (Kd.R_types HO_233000.out BK232.out (by decide)) (fun _ hk => hk.2) (.slice Ao117 x233000_3.length co117)) (fun _ hk => trivial), Zc4 GE231.out GE232.out GE233.out GE234.out⟩
 rw [if_neg c19] at H
 have c19b0 : (t236 == 0) = F := beq_eq_false_iff_ne.mpr c19
 have c19b1 : (t236 != 0) = T := bne_iff_ne.mpr c19
 (try simp only [c19b0, c19b1])
 go_upto_region 4 with (fail)
 simp only [Option.some.injEq, Prod.mk.injEq] at H
 obtain ⟨rfl, rfl⟩ := H
 have hnb118 := NB232_231.out
 have hnc118 := NB231_232.out
 have hnb119 := NB232_233.out
 have hnc119 := NB233_232.out
 have hnb120 := NB232_234.out
 have hnc120 := NB234_232.out
 obtain ⟨hcz121_0, hfz121_0⟩ := Zy (v := (.slice none 0 0)) BK232.out 0
 go_wp2
 refine bodyPost_ret (QbO rfl _ _ gb232 63 (.slice none 0 0) (0, 0) _ rfl (Zp2 BK232.out) Try.underlying63 rfl (by kernel_rfl)) rfl ?_
 exact ⟨_, Zq, by first | exact Kd.R_nil _ _ _ _ _ | exact Kd.N_nil _ _ _ _ _ | exact Kd.V_nil _ _ _ _ _ | exact Kd.Q_nil _ _ _ _ _ | exact Kd.S_nil _ _ _ _ _, Zc4 GE231.out GE232.out GE233.out GE234.out⟩
def Qbc.f (k : Nat) (l0 : List (S46)) (a1_0 : ByteArray) (a1_1 : ByteArray) (a2 : Int) (l3 : List (S84)) (l4 : List (S98)) : Option (Int × Int) := (Qas.f k l0 a1_0 a1_1 a2 l3 l4).bind fun bt271 => (if bt271.2 = 0 then ((QaX.f k bt271.1).bind fun bt275 => (some (bt275.1, bt275.2))) else (some (0, bt271.2)))
theorem Qbc.mono : ∀ a0 a1 a2 a3 a4 a5 k, LeO (Qbc.f k a0 a1 a2 a3 a4 a5) (Qbc.f (k + 1) a0 a1 a2 a3 a4 a5) := by
 intro a0 a1 a2 a3 a4 a5 k
 unfold Qbc.f
 exact ZM2 QaX.mono Qas.mono
theorem Qbc.calls (k : Nat) (A0 : Option Addr) (c0 : Nat) (l0 : List (S46)) (a1_0 : ByteArray) (a1_1 : ByteArray) (a2 : Int) (A3 : Option Addr) (c3 : Nat) (l3 : List (S84)) (A4 : Option Addr) (c4 : Nat) (l4 : List (S98)) (r1 : Int) (r2 : Int) (w : World) (hr0 : Kd.C k46 w A0 l0.length l0) (hc0 : l0.length ≤ c0) (hr3 : Kd.C k84 w A3 l3.length l3) (hc3 : l3.length ≤ c3) (hr4 : Kd.C k98 w A4 l4.length l4) (hc4 : l4.length ≤ c4) (h : Qbc.f k l0 a1_0 a1_1 a2 l3 l4 = some (r1, r2)) :
  Calls Try.prog 30 #[.slice A0 l0.length c0, .agg #[.string a1_0, .string a1_1], .int .i64 a2, .slice A3 l3.length c3, .slice A4 l4.length c4] w fun e w' => e = .returned (.tuple #[.int .i64 r1, .int .i64 r2]) ∧ Below w.heap.size w w' := by
 have hu44 := Try.underlying44
 have HR0 := Aside0.mk hr0
 have HC0 := Aside0.mk hc0
 clear hr0 hc0
 have HR3 := Aside0.mk hr3
 have HC3 := Aside0.mk hc3
 clear hr3 hc3
 have HR4 := Aside0.mk hr4
 have HC4 := Aside0.mk hc4
 clear hr4 hc4
 have HB := Aside0.mk (Below.refl w.heap.size w)
 have H : ((Qas.f k l0 a1_0 a1_1 a2 l3 l4).bind fun bt271 => (if bt271.2 = 0 then ((QaX.f k bt271.1).bind fun bt275 => (some (bt275.1, bt275.2))) else (some (0, bt271.2)))) = some (r1, r2) := h
 clear h
 replace H := Option.bind_eq_some_iff.mp H
 obtain ⟨⟨t271, t274⟩, A60, H⟩ := H
 replace H : (if t274 = 0 then ((QaX.f k t271).bind fun bt275 => (some (bt275.1, bt275.2))) else (some (0, t274))) = some (r1, r2) := H
 have A6 := Aside0.mk A60
 clear A60
 go_enter Try.func30, Try.ntmps30
 go_upto_if 23 with (first | ((with_reducible refine QaE (N := 6) rfl ?_); refine Zbx (N := 6) (cs := #[.string a1_0, .string a1_1]) (t := 44) ?_; intro gb270 hg w7 hbox hb; have BK270 := Aside0.mk (hbox); have GW270 := Aside0.mk (Zt w hg (Zb)); have GE270 := GW270; replace HB := Aside0.mk (Qaq (Zb) hb); clear hb hbox hg; obtain ⟨hcz8_0, hfz8_0⟩ := Zy (v := (.string a1_0)) BK270.out 0; obtain ⟨hcz8_1, hfz8_1⟩ := Zy (v := (.string a1_1)) BK270.out 1) | ((with_reducible refine QaA (f := 28) rfl ?_); refine goesL_ (some 19) rfl rfl Try.func28 (by kernel_rfl) rfl #[.slice A0 l0.length c0, .agg #[.string a1_0, .string a1_1], .int .i64 a2, .slice A3 l3.length c3, .slice A4 l4.length c4] rfl (Zl) ?_; (with_reducible refine (Qas.calls k _ _ l0 a1_0 a1_1 a2 _ _ l3 _ _ l4 t271 t274 _ ?side1 ?side2 ?side3 ?side4 ?side5 ?side6 A6.out).mono ?_); (case side1 => exact Zv (Kd.C_below HR0.out HB.out)); (case side2 => exact HC0.out); (case side3 => exact Zv (Kd.C_below HR3.out HB.out)); (case side4 => exact HC3.out); (case side5 => exact Zv (Kd.C_below HR4.out HB.out)); (case side6 => exact HC4.out); rintro e w9 ⟨v272, rfl, ho0, hb⟩; refine ⟨_, rfl, ?_⟩; have HO273 := Aside0.mk (Kd.R_lower ho0 (Qap (Zc1 GE270.out))); replace BK270 := Aside0.mk (Zi BK270.out hb); replace HB := Aside0.mk (Qaq (Zc1 GE270.out) hb); (try clear hb); (try clear hb2); (try clear hk); (try clear hi); (try clear ho0)))
 (try simp only [Act.put, Zj, Zk, Zm])
 by_cases c10 : t274 = 0
 ·rw [if_pos c10] at H
  have c10b0 : (t274 == 0) = T := beq_iff_eq.mpr c10
  have c10b1 : (t274 != 0) = F := bne_eq_false_iff_eq.mpr c10
  clear c10
  (try simp only [c10b0, c10b1])
  replace H := Option.bind_eq_some_iff.mp H
  obtain ⟨⟨t275, t276⟩, A110, H⟩ := H
  replace H : (some (t275, t276)) = some (r1, r2) := H
  have A11 := Aside0.mk A110
  clear A110
  simp only [Option.some.injEq, Prod.mk.injEq] at H
  obtain ⟨rfl, rfl⟩ := H
  obtain ⟨Ao12, co12, eo12⟩ := Kd.R_slice HO273.out
  subst eo12
  go_wp2_with (first | ((with_reducible refine QaA (f := 59) rfl ?_); refine goesL_ (some 26) rfl rfl Try.func59 (by kernel_rfl) rfl #[.slice Ao12 t271.length co12] rfl (Zl) ?_; (with_reducible refine (QaX.calls k _ _ t271 t275 t276 _ ?side1 ?side2 A11.out).mono ?_); (case side1 => exact Zv (Kd.R_reads' HO273.out).2.2); (case side2 => exact (Kd.R_reads' HO273.out).2.1); rintro e w' ⟨rfl, ⟨nd, rfl⟩⟩; refine ⟨_, rfl, ?_⟩))
  go_ret2
  exact ⟨Zq, Zc1 GE270.out⟩
 rw [if_neg c10] at H
 have c10b0 : (t274 == 0) = F := beq_eq_false_iff_ne.mpr c10
 have c10b1 : (t274 != 0) = T := bne_iff_ne.mpr c10
 (try simp only [c10b0, c10b1])
 simp only [Option.some.injEq, Prod.mk.injEq] at H
 obtain ⟨rfl, rfl⟩ := H
 go_wp2
 go_ret2
 exact ⟨Zq, Zc1 GE270.out⟩
theorem QbZ (d : Nat) (w : World) (x0 x1 x2 x3 y0 y1 y2 y3 : Int) : (Op.equalIn (d + 2) 74 (.agg #[.int .i64 x0, .int .i64 x1, .int .i64 x2, .int .i64 x3]) (.agg #[.int .i64 y0, .int .i64 y1, .int .i64 y2, .int .i64 y3])).run Try.prog w = .ok (x0 == y0 && (x1 == y1 && (x2 == y2 && (x3 == y3)))) w := by
 have hs : (sizeOf 3 : Sem Nat).run Try.prog w = .ok 1 w := by go_simp
 have he : ∀ a b : Int, (Op.equalIn (d + 1) 3 (.int .i64 a) (.int .i64 b)).run Try.prog w = .ok (a == b) w := fun a b => by go_simp
 have p0 : ∀ (z0 z1 z2 z3 : Int), (part 3 #[.int .i64 z0, .int .i64 z1, .int .i64 z2, .int .i64 z3] 0).run Try.prog w = .ok (.int .i64 z0) w := fun z0 z1 z2 z3 => by go_simp
 have p1 : ∀ (z0 z1 z2 z3 : Int), (part 3 #[.int .i64 z0, .int .i64 z1, .int .i64 z2, .int .i64 z3] 1).run Try.prog w = .ok (.int .i64 z1) w := fun z0 z1 z2 z3 => by go_simp
 have p2 : ∀ (z0 z1 z2 z3 : Int), (part 3 #[.int .i64 z0, .int .i64 z1, .int .i64 z2, .int .i64 z3] 2).run Try.prog w = .ok (.int .i64 z2) w := fun z0 z1 z2 z3 => by go_simp
 have p3 : ∀ (z0 z1 z2 z3 : Int), (part 3 #[.int .i64 z0, .int .i64 z1, .int .i64 z2, .int .i64 z3] 3).run Try.prog w = .ok (.int .i64 z3) w := fun z0 z1 z2 z3 => by go_simp
 show (Op.equalIn ((d + 1) + 1) 74 _ _).run Try.prog w = _
 revert he
 generalize d + 1 = D
 intro he
 simp only [Op.equalIn, Sem.run_bind, run_underlying Try.underlying74, Result.andThen_ok, hs]
 simp only [Std.Legacy.Range.forIn_eq_forIn_range', Std.Legacy.Range.size, Nat.sub_zero, Nat.add_one_sub_one, Nat.div_one, List.range', List.forIn_cons, List.forIn_nil, Nat.mul_one, Nat.zero_add, Nat.reduceAdd, Sem.run_bind, p0, p1, p2, p3, he, Result.andThen_ok]
 cases h0 : (x0 == y0) <;> cases h1 : (x1 == y1) <;> cases h2 : (x2 == y2) <;> cases h3 : (x3 == y3) <;> simp [p0, p1, p2, p3, he, h0, h1, h2, h3]
attribute [local go_sem] QbZ
end Go.Proofs.Ytfcaaefdmabkhaa.Pr
