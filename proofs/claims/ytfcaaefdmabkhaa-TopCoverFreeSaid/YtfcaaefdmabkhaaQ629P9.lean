/- Functions' values and contracts, as the print wrote them. -/
import Derived.Test.YtfcaaefdmabkhaaQ629P0
import Derived.Test.YtfcaaefdmabkhaaQ629P1
import Derived.Test.YtfcaaefdmabkhaaQ629P2
import Derived.Test.YtfcaaefdmabkhaaQ629P6
import Derived.Test.YtfcaaefdmabkhaaQ629P3
import Derived.Test.YtfcaaefdmabkhaaQ629P8
import Derived.Test.YtfcaaefdmabkhaaQ629P7
namespace Go.Proofs.Ytfcaaefdmabkhaa.Pr
open Go.RowKit Go.Proofs.YtfcaaefdmabkhaaW.PrintWords Go.Proofs.YtfcaaefdmabkhaaW.PrintLast Go.Proofs.YtfcaaefdmabkhaaW.PrintMore
attribute [local go_sem] QaN QaP QaW QaX QaI QaJ QaO QaQ   -- for this text's walks alone
set_option linter.unusedVariables false
set_option linter.unusedSimpArgs false
mutual
def contangotop_TopCoverFree.j0 : Nat → Int → Bool → ByteArray → ByteArray → Int → Int → Int → Int → Int → Int → Int → List (S46) → List (S84) → List (S98) → ByteArray → Option (Bool)
 | 0, _, _, _, _, _, _, _, _, _, _, _, _, _, _, _ => none
 | k + 1, x5, x53, x951000, x951001, x951002, x951003, x951004, x951005, x951006, x951007, x951008, x951009, x951010, x951011, x951012 => if x53 = true then (if x5 = 0 then ((QaM.f k).bind fun t962 => (some t962)) else (some false)) else ((QaR.f k x951009 x951000 x951001 x951012).bind fun t963 => ((some (([x5, wrap64 (x5 + 1)] : List Int) : List Int)).bind fun y964 => (contangotop_TopCoverFree.l0 k x5 t963 y964 (y964.length : Int) 0 x951000 x951001 x951002 x951003 x951004 x951005 x951006 x951007 x951008 x951009 x951010 x951011 x951012)))
def contangotop_TopCoverFree.l0 : Nat → Int → Int → List Int → Int → Int → ByteArray → ByteArray → Int → Int → Int → Int → Int → Int → Int → List (S46) → List (S84) → List (S98) → ByteArray → Option (Bool)
 | 0, _, _, _, _, _, _, _, _, _, _, _, _, _, _, _, _, _, _ => none
 | k + 1, x5, x7, x70, x71, x72, x951000, x951001, x951002, x951003, x951004, x951005, x951006, x951007, x951008, x951009, x951010, x951011, x951012 => if x72 < x71 then (if 0 ≤ x72 then (if x72 < (x70.length : Int) then (if (rd x70 x72) < 1 then (contangotop_TopCoverFree.j2 k x5 x7 (rd x70 x72) x70 x71 x72 true x951000 x951001 x951002 x951003 x951004 x951005 x951006 x951007 x951008 x951009 x951010 x951011 x951012) else (contangotop_TopCoverFree.j2 k x5 x7 (rd x70 x72) x70 x71 x72 (decide ((rd x70 x72) > x7)) x951000 x951001 x951002 x951003 x951004 x951005 x951006 x951007 x951008 x951009 x951010 x951011 x951012)) else (none)) else (none)) else (if x5 ≤ x7 then (if x5 ≥ 0 then ((QaM.f k).bind fun t967 => (some t967)) else (some false)) else (some false))
def contangotop_TopCoverFree.j2 : Nat → Int → Int → Int → List Int → Int → Int → Bool → ByteArray → ByteArray → Int → Int → Int → Int → Int → Int → Int → List (S46) → List (S84) → List (S98) → ByteArray → Option (Bool)
 | 0, _, _, _, _, _, _, _, _, _, _, _, _, _, _, _, _, _, _, _, _ => none
 | k + 1, x5, x7, x9, x70, x71, x72, x82, x951000, x951001, x951002, x951003, x951004, x951005, x951006, x951007, x951008, x951009, x951010, x951011, x951012 => if x82 = true then (contangotop_TopCoverFree.l0 k x5 x7 x70 x71 (wrap64 (x72 + 1)) x951000 x951001 x951002 x951003 x951004 x951005 x951006 x951007 x951008 x951009 x951010 x951011 x951012) else ((QaF.f k x951009 x951000 x951001 x951012 x9).bind fun bt969 => ((QaE.f k x951000 x951001 x951002 x951003 x951004 x951005 x951006 x951007 x951008 x951009 x951010 x951011 x951012 bt969.1).bind fun bt973 => (if bt969.2 = 0 then (if bt973.2.2.2.2.2 = true then (if (!((decide (bt973.2.2.2.2.1 > 0)) == (decide (x9 > x5)))) = true then (some false) else (contangotop_TopCoverFree.l0 k x5 x7 x70 x71 (wrap64 (x72 + 1)) x951000 x951001 x951002 x951003 x951004 x951005 x951006 x951007 x951008 x951009 x951010 x951011 x951012)) else (some false)) else (some false))))
end
def contangotop_TopCoverFree.f (k : Nat) (a0_0 : ByteArray) (a0_1 : ByteArray) (a0_2 : Int) (a0_3 : Int) (a0_4 : Int) (a0_5 : Int) (a0_6 : Int) (a0_7 : Int) (a0_8 : Int) (l0_9 : List (S46)) (l0_10 : List (S84)) (l0_11 : List (S98)) (a0_12 : ByteArray) : Option (Bool) := (Qbl.f a0_0 a0_1 a0_2 a0_3 a0_4 a0_5 a0_6 a0_7 a0_8 l0_9 l0_10 l0_11 a0_12).bind fun t951 => (if t951 = true then ((QaE.f k a0_0 a0_1 a0_2 a0_3 a0_4 a0_5 a0_6 a0_7 a0_8 l0_9 l0_10 l0_11 a0_12 l0_9).bind fun bt953 => ((Qaz.f k l0_9 a0_0 a0_1 a0_12 a0_8 l0_10 l0_11).bind fun bt960 => (if bt953.2.2.2.2.2 = true then (if bt960.2 = 0 then (contangotop_TopCoverFree.j0 k bt960.1 (decide (bt953.2.2.2.2.1 > 0)) a0_0 a0_1 a0_2 a0_3 a0_4 a0_5 a0_6 a0_7 a0_8 l0_9 l0_10 l0_11 a0_12) else (contangotop_TopCoverFree.j0 k bt960.1 true a0_0 a0_1 a0_2 a0_3 a0_4 a0_5 a0_6 a0_7 a0_8 l0_9 l0_10 l0_11 a0_12)) else (contangotop_TopCoverFree.j0 k bt960.1 true a0_0 a0_1 a0_2 a0_3 a0_4 a0_5 a0_6 a0_7 a0_8 l0_9 l0_10 l0_11 a0_12)))) else ((QaM.f k).bind fun t952 => (some t952)))
theorem contangotop_TopCoverFree.mono_l : ∀ k, (∀ y0 y1 y2 y3 y4 y5 y6 y7 y8 y9 y10 y11 y12 y13 y14, LeO (contangotop_TopCoverFree.j0 k y0 y1 y2 y3 y4 y5 y6 y7 y8 y9 y10 y11 y12 y13 y14) (contangotop_TopCoverFree.j0 (k + 1) y0 y1 y2 y3 y4 y5 y6 y7 y8 y9 y10 y11 y12 y13 y14)) ∧ (∀ y0 y1 y2 y3 y4 y5 y6 y7 y8 y9 y10 y11 y12 y13 y14 y15 y16 y17, LeO (contangotop_TopCoverFree.l0 k y0 y1 y2 y3 y4 y5 y6 y7 y8 y9 y10 y11 y12 y13 y14 y15 y16 y17) (contangotop_TopCoverFree.l0 (k + 1) y0 y1 y2 y3 y4 y5 y6 y7 y8 y9 y10 y11 y12 y13 y14 y15 y16 y17)) ∧ (∀ y0 y1 y2 y3 y4 y5 y6 y7 y8 y9 y10 y11 y12 y13 y14 y15 y16 y17 y18 y19, LeO (contangotop_TopCoverFree.j2 k y0 y1 y2 y3 y4 y5 y6 y7 y8 y9 y10 y11 y12 y13 y14 y15 y16 y17 y18 y19) (contangotop_TopCoverFree.j2 (k + 1) y0 y1 y2 y3 y4 y5 y6 y7 y8 y9 y10 y11 y12 y13 y14 y15 y16 y17 y18 y19))
 | 0 => ⟨fun _ _ _ _ _ _ _ _ _ _ _ _ _ _ _ r h => by simp [contangotop_TopCoverFree.j0] at h, fun _ _ _ _ _ _ _ _ _ _ _ _ _ _ _ _ _ _ r h => by simp [contangotop_TopCoverFree.l0] at h, fun _ _ _ _ _ _ _ _ _ _ _ _ _ _ _ _ _ _ _ _ r h => by simp [contangotop_TopCoverFree.j2] at h⟩
 | k + 1 => by
  obtain ⟨ih0, ih1, ih2⟩ := contangotop_TopCoverFree.mono_l k
  refine ⟨?_, ?_, ?_⟩
  ·intro y0 y1 y2 y3 y4 y5 y6 y7 y8 y9 y10 y11 y12 y13 y14
   unfold contangotop_TopCoverFree.j0
   repeat' first
   | (with_reducible exact ih0 _ _ _ _ _ _ _ _ _ _ _ _ _ _ _)
   | (with_reducible exact ih1 _ _ _ _ _ _ _ _ _ _ _ _ _ _ _ _ _ _)
   | (with_reducible exact ih2 _ _ _ _ _ _ _ _ _ _ _ _ _ _ _ _ _ _ _ _)
   | (with_reducible exact QaE.mono _ _ _ _ _ _ _ _ _ _ _ _ _ _ _)
   | (with_reducible exact QaM.mono _)
   | (with_reducible exact Qaz.mono _ _ _ _ _ _ _ _)
   | (with_reducible exact QaR.mono _ _ _ _ _)
   | (with_reducible exact QaF.mono _ _ _ _ _ _)
   | (with_reducible exact LeO.refl _)
   | (with_reducible exact LeO.none _)
   | (with_reducible refine LeO.ite ?_ ?_)
   | (with_reducible refine LeO.bind ?_ (fun _ => ?_))
   | exact ih0 _ _ _ _ _ _ _ _ _ _ _ _ _ _ _
   | exact ih1 _ _ _ _ _ _ _ _ _ _ _ _ _ _ _ _ _ _
   | exact ih2 _ _ _ _ _ _ _ _ _ _ _ _ _ _ _ _ _ _ _ _
   | exact QaE.mono _ _ _ _ _ _ _ _ _ _ _ _ _ _ _
   | exact QaM.mono _
   | exact Qaz.mono _ _ _ _ _ _ _ _
   | exact QaR.mono _ _ _ _ _
   | exact QaF.mono _ _ _ _ _ _
   | exact LeO.none _
   | refine LeO.ite ?_ ?_
   | refine LeO.bind ?_ (fun _ => ?_)
  ·intro y0 y1 y2 y3 y4 y5 y6 y7 y8 y9 y10 y11 y12 y13 y14 y15 y16 y17
   unfold contangotop_TopCoverFree.l0
   repeat' first
   | (with_reducible exact ih0 _ _ _ _ _ _ _ _ _ _ _ _ _ _ _)
   | (with_reducible exact ih1 _ _ _ _ _ _ _ _ _ _ _ _ _ _ _ _ _ _)
   | (with_reducible exact ih2 _ _ _ _ _ _ _ _ _ _ _ _ _ _ _ _ _ _ _ _)
   | (with_reducible exact QaE.mono _ _ _ _ _ _ _ _ _ _ _ _ _ _ _)
   | (with_reducible exact QaM.mono _)
   | (with_reducible exact Qaz.mono _ _ _ _ _ _ _ _)
   | (with_reducible exact QaR.mono _ _ _ _ _)
   | (with_reducible exact QaF.mono _ _ _ _ _ _)
   | (with_reducible exact LeO.refl _)
   | (with_reducible exact LeO.none _)
   | (with_reducible refine LeO.ite ?_ ?_)
   | (with_reducible refine LeO.bind ?_ (fun _ => ?_))
   | exact ih0 _ _ _ _ _ _ _ _ _ _ _ _ _ _ _
   | exact ih1 _ _ _ _ _ _ _ _ _ _ _ _ _ _ _ _ _ _
   | exact ih2 _ _ _ _ _ _ _ _ _ _ _ _ _ _ _ _ _ _ _ _
   | exact QaE.mono _ _ _ _ _ _ _ _ _ _ _ _ _ _ _
   | exact QaM.mono _
   | exact Qaz.mono _ _ _ _ _ _ _ _
   | exact QaR.mono _ _ _ _ _
   | exact QaF.mono _ _ _ _ _ _
   | exact LeO.none _
   | refine LeO.ite ?_ ?_
   | refine LeO.bind ?_ (fun _ => ?_)
  ·intro y0 y1 y2 y3 y4 y5 y6 y7 y8 y9 y10 y11 y12 y13 y14 y15 y16 y17 y18 y19
   unfold contangotop_TopCoverFree.j2
   repeat' first
   | (with_reducible exact ih0 _ _ _ _ _ _ _ _ _ _ _ _ _ _ _)
   | (with_reducible exact ih1 _ _ _ _ _ _ _ _ _ _ _ _ _ _ _ _ _ _)
   | (with_reducible exact ih2 _ _ _ _ _ _ _ _ _ _ _ _ _ _ _ _ _ _ _ _)
   | (with_reducible exact QaE.mono _ _ _ _ _ _ _ _ _ _ _ _ _ _ _)
   | (with_reducible exact QaM.mono _)
   | (with_reducible exact Qaz.mono _ _ _ _ _ _ _ _)
   | (with_reducible exact QaR.mono _ _ _ _ _)
   | (with_reducible exact QaF.mono _ _ _ _ _ _)
   | (with_reducible exact LeO.refl _)
   | (with_reducible exact LeO.none _)
   | (with_reducible refine LeO.ite ?_ ?_)
   | (with_reducible refine LeO.bind ?_ (fun _ => ?_))
   | exact ih0 _ _ _ _ _ _ _ _ _ _ _ _ _ _ _
   | exact ih1 _ _ _ _ _ _ _ _ _ _ _ _ _ _ _ _ _ _
   | exact ih2 _ _ _ _ _ _ _ _ _ _ _ _ _ _ _ _ _ _ _ _
   | exact QaE.mono _ _ _ _ _ _ _ _ _ _ _ _ _ _ _
   | exact QaM.mono _
   | exact Qaz.mono _ _ _ _ _ _ _ _
   | exact QaR.mono _ _ _ _ _
   | exact QaF.mono _ _ _ _ _ _
   | exact LeO.none _
   | refine LeO.ite ?_ ?_
   | refine LeO.bind ?_ (fun _ => ?_)
theorem contangotop_TopCoverFree.mono : ∀ a0 a1 a2 a3 a4 a5 a6 a7 a8 a9 a10 a11 a12 k, LeO (contangotop_TopCoverFree.f k a0 a1 a2 a3 a4 a5 a6 a7 a8 a9 a10 a11 a12) (contangotop_TopCoverFree.f (k + 1) a0 a1 a2 a3 a4 a5 a6 a7 a8 a9 a10 a11 a12) := by
 intro a0 a1 a2 a3 a4 a5 a6 a7 a8 a9 a10 a11 a12 k
 obtain ⟨ih0, ih1, ih2⟩ := contangotop_TopCoverFree.mono_l k
 unfold contangotop_TopCoverFree.f
 repeat' first
   | (with_reducible exact ih0 _ _ _ _ _ _ _ _ _ _ _ _ _ _ _)
   | (with_reducible exact ih1 _ _ _ _ _ _ _ _ _ _ _ _ _ _ _ _ _ _)
   | (with_reducible exact ih2 _ _ _ _ _ _ _ _ _ _ _ _ _ _ _ _ _ _ _ _)
   | (with_reducible exact QaE.mono _ _ _ _ _ _ _ _ _ _ _ _ _ _ _)
   | (with_reducible exact QaM.mono _)
   | (with_reducible exact Qaz.mono _ _ _ _ _ _ _ _)
   | (with_reducible exact QaR.mono _ _ _ _ _)
   | (with_reducible exact QaF.mono _ _ _ _ _ _)
   | (with_reducible exact LeO.refl _)
   | (with_reducible exact LeO.none _)
   | (with_reducible refine LeO.ite ?_ ?_)
   | (with_reducible refine LeO.bind ?_ (fun _ => ?_))
   | exact ih0 _ _ _ _ _ _ _ _ _ _ _ _ _ _ _
   | exact ih1 _ _ _ _ _ _ _ _ _ _ _ _ _ _ _ _ _ _
   | exact ih2 _ _ _ _ _ _ _ _ _ _ _ _ _ _ _ _ _ _ _ _
   | exact QaE.mono _ _ _ _ _ _ _ _ _ _ _ _ _ _ _
   | exact QaM.mono _
   | exact Qaz.mono _ _ _ _ _ _ _ _
   | exact QaR.mono _ _ _ _ _
   | exact QaF.mono _ _ _ _ _ _
   | exact LeO.none _
   | refine LeO.ite ?_ ?_
   | refine LeO.bind ?_ (fun _ => ?_)
set_option maxHeartbeats 8000000 in
set_option maxRecDepth 100000 in
theorem contangotop_TopCoverFree.calls (k : Nat) (a0_0 : ByteArray) (a0_1 : ByteArray) (a0_2 : Int) (a0_3 : Int) (a0_4 : Int) (a0_5 : Int) (a0_6 : Int) (a0_7 : Int) (a0_8 : Int) (A0_9 : Option Addr) (c0_9 : Nat) (l0_9 : List (S46)) (A0_10 : Option Addr) (c0_10 : Nat) (l0_10 : List (S84)) (A0_11 : Option Addr) (c0_11 : Nat) (l0_11 : List (S98)) (a0_12 : ByteArray) (r : Bool) (w : World) (hr0_9 : Kd.C k46 w A0_9 l0_9.length l0_9) (hc0_9 : l0_9.length ≤ c0_9) (hr0_10 : Kd.C k84 w A0_10 l0_10.length l0_10) (hc0_10 : l0_10.length ≤ c0_10) (hr0_11 : Kd.C k98 w A0_11 l0_11.length l0_11) (hc0_11 : l0_11.length ≤ c0_11) (h : contangotop_TopCoverFree.f k a0_0 a0_1 a0_2 a0_3 a0_4 a0_5 a0_6 a0_7 a0_8 l0_9 l0_10 l0_11 a0_12 = some r) :
  Calls Try.prog 13 #[.agg #[.string a0_0, .string a0_1, .int .i64 a0_2, .int .i64 a0_3, .int .i64 a0_4, .int .i64 a0_5, .int .i64 a0_6, .int .i64 a0_7, .int .i64 a0_8, .slice A0_9 l0_9.length c0_9, .slice A0_10 l0_10.length c0_10, .slice A0_11 l0_11.length c0_11, .string a0_12]] w fun e w' => e = .returned (.bool r) ∧ Below w.heap.size w w' := by
 have hu89 := Try.underlying89
 have hu50 := Try.underlying50
 have hu44 := Try.underlying44
 have HR0_9 := Aside0.mk hr0_9
 have HC0_9 := Aside0.mk hc0_9
 clear hr0_9 hc0_9
 have HR0_10 := Aside0.mk hr0_10
 have HC0_10 := Aside0.mk hc0_10
 clear hr0_10 hc0_10
 have HR0_11 := Aside0.mk hr0_11
 have HC0_11 := Aside0.mk hc0_11
 clear hr0_11 hc0_11
 have HB := Aside0.mk (Below.refl w.heap.size w)
 have H : ((Qbl.f a0_0 a0_1 a0_2 a0_3 a0_4 a0_5 a0_6 a0_7 a0_8 l0_9 l0_10 l0_11 a0_12).bind fun t951 => (if t951 = true then ((QaE.f k a0_0 a0_1 a0_2 a0_3 a0_4 a0_5 a0_6 a0_7 a0_8 l0_9 l0_10 l0_11 a0_12 l0_9).bind fun bt953 => ((Qaz.f k l0_9 a0_0 a0_1 a0_12 a0_8 l0_10 l0_11).bind fun bt960 => (if bt953.2.2.2.2.2 = true then (if bt960.2 = 0 then (contangotop_TopCoverFree.j0 k bt960.1 (decide (bt953.2.2.2.2.1 > 0)) a0_0 a0_1 a0_2 a0_3 a0_4 a0_5 a0_6 a0_7 a0_8 l0_9 l0_10 l0_11 a0_12) else (contangotop_TopCoverFree.j0 k bt960.1 true a0_0 a0_1 a0_2 a0_3 a0_4 a0_5 a0_6 a0_7 a0_8 l0_9 l0_10 l0_11 a0_12)) else (contangotop_TopCoverFree.j0 k bt960.1 true a0_0 a0_1 a0_2 a0_3 a0_4 a0_5 a0_6 a0_7 a0_8 l0_9 l0_10 l0_11 a0_12)))) else ((QaM.f k).bind fun t952 => (some t952)))) = some r := h
 clear h
 replace H := Option.bind_eq_some_iff.mp H
 obtain ⟨t951, A20, H⟩ := H
 replace H : (if t951 = true then ((QaE.f k a0_0 a0_1 a0_2 a0_3 a0_4 a0_5 a0_6 a0_7 a0_8 l0_9 l0_10 l0_11 a0_12 l0_9).bind fun bt953 => ((Qaz.f k l0_9 a0_0 a0_1 a0_12 a0_8 l0_10 l0_11).bind fun bt960 => (if bt953.2.2.2.2.2 = true then (if bt960.2 = 0 then (contangotop_TopCoverFree.j0 k bt960.1 (decide (bt953.2.2.2.2.1 > 0)) a0_0 a0_1 a0_2 a0_3 a0_4 a0_5 a0_6 a0_7 a0_8 l0_9 l0_10 l0_11 a0_12) else (contangotop_TopCoverFree.j0 k bt960.1 true a0_0 a0_1 a0_2 a0_3 a0_4 a0_5 a0_6 a0_7 a0_8 l0_9 l0_10 l0_11 a0_12)) else (contangotop_TopCoverFree.j0 k bt960.1 true a0_0 a0_1 a0_2 a0_3 a0_4 a0_5 a0_6 a0_7 a0_8 l0_9 l0_10 l0_11 a0_12)))) else ((QaM.f k).bind fun t952 => (some t952))) = some r := H
 have A2 := Aside0.mk A20
 clear A20
 go_enter Try.func13, Try.ntmps13
 go_upto_if 16 with (first | ((with_reducible refine QaD (N := 1) rfl ?_); refine QaL ?hg (N := 1) ?hd (cs := #[.string a0_0, .string a0_1, .int .i64 a0_2, .int .i64 a0_3, .int .i64 a0_4, .int .i64 a0_5, .int .i64 a0_6, .int .i64 a0_7, .int .i64 a0_8, .slice A0_9 l0_9.length c0_9, .slice A0_10 l0_10.length c0_10, .slice A0_11 l0_11.length c0_11, .string a0_12]) (t := 89) ?hr ?_; (case hd => rfl); (case hg => rfl); (case hr => first | (go_simp; done) | (go_simp; rfl)); intro gb950 hg w3 hbox hb; have n0_ := Aside0.mk (Qaq (Zb) hb); have n1_ := Aside0.mk (hbox); have n2_ := Aside0.mk ((by rw [hg]; exact (Qan (Zb)) : w.heap.size ≤ gb950)); have n3_ := Aside0.mk ((by rw [hg]; exact (Qan (Zb)) : w.heap.size ≤ gb950)); clear HB; have HB := n0_; have BK950 := n1_; have GW950 := n2_; have GE950 := n3_; clear n0_ n1_ n2_ n3_; clear hb hbox hg; have hcz4_0 : w3.cell? ⟨gb950, 0, none⟩ = some (.string a0_0) := (Qah BK950.out 0).trans rfl; have hcz4_1 : w3.cell? ⟨gb950, 1, none⟩ = some (.string a0_1) := (Qah BK950.out 1).trans rfl; have hcz4_2 : w3.cell? ⟨gb950, 2, none⟩ = some (.int .i64 a0_2) := (Qah BK950.out 2).trans rfl; have hcz4_3 : w3.cell? ⟨gb950, 3, none⟩ = some (.int .i64 a0_3) := (Qah BK950.out 3).trans rfl; have hcz4_4 : w3.cell? ⟨gb950, 4, none⟩ = some (.int .i64 a0_4) := (Qah BK950.out 4).trans rfl; have hcz4_5 : w3.cell? ⟨gb950, 5, none⟩ = some (.int .i64 a0_5) := (Qah BK950.out 5).trans rfl; have hcz4_6 : w3.cell? ⟨gb950, 6, none⟩ = some (.int .i64 a0_6) := (Qah BK950.out 6).trans rfl; have hcz4_7 : w3.cell? ⟨gb950, 7, none⟩ = some (.int .i64 a0_7) := (Qah BK950.out 7).trans rfl; have hcz4_8 : w3.cell? ⟨gb950, 8, none⟩ = some (.int .i64 a0_8) := (Qah BK950.out 8).trans rfl; have hcz4_9 : w3.cell? ⟨gb950, 9, none⟩ = some (.slice A0_9 l0_9.length c0_9) := (Qah BK950.out 9).trans rfl; have hcz4_10 : w3.cell? ⟨gb950, 10, none⟩ = some (.slice A0_10 l0_10.length c0_10) := (Qah BK950.out 10).trans rfl; have hcz4_11 : w3.cell? ⟨gb950, 11, none⟩ = some (.slice A0_11 l0_11.length c0_11) := (Qah BK950.out 11).trans rfl; have hcz4_12 : w3.cell? ⟨gb950, 12, none⟩ = some (.string a0_12) := (Qah BK950.out 12).trans rfl; have hfz4_0 := Qaf BK950.out 0; have hfz4_1 := Qaf BK950.out 1; have hfz4_2 := Qaf BK950.out 2; have hfz4_3 := Qaf BK950.out 3; have hfz4_4 := Qaf BK950.out 4; have hfz4_5 := Qaf BK950.out 5; have hfz4_6 := Qaf BK950.out 6; have hfz4_7 := Qaf BK950.out 7; have hfz4_8 := Qaf BK950.out 8; have hfz4_9 := Qaf BK950.out 9; have hfz4_10 := Qaf BK950.out 10; have hfz4_11 := Qaf BK950.out 11; have hfz4_12 := Qaf BK950.out 12) | ((with_reducible refine Qay (f := 43) rfl ?_); refine goesL_ (some 15) rfl rfl Try.func43 (by kernel_rfl) rfl #[.agg #[.string a0_0, .string a0_1, .int .i64 a0_2, .int .i64 a0_3, .int .i64 a0_4, .int .i64 a0_5, .int .i64 a0_6, .int .i64 a0_7, .int .i64 a0_8, .slice A0_9 l0_9.length c0_9, .slice A0_10 l0_10.length c0_10, .slice A0_11 l0_11.length c0_11, .string a0_12]] rfl (Zl) ?_; (with_reducible refine (Qbl.calls a0_0 a0_1 a0_2 a0_3 a0_4 a0_5 a0_6 a0_7 a0_8 _ _ l0_9 _ _ l0_10 _ _ l0_11 a0_12 t951 _ ?side1 ?side2 ?side3 ?side4 ?side5 ?side6 A2.out).mono ?_); (case side1 => exact Zv (Kd.C_below HR0_9.out HB.out)); (case side2 => exact HC0_9.out); (case side3 => exact Zv (Kd.C_below HR0_10.out HB.out)); (case side4 => exact HC0_10.out); (case side5 => exact Zv (Kd.C_below HR0_11.out HB.out)); (case side6 => exact HC0_11.out); rintro e w5 ⟨rfl, hb⟩; refine ⟨_, rfl, ?_⟩; have n0_ := Aside0.mk (Qaj (g := gb950) (o := .cells #[.string a0_0, .string a0_1, .int .i64 a0_2, .int .i64 a0_3, .int .i64 a0_4, .int .i64 a0_5, .int .i64 a0_6, .int .i64 a0_7, .int .i64 a0_8, .slice A0_9 l0_9.length c0_9, .slice A0_10 l0_10.length c0_10, .slice A0_11 l0_11.length c0_11, .string a0_12] 89 (0, 0)) (Zu BK950.out) hb); have n1_ := Aside0.mk (Qaq (Zc1 GE950.out) hb); clear BK950; clear HB; have BK950 := n0_; have HB := n1_; clear n0_ n1_; (try clear hb); (try clear hb2); (try clear hk); (try clear hi)))
 (try simp only [Act.put, List.setIfInBounds_toArray, List.set_cons_zero, List.set_cons_succ])
 by_cases c6 : t951 = true
 ·subst c6
  have H1 : ((QaE.f k a0_0 a0_1 a0_2 a0_3 a0_4 a0_5 a0_6 a0_7 a0_8 l0_9 l0_10 l0_11 a0_12 l0_9).bind fun bt953 => ((Qaz.f k l0_9 a0_0 a0_1 a0_12 a0_8 l0_10 l0_11).bind fun bt960 => (if bt953.2.2.2.2.2 = true then (if bt960.2 = 0 then (contangotop_TopCoverFree.j0 k bt960.1 (decide (bt953.2.2.2.2.1 > 0)) a0_0 a0_1 a0_2 a0_3 a0_4 a0_5 a0_6 a0_7 a0_8 l0_9 l0_10 l0_11 a0_12) else (contangotop_TopCoverFree.j0 k bt960.1 true a0_0 a0_1 a0_2 a0_3 a0_4 a0_5 a0_6 a0_7 a0_8 l0_9 l0_10 l0_11 a0_12)) else (contangotop_TopCoverFree.j0 k bt960.1 true a0_0 a0_1 a0_2 a0_3 a0_4 a0_5 a0_6 a0_7 a0_8 l0_9 l0_10 l0_11 a0_12)))) = some r := by rw [if_pos rfl] at H; exact H
  clear H
  have H := H1
  clear H1
  replace H := Option.bind_eq_some_iff.mp H
  obtain ⟨⟨t953, t954, t955, t956, t957, t958⟩, A70, H⟩ := H
  replace H : ((Qaz.f k l0_9 a0_0 a0_1 a0_12 a0_8 l0_10 l0_11).bind fun bt960 => (if t958 = true then (if bt960.2 = 0 then (contangotop_TopCoverFree.j0 k bt960.1 (decide (t957 > 0)) a0_0 a0_1 a0_2 a0_3 a0_4 a0_5 a0_6 a0_7 a0_8 l0_9 l0_10 l0_11 a0_12) else (contangotop_TopCoverFree.j0 k bt960.1 true a0_0 a0_1 a0_2 a0_3 a0_4 a0_5 a0_6 a0_7 a0_8 l0_9 l0_10 l0_11 a0_12)) else (contangotop_TopCoverFree.j0 k bt960.1 true a0_0 a0_1 a0_2 a0_3 a0_4 a0_5 a0_6 a0_7 a0_8 l0_9 l0_10 l0_11 a0_12))) = some r := H
  have A7 := Aside0.mk A70
  clear A70
  replace H := Option.bind_eq_some_iff.mp H
  obtain ⟨⟨t960, t961⟩, A80, H⟩ := H
  replace H : (if t958 = true then (if t961 = 0 then (contangotop_TopCoverFree.j0 k t960 (decide (t957 > 0)) a0_0 a0_1 a0_2 a0_3 a0_4 a0_5 a0_6 a0_7 a0_8 l0_9 l0_10 l0_11 a0_12) else (contangotop_TopCoverFree.j0 k t960 true a0_0 a0_1 a0_2 a0_3 a0_4 a0_5 a0_6 a0_7 a0_8 l0_9 l0_10 l0_11 a0_12)) else (contangotop_TopCoverFree.j0 k t960 true a0_0 a0_1 a0_2 a0_3 a0_4 a0_5 a0_6 a0_7 a0_8 l0_9 l0_10 l0_11 a0_12)) = some r := H
  have A8 := Aside0.mk A80
  clear A80
  have HC9 := Aside0.mk H
  clear H
  have hcz10_0 : w5.cell? ⟨gb950, 0, none⟩ = some (.string a0_0) := (Qah BK950.out 0).trans rfl
  have hcz10_1 : w5.cell? ⟨gb950, 1, none⟩ = some (.string a0_1) := (Qah BK950.out 1).trans rfl
  have hcz10_2 : w5.cell? ⟨gb950, 2, none⟩ = some (.int .i64 a0_2) := (Qah BK950.out 2).trans rfl
  have hcz10_3 : w5.cell? ⟨gb950, 3, none⟩ = some (.int .i64 a0_3) := (Qah BK950.out 3).trans rfl
  have hcz10_4 : w5.cell? ⟨gb950, 4, none⟩ = some (.int .i64 a0_4) := (Qah BK950.out 4).trans rfl
  have hcz10_5 : w5.cell? ⟨gb950, 5, none⟩ = some (.int .i64 a0_5) := (Qah BK950.out 5).trans rfl
  have hcz10_6 : w5.cell? ⟨gb950, 6, none⟩ = some (.int .i64 a0_6) := (Qah BK950.out 6).trans rfl
  have hcz10_7 : w5.cell? ⟨gb950, 7, none⟩ = some (.int .i64 a0_7) := (Qah BK950.out 7).trans rfl
  have hcz10_8 : w5.cell? ⟨gb950, 8, none⟩ = some (.int .i64 a0_8) := (Qah BK950.out 8).trans rfl
  have hcz10_9 : w5.cell? ⟨gb950, 9, none⟩ = some (.slice A0_9 l0_9.length c0_9) := (Qah BK950.out 9).trans rfl
  have hcz10_10 : w5.cell? ⟨gb950, 10, none⟩ = some (.slice A0_10 l0_10.length c0_10) := (Qah BK950.out 10).trans rfl
  have hcz10_11 : w5.cell? ⟨gb950, 11, none⟩ = some (.slice A0_11 l0_11.length c0_11) := (Qah BK950.out 11).trans rfl
  have hcz10_12 : w5.cell? ⟨gb950, 12, none⟩ = some (.string a0_12) := (Qah BK950.out 12).trans rfl
  have hfz10_0 := Qaf BK950.out 0
  have hfz10_1 := Qaf BK950.out 1
  have hfz10_2 := Qaf BK950.out 2
  have hfz10_3 := Qaf BK950.out 3
  have hfz10_4 := Qaf BK950.out 4
  have hfz10_5 := Qaf BK950.out 5
  have hfz10_6 := Qaf BK950.out 6
  have hfz10_7 := Qaf BK950.out 7
  have hfz10_8 := Qaf BK950.out 8
  have hfz10_9 := Qaf BK950.out 9
  have hfz10_10 := Qaf BK950.out 10
  have hfz10_11 := Qaf BK950.out 11
  have hfz10_12 := Qaf BK950.out 12
  go_upto_region 5 with (first | ((with_reducible refine Qay (f := 45) rfl ?_); refine goesL_ (some 22) rfl rfl Try.func45 (by kernel_rfl) rfl #[.agg #[.string a0_0, .string a0_1, .int .i64 a0_2, .int .i64 a0_3, .int .i64 a0_4, .int .i64 a0_5, .int .i64 a0_6, .int .i64 a0_7, .int .i64 a0_8, .slice A0_9 l0_9.length c0_9, .slice A0_10 l0_10.length c0_10, .slice A0_11 l0_11.length c0_11, .string a0_12], .slice A0_9 l0_9.length c0_9] rfl (Zl) ?_; (with_reducible refine (QaE.calls k a0_0 a0_1 a0_2 a0_3 a0_4 a0_5 a0_6 a0_7 a0_8 _ _ l0_9 _ _ l0_10 _ _ l0_11 a0_12 _ _ l0_9 t953 t954 t955 t956 t957 t958 _ ?side1 ?side2 ?side3 ?side4 ?side5 ?side6 ?side7 ?side8 A7.out).mono ?_); (case side1 => exact Zv (Kd.C_below HR0_9.out HB.out)); (case side2 => exact HC0_9.out); (case side3 => exact Zv (Kd.C_below HR0_10.out HB.out)); (case side4 => exact HC0_10.out); (case side5 => exact Zv (Kd.C_below HR0_11.out HB.out)); (case side6 => exact HC0_11.out); (case side7 => exact Zv (Kd.C_below HR0_9.out HB.out)); (case side8 => exact HC0_9.out); rintro e w11 ⟨rfl, hb⟩; refine ⟨_, rfl, ?_⟩; have n0_ := Aside0.mk (Qaj (g := gb950) (o := .cells #[.string a0_0, .string a0_1, .int .i64 a0_2, .int .i64 a0_3, .int .i64 a0_4, .int .i64 a0_5, .int .i64 a0_6, .int .i64 a0_7, .int .i64 a0_8, .slice A0_9 l0_9.length c0_9, .slice A0_10 l0_10.length c0_10, .slice A0_11 l0_11.length c0_11, .string a0_12] 89 (0, 0)) (Zu BK950.out) hb); have n1_ := Aside0.mk (Qaq (Zc1 GE950.out) hb); clear BK950; clear HB; have BK950 := n0_; have HB := n1_; clear n0_ n1_; (try clear hb); (try clear hb2); (try clear hk); (try clear hi)) | ((with_reducible refine QaD (N := 3) rfl ?_); refine QaL ?hg (N := 3) ?hd (cs := #[.string (⟨#[]⟩ : ByteArray), .string (⟨#[]⟩ : ByteArray), .int .i64 0, .int .i64 0, .int .i64 0]) (t := 50) ?hr ?_; (case hd => rfl); (case hg => rfl); (case hr => first | (go_simp; done) | (go_simp; rfl)); intro gb959 hg w12 hbox hb; have n0_ := Aside0.mk (Qaj (g := gb950) (o := .cells #[.string a0_0, .string a0_1, .int .i64 a0_2, .int .i64 a0_3, .int .i64 a0_4, .int .i64 a0_5, .int .i64 a0_6, .int .i64 a0_7, .int .i64 a0_8, .slice A0_9 l0_9.length c0_9, .slice A0_10 l0_10.length c0_10, .slice A0_11 l0_11.length c0_11, .string a0_12] 89 (0, 0)) (Zu BK950.out) hb); have n1_ := Aside0.mk (Qaq (Zc1 GE950.out) hb); have n2_ := Aside0.mk (hbox); have n3_ := Aside0.mk ((by rw [hg]; exact (Qan (Zc1 GE950.out)) : w.heap.size ≤ gb959)); have n4_ := Aside0.mk ((by rw [hg]; exact (Qan (Zc1 GE950.out)) : w.heap.size ≤ gb959)); have n5_ := Aside0.mk ((by rw [hg]; exact Nat.ne_of_lt (blk_lt (g := gb950) (o := .cells #[.string a0_0, .string a0_1, .int .i64 a0_2, .int .i64 a0_3, .int .i64 a0_4, .int .i64 a0_5, .int .i64 a0_6, .int .i64 a0_7, .int .i64 a0_8, .slice A0_9 l0_9.length c0_9, .slice A0_10 l0_10.length c0_10, .slice A0_11 l0_11.length c0_11, .string a0_12] 89 (0, 0)) (Zu BK950.out)) : gb950 ≠ gb959)); have n6_ := Aside0.mk ((by rw [hg]; exact Nat.ne_of_gt (blk_lt (g := gb950) (o := .cells #[.string a0_0, .string a0_1, .int .i64 a0_2, .int .i64 a0_3, .int .i64 a0_4, .int .i64 a0_5, .int .i64 a0_6, .int .i64 a0_7, .int .i64 a0_8, .slice A0_9 l0_9.length c0_9, .slice A0_10 l0_10.length c0_10, .slice A0_11 l0_11.length c0_11, .string a0_12] 89 (0, 0)) (Zu BK950.out)) : gb959 ≠ gb950)); clear BK950; clear HB; have BK950 := n0_; have HB := n1_; have BK959 := n2_; have GW959 := n3_; have GE959 := n4_; have NB950_959 := n5_; have NB959_950 := n6_; clear n0_ n1_ n2_ n3_ n4_ n5_ n6_; clear hb hbox hg; have hnb13 := NB959_950.out; have hnc13 := NB950_959.out; have hcz14_0 : w12.cell? ⟨gb959, 0, none⟩ = some (.string (⟨#[]⟩ : ByteArray)) := (Qah BK959.out 0).trans rfl; have hcz14_1 : w12.cell? ⟨gb959, 1, none⟩ = some (.string (⟨#[]⟩ : ByteArray)) := (Qah BK959.out 1).trans rfl; have hcz14_2 : w12.cell? ⟨gb959, 2, none⟩ = some (.int .i64 0) := (Qah BK959.out 2).trans rfl; have hcz14_3 : w12.cell? ⟨gb959, 3, none⟩ = some (.int .i64 0) := (Qah BK959.out 3).trans rfl; have hcz14_4 : w12.cell? ⟨gb959, 4, none⟩ = some (.int .i64 0) := (Qah BK959.out 4).trans rfl; have hfz14_0 := Qaf BK959.out 0; have hfz14_1 := Qaf BK959.out 1; have hfz14_2 := Qaf BK959.out 2; have hfz14_3 := Qaf BK959.out 3; have hfz14_4 := Qaf BK959.out 4; have hcz15_0 : w12.cell? ⟨gb950, 0, none⟩ = some (.string a0_0) := (Qah BK950.out 0).trans rfl; have hcz15_1 : w12.cell? ⟨gb950, 1, none⟩ = some (.string a0_1) := (Qah BK950.out 1).trans rfl; have hcz15_2 : w12.cell? ⟨gb950, 2, none⟩ = some (.int .i64 a0_2) := (Qah BK950.out 2).trans rfl; have hcz15_3 : w12.cell? ⟨gb950, 3, none⟩ = some (.int .i64 a0_3) := (Qah BK950.out 3).trans rfl; have hcz15_4 : w12.cell? ⟨gb950, 4, none⟩ = some (.int .i64 a0_4) := (Qah BK950.out 4).trans rfl; have hcz15_5 : w12.cell? ⟨gb950, 5, none⟩ = some (.int .i64 a0_5) := (Qah BK950.out 5).trans rfl; have hcz15_6 : w12.cell? ⟨gb950, 6, none⟩ = some (.int .i64 a0_6) := (Qah BK950.out 6).trans rfl; have hcz15_7 : w12.cell? ⟨gb950, 7, none⟩ = some (.int .i64 a0_7) := (Qah BK950.out 7).trans rfl; have hcz15_8 : w12.cell? ⟨gb950, 8, none⟩ = some (.int .i64 a0_8) := (Qah BK950.out 8).trans rfl; have hcz15_9 : w12.cell? ⟨gb950, 9, none⟩ = some (.slice A0_9 l0_9.length c0_9) := (Qah BK950.out 9).trans rfl; have hcz15_10 : w12.cell? ⟨gb950, 10, none⟩ = some (.slice A0_10 l0_10.length c0_10) := (Qah BK950.out 10).trans rfl; have hcz15_11 : w12.cell? ⟨gb950, 11, none⟩ = some (.slice A0_11 l0_11.length c0_11) := (Qah BK950.out 11).trans rfl; have hcz15_12 : w12.cell? ⟨gb950, 12, none⟩ = some (.string a0_12) := (Qah BK950.out 12).trans rfl; have hfz15_0 := Qaf BK950.out 0; have hfz15_1 := Qaf BK950.out 1; have hfz15_2 := Qaf BK950.out 2; have hfz15_3 := Qaf BK950.out 3; have hfz15_4 := Qaf BK950.out 4; have hfz15_5 := Qaf BK950.out 5; have hfz15_6 := Qaf BK950.out 6; have hfz15_7 := Qaf BK950.out 7; have hfz15_8 := Qaf BK950.out 8; have hfz15_9 := Qaf BK950.out 9; have hfz15_10 := Qaf BK950.out 10; have hfz15_11 := Qaf BK950.out 11; have hfz15_12 := Qaf BK950.out 12) | ((with_reducible refine Qay (f := 33) rfl ?_); refine goesL_ (some 40) rfl rfl Try.func33 (by kernel_rfl) rfl #[.slice A0_9 l0_9.length c0_9, .agg #[.string a0_0, .string a0_1], .string a0_12, .int .i64 a0_8, .slice A0_10 l0_10.length c0_10, .slice A0_11 l0_11.length c0_11] rfl (Zl) ?_; (with_reducible refine (Qaz.calls k _ _ l0_9 a0_0 a0_1 a0_12 a0_8 _ _ l0_10 _ _ l0_11 t960 t961 _ ?side1 ?side2 ?side3 ?side4 ?side5 ?side6 A8.out).mono ?_); (case side1 => exact Kd.C_below HR0_9.out (Zc2 GE950.out GE959.out)); (case side2 => exact HC0_9.out); (case side3 => exact Kd.C_below HR0_10.out (Zc2 GE950.out GE959.out)); (case side4 => exact HC0_10.out); (case side5 => exact Kd.C_below HR0_11.out (Zc2 GE950.out GE959.out)); (case side6 => exact HC0_11.out); rintro e w16 ⟨rfl, hb⟩; refine ⟨_, rfl, ?_⟩; have n0_ := Aside0.mk (Qaj (g := gb950) (o := .cells #[.string a0_0, .string a0_1, .int .i64 a0_2, .int .i64 a0_3, .int .i64 a0_4, .int .i64 a0_5, .int .i64 a0_6, .int .i64 a0_7, .int .i64 a0_8, .slice A0_9 l0_9.length c0_9, .slice A0_10 l0_10.length c0_10, .slice A0_11 l0_11.length c0_11, .string a0_12] 89 (0, 0)) (by (with_reducible repeat (first | refine Qab ?_ _ | refine Qad ?_ | refine Qaa ?_ _)); refine Qam ?_ NB950_959.out _; (with_reducible repeat (first | refine Qab ?_ _ | refine Qad ?_ | refine Qaa ?_ _)); refine Qam ?_ NB950_959.out _; (with_reducible repeat (first | refine Qab ?_ _ | refine Qad ?_ | refine Qaa ?_ _)); refine Qam ?_ NB950_959.out _; (with_reducible repeat (first | refine Qab ?_ _ | refine Qad ?_ | refine Qaa ?_ _)); refine Qam ?_ NB950_959.out _; (with_reducible repeat (first | refine Qab ?_ _ | refine Qad ?_ | refine Qaa ?_ _)); refine Qam ?_ NB950_959.out _; (with_reducible repeat (first | refine Qab ?_ _ | refine Qad ?_ | refine Qaa ?_ _)); exact BK950.out) hb); have n1_ := Aside0.mk (Qaj (g := gb959) (o := .cells #[.string t953, .string t954, .int .i64 t955, .int .i64 t956, .int .i64 t957] 50 (0, 0)) (by (with_reducible repeat (first | refine Qab ?_ _ | refine Qad ?_ | refine Qaa ?_ _)); refine Qas (cs := #[.string t953, .string t954, .int .i64 t955, .int .i64 t956, .int .i64 0]) ?_ 4 _ rfl; (with_reducible repeat (first | refine Qab ?_ _ | refine Qad ?_ | refine Qaa ?_ _)); refine Qas (cs := #[.string t953, .string t954, .int .i64 t955, .int .i64 0, .int .i64 0]) ?_ 3 _ rfl; (with_reducible repeat (first | refine Qab ?_ _ | refine Qad ?_ | refine Qaa ?_ _)); refine Qas (cs := #[.string t953, .string t954, .int .i64 0, .int .i64 0, .int .i64 0]) ?_ 2 _ rfl; (with_reducible repeat (first | refine Qab ?_ _ | refine Qad ?_ | refine Qaa ?_ _)); refine Qas (cs := #[.string t953, .string (⟨#[]⟩ : ByteArray), .int .i64 0, .int .i64 0, .int .i64 0]) ?_ 1 _ rfl; (with_reducible repeat (first | refine Qab ?_ _ | refine Qad ?_ | refine Qaa ?_ _)); refine Qas (cs := #[.string (⟨#[]⟩ : ByteArray), .string (⟨#[]⟩ : ByteArray), .int .i64 0, .int .i64 0, .int .i64 0]) ?_ 0 _ rfl; (with_reducible repeat (first | refine Qab ?_ _ | refine Qad ?_ | refine Qaa ?_ _)); exact BK959.out) hb); have n2_ := Aside0.mk (Qaq (Zc2 GE950.out GE959.out) hb); clear BK950; clear BK959; clear HB; have BK950 := n0_; have BK959 := n1_; have HB := n2_; clear n0_ n1_ n2_; (try clear hb); (try clear hb2); (try clear hk); (try clear hi)))
  (try simp only [Act.put, List.setIfInBounds_toArray, List.set_cons_zero, List.set_cons_succ])
  go_cut [53] (fun v53 wc => ∃ (kq : Nat) (x53_8 : Bool), v53 = .bool x53_8 ∧ Aside0 (contangotop_TopCoverFree.j0 kq t960 x53_8 a0_0 a0_1 a0_2 a0_3 a0_4 a0_5 a0_6 a0_7 a0_8 l0_9 l0_10 l0_11 a0_12 = some r) ∧ Aside0 (kq ≤ k) ∧ Aside0 (wc.heap[gb950]? = some (.cells #[.string a0_0, .string a0_1, .int .i64 a0_2, .int .i64 a0_3, .int .i64 a0_4, .int .i64 a0_5, .int .i64 a0_6, .int .i64 a0_7, .int .i64 a0_8, (.slice A0_9 l0_9.length c0_9), (.slice A0_10 l0_10.length c0_10), (.slice A0_11 l0_11.length c0_11), .string a0_12] 89 (0, 0))) ∧ Aside0 (wc.heap[gb959]? = some (.cells #[.string t953, .string t954, .int .i64 t955, .int .i64 t956, .int .i64 t957] 50 (0, 0))) ∧ Aside0 (Below w.heap.size w wc))
  case first =>
   have H := HC9.out
   clear HC9
   by_cases c17 : t958 = true
   ·subst c17
    have H1 : (if t961 = 0 then (contangotop_TopCoverFree.j0 k t960 (decide (t957 > 0)) a0_0 a0_1 a0_2 a0_3 a0_4 a0_5 a0_6 a0_7 a0_8 l0_9 l0_10 l0_11 a0_12) else (contangotop_TopCoverFree.j0 k t960 true a0_0 a0_1 a0_2 a0_3 a0_4 a0_5 a0_6 a0_7 a0_8 l0_9 l0_10 l0_11 a0_12)) = some r := by rw [if_pos rfl] at H; exact H
    clear H
    have H := H1
    clear H1
    by_cases c18 : t961 = 0
    ·rw [if_pos c18] at H
     have c18b0 : (t961 == 0) = true := beq_iff_eq.mpr c18
     have c18b1 : (t961 != 0) = false := bne_eq_false_iff_eq.mpr c18
     clear c18
     have H' := Aside0.mk H
     clear H
     have hnb19 := NB959_950.out
     have hnc19 := NB950_959.out
     have hcz20_0 : w16.cell? ⟨gb959, 0, none⟩ = some (.string t953) := (Qah BK959.out 0).trans rfl
     have hcz20_1 : w16.cell? ⟨gb959, 1, none⟩ = some (.string t954) := (Qah BK959.out 1).trans rfl
     have hcz20_2 : w16.cell? ⟨gb959, 2, none⟩ = some (.int .i64 t955) := (Qah BK959.out 2).trans rfl
     have hcz20_3 : w16.cell? ⟨gb959, 3, none⟩ = some (.int .i64 t956) := (Qah BK959.out 3).trans rfl
     have hcz20_4 : w16.cell? ⟨gb959, 4, none⟩ = some (.int .i64 t957) := (Qah BK959.out 4).trans rfl
     have hfz20_0 := Qaf BK959.out 0
     have hfz20_1 := Qaf BK959.out 1
     have hfz20_2 := Qaf BK959.out 2
     have hfz20_3 := Qaf BK959.out 3
     have hfz20_4 := Qaf BK959.out 4
     go_wp2
     go_meet
     case rel => exact ⟨_, (decide (t957 > 0)), (Zs), H', ⟨by first | omega | exact Nat.le_refl _⟩, ⟨Zu BK950.out⟩, ⟨Zu BK959.out⟩, ⟨Zc2 GE950.out GE959.out⟩⟩
    ·rw [if_neg c18] at H
     have c18b0 : (t961 == 0) = false := beq_eq_false_iff_ne.mpr c18
     have c18b1 : (t961 != 0) = true := bne_iff_ne.mpr c18
     have H' := Aside0.mk H
     clear H
     go_wp2
     go_meet
     case rel => exact ⟨_, (true), (Zs), H', ⟨by first | omega | exact Nat.le_refl _⟩, ⟨Zu BK950.out⟩, ⟨Zu BK959.out⟩, ⟨Zc2 GE950.out GE959.out⟩⟩
   ·replace c17 := Bool.eq_false_iff.mpr c17
    subst c17
    have H1 : (contangotop_TopCoverFree.j0 k t960 true a0_0 a0_1 a0_2 a0_3 a0_4 a0_5 a0_6 a0_7 a0_8 l0_9 l0_10 l0_11 a0_12) = some r := by rw [if_neg (show ¬ (false = true) by decide)] at H; exact H
    clear H
    have H := H1
    clear H1
    have H' := Aside0.mk H
    clear H
    go_wp2
    go_meet
    case rel => exact ⟨_, (true), (Zs), H', ⟨by first | omega | exact Nat.le_refl _⟩, ⟨Zu BK950.out⟩, ⟨Zu BK959.out⟩, ⟨Zc2 GE950.out GE959.out⟩⟩
  case rest =>
   clear HC9
   try clear c1
   try clear p2
   try clear c3
   try clear c4
   try clear c6
   try clear c13
   try clear c17
   try clear c18
   try clear c18b0
   try clear c18b1
   try clear c19
   try clear hcz10_0
   try clear hcz10_1
   try clear hcz10_10
   try clear hcz10_11
   try clear hcz10_12
   try clear hcz10_2
   try clear hcz10_3
   try clear hcz10_4
   try clear hcz10_5
   try clear hcz10_6
   try clear hcz10_7
   try clear hcz10_8
   try clear hcz10_9
   try clear hcz14_0
   try clear hcz14_1
   try clear hcz14_2
   try clear hcz14_3
   try clear hcz14_4
   try clear hcz15_0
   try clear hcz15_1
   try clear hcz15_10
   try clear hcz15_11
   try clear hcz15_12
   try clear hcz15_2
   try clear hcz15_3
   try clear hcz15_4
   try clear hcz15_5
   try clear hcz15_6
   try clear hcz15_7
   try clear hcz15_8
   try clear hcz15_9
   try clear hcz20_0
   try clear hcz20_1
   try clear hcz20_2
   try clear hcz20_3
   try clear hcz20_4
   try clear hcz4_0
   try clear hcz4_1
   try clear hcz4_10
   try clear hcz4_11
   try clear hcz4_12
   try clear hcz4_2
   try clear hcz4_3
   try clear hcz4_4
   try clear hcz4_5
   try clear hcz4_6
   try clear hcz4_7
   try clear hcz4_8
   try clear hcz4_9
   try clear hfz10_0
   try clear hfz10_1
   try clear hfz10_10
   try clear hfz10_11
   try clear hfz10_12
   try clear hfz10_2
   try clear hfz10_3
   try clear hfz10_4
   try clear hfz10_5
   try clear hfz10_6
   try clear hfz10_7
   try clear hfz10_8
   try clear hfz10_9
   try clear hfz14_0
   try clear hfz14_1
   try clear hfz14_2
   try clear hfz14_3
   try clear hfz14_4
   try clear hfz15_0
   try clear hfz15_1
   try clear hfz15_10
   try clear hfz15_11
   try clear hfz15_12
   try clear hfz15_2
   try clear hfz15_3
   try clear hfz15_4
   try clear hfz15_5
   try clear hfz15_6
   try clear hfz15_7
   try clear hfz15_8
   try clear hfz15_9
   try clear hfz20_0
   try clear hfz20_1
   try clear hfz20_2
   try clear hfz20_3
   try clear hfz20_4
   try clear hfz4_0
   try clear hfz4_1
   try clear hfz4_10
   try clear hfz4_11
   try clear hfz4_12
   try clear hfz4_2
   try clear hfz4_3
   try clear hfz4_4
   try clear hfz4_5
   try clear hfz4_6
   try clear hfz4_7
   try clear hfz4_8
   try clear hfz4_9
   obtain ⟨kq, x53_8, rfl, HA, HJ8, BK950, BK959, HB⟩ := hcut
   cases kq with
   | zero => exact absurd HA.out (by simp [contangotop_TopCoverFree.j0])
   | succ kj8 =>
    have H := HA.out
    clear HA
    simp only [contangotop_TopCoverFree.j0] at H
    by_cases c21 : x53_8 = true
    ·subst c21
     have H1 : (if t960 = 0 then ((QaM.f kj8).bind fun t962 => (some t962)) else (some false)) = some r := by rw [if_pos rfl] at H; exact H
     clear H
     have H := H1
     clear H1
     by_cases c22 : t960 = 0
     ·rw [if_pos c22] at H
      have c22b0 : (t960 == 0) = true := beq_iff_eq.mpr c22
      have c22b1 : (t960 != 0) = false := bne_eq_false_iff_eq.mpr c22
      clear c22
      replace H := Option.bind_eq_some_iff.mp H
      obtain ⟨t962, A230, H⟩ := H
      replace H : (some t962) = some r := H
      have A23 := Aside0.mk A230
      clear A230
      obtain rfl := Option.some.inj H
      go_wp2_with (first | (go_at_call 44; (with_reducible refine (QaM.calls kj8  t962 _ A23.out).mono ?_); rintro e w24 ⟨rfl, hb⟩; have n0_ := Aside0.mk (Qaj (g := gb950) (o := .cells #[.string a0_0, .string a0_1, .int .i64 a0_2, .int .i64 a0_3, .int .i64 a0_4, .int .i64 a0_5, .int .i64 a0_6, .int .i64 a0_7, .int .i64 a0_8, .slice A0_9 l0_9.length c0_9, .slice A0_10 l0_10.length c0_10, .slice A0_11 l0_11.length c0_11, .string a0_12] 89 (0, 0)) (Zu BK950.out) hb); have n1_ := Aside0.mk (Qaj (g := gb959) (o := .cells #[.string t953, .string t954, .int .i64 t955, .int .i64 t956, .int .i64 t957] 50 (0, 0)) (Zu BK959.out) hb); have n2_ := Aside0.mk (Qaq (Zc2 GE950.out GE959.out) hb); clear BK950; clear BK959; clear HB; have BK950 := n0_; have BK959 := n1_; have HB := n2_; clear n0_ n1_ n2_; (try clear hb); (try clear hb2); (try clear hk); (try clear hi)))
      go_ret
      exact ⟨Zq, Zc2 GE950.out GE959.out⟩
     ·rw [if_neg c22] at H
      have c22b0 : (t960 == 0) = false := beq_eq_false_iff_ne.mpr c22
      have c22b1 : (t960 != 0) = true := bne_iff_ne.mpr c22
      obtain rfl := Option.some.inj H
      go_wp2
      go_ret
      exact ⟨Zq, Zc2 GE950.out GE959.out⟩
    ·replace c21 := Bool.eq_false_iff.mpr c21
     subst c21
     have H1 : ((QaR.f kj8 l0_9 a0_0 a0_1 a0_12).bind fun t963 => ((some (([t960, wrap64 (t960 + 1)] : List Int) : List Int)).bind fun y964 => (contangotop_TopCoverFree.l0 kj8 t960 t963 y964 (y964.length : Int) 0 a0_0 a0_1 a0_2 a0_3 a0_4 a0_5 a0_6 a0_7 a0_8 l0_9 l0_10 l0_11 a0_12))) = some r := by rw [if_neg (show ¬ (false = true) by decide)] at H; exact H
     clear H
     have H := H1
     clear H1
     replace H := Option.bind_eq_some_iff.mp H
     obtain ⟨t963, A250, H⟩ := H
     replace H : ((some (([t960, wrap64 (t960 + 1)] : List Int) : List Int)).bind fun y964 => (contangotop_TopCoverFree.l0 kj8 t960 t963 y964 (y964.length : Int) 0 a0_0 a0_1 a0_2 a0_3 a0_4 a0_5 a0_6 a0_7 a0_8 l0_9 l0_10 l0_11 a0_12)) = some r := H
     have A25 := Aside0.mk A250
     clear A250
     obtain ⟨y964, hy964⟩ : ∃ y_ : List Int, y_ = (([t960, wrap64 (t960 + 1)] : List Int)) := ⟨_, rfl⟩
     replace H : (contangotop_TopCoverFree.l0 kj8 t960 t963 y964 (y964.length : Int) 0 a0_0 a0_1 a0_2 a0_3 a0_4 a0_5 a0_6 a0_7 a0_8 l0_9 l0_10 l0_11 a0_12) = some r := by first | (rw [hy964]; with_reducible exact H) | (have H2_ := (Option.bind_some _ _).symm.trans H; rw [hy964]; with_reducible exact H2_) | (have H2_ := (Option.bind_some _ _).symm.trans H; with_reducible exact H2_) | with_reducible exact H | (rw [hy964]; exact H) | exact H
     have Ny964 := Aside0.mk hy964
     clear hy964
     have H' := Aside0.mk H
     clear H
     have hnb26 := NB950_959.out
     have hnc26 := NB959_950.out
     have hcz27_0 : wc.cell? ⟨gb950, 0, none⟩ = some (.string a0_0) := (Qah BK950.out 0).trans rfl
     have hcz27_1 : wc.cell? ⟨gb950, 1, none⟩ = some (.string a0_1) := (Qah BK950.out 1).trans rfl
     have hcz27_2 : wc.cell? ⟨gb950, 2, none⟩ = some (.int .i64 a0_2) := (Qah BK950.out 2).trans rfl
     have hcz27_3 : wc.cell? ⟨gb950, 3, none⟩ = some (.int .i64 a0_3) := (Qah BK950.out 3).trans rfl
     have hcz27_4 : wc.cell? ⟨gb950, 4, none⟩ = some (.int .i64 a0_4) := (Qah BK950.out 4).trans rfl
     have hcz27_5 : wc.cell? ⟨gb950, 5, none⟩ = some (.int .i64 a0_5) := (Qah BK950.out 5).trans rfl
     have hcz27_6 : wc.cell? ⟨gb950, 6, none⟩ = some (.int .i64 a0_6) := (Qah BK950.out 6).trans rfl
     have hcz27_7 : wc.cell? ⟨gb950, 7, none⟩ = some (.int .i64 a0_7) := (Qah BK950.out 7).trans rfl
     have hcz27_8 : wc.cell? ⟨gb950, 8, none⟩ = some (.int .i64 a0_8) := (Qah BK950.out 8).trans rfl
     have hcz27_9 : wc.cell? ⟨gb950, 9, none⟩ = some (.slice A0_9 l0_9.length c0_9) := (Qah BK950.out 9).trans rfl
     have hcz27_10 : wc.cell? ⟨gb950, 10, none⟩ = some (.slice A0_10 l0_10.length c0_10) := (Qah BK950.out 10).trans rfl
     have hcz27_11 : wc.cell? ⟨gb950, 11, none⟩ = some (.slice A0_11 l0_11.length c0_11) := (Qah BK950.out 11).trans rfl
     have hcz27_12 : wc.cell? ⟨gb950, 12, none⟩ = some (.string a0_12) := (Qah BK950.out 12).trans rfl
     have hfz27_0 := Qaf BK950.out 0
     have hfz27_1 := Qaf BK950.out 1
     have hfz27_2 := Qaf BK950.out 2
     have hfz27_3 := Qaf BK950.out 3
     have hfz27_4 := Qaf BK950.out 4
     have hfz27_5 := Qaf BK950.out 5
     have hfz27_6 := Qaf BK950.out 6
     have hfz27_7 := Qaf BK950.out 7
     have hfz27_8 := Qaf BK950.out 8
     have hfz27_9 := Qaf BK950.out 9
     have hfz27_10 := Qaf BK950.out 10
     have hfz27_11 := Qaf BK950.out 11
     have hfz27_12 := Qaf BK950.out 12
     go_wp2_with (first | ((with_reducible refine Qay (f := 46) rfl ?_); refine goesL_ (some 66) rfl rfl Try.func46 (by kernel_rfl) rfl #[.slice A0_9 l0_9.length c0_9, .agg #[.string a0_0, .string a0_1], .string a0_12] rfl (Zl) ?_; (with_reducible refine (QaR.calls kj8 _ _ l0_9 a0_0 a0_1 a0_12 t963 _ ?side1 ?side2 A25.out).mono ?_); (case side1 => exact Zv (Kd.C_below HR0_9.out HB.out)); (case side2 => exact HC0_9.out); rintro e w28 ⟨rfl, hb⟩; refine ⟨_, rfl, ?_⟩; have n0_ := Aside0.mk (Qaj (g := gb950) (o := .cells #[.string a0_0, .string a0_1, .int .i64 a0_2, .int .i64 a0_3, .int .i64 a0_4, .int .i64 a0_5, .int .i64 a0_6, .int .i64 a0_7, .int .i64 a0_8, .slice A0_9 l0_9.length c0_9, .slice A0_10 l0_10.length c0_10, .slice A0_11 l0_11.length c0_11, .string a0_12] 89 (0, 0)) (Zu BK950.out) hb); have n1_ := Aside0.mk (Qaj (g := gb959) (o := .cells #[.string t953, .string t954, .int .i64 t955, .int .i64 t956, .int .i64 t957] 50 (0, 0)) (Zu BK959.out) hb); have n2_ := Aside0.mk (Qaq (Zc2 GE950.out GE959.out) hb); clear BK950; clear BK959; clear HB; have BK950 := n0_; have BK959 := n1_; have HB := n2_; clear n0_ n1_ n2_; (try clear hb); (try clear hb2); (try clear hk); (try clear hi)) | ((with_reducible refine QaD (N := 70) rfl ?_); refine Kd.R_lit (Kd.int .i64) _ 3 ?hg (N := 70) ?hd (xs := ([t960, wrap64 (t960 + 1)] : List Int)) (inner := [.int .i64 t960, .int .i64 (wrap64 (t960 + 1))]) (ok := fun _ => True) (okp := fun _ => True) ?hr ?hp (fun _ hk => hk) trivial (Below.refl _ _) (Nat.le_refl _) (by simp) ?_; (case hd => rfl); (case hg => rfl); (case hr => first | (go_simp; done) | (go_simp; rfl)); (case hp => exact (Reps.one (show Kd.M (Kd.int .i64) _ _ _ t960 [.int .i64 t960] from rfl) (Reps.one (show Kd.M (Kd.int .i64) _ _ _ (wrap64 (t960 + 1)) [.int .i64 (wrap64 (t960 + 1))] from rfl) (Reps.none _ _)))); intro v965 w29 ho30 hb hg_ hnew_; clear hg_ hnew_; (first | rw [← Ny964.out] at ho30 | (simp only [Int.reduceToNat] at ho30; rw [← Ny964.out] at ho30)); have n0_ := Aside0.mk (Kd.R_lower ho30 (Qan (Zc2 GE950.out GE959.out))); have n1_ := Aside0.mk (Qaj (g := gb950) (o := .cells #[.string a0_0, .string a0_1, .int .i64 a0_2, .int .i64 a0_3, .int .i64 a0_4, .int .i64 a0_5, .int .i64 a0_6, .int .i64 a0_7, .int .i64 a0_8, .slice A0_9 l0_9.length c0_9, .slice A0_10 l0_10.length c0_10, .slice A0_11 l0_11.length c0_11, .string a0_12] 89 (0, 0)) (Zu BK950.out) hb); have n2_ := Aside0.mk (Qaj (g := gb959) (o := .cells #[.string t953, .string t954, .int .i64 t955, .int .i64 t956, .int .i64 t957] 50 (0, 0)) (Zu BK959.out) hb); have n3_ := Aside0.mk (Qaq (Zc2 GE950.out GE959.out) hb); clear BK950; clear BK959; clear HB; have HO966 := n0_; have BK950 := n1_; have BK959 := n2_; have HB := n3_; clear n0_ n1_ n2_ n3_; clear hb ho30; obtain ⟨Ao31, co31, eo31⟩ := Kd.R_slice HO966.out; subst eo31))
     go_loopg [72] kj8 (fun kq v72 w' => ∃ (x72_2 : Int), v72 = .int .i64 x72_2 ∧ Aside0 (contangotop_TopCoverFree.l0 kq t960 t963 y964 (y964.length : Int) x72_2 a0_0 a0_1 a0_2 a0_3 a0_4 a0_5 a0_6 a0_7 a0_8 l0_9 l0_10 l0_11 a0_12 = some r) ∧ Aside0 (kq ≤ kj8) ∧ Aside0 (Kd.R (Kd.int .i64) 3 w' w.heap.size (fun _ => True) (.slice Ao31 y964.length co31) y964) ∧ Aside0 (w'.heap[gb950]? = some (.cells #[.string a0_0, .string a0_1, .int .i64 a0_2, .int .i64 a0_3, .int .i64 a0_4, .int .i64 a0_5, .int .i64 a0_6, .int .i64 a0_7, .int .i64 a0_8, (.slice A0_9 l0_9.length c0_9), (.slice A0_10 l0_10.length c0_10), (.slice A0_11 l0_11.length c0_11), .string a0_12] 89 (0, 0))) ∧ Aside0 (w'.heap[gb959]? = some (.cells #[.string t953, .string t954, .int .i64 t955, .int .i64 t956, .int .i64 t957] 50 (0, 0))) ∧ Aside0 (Below w.heap.size w w'))
     case atStart => exact ⟨(0), (Zs), H', ⟨Nat.le_refl _⟩, ⟨Zr HO966.out⟩, ⟨Zu BK950.out⟩, ⟨Zu BK959.out⟩, ⟨Zc2 GE950.out GE959.out⟩⟩
     case round =>
      clear H'
      try clear c1
      try clear c2
      try clear p2
      try clear c3
      try clear c4
      try clear c6
      try clear p6
      try clear c13
      try clear c17
      try clear c18
      try clear c18b0
      try clear c18b1
      try clear c19
      try clear c21
      try clear c22
      try clear c22b0
      try clear c22b1
      try clear c26
      try clear hcz10_0
      try clear hcz10_1
      try clear hcz10_10
      try clear hcz10_11
      try clear hcz10_12
      try clear hcz10_2
      try clear hcz10_3
      try clear hcz10_4
      try clear hcz10_5
      try clear hcz10_6
      try clear hcz10_7
      try clear hcz10_8
      try clear hcz10_9
      try clear hcz14_0
      try clear hcz14_1
      try clear hcz14_2
      try clear hcz14_3
      try clear hcz14_4
      try clear hcz15_0
      try clear hcz15_1
      try clear hcz15_10
      try clear hcz15_11
      try clear hcz15_12
      try clear hcz15_2
      try clear hcz15_3
      try clear hcz15_4
      try clear hcz15_5
      try clear hcz15_6
      try clear hcz15_7
      try clear hcz15_8
      try clear hcz15_9
      try clear hcz20_0
      try clear hcz20_1
      try clear hcz20_2
      try clear hcz20_3
      try clear hcz20_4
      try clear hcz27_0
      try clear hcz27_1
      try clear hcz27_10
      try clear hcz27_11
      try clear hcz27_12
      try clear hcz27_2
      try clear hcz27_3
      try clear hcz27_4
      try clear hcz27_5
      try clear hcz27_6
      try clear hcz27_7
      try clear hcz27_8
      try clear hcz27_9
      try clear hcz4_0
      try clear hcz4_1
      try clear hcz4_10
      try clear hcz4_11
      try clear hcz4_12
      try clear hcz4_2
      try clear hcz4_3
      try clear hcz4_4
      try clear hcz4_5
      try clear hcz4_6
      try clear hcz4_7
      try clear hcz4_8
      try clear hcz4_9
      try clear hfz10_0
      try clear hfz10_1
      try clear hfz10_10
      try clear hfz10_11
      try clear hfz10_12
      try clear hfz10_2
      try clear hfz10_3
      try clear hfz10_4
      try clear hfz10_5
      try clear hfz10_6
      try clear hfz10_7
      try clear hfz10_8
      try clear hfz10_9
      try clear hfz14_0
      try clear hfz14_1
      try clear hfz14_2
      try clear hfz14_3
      try clear hfz14_4
      try clear hfz15_0
      try clear hfz15_1
      try clear hfz15_10
      try clear hfz15_11
      try clear hfz15_12
      try clear hfz15_2
      try clear hfz15_3
      try clear hfz15_4
      try clear hfz15_5
      try clear hfz15_6
      try clear hfz15_7
      try clear hfz15_8
      try clear hfz15_9
      try clear hfz20_0
      try clear hfz20_1
      try clear hfz20_2
      try clear hfz20_3
      try clear hfz20_4
      try clear hfz27_0
      try clear hfz27_1
      try clear hfz27_10
      try clear hfz27_11
      try clear hfz27_12
      try clear hfz27_2
      try clear hfz27_3
      try clear hfz27_4
      try clear hfz27_5
      try clear hfz27_6
      try clear hfz27_7
      try clear hfz27_8
      try clear hfz27_9
      try clear hfz4_0
      try clear hfz4_1
      try clear hfz4_10
      try clear hfz4_11
      try clear hfz4_12
      try clear hfz4_2
      try clear hfz4_3
      try clear hfz4_4
      try clear hfz4_5
      try clear hfz4_6
      try clear hfz4_7
      try clear hfz4_8
      try clear hfz4_9
      try clear p2
      obtain ⟨x72_2, rfl, HA, HK2, HO_70, BK950, BK959, HB⟩ := hrel
      cases gk with
      | zero => exact absurd HA.out (by simp [contangotop_TopCoverFree.l0])
      | succ k2 =>
       have H := HA.out
       clear HA
       simp only [contangotop_TopCoverFree.l0] at H
       by_cases c32 : x72_2 < (y964.length : Int)
       ·rw [if_pos c32] at H
        have c32b0 : decide (x72_2 < (y964.length : Int)) = true := decide_eq_true c32
        clear c32
        (try simp only [c32b0])
        by_cases c33 : 0 ≤ x72_2
        ·rw [if_pos c33] at H
         have c33b0 : decide (0 ≤ x72_2) = true := decide_eq_true c33
         clear c33
         by_cases c34 : x72_2 < (y964.length : Int)
         ·rw [if_pos c34] at H
          have c34b0 : decide (x72_2 < (y964.length : Int)) = true := decide_eq_true c34
          clear c34
          have HC35 := Aside0.mk H
          clear H
          have p968 : 0 ≤ (x72_2 : Int) := Ze
          have q968 : x72_2 < (y964.length : Int) := Ze
          obtain ⟨ad968, e968, hx968_0⟩ := Kd.at_int (Kd.R_reads' HO_70.out).2.2 x72_2 p968 q968
          cases e968
          replace p968 := eq_true p968
          replace q968 := eq_true q968
          go_upto_region 11 with (fail)
          go_cut [82] (fun v82 wc => ∃ (kq : Nat) (x82_34 : Bool), v82 = .bool x82_34 ∧ Aside0 (contangotop_TopCoverFree.j2 kq t960 t963 (rd y964 x72_2) y964 (y964.length : Int) x72_2 x82_34 a0_0 a0_1 a0_2 a0_3 a0_4 a0_5 a0_6 a0_7 a0_8 l0_9 l0_10 l0_11 a0_12 = some r) ∧ Aside0 (kq ≤ k2) ∧ Aside0 (Kd.R (Kd.int .i64) 3 wc w.heap.size (fun _ => True) (.slice (some ad968) y964.length co31) y964) ∧ Aside0 (wc.heap[gb950]? = some (.cells #[.string a0_0, .string a0_1, .int .i64 a0_2, .int .i64 a0_3, .int .i64 a0_4, .int .i64 a0_5, .int .i64 a0_6, .int .i64 a0_7, .int .i64 a0_8, (.slice A0_9 l0_9.length c0_9), (.slice A0_10 l0_10.length c0_10), (.slice A0_11 l0_11.length c0_11), .string a0_12] 89 (0, 0))) ∧ Aside0 (wc.heap[gb959]? = some (.cells #[.string t953, .string t954, .int .i64 t955, .int .i64 t956, .int .i64 t957] 50 (0, 0))) ∧ Aside0 (Below w.heap.size w wc))
          case first =>
           have H := HC35.out
           clear HC35
           by_cases c36 : (rd y964 x72_2) < 1
           ·rw [if_pos c36] at H
            have c36b0 : decide ((rd y964 x72_2) < 1) = true := decide_eq_true c36
            clear c36
            have H' := Aside0.mk H
            clear H
            go_wp2
            go_meet
            case rel => exact ⟨_, (true), (Zs), H', ⟨by have := HJ8.out; have := HK2.out; first | omega | exact Nat.le_refl _⟩, ⟨Zr HO_70.out⟩, ⟨Zu BK950.out⟩, ⟨Zu BK959.out⟩, ⟨Zc2 GE950.out GE959.out⟩⟩
           ·rw [if_neg c36] at H
            have c36b0 : decide ((rd y964 x72_2) < 1) = false := decide_eq_false c36
            clear c36
            have H' := Aside0.mk H
            clear H
            go_wp2
            go_meet
            case rel => exact ⟨_, (decide ((rd y964 x72_2) > t963)), (Zs), H', ⟨by have := HJ8.out; have := HK2.out; first | omega | exact Nat.le_refl _⟩, ⟨Zr HO_70.out⟩, ⟨Zu BK950.out⟩, ⟨Zu BK959.out⟩, ⟨Zc2 GE950.out GE959.out⟩⟩
          case rest =>
           clear HC35
           try clear c1
           try clear c2
           try clear p2
           try clear c3
           try clear c4
           try clear c6
           try clear p6
           try clear p9
           try clear q9
           try clear hx9
           try clear c13
           try clear c17
           try clear c18
           try clear c18b0
           try clear c18b1
           try clear c19
           try clear c21
           try clear c22
           try clear c22b0
           try clear c22b1
           try clear c26
           try clear c32
           try clear c32b0
           try clear c33
           try clear c33b0
           try clear c34
           try clear c34b0
           try clear c36
           try clear c36b0
           try clear hcz10_0
           try clear hcz10_1
           try clear hcz10_10
           try clear hcz10_11
           try clear hcz10_12
           try clear hcz10_2
           try clear hcz10_3
           try clear hcz10_4
           try clear hcz10_5
           try clear hcz10_6
           try clear hcz10_7
           try clear hcz10_8
           try clear hcz10_9
           try clear hcz14_0
           try clear hcz14_1
           try clear hcz14_2
           try clear hcz14_3
           try clear hcz14_4
           try clear hcz15_0
           try clear hcz15_1
           try clear hcz15_10
           try clear hcz15_11
           try clear hcz15_12
           try clear hcz15_2
           try clear hcz15_3
           try clear hcz15_4
           try clear hcz15_5
           try clear hcz15_6
           try clear hcz15_7
           try clear hcz15_8
           try clear hcz15_9
           try clear hcz20_0
           try clear hcz20_1
           try clear hcz20_2
           try clear hcz20_3
           try clear hcz20_4
           try clear hcz27_0
           try clear hcz27_1
           try clear hcz27_10
           try clear hcz27_11
           try clear hcz27_12
           try clear hcz27_2
           try clear hcz27_3
           try clear hcz27_4
           try clear hcz27_5
           try clear hcz27_6
           try clear hcz27_7
           try clear hcz27_8
           try clear hcz27_9
           try clear hcz4_0
           try clear hcz4_1
           try clear hcz4_10
           try clear hcz4_11
           try clear hcz4_12
           try clear hcz4_2
           try clear hcz4_3
           try clear hcz4_4
           try clear hcz4_5
           try clear hcz4_6
           try clear hcz4_7
           try clear hcz4_8
           try clear hcz4_9
           try clear hfz10_0
           try clear hfz10_1
           try clear hfz10_10
           try clear hfz10_11
           try clear hfz10_12
           try clear hfz10_2
           try clear hfz10_3
           try clear hfz10_4
           try clear hfz10_5
           try clear hfz10_6
           try clear hfz10_7
           try clear hfz10_8
           try clear hfz10_9
           try clear hfz14_0
           try clear hfz14_1
           try clear hfz14_2
           try clear hfz14_3
           try clear hfz14_4
           try clear hfz15_0
           try clear hfz15_1
           try clear hfz15_10
           try clear hfz15_11
           try clear hfz15_12
           try clear hfz15_2
           try clear hfz15_3
           try clear hfz15_4
           try clear hfz15_5
           try clear hfz15_6
           try clear hfz15_7
           try clear hfz15_8
           try clear hfz15_9
           try clear hfz20_0
           try clear hfz20_1
           try clear hfz20_2
           try clear hfz20_3
           try clear hfz20_4
           try clear hfz27_0
           try clear hfz27_1
           try clear hfz27_10
           try clear hfz27_11
           try clear hfz27_12
           try clear hfz27_2
           try clear hfz27_3
           try clear hfz27_4
           try clear hfz27_5
           try clear hfz27_6
           try clear hfz27_7
           try clear hfz27_8
           try clear hfz27_9
           try clear hfz4_0
           try clear hfz4_1
           try clear hfz4_10
           try clear hfz4_11
           try clear hfz4_12
           try clear hfz4_2
           try clear hfz4_3
           try clear hfz4_4
           try clear hfz4_5
           try clear hfz4_6
           try clear hfz4_7
           try clear hfz4_8
           try clear hfz4_9
           try clear hx968_0
           try clear p2
           try clear p6
           try clear p968
           try clear q968
           obtain ⟨kq, x82_34, rfl, HA, HJ34, HO_70, BK950, BK959, HB⟩ := hcut
           cases kq with
           | zero => exact absurd HA.out (by simp [contangotop_TopCoverFree.j2])
           | succ kj34 =>
            have H := HA.out
            clear HA
            simp only [contangotop_TopCoverFree.j2] at H
            by_cases c37 : x82_34 = true
            ·subst c37
             have H1 : (contangotop_TopCoverFree.l0 kj34 t960 t963 y964 (y964.length : Int) (wrap64 (x72_2 + 1)) a0_0 a0_1 a0_2 a0_3 a0_4 a0_5 a0_6 a0_7 a0_8 l0_9 l0_10 l0_11 a0_12) = some r := by rw [if_pos rfl] at H; exact H
             clear H
             have H := H1
             clear H1
             have H' := Aside0.mk H
             clear H
             go_wp2
             go_roundg kj34
             case measure => have := HJ8.out; have := HK2.out; have := HJ34.out; omega
             case rel => exact ⟨(wrap64 (x72_2 + 1)), (Zs), H', ⟨by have := HJ8.out; have := HK2.out; have := HJ34.out; omega⟩, ⟨Zr HO_70.out⟩, ⟨Zu BK950.out⟩, ⟨Zu BK959.out⟩, ⟨Zc2 GE950.out GE959.out⟩⟩
            ·replace c37 := Bool.eq_false_iff.mpr c37
             subst c37
             have H1 : ((QaF.f kj34 l0_9 a0_0 a0_1 a0_12 (rd y964 x72_2)).bind fun bt969 => ((QaE.f kj34 a0_0 a0_1 a0_2 a0_3 a0_4 a0_5 a0_6 a0_7 a0_8 l0_9 l0_10 l0_11 a0_12 bt969.1).bind fun bt973 => (if bt969.2 = 0 then (if bt973.2.2.2.2.2 = true then (if (!((decide (bt973.2.2.2.2.1 > 0)) == (decide ((rd y964 x72_2) > t960)))) = true then (some false) else (contangotop_TopCoverFree.l0 kj34 t960 t963 y964 (y964.length : Int) (wrap64 (x72_2 + 1)) a0_0 a0_1 a0_2 a0_3 a0_4 a0_5 a0_6 a0_7 a0_8 l0_9 l0_10 l0_11 a0_12)) else (some false)) else (some false)))) = some r := by rw [if_neg (show ¬ (false = true) by decide)] at H; exact H
             clear H
             have H := H1
             clear H1
             replace H := Option.bind_eq_some_iff.mp H
             obtain ⟨⟨t969, t972⟩, A380, H⟩ := H
             replace H : ((QaE.f kj34 a0_0 a0_1 a0_2 a0_3 a0_4 a0_5 a0_6 a0_7 a0_8 l0_9 l0_10 l0_11 a0_12 t969).bind fun bt973 => (if t972 = 0 then (if bt973.2.2.2.2.2 = true then (if (!((decide (bt973.2.2.2.2.1 > 0)) == (decide ((rd y964 x72_2) > t960)))) = true then (some false) else (contangotop_TopCoverFree.l0 kj34 t960 t963 y964 (y964.length : Int) (wrap64 (x72_2 + 1)) a0_0 a0_1 a0_2 a0_3 a0_4 a0_5 a0_6 a0_7 a0_8 l0_9 l0_10 l0_11 a0_12)) else (some false)) else (some false))) = some r := H
             have A38 := Aside0.mk A380
             clear A380
             replace H := Option.bind_eq_some_iff.mp H
             obtain ⟨⟨t973, t974, t975, t976, t977, t978⟩, A390, H⟩ := H
             replace H : (if t972 = 0 then (if t978 = true then (if (!((decide (t977 > 0)) == (decide ((rd y964 x72_2) > t960)))) = true then (some false) else (contangotop_TopCoverFree.l0 kj34 t960 t963 y964 (y964.length : Int) (wrap64 (x72_2 + 1)) a0_0 a0_1 a0_2 a0_3 a0_4 a0_5 a0_6 a0_7 a0_8 l0_9 l0_10 l0_11 a0_12)) else (some false)) else (some false)) = some r := H
             have A39 := Aside0.mk A390
             clear A390
             have hnb40 := NB950_959.out
             have hnc40 := NB959_950.out
             have hcz41_0 : wc.cell? ⟨gb950, 0, none⟩ = some (.string a0_0) := (Qah BK950.out 0).trans rfl
             have hcz41_1 : wc.cell? ⟨gb950, 1, none⟩ = some (.string a0_1) := (Qah BK950.out 1).trans rfl
             have hcz41_2 : wc.cell? ⟨gb950, 2, none⟩ = some (.int .i64 a0_2) := (Qah BK950.out 2).trans rfl
             have hcz41_3 : wc.cell? ⟨gb950, 3, none⟩ = some (.int .i64 a0_3) := (Qah BK950.out 3).trans rfl
             have hcz41_4 : wc.cell? ⟨gb950, 4, none⟩ = some (.int .i64 a0_4) := (Qah BK950.out 4).trans rfl
             have hcz41_5 : wc.cell? ⟨gb950, 5, none⟩ = some (.int .i64 a0_5) := (Qah BK950.out 5).trans rfl
             have hcz41_6 : wc.cell? ⟨gb950, 6, none⟩ = some (.int .i64 a0_6) := (Qah BK950.out 6).trans rfl
             have hcz41_7 : wc.cell? ⟨gb950, 7, none⟩ = some (.int .i64 a0_7) := (Qah BK950.out 7).trans rfl
             have hcz41_8 : wc.cell? ⟨gb950, 8, none⟩ = some (.int .i64 a0_8) := (Qah BK950.out 8).trans rfl
             have hcz41_9 : wc.cell? ⟨gb950, 9, none⟩ = some (.slice A0_9 l0_9.length c0_9) := (Qah BK950.out 9).trans rfl
             have hcz41_10 : wc.cell? ⟨gb950, 10, none⟩ = some (.slice A0_10 l0_10.length c0_10) := (Qah BK950.out 10).trans rfl
             have hcz41_11 : wc.cell? ⟨gb950, 11, none⟩ = some (.slice A0_11 l0_11.length c0_11) := (Qah BK950.out 11).trans rfl
             have hcz41_12 : wc.cell? ⟨gb950, 12, none⟩ = some (.string a0_12) := (Qah BK950.out 12).trans rfl
             have hfz41_0 := Qaf BK950.out 0
             have hfz41_1 := Qaf BK950.out 1
             have hfz41_2 := Qaf BK950.out 2
             have hfz41_3 := Qaf BK950.out 3
             have hfz41_4 := Qaf BK950.out 4
             have hfz41_5 := Qaf BK950.out 5
             have hfz41_6 := Qaf BK950.out 6
             have hfz41_7 := Qaf BK950.out 7
             have hfz41_8 := Qaf BK950.out 8
             have hfz41_9 := Qaf BK950.out 9
             have hfz41_10 := Qaf BK950.out 10
             have hfz41_11 := Qaf BK950.out 11
             have hfz41_12 := Qaf BK950.out 12
             go_upto_region 14 with (first | ((with_reducible refine Qay (f := 47) rfl ?_); refine goesL_ (some 92) rfl rfl Try.func47 (by kernel_rfl) rfl #[.slice A0_9 l0_9.length c0_9, .agg #[.string a0_0, .string a0_1], .string a0_12, .int .i64 (rd y964 x72_2)] rfl (Zl) ?_; (with_reducible refine (QaF.calls kj34 _ _ l0_9 a0_0 a0_1 a0_12 (rd y964 x72_2) t969 t972 _ ?side1 ?side2 A38.out).mono ?_); (case side1 => exact Zv (Kd.C_below HR0_9.out HB.out)); (case side2 => exact HC0_9.out); rintro e w42 ⟨v970, rfl, ho0, hb⟩; refine ⟨_, rfl, ?_⟩; have n0_ := Aside0.mk (Kd.R_below (Zr HO_70.out) hb); have n1_ := Aside0.mk (Kd.R_lower ho0 (Qan (Zc2 GE950.out GE959.out))); have n2_ := Aside0.mk (Qaj (g := gb950) (o := .cells #[.string a0_0, .string a0_1, .int .i64 a0_2, .int .i64 a0_3, .int .i64 a0_4, .int .i64 a0_5, .int .i64 a0_6, .int .i64 a0_7, .int .i64 a0_8, .slice A0_9 l0_9.length c0_9, .slice A0_10 l0_10.length c0_10, .slice A0_11 l0_11.length c0_11, .string a0_12] 89 (0, 0)) (Zu BK950.out) hb); have n3_ := Aside0.mk (Qaj (g := gb959) (o := .cells #[.string t953, .string t954, .int .i64 t955, .int .i64 t956, .int .i64 t957] 50 (0, 0)) (Zu BK959.out) hb); have n4_ := Aside0.mk (Qaq (Zc2 GE950.out GE959.out) hb); clear HO_70; clear BK950; clear BK959; clear HB; have HO_70 := n0_; have HO971 := n1_; have BK950 := n2_; have BK959 := n3_; have HB := n4_; clear n0_ n1_ n2_ n3_ n4_; (try clear hb); (try clear hb2); (try clear hk); (try clear hi); (try clear ho0); have hcz43_0 : w42.cell? ⟨gb950, 0, none⟩ = some (.string a0_0) := (Qah BK950.out 0).trans rfl; have hcz43_1 : w42.cell? ⟨gb950, 1, none⟩ = some (.string a0_1) := (Qah BK950.out 1).trans rfl; have hcz43_2 : w42.cell? ⟨gb950, 2, none⟩ = some (.int .i64 a0_2) := (Qah BK950.out 2).trans rfl; have hcz43_3 : w42.cell? ⟨gb950, 3, none⟩ = some (.int .i64 a0_3) := (Qah BK950.out 3).trans rfl; have hcz43_4 : w42.cell? ⟨gb950, 4, none⟩ = some (.int .i64 a0_4) := (Qah BK950.out 4).trans rfl; have hcz43_5 : w42.cell? ⟨gb950, 5, none⟩ = some (.int .i64 a0_5) := (Qah BK950.out 5).trans rfl; have hcz43_6 : w42.cell? ⟨gb950, 6, none⟩ = some (.int .i64 a0_6) := (Qah BK950.out 6).trans rfl; have hcz43_7 : w42.cell? ⟨gb950, 7, none⟩ = some (.int .i64 a0_7) := (Qah BK950.out 7).trans rfl; have hcz43_8 : w42.cell? ⟨gb950, 8, none⟩ = some (.int .i64 a0_8) := (Qah BK950.out 8).trans rfl; have hcz43_9 : w42.cell? ⟨gb950, 9, none⟩ = some (.slice A0_9 l0_9.length c0_9) := (Qah BK950.out 9).trans rfl; have hcz43_10 : w42.cell? ⟨gb950, 10, none⟩ = some (.slice A0_10 l0_10.length c0_10) := (Qah BK950.out 10).trans rfl; have hcz43_11 : w42.cell? ⟨gb950, 11, none⟩ = some (.slice A0_11 l0_11.length c0_11) := (Qah BK950.out 11).trans rfl; have hcz43_12 : w42.cell? ⟨gb950, 12, none⟩ = some (.string a0_12) := (Qah BK950.out 12).trans rfl; have hfz43_0 := Qaf BK950.out 0; have hfz43_1 := Qaf BK950.out 1; have hfz43_2 := Qaf BK950.out 2; have hfz43_3 := Qaf BK950.out 3; have hfz43_4 := Qaf BK950.out 4; have hfz43_5 := Qaf BK950.out 5; have hfz43_6 := Qaf BK950.out 6; have hfz43_7 := Qaf BK950.out 7; have hfz43_8 := Qaf BK950.out 8; have hfz43_9 := Qaf BK950.out 9; have hfz43_10 := Qaf BK950.out 10; have hfz43_11 := Qaf BK950.out 11; have hfz43_12 := Qaf BK950.out 12; obtain ⟨Ao44, co44, eo44⟩ := Kd.R_slice HO971.out; subst eo44) | ((with_reducible refine Qay (f := 45) rfl ?_); refine goesL_ (some 98) rfl rfl Try.func45 (by kernel_rfl) rfl #[.agg #[.string a0_0, .string a0_1, .int .i64 a0_2, .int .i64 a0_3, .int .i64 a0_4, .int .i64 a0_5, .int .i64 a0_6, .int .i64 a0_7, .int .i64 a0_8, .slice A0_9 l0_9.length c0_9, .slice A0_10 l0_10.length c0_10, .slice A0_11 l0_11.length c0_11, .string a0_12], .slice Ao44 t969.length co44] rfl (Zl) ?_; (with_reducible refine (QaE.calls kj34 a0_0 a0_1 a0_2 a0_3 a0_4 a0_5 a0_6 a0_7 a0_8 _ _ l0_9 _ _ l0_10 _ _ l0_11 a0_12 _ _ t969 t973 t974 t975 t976 t977 t978 _ ?side1 ?side2 ?side3 ?side4 ?side5 ?side6 ?side7 ?side8 A39.out).mono ?_); (case side1 => exact Zv (Kd.C_below HR0_9.out HB.out)); (case side2 => exact HC0_9.out); (case side3 => exact Zv (Kd.C_below HR0_10.out HB.out)); (case side4 => exact HC0_10.out); (case side5 => exact Zv (Kd.C_below HR0_11.out HB.out)); (case side6 => exact HC0_11.out); (case side7 => repeat (first | exact (Kd.R_reads' HO971.out).2.2 | (with_reducible refine Kd.C_alloc ?_ _) | (with_reducible refine Kd.C_drewN ?_ _) | (with_reducible refine Kd.C_drew ?_))); (case side8 => exact (Kd.R_reads' HO971.out).2.1); rintro e w45 ⟨rfl, hb⟩; refine ⟨_, rfl, ?_⟩; have n0_ := Aside0.mk (Kd.R_below (Zr HO_70.out) hb); have n1_ := Aside0.mk (Kd.R_below (Zr HO971.out) hb); have n2_ := Aside0.mk (Qaj (g := gb950) (o := .cells #[.string a0_0, .string a0_1, .int .i64 a0_2, .int .i64 a0_3, .int .i64 a0_4, .int .i64 a0_5, .int .i64 a0_6, .int .i64 a0_7, .int .i64 a0_8, .slice A0_9 l0_9.length c0_9, .slice A0_10 l0_10.length c0_10, .slice A0_11 l0_11.length c0_11, .string a0_12] 89 (0, 0)) (Zu BK950.out) hb); have n3_ := Aside0.mk (Qaj (g := gb959) (o := .cells #[.string t953, .string t954, .int .i64 t955, .int .i64 t956, .int .i64 t957] 50 (0, 0)) (Zu BK959.out) hb); have n4_ := Aside0.mk (Qaq (Zc2 GE950.out GE959.out) hb); clear HO_70; clear HO971; clear BK950; clear BK959; clear HB; have HO_70 := n0_; have HO971 := n1_; have BK950 := n2_; have BK959 := n3_; have HB := n4_; clear n0_ n1_ n2_ n3_ n4_; (try clear hb); (try clear hb2); (try clear hk); (try clear hi)) | ((with_reducible refine QaD (N := 12) rfl ?_); refine QaL ?hg (N := 12) ?hd (cs := #[.string (⟨#[]⟩ : ByteArray), .string (⟨#[]⟩ : ByteArray), .int .i64 0, .int .i64 0, .int .i64 0]) (t := 50) ?hr ?_; (case hd => rfl); (case hg => rfl); (case hr => first | (go_simp; done) | (go_simp; rfl)); intro gb979 hg w46 hbox hb; have n0_ := Aside0.mk (Kd.R_below (Zr HO_70.out) hb); have n1_ := Aside0.mk (Kd.R_below (Zr HO971.out) hb); have n2_ := Aside0.mk (Qaj (g := gb950) (o := .cells #[.string a0_0, .string a0_1, .int .i64 a0_2, .int .i64 a0_3, .int .i64 a0_4, .int .i64 a0_5, .int .i64 a0_6, .int .i64 a0_7, .int .i64 a0_8, .slice A0_9 l0_9.length c0_9, .slice A0_10 l0_10.length c0_10, .slice A0_11 l0_11.length c0_11, .string a0_12] 89 (0, 0)) (Zu BK950.out) hb); have n3_ := Aside0.mk (Qaj (g := gb959) (o := .cells #[.string t953, .string t954, .int .i64 t955, .int .i64 t956, .int .i64 t957] 50 (0, 0)) (Zu BK959.out) hb); have n4_ := Aside0.mk (Qaq (Zc2 GE950.out GE959.out) hb); have n5_ := Aside0.mk (hbox); have n6_ := Aside0.mk ((by rw [hg]; exact (Qan (Zc2 GE950.out GE959.out)) : w.heap.size ≤ gb979)); have n7_ := Aside0.mk ((by rw [hg]; exact (Qan (Zc2 GE950.out GE959.out)) : w.heap.size ≤ gb979)); have n8_ := Aside0.mk ((by rw [hg]; exact Nat.ne_of_lt (blk_lt (g := gb950) (o := .cells #[.string a0_0, .string a0_1, .int .i64 a0_2, .int .i64 a0_3, .int .i64 a0_4, .int .i64 a0_5, .int .i64 a0_6, .int .i64 a0_7, .int .i64 a0_8, .slice A0_9 l0_9.length c0_9, .slice A0_10 l0_10.length c0_10, .slice A0_11 l0_11.length c0_11, .string a0_12] 89 (0, 0)) (Zu BK950.out)) : gb950 ≠ gb979)); have n9_ := Aside0.mk ((by rw [hg]; exact Nat.ne_of_gt (blk_lt (g := gb950) (o := .cells #[.string a0_0, .string a0_1, .int .i64 a0_2, .int .i64 a0_3, .int .i64 a0_4, .int .i64 a0_5, .int .i64 a0_6, .int .i64 a0_7, .int .i64 a0_8, .slice A0_9 l0_9.length c0_9, .slice A0_10 l0_10.length c0_10, .slice A0_11 l0_11.length c0_11, .string a0_12] 89 (0, 0)) (Zu BK950.out)) : gb979 ≠ gb950)); have n10_ := Aside0.mk ((by rw [hg]; exact Nat.ne_of_lt (blk_lt (g := gb959) (o := .cells #[.string t953, .string t954, .int .i64 t955, .int .i64 t956, .int .i64 t957] 50 (0, 0)) (Zu BK959.out)) : gb959 ≠ gb979)); have n11_ := Aside0.mk ((by rw [hg]; exact Nat.ne_of_gt (blk_lt (g := gb959) (o := .cells #[.string t953, .string t954, .int .i64 t955, .int .i64 t956, .int .i64 t957] 50 (0, 0)) (Zu BK959.out)) : gb979 ≠ gb959)); clear HO_70; clear HO971; clear BK950; clear BK959; clear HB; have HO_70 := n0_; have HO971 := n1_; have BK950 := n2_; have BK959 := n3_; have HB := n4_; have BK979 := n5_; have GW979 := n6_; have GE979 := n7_; have NB950_979 := n8_; have NB979_950 := n9_; have NB959_979 := n10_; have NB979_959 := n11_; clear n0_ n1_ n2_ n3_ n4_ n5_ n6_ n7_ n8_ n9_ n10_ n11_; clear hb hbox hg; have hnb47 := NB979_950.out; have hnc47 := NB950_979.out; have hnb48 := NB979_959.out; have hnc48 := NB959_979.out; have hcz49_0 : w46.cell? ⟨gb979, 0, none⟩ = some (.string (⟨#[]⟩ : ByteArray)) := (Qah BK979.out 0).trans rfl; have hcz49_1 : w46.cell? ⟨gb979, 1, none⟩ = some (.string (⟨#[]⟩ : ByteArray)) := (Qah BK979.out 1).trans rfl; have hcz49_2 : w46.cell? ⟨gb979, 2, none⟩ = some (.int .i64 0) := (Qah BK979.out 2).trans rfl; have hcz49_3 : w46.cell? ⟨gb979, 3, none⟩ = some (.int .i64 0) := (Qah BK979.out 3).trans rfl; have hcz49_4 : w46.cell? ⟨gb979, 4, none⟩ = some (.int .i64 0) := (Qah BK979.out 4).trans rfl; have hfz49_0 := Qaf BK979.out 0; have hfz49_1 := Qaf BK979.out 1; have hfz49_2 := Qaf BK979.out 2; have hfz49_3 := Qaf BK979.out 3; have hfz49_4 := Qaf BK979.out 4))
             (try simp only [Act.put, List.setIfInBounds_toArray, List.set_cons_zero, List.set_cons_succ])
             by_cases c50 : t972 = 0
             ·rw [if_pos c50] at H
              have c50b0 : (t972 == 0) = true := beq_iff_eq.mpr c50
              have c50b1 : (t972 != 0) = false := bne_eq_false_iff_eq.mpr c50
              clear c50
              (try simp only [c50b0, c50b1])
              by_cases c51 : t978 = true
              ·subst c51
               have H1 : (if (!((decide (t977 > 0)) == (decide ((rd y964 x72_2) > t960)))) = true then (some false) else (contangotop_TopCoverFree.l0 kj34 t960 t963 y964 (y964.length : Int) (wrap64 (x72_2 + 1)) a0_0 a0_1 a0_2 a0_3 a0_4 a0_5 a0_6 a0_7 a0_8 l0_9 l0_10 l0_11 a0_12)) = some r := by rw [if_pos rfl] at H; exact H
               clear H
               have H := H1
               clear H1
               have hnb52 := NB979_950.out
               have hnc52 := NB950_979.out
               have hnb53 := NB979_959.out
               have hnc53 := NB959_979.out
               have hcz54_0 : w46.cell? ⟨gb979, 0, none⟩ = some (.string (⟨#[]⟩ : ByteArray)) := (Qah BK979.out 0).trans rfl
               have hcz54_1 : w46.cell? ⟨gb979, 1, none⟩ = some (.string (⟨#[]⟩ : ByteArray)) := (Qah BK979.out 1).trans rfl
               have hcz54_2 : w46.cell? ⟨gb979, 2, none⟩ = some (.int .i64 0) := (Qah BK979.out 2).trans rfl
               have hcz54_3 : w46.cell? ⟨gb979, 3, none⟩ = some (.int .i64 0) := (Qah BK979.out 3).trans rfl
               have hcz54_4 : w46.cell? ⟨gb979, 4, none⟩ = some (.int .i64 0) := (Qah BK979.out 4).trans rfl
               have hfz54_0 := Qaf BK979.out 0
               have hfz54_1 := Qaf BK979.out 1
               have hfz54_2 := Qaf BK979.out 2
               have hfz54_3 := Qaf BK979.out 3
               have hfz54_4 := Qaf BK979.out 4
               go_upto_if 115 with (fail)
               by_cases c55 : (!((decide (t977 > 0)) == (decide ((rd y964 x72_2) > t960)))) = true
               ·rw [if_pos c55] at H
                have c55b0 : (!((decide (t977 > 0)) == (decide ((rd y964 x72_2) > t960)))) = true := c55
                clear c55
                (try simp only [c55b0])
                obtain rfl := Option.some.inj H
                go_wp2
                go_ret
                exact ⟨Zq, Zc3 GE950.out GE959.out GE979.out⟩
               ·rw [if_neg c55] at H
                have c55b0 : (!((decide (t977 > 0)) == (decide ((rd y964 x72_2) > t960)))) = false := by simpa using c55
                clear c55
                (try simp only [c55b0])
                have H' := Aside0.mk H
                clear H
                go_wp2
                go_roundg kj34
                case measure => have := HJ8.out; have := HK2.out; have := HJ34.out; omega
                case rel => exact ⟨(wrap64 (x72_2 + 1)), (Zs), H', ⟨by have := HJ8.out; have := HK2.out; have := HJ34.out; omega⟩, ⟨by (with_reducible repeat (first | apply Kd.R_alloc | apply Kd.R_drewN | apply Kd.R_drew)); exact Kd.R_mono (Kd.R_far (p := ⟨gb979, 4, none⟩) (Kd.R_far (p := ⟨gb979, 3, none⟩) (Kd.R_far (p := ⟨gb979, 2, none⟩) (Kd.R_far (p := ⟨gb979, 1, none⟩) (Kd.R_far (p := ⟨gb979, 0, none⟩) (Kd.R_types HO_70.out BK979.out (by decide)) (fun _ hk => hk.2) (.string t973)) (fun _ hk => hk.2) (.string t974)) (fun _ hk => hk.2) (.int .i64 t975)) (fun _ hk => hk.2) (.int .i64 t976)) (fun _ hk => hk.2) (.int .i64 t977)) (fun _ hk => trivial)⟩, ⟨by (with_reducible repeat (first | refine Qab ?_ _ | refine Qad ?_ | refine Qaa ?_ _)); refine Qam ?_ NB950_979.out _; (with_reducible repeat (first | refine Qab ?_ _ | refine Qad ?_ | refine Qaa ?_ _)); refine Qam ?_ NB950_979.out _; (with_reducible repeat (first | refine Qab ?_ _ | refine Qad ?_ | refine Qaa ?_ _)); refine Qam ?_ NB950_979.out _; (with_reducible repeat (first | refine Qab ?_ _ | refine Qad ?_ | refine Qaa ?_ _)); refine Qam ?_ NB950_979.out _; (with_reducible repeat (first | refine Qab ?_ _ | refine Qad ?_ | refine Qaa ?_ _)); refine Qam ?_ NB950_979.out _; (with_reducible repeat (first | refine Qab ?_ _ | refine Qad ?_ | refine Qaa ?_ _)); exact BK950.out⟩, ⟨by (with_reducible repeat (first | refine Qab ?_ _ | refine Qad ?_ | refine Qaa ?_ _)); refine Qam ?_ NB959_979.out _; (with_reducible repeat (first | refine Qab ?_ _ | refine Qad ?_ | refine Qaa ?_ _)); refine Qam ?_ NB959_979.out _; (with_reducible repeat (first | refine Qab ?_ _ | refine Qad ?_ | refine Qaa ?_ _)); refine Qam ?_ NB959_979.out _; (with_reducible repeat (first | refine Qab ?_ _ | refine Qad ?_ | refine Qaa ?_ _)); refine Qam ?_ NB959_979.out _; (with_reducible repeat (first | refine Qab ?_ _ | refine Qad ?_ | refine Qaa ?_ _)); refine Qam ?_ NB959_979.out _; (with_reducible repeat (first | refine Qab ?_ _ | refine Qad ?_ | refine Qaa ?_ _)); exact BK959.out⟩, ⟨Zc3 GE950.out GE959.out GE979.out⟩⟩
              ·replace c51 := Bool.eq_false_iff.mpr c51
               subst c51
               have H1 : (some false) = some r := by rw [if_neg (show ¬ (false = true) by decide)] at H; exact H
               clear H
               have H := H1
               clear H1
               obtain rfl := Option.some.inj H
               go_wp2
               go_ret
               exact ⟨Zq, Zc3 GE950.out GE959.out GE979.out⟩
             ·rw [if_neg c50] at H
              have c50b0 : (t972 == 0) = false := beq_eq_false_iff_ne.mpr c50
              have c50b1 : (t972 != 0) = true := bne_iff_ne.mpr c50
              (try simp only [c50b0, c50b1])
              obtain rfl := Option.some.inj H
              go_wp2
              go_ret
              exact ⟨Zq, Zc3 GE950.out GE959.out GE979.out⟩
         ·rw [if_neg c34] at H
          exact absurd H (by simp)
        ·rw [if_neg c33] at H
         exact absurd H (by simp)
       ·rw [if_neg c32] at H
        have c32b0 : decide (x72_2 < (y964.length : Int)) = false := decide_eq_false c32
        clear c32
        (try simp only [c32b0])
        by_cases c56 : t960 ≤ t963
        ·rw [if_pos c56] at H
         have c56b0 : decide (t960 ≤ t963) = true := decide_eq_true c56
         clear c56
         by_cases c57 : t960 ≥ 0
         ·rw [if_pos c57] at H
          have c57b0 : decide (0 ≤ t960) = true := decide_eq_true c57
          clear c57
          replace H := Option.bind_eq_some_iff.mp H
          obtain ⟨t967, A580, H⟩ := H
          replace H : (some t967) = some r := H
          have A58 := Aside0.mk A580
          clear A580
          obtain rfl := Option.some.inj H
          go_wp2_with (first | (go_at_call 44; (with_reducible refine (QaM.calls k2  t967 _ A58.out).mono ?_); rintro e w59 ⟨rfl, hb⟩; have n0_ := Aside0.mk (Kd.R_below (Zr HO_70.out) hb); have n1_ := Aside0.mk (Qaj (g := gb950) (o := .cells #[.string a0_0, .string a0_1, .int .i64 a0_2, .int .i64 a0_3, .int .i64 a0_4, .int .i64 a0_5, .int .i64 a0_6, .int .i64 a0_7, .int .i64 a0_8, .slice A0_9 l0_9.length c0_9, .slice A0_10 l0_10.length c0_10, .slice A0_11 l0_11.length c0_11, .string a0_12] 89 (0, 0)) (Zu BK950.out) hb); have n2_ := Aside0.mk (Qaj (g := gb959) (o := .cells #[.string t953, .string t954, .int .i64 t955, .int .i64 t956, .int .i64 t957] 50 (0, 0)) (Zu BK959.out) hb); have n3_ := Aside0.mk (Qaq (Zc2 GE950.out GE959.out) hb); clear HO_70; clear BK950; clear BK959; clear HB; have HO_70 := n0_; have BK950 := n1_; have BK959 := n2_; have HB := n3_; clear n0_ n1_ n2_ n3_; (try clear hb); (try clear hb2); (try clear hk); (try clear hi)))
          go_ret
          exact ⟨Zq, Zc2 GE950.out GE959.out⟩
         ·rw [if_neg c57] at H
          have c57b0 : decide (0 ≤ t960) = false := decide_eq_false c57
          clear c57
          obtain rfl := Option.some.inj H
          go_wp2
          go_ret
          exact ⟨Zq, Zc2 GE950.out GE959.out⟩
        ·rw [if_neg c56] at H
         have c56b0 : decide (t960 ≤ t963) = false := decide_eq_false c56
         clear c56
         obtain rfl := Option.some.inj H
         go_wp2
         go_ret
         exact ⟨Zq, Zc2 GE950.out GE959.out⟩
 ·replace c6 := Bool.eq_false_iff.mpr c6
  subst c6
  have H1 : ((QaM.f k).bind fun t952 => (some t952)) = some r := by rw [if_neg (show ¬ (false = true) by decide)] at H; exact H
  clear H
  have H := H1
  clear H1
  replace H := Option.bind_eq_some_iff.mp H
  obtain ⟨t952, A600, H⟩ := H
  replace H : (some t952) = some r := H
  have A60 := Aside0.mk A600
  clear A600
  obtain rfl := Option.some.inj H
  go_wp2_with (first | ((with_reducible refine Qay (f := 44) rfl ?_); refine goesL_ (some 17) rfl rfl Try.func44 (by kernel_rfl) rfl #[] rfl (Zl) ?_; (with_reducible refine (QaM.calls k  t952 _ A60.out).mono ?_); rintro e w61 ⟨rfl, hb⟩; refine ⟨_, rfl, ?_⟩; have n0_ := Aside0.mk (Qaj (g := gb950) (o := .cells #[.string a0_0, .string a0_1, .int .i64 a0_2, .int .i64 a0_3, .int .i64 a0_4, .int .i64 a0_5, .int .i64 a0_6, .int .i64 a0_7, .int .i64 a0_8, .slice A0_9 l0_9.length c0_9, .slice A0_10 l0_10.length c0_10, .slice A0_11 l0_11.length c0_11, .string a0_12] 89 (0, 0)) (Zu BK950.out) hb); have n1_ := Aside0.mk (Qaq (Zc1 GE950.out) hb); clear BK950; clear HB; have BK950 := n0_; have HB := n1_; clear n0_ n1_; (try clear hb); (try clear hb2); (try clear hk); (try clear hi)))
  go_ret
  exact ⟨Zq, Zc1 GE950.out⟩
end Go.Proofs.Ytfcaaefdmabkhaa.Pr
