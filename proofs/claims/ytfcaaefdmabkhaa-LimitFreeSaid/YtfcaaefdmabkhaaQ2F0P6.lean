/- Functions' values and contracts, as the print wrote them. -/
import Derived.Test.YtfcaaefdmabkhaaQ2F0P0
import Derived.Test.YtfcaaefdmabkhaaQ2F0P4
import Derived.Test.YtfcaaefdmabkhaaQ2F0P3
import Derived.Test.YtfcaaefdmabkhaaQ2F0P5
import Derived.Test.YtfcaaefdmabkhaaQ2F0P1
namespace Go.Proofs.Ytfcaaefdmabkhaa.Pr
open Bool renaming true → T
open Bool renaming false → F
open Go.RowKit Go.Proofs.YtfcaaefdmabkhaaW.PrintWords Go.Proofs.YtfcaaefdmabkhaaW.PrintLast Go.Proofs.YtfcaaefdmabkhaaW.PrintMore
attribute [local go_sem] QaU QaW Qa3 Qa4 QaN QaO QaV QaX   -- for this text's walks alone
set_option linter.unusedVariables false
set_option linter.unusedSimpArgs false
set_option maxRecDepth 100000
theorem QcL (d : Nat) (w : World) (x0 x1 x2 x3 y0 y1 y2 y3 : Int) : (Op.equalIn (d + 2) 74 (.agg #[.int .i64 x0, .int .i64 x1, .int .i64 x2, .int .i64 x3]) (.agg #[.int .i64 y0, .int .i64 y1, .int .i64 y2, .int .i64 y3])).run Try.prog w = .ok (x0 == y0 && (x1 == y1 && (x2 == y2 && (x3 == y3)))) w := by
 have hs : (sizeOf 3 : Sem Nat).run Try.prog w = .ok 1 w := by go_simp
 have he : ∀ a b : Int, (Op.equalIn (d + 1) 3 (.int .i64 a) (.int .i64 b)).run Try.prog w = .ok (a == b) w := fun a b => by go_simp
 have p0 : ∀ (z0 z1 z2 z3 : Int), (part 3 #[.int .i64 z0, .int .i64 z1, .int .i64 z2, .int .i64 z3] 0).run Try.prog w = .ok (.int .i64 z0) w := fun z0 z1 z2 z3 => by go_simp
 have p1 : ∀ (z0 z1 z2 z3 : Int), (part 3 #[.int .i64 z0, .int .i64 z1, .int .i64 z2, .int .i64 z3] 1).run Try.prog w = .ok (.int .i64 z1) w := fun z0 z1 z2 z3 => by go_simp
 have p2 : ∀ (z0 z1 z2 z3 : Int), (part 3 #[.int .i64 z0, .int .i64 z1, .int .i64 z2, .int .i64 z3] 2).run Try.prog w = .ok (.int .i64 z2) w := fun z0 z1 z2 z3 => by go_simp
 have p3 : ∀ (z0 z1 z2 z3 : Int), (part 3 #[.int .i64 z0, .int .i64 z1, .int .i64 z2, .int .i64 z3] 3).run Try.prog w = .ok (.int .i64 z3) w := fun z0 z1 z2 z3 => by go_simp
 show (Op.equalIn ((d + 1) + 1) 74 _ _).run Try.prog w = _
 revert he
 generalize d + 1 = D
 intro he
 simp only [Op.equalIn, Sem.run_bind, run_underlying Try.underlying74, Result.andThen_ok, hs]
 simp only [Std.Legacy.Range.forIn_eq_forIn_range', Std.Legacy.Range.size, Nat.sub_zero, Nat.add_one_sub_one, Nat.div_one, List.range', List.forIn_cons, List.forIn_nil, Nat.mul_one, Nat.zero_add, Nat.reduceAdd, Sem.run_bind, p0, p1, p2, p3, he, Result.andThen_ok]
 cases h0 : (x0 == y0) <;> cases h1 : (x1 == y1) <;> cases h2 : (x2 == y2) <;> cases h3 : (x3 == y3) <;> simp [p0, p1, p2, p3, he, h0, h1, h2, h3]
attribute [local go_sem] QcL
def Qbf.f (k : Nat)  : Option (Bool) := (some (([(⟨(⟨#[99, 97, 115, 104]⟩ : ByteArray), 1, 0, 1, 0, 1000⟩ : S84), (⟨(⟨#[103, 111, 108, 100]⟩ : ByteArray), 3, 0, 1, 0, 300⟩ : S84)] : List (S84)) : List (S84))).bind fun y702 => ((some (([(⟨(⟨#[117, 115, 100]⟩ : ByteArray), 1000000⟩ : S98)] : List (S98)) : List (S98))).bind fun y705 => ((some (([(⟨(⟨(⟨#[97, 108, 102, 97]⟩ : ByteArray), (⟨#[104, 111, 117, 115, 101]⟩ : ByteArray)⟩ : S44), (⟨#[99, 97, 115, 104]⟩ : ByteArray), 800⟩ : S46), (⟨(⟨(⟨#[97, 108, 102, 97]⟩ : ByteArray), (⟨#[104, 111, 117, 115, 101]⟩ : ByteArray)⟩ : S44), (⟨#[103, 111, 108, 100]⟩ : ByteArray), 900⟩ : S46)] : List (S46)) : List (S46))).bind fun y708 => ((Qaz.f k y708 (⟨#[97, 108, 102, 97]⟩ : ByteArray) (⟨#[104, 111, 117, 115, 101]⟩ : ByteArray) 1000 y702 y705).bind fun bt711 => ((Qbr.f k y708 (⟨#[97, 108, 102, 97]⟩ : ByteArray) (⟨#[104, 111, 117, 115, 101]⟩ : ByteArray) 1000 y702 y705).bind fun bt715 => ((QaP.f k y708 (⟨#[97, 108, 102, 97]⟩ : ByteArray) (⟨#[104, 111, 117, 115, 101]⟩ : ByteArray) (⟨#[99, 97, 115, 104]⟩ : ByteArray) 1000 y702 y705).bind fun bt717 => ((QaP.f k y708 (⟨#[97, 108, 102, 97]⟩ : ByteArray) (⟨#[104, 111, 117, 115, 101]⟩ : ByteArray) (⟨#[103, 111, 108, 100]⟩ : ByteArray) 1000 y702 y705).bind fun bt719 => ((Qa8.f k y708 (⟨#[97, 108, 102, 97]⟩ : ByteArray) (⟨#[104, 111, 117, 115, 101]⟩ : ByteArray) y702 y705).bind fun bt721 => (if bt711.2 = 0 then (if bt715.2 = 0 then (if bt717.2 = 0 then (if bt719.2 = 0 then (if bt721.2.2.2.2 = 0 then ((QaL.f k bt711.1 (([800, 300] : List Int))).bind fun t730 => (if t730 = T then (if bt715.1 = 1100 then (if bt717.1 = 100 then (if bt719.1 = 700 then (if bt721.1 = 0 then (if bt721.2.1 = 800 then (if bt721.2.2.1 = 0 then (if bt721.2.2.2.1 = 900 then (some T) else (some F)) else (some F)) else (some F)) else (some F)) else (some F)) else (some F)) else (some F)) else (some F))) else (some F)) else (some F)) else (some F)) else (some F)) else (some F)))))))))
theorem Qbf.mono : ∀ k, LeO (Qbf.f k ) (Qbf.f (k + 1) ) := by
 intro  k
 unfold Qbf.f
 exact ZM5 QaL.mono Qaz.mono Qbr.mono QaP.mono Qa8.mono
set_option maxHeartbeats 8000000 in
theorem Qbf.calls (k : Nat)  (r : Bool) (w : World) (h : Qbf.f k  = some r) :
  Calls Try.prog 27 #[] w fun e w' => e = .returned (.bool r) ∧ Below w.heap.size w w' := by
 have hu44 := Try.underlying44
 have hu84 := Try.underlying84
 have hu98 := Try.underlying98
 have hu46 := Try.underlying46
 have hu74 := Try.underlying74
 have HB := Aside0.mk (Below.refl w.heap.size w)
 have H : ((some (([(⟨(⟨#[99, 97, 115, 104]⟩ : ByteArray), 1, 0, 1, 0, 1000⟩ : S84), (⟨(⟨#[103, 111, 108, 100]⟩ : ByteArray), 3, 0, 1, 0, 300⟩ : S84)] : List (S84)) : List (S84))).bind fun y702 => ((some (([(⟨(⟨#[117, 115, 100]⟩ : ByteArray), 1000000⟩ : S98)] : List (S98)) : List (S98))).bind fun y705 => ((some (([(⟨(⟨(⟨#[97, 108, 102, 97]⟩ : ByteArray), (⟨#[104, 111, 117, 115, 101]⟩ : ByteArray)⟩ : S44), (⟨#[99, 97, 115, 104]⟩ : ByteArray), 800⟩ : S46), (⟨(⟨(⟨#[97, 108, 102, 97]⟩ : ByteArray), (⟨#[104, 111, 117, 115, 101]⟩ : ByteArray)⟩ : S44), (⟨#[103, 111, 108, 100]⟩ : ByteArray), 900⟩ : S46)] : List (S46)) : List (S46))).bind fun y708 => ((Qaz.f k y708 (⟨#[97, 108, 102, 97]⟩ : ByteArray) (⟨#[104, 111, 117, 115, 101]⟩ : ByteArray) 1000 y702 y705).bind fun bt711 => ((Qbr.f k y708 (⟨#[97, 108, 102, 97]⟩ : ByteArray) (⟨#[104, 111, 117, 115, 101]⟩ : ByteArray) 1000 y702 y705).bind fun bt715 => ((QaP.f k y708 (⟨#[97, 108, 102, 97]⟩ : ByteArray) (⟨#[104, 111, 117, 115, 101]⟩ : ByteArray) (⟨#[99, 97, 115, 104]⟩ : ByteArray) 1000 y702 y705).bind fun bt717 => ((QaP.f k y708 (⟨#[97, 108, 102, 97]⟩ : ByteArray) (⟨#[104, 111, 117, 115, 101]⟩ : ByteArray) (⟨#[103, 111, 108, 100]⟩ : ByteArray) 1000 y702 y705).bind fun bt719 => ((Qa8.f k y708 (⟨#[97, 108, 102, 97]⟩ : ByteArray) (⟨#[104, 111, 117, 115, 101]⟩ : ByteArray) y702 y705).bind fun bt721 => (if bt711.2 = 0 then (if bt715.2 = 0 then (if bt717.2 = 0 then (if bt719.2 = 0 then (if bt721.2.2.2.2 = 0 then ((QaL.f k bt711.1 (([800, 300] : List Int))).bind fun t730 => (if t730 = T then (if bt715.1 = 1100 then (if bt717.1 = 100 then (if bt719.1 = 700 then (if bt721.1 = 0 then (if bt721.2.1 = 800 then (if bt721.2.2.1 = 0 then (if bt721.2.2.2.1 = 900 then (some T) else (some F)) else (some F)) else (some F)) else (some F)) else (some F)) else (some F)) else (some F)) else (some F))) else (some F)) else (some F)) else (some F)) else (some F)) else (some F)))))))))) = some r := h
 clear h
 obtain ⟨y702, hy702⟩ : ∃ y_ : List (S84), y_ = (([(⟨(⟨#[99, 97, 115, 104]⟩ : ByteArray), 1, 0, 1, 0, 1000⟩ : S84), (⟨(⟨#[103, 111, 108, 100]⟩ : ByteArray), 3, 0, 1, 0, 300⟩ : S84)] : List (S84))) := ⟨_, rfl⟩
 replace H : ((some (([(⟨(⟨#[117, 115, 100]⟩ : ByteArray), 1000000⟩ : S98)] : List (S98)) : List (S98))).bind fun y705 => ((some (([(⟨(⟨(⟨#[97, 108, 102, 97]⟩ : ByteArray), (⟨#[104, 111, 117, 115, 101]⟩ : ByteArray)⟩ : S44), (⟨#[99, 97, 115, 104]⟩ : ByteArray), 800⟩ : S46), (⟨(⟨(⟨#[97, 108, 102, 97]⟩ : ByteArray), (⟨#[104, 111, 117, 115, 101]⟩ : ByteArray)⟩ : S44), (⟨#[103, 111, 108, 100]⟩ : ByteArray), 900⟩ : S46)] : List (S46)) : List (S46))).bind fun y708 => ((Qaz.f k y708 (⟨#[97, 108, 102, 97]⟩ : ByteArray) (⟨#[104, 111, 117, 115, 101]⟩ : ByteArray) 1000 y702 y705).bind fun bt711 => ((Qbr.f k y708 (⟨#[97, 108, 102, 97]⟩ : ByteArray) (⟨#[104, 111, 117, 115, 101]⟩ : ByteArray) 1000 y702 y705).bind fun bt715 => ((QaP.f k y708 (⟨#[97, 108, 102, 97]⟩ : ByteArray) (⟨#[104, 111, 117, 115, 101]⟩ : ByteArray) (⟨#[99, 97, 115, 104]⟩ : ByteArray) 1000 y702 y705).bind fun bt717 => ((QaP.f k y708 (⟨#[97, 108, 102, 97]⟩ : ByteArray) (⟨#[104, 111, 117, 115, 101]⟩ : ByteArray) (⟨#[103, 111, 108, 100]⟩ : ByteArray) 1000 y702 y705).bind fun bt719 => ((Qa8.f k y708 (⟨#[97, 108, 102, 97]⟩ : ByteArray) (⟨#[104, 111, 117, 115, 101]⟩ : ByteArray) y702 y705).bind fun bt721 => (if bt711.2 = 0 then (if bt715.2 = 0 then (if bt717.2 = 0 then (if bt719.2 = 0 then (if bt721.2.2.2.2 = 0 then ((QaL.f k bt711.1 (([800, 300] : List Int))).bind fun t730 => (if t730 = T then (if bt715.1 = 1100 then (if bt717.1 = 100 then (if bt719.1 = 700 then (if bt721.1 = 0 then (if bt721.2.1 = 800 then (if bt721.2.2.1 = 0 then (if bt721.2.2.2.1 = 900 then (some T) else (some F)) else (some F)) else (some F)) else (some F)) else (some F)) else (some F)) else (some F)) else (some F))) else (some F)) else (some F)) else (some F)) else (some F)) else (some F))))))))) = some r := by first | (rw [hy702]; with_reducible exact H) | (have H2_ := (Option.bind_some _ _).symm.trans H; rw [hy702]; with_reducible exact H2_) | (have H2_ := (Option.bind_some _ _).symm.trans H; with_reducible exact H2_) | with_reducible exact H | (rw [hy702]; exact H) | exact H
 have Ny702 := Aside0.mk hy702
 clear hy702
 obtain ⟨y705, hy705⟩ : ∃ y_ : List (S98), y_ = (([(⟨(⟨#[117, 115, 100]⟩ : ByteArray), 1000000⟩ : S98)] : List (S98))) := ⟨_, rfl⟩
 replace H : ((some (([(⟨(⟨(⟨#[97, 108, 102, 97]⟩ : ByteArray), (⟨#[104, 111, 117, 115, 101]⟩ : ByteArray)⟩ : S44), (⟨#[99, 97, 115, 104]⟩ : ByteArray), 800⟩ : S46), (⟨(⟨(⟨#[97, 108, 102, 97]⟩ : ByteArray), (⟨#[104, 111, 117, 115, 101]⟩ : ByteArray)⟩ : S44), (⟨#[103, 111, 108, 100]⟩ : ByteArray), 900⟩ : S46)] : List (S46)) : List (S46))).bind fun y708 => ((Qaz.f k y708 (⟨#[97, 108, 102, 97]⟩ : ByteArray) (⟨#[104, 111, 117, 115, 101]⟩ : ByteArray) 1000 y702 y705).bind fun bt711 => ((Qbr.f k y708 (⟨#[97, 108, 102, 97]⟩ : ByteArray) (⟨#[104, 111, 117, 115, 101]⟩ : ByteArray) 1000 y702 y705).bind fun bt715 => ((QaP.f k y708 (⟨#[97, 108, 102, 97]⟩ : ByteArray) (⟨#[104, 111, 117, 115, 101]⟩ : ByteArray) (⟨#[99, 97, 115, 104]⟩ : ByteArray) 1000 y702 y705).bind fun bt717 => ((QaP.f k y708 (⟨#[97, 108, 102, 97]⟩ : ByteArray) (⟨#[104, 111, 117, 115, 101]⟩ : ByteArray) (⟨#[103, 111, 108, 100]⟩ : ByteArray) 1000 y702 y705).bind fun bt719 => ((Qa8.f k y708 (⟨#[97, 108, 102, 97]⟩ : ByteArray) (⟨#[104, 111, 117, 115, 101]⟩ : ByteArray) y702 y705).bind fun bt721 => (if bt711.2 = 0 then (if bt715.2 = 0 then (if bt717.2 = 0 then (if bt719.2 = 0 then (if bt721.2.2.2.2 = 0 then ((QaL.f k bt711.1 (([800, 300] : List Int))).bind fun t730 => (if t730 = T then (if bt715.1 = 1100 then (if bt717.1 = 100 then (if bt719.1 = 700 then (if bt721.1 = 0 then (if bt721.2.1 = 800 then (if bt721.2.2.1 = 0 then (if bt721.2.2.2.1 = 900 then (some T) else (some F)) else (some F)) else (some F)) else (some F)) else (some F)) else (some F)) else (some F)) else (some F))) else (some F)) else (some F)) else (some F)) else (some F)) else (some F)))))))) = some r := by first | (rw [hy705]; with_reducible exact H) | (have H2_ := (Option.bind_some _ _).symm.trans H; rw [hy705]; with_reducible exact H2_) | (have H2_ := (Option.bind_some _ _).symm.trans H; with_reducible exact H2_) | with_reducible exact H | (rw [hy705]; exact H) | exact H
 have Ny705 := Aside0.mk hy705
 clear hy705
 obtain ⟨y708, hy708⟩ : ∃ y_ : List (S46), y_ = (([(⟨(⟨(⟨#[97, 108, 102, 97]⟩ : ByteArray), (⟨#[104, 111, 117, 115, 101]⟩ : ByteArray)⟩ : S44), (⟨#[99, 97, 115, 104]⟩ : ByteArray), 800⟩ : S46), (⟨(⟨(⟨#[97, 108, 102, 97]⟩ : ByteArray), (⟨#[104, 111, 117, 115, 101]⟩ : ByteArray)⟩ : S44), (⟨#[103, 111, 108, 100]⟩ : ByteArray), 900⟩ : S46)] : List (S46))) := ⟨_, rfl⟩
 replace H : ((Qaz.f k y708 (⟨#[97, 108, 102, 97]⟩ : ByteArray) (⟨#[104, 111, 117, 115, 101]⟩ : ByteArray) 1000 y702 y705).bind fun bt711 => ((Qbr.f k y708 (⟨#[97, 108, 102, 97]⟩ : ByteArray) (⟨#[104, 111, 117, 115, 101]⟩ : ByteArray) 1000 y702 y705).bind fun bt715 => ((QaP.f k y708 (⟨#[97, 108, 102, 97]⟩ : ByteArray) (⟨#[104, 111, 117, 115, 101]⟩ : ByteArray) (⟨#[99, 97, 115, 104]⟩ : ByteArray) 1000 y702 y705).bind fun bt717 => ((QaP.f k y708 (⟨#[97, 108, 102, 97]⟩ : ByteArray) (⟨#[104, 111, 117, 115, 101]⟩ : ByteArray) (⟨#[103, 111, 108, 100]⟩ : ByteArray) 1000 y702 y705).bind fun bt719 => ((Qa8.f k y708 (⟨#[97, 108, 102, 97]⟩ : ByteArray) (⟨#[104, 111, 117, 115, 101]⟩ : ByteArray) y702 y705).bind fun bt721 => (if bt711.2 = 0 then (if bt715.2 = 0 then (if bt717.2 = 0 then (if bt719.2 = 0 then (if bt721.2.2.2.2 = 0 then ((QaL.f k bt711.1 (([800, 300] : List Int))).bind fun t730 => (if t730 = T then (if bt715.1 = 1100 then (if bt717.1 = 100 then (if bt719.1 = 700 then (if bt721.1 = 0 then (if bt721.2.1 = 800 then (if bt721.2.2.1 = 0 then (if bt721.2.2.2.1 = 900 then (some T) else (some F)) else (some F)) else (some F)) else (some F)) else (some F)) else (some F)) else (some F)) else (some F))) else (some F)) else (some F)) else (some F)) else (some F)) else (some F))))))) = some r := by first | (rw [hy708]; with_reducible exact H) | (have H2_ := (Option.bind_some _ _).symm.trans H; rw [hy708]; with_reducible exact H2_) | (have H2_ := (Option.bind_some _ _).symm.trans H; with_reducible exact H2_) | with_reducible exact H | (rw [hy708]; exact H) | exact H
 have Ny708 := Aside0.mk hy708
 clear hy708
 replace H := Option.bind_eq_some_iff.mp H
 obtain ⟨⟨t711, t714⟩, A10, H⟩ := H
 replace H : ((Qbr.f k y708 (⟨#[97, 108, 102, 97]⟩ : ByteArray) (⟨#[104, 111, 117, 115, 101]⟩ : ByteArray) 1000 y702 y705).bind fun bt715 => ((QaP.f k y708 (⟨#[97, 108, 102, 97]⟩ : ByteArray) (⟨#[104, 111, 117, 115, 101]⟩ : ByteArray) (⟨#[99, 97, 115, 104]⟩ : ByteArray) 1000 y702 y705).bind fun bt717 => ((QaP.f k y708 (⟨#[97, 108, 102, 97]⟩ : ByteArray) (⟨#[104, 111, 117, 115, 101]⟩ : ByteArray) (⟨#[103, 111, 108, 100]⟩ : ByteArray) 1000 y702 y705).bind fun bt719 => ((Qa8.f k y708 (⟨#[97, 108, 102, 97]⟩ : ByteArray) (⟨#[104, 111, 117, 115, 101]⟩ : ByteArray) y702 y705).bind fun bt721 => (if t714 = 0 then (if bt715.2 = 0 then (if bt717.2 = 0 then (if bt719.2 = 0 then (if bt721.2.2.2.2 = 0 then ((QaL.f k t711 (([800, 300] : List Int))).bind fun t730 => (if t730 = T then (if bt715.1 = 1100 then (if bt717.1 = 100 then (if bt719.1 = 700 then (if bt721.1 = 0 then (if bt721.2.1 = 800 then (if bt721.2.2.1 = 0 then (if bt721.2.2.2.1 = 900 then (some T) else (some F)) else (some F)) else (some F)) else (some F)) else (some F)) else (some F)) else (some F)) else (some F))) else (some F)) else (some F)) else (some F)) else (some F)) else (some F)))))) = some r := H
 have A1 := Aside0.mk A10
 clear A10
 replace H := Option.bind_eq_some_iff.mp H
 obtain ⟨⟨t715, t716⟩, A20, H⟩ := H
 replace H : ((QaP.f k y708 (⟨#[97, 108, 102, 97]⟩ : ByteArray) (⟨#[104, 111, 117, 115, 101]⟩ : ByteArray) (⟨#[99, 97, 115, 104]⟩ : ByteArray) 1000 y702 y705).bind fun bt717 => ((QaP.f k y708 (⟨#[97, 108, 102, 97]⟩ : ByteArray) (⟨#[104, 111, 117, 115, 101]⟩ : ByteArray) (⟨#[103, 111, 108, 100]⟩ : ByteArray) 1000 y702 y705).bind fun bt719 => ((Qa8.f k y708 (⟨#[97, 108, 102, 97]⟩ : ByteArray) (⟨#[104, 111, 117, 115, 101]⟩ : ByteArray) y702 y705).bind fun bt721 => (if t714 = 0 then (if t716 = 0 then (if bt717.2 = 0 then (if bt719.2 = 0 then (if bt721.2.2.2.2 = 0 then ((QaL.f k t711 (([800, 300] : List Int))).bind fun t730 => (if t730 = T then (if t715 = 1100 then (if bt717.1 = 100 then (if bt719.1 = 700 then (if bt721.1 = 0 then (if bt721.2.1 = 800 then (if bt721.2.2.1 = 0 then (if bt721.2.2.2.1 = 900 then (some T) else (some F)) else (some F)) else (some F)) else (some F)) else (some F)) else (some F)) else (some F)) else (some F))) else (some F)) else (some F)) else (some F)) else (some F)) else (some F))))) = some r := H
 have A2 := Aside0.mk A20
 clear A20
 replace H := Option.bind_eq_some_iff.mp H
 obtain ⟨⟨t717, t718⟩, A30, H⟩ := H
 replace H : ((QaP.f k y708 (⟨#[97, 108, 102, 97]⟩ : ByteArray) (⟨#[104, 111, 117, 115, 101]⟩ : ByteArray) (⟨#[103, 111, 108, 100]⟩ : ByteArray) 1000 y702 y705).bind fun bt719 => ((Qa8.f k y708 (⟨#[97, 108, 102, 97]⟩ : ByteArray) (⟨#[104, 111, 117, 115, 101]⟩ : ByteArray) y702 y705).bind fun bt721 => (if t714 = 0 then (if t716 = 0 then (if t718 = 0 then (if bt719.2 = 0 then (if bt721.2.2.2.2 = 0 then ((QaL.f k t711 (([800, 300] : List Int))).bind fun t730 => (if t730 = T then (if t715 = 1100 then (if t717 = 100 then (if bt719.1 = 700 then (if bt721.1 = 0 then (if bt721.2.1 = 800 then (if bt721.2.2.1 = 0 then (if bt721.2.2.2.1 = 900 then (some T) else (some F)) else (some F)) else (some F)) else (some F)) else (some F)) else (some F)) else (some F)) else (some F))) else (some F)) else (some F)) else (some F)) else (some F)) else (some F)))) = some r := H
 have A3 := Aside0.mk A30
 clear A30
 replace H := Option.bind_eq_some_iff.mp H
 obtain ⟨⟨t719, t720⟩, A40, H⟩ := H
 replace H : ((Qa8.f k y708 (⟨#[97, 108, 102, 97]⟩ : ByteArray) (⟨#[104, 111, 117, 115, 101]⟩ : ByteArray) y702 y705).bind fun bt721 => (if t714 = 0 then (if t716 = 0 then (if t718 = 0 then (if t720 = 0 then (if bt721.2.2.2.2 = 0 then ((QaL.f k t711 (([800, 300] : List Int))).bind fun t730 => (if t730 = T then (if t715 = 1100 then (if t717 = 100 then (if t719 = 700 then (if bt721.1 = 0 then (if bt721.2.1 = 800 then (if bt721.2.2.1 = 0 then (if bt721.2.2.2.1 = 900 then (some T) else (some F)) else (some F)) else (some F)) else (some F)) else (some F)) else (some F)) else (some F)) else (some F))) else (some F)) else (some F)) else (some F)) else (some F)) else (some F))) = some r := H
 have A4 := Aside0.mk A40
 clear A40
 replace H := Option.bind_eq_some_iff.mp H
 obtain ⟨⟨t721, t722, t723, t724, t725⟩, A50, H⟩ := H
 replace H : (if t714 = 0 then (if t716 = 0 then (if t718 = 0 then (if t720 = 0 then (if t725 = 0 then ((QaL.f k t711 (([800, 300] : List Int))).bind fun t730 => (if t730 = T then (if t715 = 1100 then (if t717 = 100 then (if t719 = 700 then (if t721 = 0 then (if t722 = 800 then (if t723 = 0 then (if t724 = 900 then (some T) else (some F)) else (some F)) else (some F)) else (some F)) else (some F)) else (some F)) else (some F)) else (some F))) else (some F)) else (some F)) else (some F)) else (some F)) else (some F)) = some r := H
 have A5 := Aside0.mk A50
 clear A50
 go_enter Try.func27, Try.ntmps27
 go_upto_region 10 with (first | ((with_reducible refine QaK (N := 1) rfl ?_); (try (refine QbK (by rfl) ?_; dsimp only)); refine Zbx (N := 1) (cs := #[.string (⟨#[]⟩ : ByteArray), .string (⟨#[]⟩ : ByteArray)]) (t := 44) ?_; intro gb701 hg w6 hbox hb; have BK701 := Aside0.mk (hbox); have GW701 := Aside0.mk (Zt w hg (Zb)); have GE701 := GW701; replace HB := Aside0.mk (Qan (Zb) hb); clear hb hbox hg; obtain ⟨hcz7_0, hfz7_0⟩ := Zy (v := (.string (⟨#[]⟩ : ByteArray))) BK701.out 0; obtain ⟨hcz7_1, hfz7_1⟩ := Zy (v := (.string (⟨#[]⟩ : ByteArray))) BK701.out 1) | ((with_reducible refine QaK (N := 18) rfl ?_); (try (refine QbK (by rfl) ?_; dsimp only)); refine Kd.R_lit k84 _ 84 ?hg (N := 18) ?hd (xs := ([(⟨(⟨#[99, 97, 115, 104]⟩ : ByteArray), 1, 0, 1, 0, 1000⟩ : S84), (⟨(⟨#[103, 111, 108, 100]⟩ : ByteArray), 3, 0, 1, 0, 300⟩ : S84)] : List (S84))) (inner := [.string (⟨#[99, 97, 115, 104]⟩ : ByteArray), .int .i64 1, .int .i64 0, .int .i64 1, .int .i64 0, .int .i64 1000, .string (⟨#[103, 111, 108, 100]⟩ : ByteArray), .int .i64 3, .int .i64 0, .int .i64 1, .int .i64 0, .int .i64 300]) (ok := fun _ => True) (okp := fun _ => True) ?hr ?hp (fun _ hk => hk) trivial (Below.refl _ _) (Nat.le_refl _) (by simp) ?_; (case hd => rfl); (case hg => rfl); (case hr => first | (go_simp; done) | (go_simp; rfl)); (case hp => exact (Reps.c6 (show Kd.M k84 _ _ _ (⟨(⟨#[99, 97, 115, 104]⟩ : ByteArray), 1, 0, 1, 0, 1000⟩ : S84) [.string (⟨#[99, 97, 115, 104]⟩ : ByteArray), .int .i64 1, .int .i64 0, .int .i64 1, .int .i64 0, .int .i64 1000] from (QeU _ _ _ (⟨(⟨#[99, 97, 115, 104]⟩ : ByteArray), 1, 0, 1, 0, 1000⟩ : S84) )) (Reps.c6 (show Kd.M k84 _ _ _ (⟨(⟨#[103, 111, 108, 100]⟩ : ByteArray), 3, 0, 1, 0, 300⟩ : S84) [.string (⟨#[103, 111, 108, 100]⟩ : ByteArray), .int .i64 3, .int .i64 0, .int .i64 1, .int .i64 0, .int .i64 300] from (QeU _ _ _ (⟨(⟨#[103, 111, 108, 100]⟩ : ByteArray), 3, 0, 1, 0, 300⟩ : S84) )) (Reps.none _ _)))); intro v703 w8 ho9 hb hg_ hnew_; clear hg_ hnew_; (first | rw [← Ny702.out] at ho9 | (simp only [Int.reduceToNat] at ho9; rw [← Ny702.out] at ho9)); have HO704 := Aside0.mk (Kd.R_lower ho9 (Qam (Zc1 GE701.out))); replace BK701 := Aside0.mk (Zpi #[.string (⟨#[97, 108, 102, 97]⟩ : ByteArray), .string (⟨#[104, 111, 117, 115, 101]⟩ : ByteArray)] BK701.out hb); replace HB := Aside0.mk (Qan (Zc1 GE701.out) hb); clear hb ho9) | ((with_reducible refine QaK (N := 20) rfl ?_); (try (refine QbK (by rfl) ?_; dsimp only)); refine Kd.R_lit k98 _ 98 ?hg (N := 20) ?hd (xs := ([(⟨(⟨#[117, 115, 100]⟩ : ByteArray), 1000000⟩ : S98)] : List (S98))) (inner := [.string (⟨#[117, 115, 100]⟩ : ByteArray), .int .i64 1000000]) (ok := fun _ => True) (okp := fun _ => True) ?hr ?hp (fun _ hk => hk) trivial (Below.refl _ _) (Nat.le_refl _) (by simp) ?_; (case hd => rfl); (case hg => rfl); (case hr => first | (go_simp; done) | (go_simp; rfl)); (case hp => exact (Reps.c2 (show Kd.M k98 _ _ _ (⟨(⟨#[117, 115, 100]⟩ : ByteArray), 1000000⟩ : S98) [.string (⟨#[117, 115, 100]⟩ : ByteArray), .int .i64 1000000] from (QgV _ _ _ (⟨(⟨#[117, 115, 100]⟩ : ByteArray), 1000000⟩ : S98) )) (Reps.none _ _))); intro v706 w10 ho11 hb hg_ hnew_; clear hg_ hnew_; (first | rw [← Ny705.out] at ho11 | (simp only [Int.reduceToNat] at ho11; rw [← Ny705.out] at ho11)); have HO707 := Aside0.mk (Kd.R_lower ho11 (Qam (Zc1 GE701.out))); replace HO704 := Aside0.mk (Kd.R_below (Zr HO704.out) hb); replace BK701 := Aside0.mk (Zi BK701.out hb); replace HB := Aside0.mk (Qan (Zc1 GE701.out) hb); clear hb ho11; obtain ⟨hcz12_0, hfz12_0⟩ := Zy (v := (.string (⟨#[97, 108, 102, 97]⟩ : ByteArray))) BK701.out 0; obtain ⟨hcz12_1, hfz12_1⟩ := Zy (v := (.string (⟨#[104, 111, 117, 115, 101]⟩ : ByteArray))) BK701.out 1) | ((with_reducible refine QaK (N := 25) rfl ?_); (try (refine QbK (by rfl) ?_; dsimp only)); refine Kd.R_lit k46 _ 46 ?hg (N := 25) ?hd (xs := ([(⟨(⟨(⟨#[97, 108, 102, 97]⟩ : ByteArray), (⟨#[104, 111, 117, 115, 101]⟩ : ByteArray)⟩ : S44), (⟨#[99, 97, 115, 104]⟩ : ByteArray), 800⟩ : S46), (⟨(⟨(⟨#[97, 108, 102, 97]⟩ : ByteArray), (⟨#[104, 111, 117, 115, 101]⟩ : ByteArray)⟩ : S44), (⟨#[103, 111, 108, 100]⟩ : ByteArray), 900⟩ : S46)] : List (S46))) (inner := [.string (⟨#[97, 108, 102, 97]⟩ : ByteArray), .string (⟨#[104, 111, 117, 115, 101]⟩ : ByteArray), .string (⟨#[99, 97, 115, 104]⟩ : ByteArray), .int .i64 800, .string (⟨#[97, 108, 102, 97]⟩ : ByteArray), .string (⟨#[104, 111, 117, 115, 101]⟩ : ByteArray), .string (⟨#[103, 111, 108, 100]⟩ : ByteArray), .int .i64 900]) (ok := fun _ => True) (okp := fun _ => True) ?hr ?hp (fun _ hk => hk) trivial (Below.refl _ _) (Nat.le_refl _) (by simp) ?_; (case hd => rfl); (case hg => rfl); (case hr => first | (go_simp; done) | (go_simp; rfl)); (case hp => exact (Reps.c4 (show Kd.M k46 _ _ _ (⟨(⟨(⟨#[97, 108, 102, 97]⟩ : ByteArray), (⟨#[104, 111, 117, 115, 101]⟩ : ByteArray)⟩ : S44), (⟨#[99, 97, 115, 104]⟩ : ByteArray), 800⟩ : S46) [.string (⟨#[97, 108, 102, 97]⟩ : ByteArray), .string (⟨#[104, 111, 117, 115, 101]⟩ : ByteArray), .string (⟨#[99, 97, 115, 104]⟩ : ByteArray), .int .i64 800] from (Qco _ _ _ (⟨(⟨(⟨#[97, 108, 102, 97]⟩ : ByteArray), (⟨#[104, 111, 117, 115, 101]⟩ : ByteArray)⟩ : S44), (⟨#[99, 97, 115, 104]⟩ : ByteArray), 800⟩ : S46) )) (Reps.c4 (show Kd.M k46 _ _ _ (⟨(⟨(⟨#[97, 108, 102, 97]⟩ : ByteArray), (⟨#[104, 111, 117, 115, 101]⟩ : ByteArray)⟩ : S44), (⟨#[103, 111, 108, 100]⟩ : ByteArray), 900⟩ : S46) [.string (⟨#[97, 108, 102, 97]⟩ : ByteArray), .string (⟨#[104, 111, 117, 115, 101]⟩ : ByteArray), .string (⟨#[103, 111, 108, 100]⟩ : ByteArray), .int .i64 900] from (Qco _ _ _ (⟨(⟨(⟨#[97, 108, 102, 97]⟩ : ByteArray), (⟨#[104, 111, 117, 115, 101]⟩ : ByteArray)⟩ : S44), (⟨#[103, 111, 108, 100]⟩ : ByteArray), 900⟩ : S46) )) (Reps.none _ _)))); intro v709 w13 ho14 hb hg_ hnew_; clear hg_ hnew_; (first | rw [← Ny708.out] at ho14 | (simp only [Int.reduceToNat] at ho14; rw [← Ny708.out] at ho14)); have HO710 := Aside0.mk (Kd.R_lower ho14 (Qam (Zc1 GE701.out))); replace HO704 := Aside0.mk (Kd.R_below (Zr HO704.out) hb); replace HO707 := Aside0.mk (Kd.R_below (Zr HO707.out) hb); replace BK701 := Aside0.mk (Zi BK701.out hb); replace HB := Aside0.mk (Qan (Zc1 GE701.out) hb); clear hb ho14; obtain ⟨hcz15_0, hfz15_0⟩ := Zy (v := (.string (⟨#[97, 108, 102, 97]⟩ : ByteArray))) BK701.out 0; obtain ⟨hcz15_1, hfz15_1⟩ := Zy (v := (.string (⟨#[104, 111, 117, 115, 101]⟩ : ByteArray))) BK701.out 1; obtain ⟨Ao16, co16, eo16⟩ := Kd.R_slice HO710.out; subst eo16; obtain ⟨Ao17, co17, eo17⟩ := Kd.R_slice HO704.out; subst eo17; obtain ⟨Ao18, co18, eo18⟩ := Kd.R_slice HO707.out; subst eo18) | ((with_reducible refine Qax (f := 28) rfl ?_); refine goesL_ (some 31) rfl rfl Try.func28 (by kernel_rfl) rfl #[.slice Ao16 y708.length co16, .agg #[.string (⟨#[97, 108, 102, 97]⟩ : ByteArray), .string (⟨#[104, 111, 117, 115, 101]⟩ : ByteArray)], .int .i64 1000, .slice Ao17 y702.length co17, .slice Ao18 y705.length co18] rfl (Zl) ?_; (with_reducible refine (Qaz.calls k _ _ y708 (⟨#[97, 108, 102, 97]⟩ : ByteArray) (⟨#[104, 111, 117, 115, 101]⟩ : ByteArray) 1000 _ _ y702 _ _ y705 t711 t714 _ ?side1 ?side2 ?side3 ?side4 ?side5 ?side6 A1.out).mono ?_); (case side1 => exact Zv (Kd.R_reads' HO710.out).2.2); (case side2 => exact (Kd.R_reads' HO710.out).2.1); (case side3 => exact Zv (Kd.R_reads' HO704.out).2.2); (case side4 => exact (Kd.R_reads' HO704.out).2.1); (case side5 => exact Zv (Kd.R_reads' HO707.out).2.2); (case side6 => exact (Kd.R_reads' HO707.out).2.1); rintro e w19 ⟨v712, rfl, ho0, hb⟩; refine ⟨_, rfl, ?_⟩; have HO713 := Aside0.mk (Kd.R_lower ho0 (Qam (Zc1 GE701.out))); replace HO704 := Aside0.mk (Kd.R_below (Zr HO704.out) hb); replace HO707 := Aside0.mk (Kd.R_below (Zr HO707.out) hb); replace HO710 := Aside0.mk (Kd.R_below (Zr HO710.out) hb); replace BK701 := Aside0.mk (Zi BK701.out hb); replace HB := Aside0.mk (Qan (Zc1 GE701.out) hb); (try clear hb); (try clear hb2); (try clear hk); (try clear hi); (try clear ho0); obtain ⟨hcz20_0, hfz20_0⟩ := Zy (v := (.string (⟨#[97, 108, 102, 97]⟩ : ByteArray))) BK701.out 0; obtain ⟨hcz20_1, hfz20_1⟩ := Zy (v := (.string (⟨#[104, 111, 117, 115, 101]⟩ : ByteArray))) BK701.out 1) | ((with_reducible refine Qax (f := 30) rfl ?_); refine goesL_ (some 39) rfl rfl Try.func30 (by kernel_rfl) rfl #[.slice Ao16 y708.length co16, .agg #[.string (⟨#[97, 108, 102, 97]⟩ : ByteArray), .string (⟨#[104, 111, 117, 115, 101]⟩ : ByteArray)], .int .i64 1000, .slice Ao17 y702.length co17, .slice Ao18 y705.length co18] rfl (Zl) ?_; (with_reducible refine (Qbr.calls k _ _ y708 (⟨#[97, 108, 102, 97]⟩ : ByteArray) (⟨#[104, 111, 117, 115, 101]⟩ : ByteArray) 1000 _ _ y702 _ _ y705 t715 t716 _ ?side1 ?side2 ?side3 ?side4 ?side5 ?side6 A2.out).mono ?_); (case side1 => exact Zv (Kd.R_reads' HO710.out).2.2); (case side2 => exact (Kd.R_reads' HO710.out).2.1); (case side3 => exact Zv (Kd.R_reads' HO704.out).2.2); (case side4 => exact (Kd.R_reads' HO704.out).2.1); (case side5 => exact Zv (Kd.R_reads' HO707.out).2.2); (case side6 => exact (Kd.R_reads' HO707.out).2.1); rintro e w21 ⟨rfl, hb⟩; refine ⟨_, rfl, ?_⟩; replace HO704 := Aside0.mk (Kd.R_below (Zr HO704.out) hb); replace HO707 := Aside0.mk (Kd.R_below (Zr HO707.out) hb); replace HO710 := Aside0.mk (Kd.R_below (Zr HO710.out) hb); replace HO713 := Aside0.mk (Kd.R_below (Zr HO713.out) hb); replace BK701 := Aside0.mk (Zi BK701.out hb); replace HB := Aside0.mk (Qan (Zc1 GE701.out) hb); (try clear hb); (try clear hb2); (try clear hk); (try clear hi); obtain ⟨hcz22_0, hfz22_0⟩ := Zy (v := (.string (⟨#[97, 108, 102, 97]⟩ : ByteArray))) BK701.out 0; obtain ⟨hcz22_1, hfz22_1⟩ := Zy (v := (.string (⟨#[104, 111, 117, 115, 101]⟩ : ByteArray))) BK701.out 1) | ((with_reducible refine Qax (f := 33) rfl ?_); refine goesL_ (some 47) rfl rfl Try.func33 (by kernel_rfl) rfl #[.slice Ao16 y708.length co16, .agg #[.string (⟨#[97, 108, 102, 97]⟩ : ByteArray), .string (⟨#[104, 111, 117, 115, 101]⟩ : ByteArray)], .string (⟨#[99, 97, 115, 104]⟩ : ByteArray), .int .i64 1000, .slice Ao17 y702.length co17, .slice Ao18 y705.length co18] rfl (Zl) ?_; (with_reducible refine (QaP.calls k _ _ y708 (⟨#[97, 108, 102, 97]⟩ : ByteArray) (⟨#[104, 111, 117, 115, 101]⟩ : ByteArray) (⟨#[99, 97, 115, 104]⟩ : ByteArray) 1000 _ _ y702 _ _ y705 t717 t718 _ ?side1 ?side2 ?side3 ?side4 ?side5 ?side6 A3.out).mono ?_); (case side1 => exact Zv (Kd.R_reads' HO710.out).2.2); (case side2 => exact (Kd.R_reads' HO710.out).2.1); (case side3 => exact Zv (Kd.R_reads' HO704.out).2.2); (case side4 => exact (Kd.R_reads' HO704.out).2.1); (case side5 => exact Zv (Kd.R_reads' HO707.out).2.2); (case side6 => exact (Kd.R_reads' HO707.out).2.1); rintro e w23 ⟨rfl, hb⟩; refine ⟨_, rfl, ?_⟩; replace HO704 := Aside0.mk (Kd.R_below (Zr HO704.out) hb); replace HO707 := Aside0.mk (Kd.R_below (Zr HO707.out) hb); replace HO710 := Aside0.mk (Kd.R_below (Zr HO710.out) hb); replace HO713 := Aside0.mk (Kd.R_below (Zr HO713.out) hb); replace BK701 := Aside0.mk (Zi BK701.out hb); replace HB := Aside0.mk (Qan (Zc1 GE701.out) hb); (try clear hb); (try clear hb2); (try clear hk); (try clear hi); obtain ⟨hcz24_0, hfz24_0⟩ := Zy (v := (.string (⟨#[97, 108, 102, 97]⟩ : ByteArray))) BK701.out 0; obtain ⟨hcz24_1, hfz24_1⟩ := Zy (v := (.string (⟨#[104, 111, 117, 115, 101]⟩ : ByteArray))) BK701.out 1) | ((with_reducible refine Qax (f := 33) rfl ?_); refine goesL_ (some 55) rfl rfl Try.func33 (by kernel_rfl) rfl #[.slice Ao16 y708.length co16, .agg #[.string (⟨#[97, 108, 102, 97]⟩ : ByteArray), .string (⟨#[104, 111, 117, 115, 101]⟩ : ByteArray)], .string (⟨#[103, 111, 108, 100]⟩ : ByteArray), .int .i64 1000, .slice Ao17 y702.length co17, .slice Ao18 y705.length co18] rfl (Zl) ?_; (with_reducible refine (QaP.calls k _ _ y708 (⟨#[97, 108, 102, 97]⟩ : ByteArray) (⟨#[104, 111, 117, 115, 101]⟩ : ByteArray) (⟨#[103, 111, 108, 100]⟩ : ByteArray) 1000 _ _ y702 _ _ y705 t719 t720 _ ?side1 ?side2 ?side3 ?side4 ?side5 ?side6 A4.out).mono ?_); (case side1 => exact Zv (Kd.R_reads' HO710.out).2.2); (case side2 => exact (Kd.R_reads' HO710.out).2.1); (case side3 => exact Zv (Kd.R_reads' HO704.out).2.2); (case side4 => exact (Kd.R_reads' HO704.out).2.1); (case side5 => exact Zv (Kd.R_reads' HO707.out).2.2); (case side6 => exact (Kd.R_reads' HO707.out).2.1); rintro e w25 ⟨rfl, hb⟩; refine ⟨_, rfl, ?_⟩; replace HO704 := Aside0.mk (Kd.R_below (Zr HO704.out) hb); replace HO707 := Aside0.mk (Kd.R_below (Zr HO707.out) hb); replace HO710 := Aside0.mk (Kd.R_below (Zr HO710.out) hb); replace HO713 := Aside0.mk (Kd.R_below (Zr HO713.out) hb); replace BK701 := Aside0.mk (Zi BK701.out hb); replace HB := Aside0.mk (Qan (Zc1 GE701.out) hb); (try clear hb); (try clear hb2); (try clear hk); (try clear hi); obtain ⟨hcz26_0, hfz26_0⟩ := Zy (v := (.string (⟨#[97, 108, 102, 97]⟩ : ByteArray))) BK701.out 0; obtain ⟨hcz26_1, hfz26_1⟩ := Zy (v := (.string (⟨#[104, 111, 117, 115, 101]⟩ : ByteArray))) BK701.out 1) | ((with_reducible refine Qax (f := 35) rfl ?_); refine goesL_ (some 63) rfl rfl Try.func35 (by kernel_rfl) rfl #[.slice Ao16 y708.length co16, .agg #[.string (⟨#[97, 108, 102, 97]⟩ : ByteArray), .string (⟨#[104, 111, 117, 115, 101]⟩ : ByteArray)], .slice Ao17 y702.length co17, .slice Ao18 y705.length co18] rfl (Zl) ?_; (with_reducible refine (Qa8.calls k _ _ y708 (⟨#[97, 108, 102, 97]⟩ : ByteArray) (⟨#[104, 111, 117, 115, 101]⟩ : ByteArray) _ _ y702 _ _ y705 t721 t722 t723 t724 t725 _ ?side1 ?side2 ?side3 ?side4 ?side5 ?side6 A5.out).mono ?_); (case side1 => exact Zv (Kd.R_reads' HO710.out).2.2); (case side2 => exact (Kd.R_reads' HO710.out).2.1); (case side3 => exact Zv (Kd.R_reads' HO704.out).2.2); (case side4 => exact (Kd.R_reads' HO704.out).2.1); (case side5 => exact Zv (Kd.R_reads' HO707.out).2.2); (case side6 => exact (Kd.R_reads' HO707.out).2.1); rintro e w27 ⟨rfl, hb⟩; refine ⟨_, rfl, ?_⟩; replace HO704 := Aside0.mk (Kd.R_below (Zr HO704.out) hb); replace HO707 := Aside0.mk (Kd.R_below (Zr HO707.out) hb); replace HO710 := Aside0.mk (Kd.R_below (Zr HO710.out) hb); replace HO713 := Aside0.mk (Kd.R_below (Zr HO713.out) hb); replace BK701 := Aside0.mk (Zi BK701.out hb); replace HB := Aside0.mk (Qan (Zc1 GE701.out) hb); (try clear hb); (try clear hb2); (try clear hk); (try clear hi)) | ((with_reducible refine QaK (N := 13) rfl ?_); (try (refine QbK (by rfl) ?_; dsimp only)); refine Zbx (N := 13) (cs := #[.int .i64 0, .int .i64 0, .int .i64 0, .int .i64 0]) (t := 74) ?_; intro gb726 hg w28 hbox hb; have BK726 := Aside0.mk (hbox); have GW726 := Aside0.mk (Zt w hg (Zc1 GE701.out)); have GE726 := GW726; have NB701_726 := Aside0.mk (Zn hg BK701.out); have NB726_701 := Aside0.mk NB701_726.out.symm; replace HO704 := Aside0.mk (Kd.R_below (Zr HO704.out) hb); replace HO707 := Aside0.mk (Kd.R_below (Zr HO707.out) hb); replace HO710 := Aside0.mk (Kd.R_below (Zr HO710.out) hb); replace HO713 := Aside0.mk (Kd.R_below (Zr HO713.out) hb); replace BK701 := Aside0.mk (Zi BK701.out hb); replace HB := Aside0.mk (Qan (Zc1 GE701.out) hb); clear hb hbox hg; have hnb29 := NB726_701.out; have hnc29 := NB701_726.out; obtain ⟨hcz30_0, hfz30_0⟩ := Zy (v := (.int .i64 0)) BK726.out 0; obtain ⟨hcz30_1, hfz30_1⟩ := Zy (v := (.int .i64 0)) BK726.out 1; obtain ⟨hcz30_2, hfz30_2⟩ := Zy (v := (.int .i64 0)) BK726.out 2; obtain ⟨hcz30_3, hfz30_3⟩ := Zy (v := (.int .i64 0)) BK726.out 3))
 (try simp only [Act.put, Zj, Zk, Zm])
 by_cases c31 : t714 = 0
 ·rw [if_pos c31] at H
  have c31b0 : (t714 == 0) = T := beq_iff_eq.mpr c31
  have c31b1 : (t714 != 0) = F := bne_eq_false_iff_eq.mpr c31
  clear c31
  (try simp only [c31b0, c31b1])
  by_cases c32 : t716 = 0
  ·rw [if_pos c32] at H
   have c32b0 : (t716 == 0) = T := beq_iff_eq.mpr c32
   have c32b1 : (t716 != 0) = F := bne_eq_false_iff_eq.mpr c32
   clear c32
   by_cases c33 : t718 = 0
   ·rw [if_pos c33] at H
    have c33b0 : (t718 == 0) = T := beq_iff_eq.mpr c33
    have c33b1 : (t718 != 0) = F := bne_eq_false_iff_eq.mpr c33
    clear c33
    by_cases c34 : t720 = 0
    ·rw [if_pos c34] at H
     have c34b0 : (t720 == 0) = T := beq_iff_eq.mpr c34
     have c34b1 : (t720 != 0) = F := bne_eq_false_iff_eq.mpr c34
     clear c34
     by_cases c35 : t725 = 0
     ·rw [if_pos c35] at H
      have c35b0 : (t725 == 0) = T := beq_iff_eq.mpr c35
      have c35b1 : (t725 != 0) = F := bne_eq_false_iff_eq.mpr c35
      clear c35
      obtain ⟨y727, hy727⟩ : ∃ y_ : List Int, y_ = (([800, 300] : List Int)) := ⟨_, rfl⟩
      replace H : ((QaL.f k t711 y727).bind fun t730 => (if t730 = T then (if t715 = 1100 then (if t717 = 100 then (if t719 = 700 then (if t721 = 0 then (if t722 = 800 then (if t723 = 0 then (if t724 = 900 then (some T) else (some F)) else (some F)) else (some F)) else (some F)) else (some F)) else (some F)) else (some F)) else (some F))) = some r := by first | (rw [hy727]; with_reducible exact H) | (have H2_ := (Option.bind_some _ _).symm.trans H; rw [hy727]; with_reducible exact H2_) | (have H2_ := (Option.bind_some _ _).symm.trans H; with_reducible exact H2_) | with_reducible exact H | (rw [hy727]; exact H) | exact H
      have Ny727 := Aside0.mk hy727
      clear hy727
      replace H := Option.bind_eq_some_iff.mp H
      obtain ⟨t730, A360, H⟩ := H
      replace H : (if t730 = T then (if t715 = 1100 then (if t717 = 100 then (if t719 = 700 then (if t721 = 0 then (if t722 = 800 then (if t723 = 0 then (if t724 = 900 then (some T) else (some F)) else (some F)) else (some F)) else (some F)) else (some F)) else (some F)) else (some F)) else (some F)) = some r := H
      have A36 := Aside0.mk A360
      clear A360
      by_cases c37 : t730 = T
      ·subst c37
       have H1 : (if t715 = 1100 then (if t717 = 100 then (if t719 = 700 then (if t721 = 0 then (if t722 = 800 then (if t723 = 0 then (if t724 = 900 then (some T) else (some F)) else (some F)) else (some F)) else (some F)) else (some F)) else (some F)) else (some F)) = some r := by rw [if_pos rfl] at H; exact H
       clear H
       have H := H1
       clear H1
       by_cases c38 : t715 = 1100
       ·rw [if_pos c38] at H
        have c38b0 : (t715 == 1100) = T := beq_iff_eq.mpr c38
        have c38b1 : (t715 != 1100) = F := bne_eq_false_iff_eq.mpr c38
        clear c38
        by_cases c39 : t717 = 100
        ·rw [if_pos c39] at H
         have c39b0 : (t717 == 100) = T := beq_iff_eq.mpr c39
         have c39b1 : (t717 != 100) = F := bne_eq_false_iff_eq.mpr c39
         clear c39
         by_cases c40 : t719 = 700
         ·rw [if_pos c40] at H
          have c40b0 : (t719 == 700) = T := beq_iff_eq.mpr c40
          have c40b1 : (t719 != 700) = F := bne_eq_false_iff_eq.mpr c40
          clear c40
          by_cases c41 : t721 = 0
          ·rw [if_pos c41] at H
           have c41b0 : (t721 == 0) = T := beq_iff_eq.mpr c41
           have c41b1 : (t721 != 0) = F := bne_eq_false_iff_eq.mpr c41
           clear c41
           by_cases c42 : t722 = 800
           ·rw [if_pos c42] at H
            have c42b0 : (t722 == 800) = T := beq_iff_eq.mpr c42
            have c42b1 : (t722 != 800) = F := bne_eq_false_iff_eq.mpr c42
            clear c42
            by_cases c43 : t723 = 0
            ·rw [if_pos c43] at H
             have c43b0 : (t723 == 0) = T := beq_iff_eq.mpr c43
             have c43b1 : (t723 != 0) = F := bne_eq_false_iff_eq.mpr c43
             clear c43
             by_cases c44 : t724 = 900
             ·rw [if_pos c44] at H
              have c44b0 : (t724 == 900) = T := beq_iff_eq.mpr c44
              have c44b1 : (t724 != 900) = F := bne_eq_false_iff_eq.mpr c44
              clear c44
              obtain rfl := Option.some.inj H
              go_wp2_with (first | ((with_reducible refine QaK (N := 86) rfl ?_); (try (refine QbK (by rfl) ?_; dsimp only)); refine Kd.R_lit (Kd.int .i64) _ 3 ?hg (N := 86) ?hd (xs := ([800, 300] : List Int)) (inner := [.int .i64 800, .int .i64 300]) (ok := fun _ => True) (okp := fun _ => True) ?hr ?hp (fun _ hk => hk) trivial (Below.refl _ _) (Nat.le_refl _) (by simp) ?_; (case hd => rfl); (case hg => rfl); (case hr => first | (go_simp; done) | (go_simp; rfl)); (case hp => exact (Reps.one (show Kd.M (Kd.int .i64) _ _ _ 800 [.int .i64 800] from rfl) (Reps.one (show Kd.M (Kd.int .i64) _ _ _ 300 [.int .i64 300] from rfl) (Reps.none _ _)))); intro v728 w45 ho46 hb hg_ hnew_; clear hg_ hnew_; (first | rw [← Ny727.out] at ho46 | (simp only [Int.reduceToNat] at ho46; rw [← Ny727.out] at ho46)); have HO729 := Aside0.mk (Kd.R_lower (Kd.R_new' ho46 (Kd.R_lt (by (with_reducible repeat (first | apply Kd.R_alloc | apply Kd.R_drewN | apply Kd.R_drew)); exact (Kd.R_mono (Zf gb726 3 (Zf gb726 2 (Zf gb726 1 (Zf gb726 0 (Kd.R_types HO713.out BK726.out (by decide)) (.int .i64 t721)) (.int .i64 t722)) (.int .i64 t723)) (.int .i64 t724)) (fun _ h_ => h_.1))))) (Qam (Zc2 GE701.out GE726.out))); replace HO704 := Aside0.mk (Kd.R_below (by (with_reducible repeat (first | apply Kd.R_alloc | apply Kd.R_drewN | apply Kd.R_drew)); exact (Kd.R_mono (Zf gb726 3 (Zf gb726 2 (Zf gb726 1 (Zf gb726 0 (Kd.R_types HO704.out BK726.out (by decide)) (.int .i64 t721)) (.int .i64 t722)) (.int .i64 t723)) (.int .i64 t724)) (fun _ h_ => h_.1))) hb); replace HO707 := Aside0.mk (Kd.R_below (by (with_reducible repeat (first | apply Kd.R_alloc | apply Kd.R_drewN | apply Kd.R_drew)); exact (Kd.R_mono (Zf gb726 3 (Zf gb726 2 (Zf gb726 1 (Zf gb726 0 (Kd.R_types HO707.out BK726.out (by decide)) (.int .i64 t721)) (.int .i64 t722)) (.int .i64 t723)) (.int .i64 t724)) (fun _ h_ => h_.1))) hb); replace HO710 := Aside0.mk (Kd.R_below (by (with_reducible repeat (first | apply Kd.R_alloc | apply Kd.R_drewN | apply Kd.R_drew)); exact (Kd.R_mono (Zf gb726 3 (Zf gb726 2 (Zf gb726 1 (Zf gb726 0 (Kd.R_types HO710.out BK726.out (by decide)) (.int .i64 t721)) (.int .i64 t722)) (.int .i64 t723)) (.int .i64 t724)) (fun _ h_ => h_.1))) hb); replace HO713 := Aside0.mk (Kd.R_elder' (by (with_reducible repeat (first | apply Kd.R_alloc | apply Kd.R_drewN | apply Kd.R_drew)); exact (Kd.R_mono (Zf gb726 3 (Zf gb726 2 (Zf gb726 1 (Zf gb726 0 (Kd.R_types HO713.out BK726.out (by decide)) (.int .i64 t721)) (.int .i64 t722)) (.int .i64 t723)) (.int .i64 t724)) (fun _ h_ => h_.1))) (Kd.R_base ho46) hb); replace BK701 := Aside0.mk (Qal (g := gb701) (o := .cells #[.string (⟨#[97, 108, 102, 97]⟩ : ByteArray), .string (⟨#[104, 111, 117, 115, 101]⟩ : ByteArray)] 44 (0, 0)) (Zg4 BK701.out NB701_726.out NB701_726.out NB701_726.out NB701_726.out) hb); replace BK726 := Aside0.mk (Zpi #[.int .i64 t721, .int .i64 t722, .int .i64 t723, .int .i64 t724] BK726.out hb); replace HB := Aside0.mk (Qan (Zc2 GE701.out GE726.out) hb); clear hb ho46; obtain ⟨Ao47, co47, eo47⟩ := Kd.R_slice HO713.out; subst eo47; obtain ⟨Ao48, co48, eo48⟩ := Kd.R_slice HO729.out; subst eo48) | (go_at_call 32; (with_reducible refine (QaL.calls k _ _ t711 _ _ y727 T _ ?side1 ?side2 ?side3 ?side4 A36.out).mono ?_); (case side1 => exact Zv (Kd.R_reads' HO713.out).2.2); (case side2 => exact (Kd.R_reads' HO713.out).2.1); (case side3 => exact Zv (Kd.R_reads' HO729.out).2.2); (case side4 => exact (Kd.R_reads' HO729.out).2.1); rintro e w' ⟨rfl, ⟨nd, rfl⟩⟩; have hnb49 := NB726_701.out; have hnc49 := NB701_726.out; obtain ⟨hcz50_0, hfz50_0⟩ := Zy (v := (.int .i64 t721)) BK726.out 0; obtain ⟨hcz50_1, hfz50_1⟩ := Zy (v := (.int .i64 t722)) BK726.out 1; obtain ⟨hcz50_2, hfz50_2⟩ := Zy (v := (.int .i64 t723)) BK726.out 2; obtain ⟨hcz50_3, hfz50_3⟩ := Zy (v := (.int .i64 t724)) BK726.out 3))
              go_ret
              exact ⟨Zq, Zc2 GE701.out GE726.out⟩
             rw [if_neg c44] at H
             have c44b0 : (t724 == 900) = F := beq_eq_false_iff_ne.mpr c44
             have c44b1 : (t724 != 900) = T := bne_iff_ne.mpr c44
             obtain rfl := Option.some.inj H
             go_wp2_with (first | ((with_reducible refine QaK (N := 86) rfl ?_); (try (refine QbK (by rfl) ?_; dsimp only)); refine Kd.R_lit (Kd.int .i64) _ 3 ?hg (N := 86) ?hd (xs := ([800, 300] : List Int)) (inner := [.int .i64 800, .int .i64 300]) (ok := fun _ => True) (okp := fun _ => True) ?hr ?hp (fun _ hk => hk) trivial (Below.refl _ _) (Nat.le_refl _) (by simp) ?_; (case hd => rfl); (case hg => rfl); (case hr => first | (go_simp; done) | (go_simp; rfl)); (case hp => exact (Reps.one (show Kd.M (Kd.int .i64) _ _ _ 800 [.int .i64 800] from rfl) (Reps.one (show Kd.M (Kd.int .i64) _ _ _ 300 [.int .i64 300] from rfl) (Reps.none _ _)))); intro v728 w51 ho52 hb hg_ hnew_; clear hg_ hnew_; (first | rw [← Ny727.out] at ho52 | (simp only [Int.reduceToNat] at ho52; rw [← Ny727.out] at ho52)); have HO729 := Aside0.mk (Kd.R_lower (Kd.R_new' ho52 (Kd.R_lt (by (with_reducible repeat (first | apply Kd.R_alloc | apply Kd.R_drewN | apply Kd.R_drew)); exact (Kd.R_mono (Zf gb726 3 (Zf gb726 2 (Zf gb726 1 (Zf gb726 0 (Kd.R_types HO713.out BK726.out (by decide)) (.int .i64 t721)) (.int .i64 t722)) (.int .i64 t723)) (.int .i64 t724)) (fun _ h_ => h_.1))))) (Qam (Zc2 GE701.out GE726.out))); replace HO704 := Aside0.mk (Kd.R_below (by (with_reducible repeat (first | apply Kd.R_alloc | apply Kd.R_drewN | apply Kd.R_drew)); exact (Kd.R_mono (Zf gb726 3 (Zf gb726 2 (Zf gb726 1 (Zf gb726 0 (Kd.R_types HO704.out BK726.out (by decide)) (.int .i64 t721)) (.int .i64 t722)) (.int .i64 t723)) (.int .i64 t724)) (fun _ h_ => h_.1))) hb); replace HO707 := Aside0.mk (Kd.R_below (by (with_reducible repeat (first | apply Kd.R_alloc | apply Kd.R_drewN | apply Kd.R_drew)); exact (Kd.R_mono (Zf gb726 3 (Zf gb726 2 (Zf gb726 1 (Zf gb726 0 (Kd.R_types HO707.out BK726.out (by decide)) (.int .i64 t721)) (.int .i64 t722)) (.int .i64 t723)) (.int .i64 t724)) (fun _ h_ => h_.1))) hb); replace HO710 := Aside0.mk (Kd.R_below (by (with_reducible repeat (first | apply Kd.R_alloc | apply Kd.R_drewN | apply Kd.R_drew)); exact (Kd.R_mono (Zf gb726 3 (Zf gb726 2 (Zf gb726 1 (Zf gb726 0 (Kd.R_types HO710.out BK726.out (by decide)) (.int .i64 t721)) (.int .i64 t722)) (.int .i64 t723)) (.int .i64 t724)) (fun _ h_ => h_.1))) hb); replace HO713 := Aside0.mk (Kd.R_elder' (by (with_reducible repeat (first | apply Kd.R_alloc | apply Kd.R_drewN | apply Kd.R_drew)); exact (Kd.R_mono (Zf gb726 3 (Zf gb726 2 (Zf gb726 1 (Zf gb726 0 (Kd.R_types HO713.out BK726.out (by decide)) (.int .i64 t721)) (.int .i64 t722)) (.int .i64 t723)) (.int .i64 t724)) (fun _ h_ => h_.1))) (Kd.R_base ho52) hb); replace BK701 := Aside0.mk (Qal (g := gb701) (o := .cells #[.string (⟨#[97, 108, 102, 97]⟩ : ByteArray), .string (⟨#[104, 111, 117, 115, 101]⟩ : ByteArray)] 44 (0, 0)) (Zg4 BK701.out NB701_726.out NB701_726.out NB701_726.out NB701_726.out) hb); replace BK726 := Aside0.mk (Zpi #[.int .i64 t721, .int .i64 t722, .int .i64 t723, .int .i64 t724] BK726.out hb); replace HB := Aside0.mk (Qan (Zc2 GE701.out GE726.out) hb); clear hb ho52; obtain ⟨Ao53, co53, eo53⟩ := Kd.R_slice HO713.out; subst eo53; obtain ⟨Ao54, co54, eo54⟩ := Kd.R_slice HO729.out; subst eo54) | (go_at_call 32; (with_reducible refine (QaL.calls k _ _ t711 _ _ y727 T _ ?side1 ?side2 ?side3 ?side4 A36.out).mono ?_); (case side1 => exact Zv (Kd.R_reads' HO713.out).2.2); (case side2 => exact (Kd.R_reads' HO713.out).2.1); (case side3 => exact Zv (Kd.R_reads' HO729.out).2.2); (case side4 => exact (Kd.R_reads' HO729.out).2.1); rintro e w' ⟨rfl, ⟨nd, rfl⟩⟩; have hnb55 := NB726_701.out; have hnc55 := NB701_726.out; obtain ⟨hcz56_0, hfz56_0⟩ := Zy (v := (.int .i64 t721)) BK726.out 0; obtain ⟨hcz56_1, hfz56_1⟩ := Zy (v := (.int .i64 t722)) BK726.out 1; obtain ⟨hcz56_2, hfz56_2⟩ := Zy (v := (.int .i64 t723)) BK726.out 2; obtain ⟨hcz56_3, hfz56_3⟩ := Zy (v := (.int .i64 t724)) BK726.out 3))
             go_ret
             exact ⟨Zq, Zc2 GE701.out GE726.out⟩
            rw [if_neg c43] at H
            have c43b0 : (t723 == 0) = F := beq_eq_false_iff_ne.mpr c43
            have c43b1 : (t723 != 0) = T := bne_iff_ne.mpr c43
            obtain rfl := Option.some.inj H
            go_wp2_with (first | ((with_reducible refine QaK (N := 86) rfl ?_); (try (refine QbK (by rfl) ?_; dsimp only)); refine Kd.R_lit (Kd.int .i64) _ 3 ?hg (N := 86) ?hd (xs := ([800, 300] : List Int)) (inner := [.int .i64 800, .int .i64 300]) (ok := fun _ => True) (okp := fun _ => True) ?hr ?hp (fun _ hk => hk) trivial (Below.refl _ _) (Nat.le_refl _) (by simp) ?_; (case hd => rfl); (case hg => rfl); (case hr => first | (go_simp; done) | (go_simp; rfl)); (case hp => exact (Reps.one (show Kd.M (Kd.int .i64) _ _ _ 800 [.int .i64 800] from rfl) (Reps.one (show Kd.M (Kd.int .i64) _ _ _ 300 [.int .i64 300] from rfl) (Reps.none _ _)))); intro v728 w57 ho58 hb hg_ hnew_; clear hg_ hnew_; (first | rw [← Ny727.out] at ho58 | (simp only [Int.reduceToNat] at ho58; rw [← Ny727.out] at ho58)); have HO729 := Aside0.mk (Kd.R_lower (Kd.R_new' ho58 (Kd.R_lt (by (with_reducible repeat (first | apply Kd.R_alloc | apply Kd.R_drewN | apply Kd.R_drew)); exact (Kd.R_mono (Zf gb726 3 (Zf gb726 2 (Zf gb726 1 (Zf gb726 0 (Kd.R_types HO713.out BK726.out (by decide)) (.int .i64 t721)) (.int .i64 t722)) (.int .i64 t723)) (.int .i64 t724)) (fun _ h_ => h_.1))))) (Qam (Zc2 GE701.out GE726.out))); replace HO704 := Aside0.mk (Kd.R_below (by (with_reducible repeat (first | apply Kd.R_alloc | apply Kd.R_drewN | apply Kd.R_drew)); exact (Kd.R_mono (Zf gb726 3 (Zf gb726 2 (Zf gb726 1 (Zf gb726 0 (Kd.R_types HO704.out BK726.out (by decide)) (.int .i64 t721)) (.int .i64 t722)) (.int .i64 t723)) (.int .i64 t724)) (fun _ h_ => h_.1))) hb); replace HO707 := Aside0.mk (Kd.R_below (by (with_reducible repeat (first | apply Kd.R_alloc | apply Kd.R_drewN | apply Kd.R_drew)); exact (Kd.R_mono (Zf gb726 3 (Zf gb726 2 (Zf gb726 1 (Zf gb726 0 (Kd.R_types HO707.out BK726.out (by decide)) (.int .i64 t721)) (.int .i64 t722)) (.int .i64 t723)) (.int .i64 t724)) (fun _ h_ => h_.1))) hb); replace HO710 := Aside0.mk (Kd.R_below (by (with_reducible repeat (first | apply Kd.R_alloc | apply Kd.R_drewN | apply Kd.R_drew)); exact (Kd.R_mono (Zf gb726 3 (Zf gb726 2 (Zf gb726 1 (Zf gb726 0 (Kd.R_types HO710.out BK726.out (by decide)) (.int .i64 t721)) (.int .i64 t722)) (.int .i64 t723)) (.int .i64 t724)) (fun _ h_ => h_.1))) hb); replace HO713 := Aside0.mk (Kd.R_elder' (by (with_reducible repeat (first | apply Kd.R_alloc | apply Kd.R_drewN | apply Kd.R_drew)); exact (Kd.R_mono (Zf gb726 3 (Zf gb726 2 (Zf gb726 1 (Zf gb726 0 (Kd.R_types HO713.out BK726.out (by decide)) (.int .i64 t721)) (.int .i64 t722)) (.int .i64 t723)) (.int .i64 t724)) (fun _ h_ => h_.1))) (Kd.R_base ho58) hb); replace BK701 := Aside0.mk (Qal (g := gb701) (o := .cells #[.string (⟨#[97, 108, 102, 97]⟩ : ByteArray), .string (⟨#[104, 111, 117, 115, 101]⟩ : ByteArray)] 44 (0, 0)) (Zg4 BK701.out NB701_726.out NB701_726.out NB701_726.out NB701_726.out) hb); replace BK726 := Aside0.mk (Zpi #[.int .i64 t721, .int .i64 t722, .int .i64 t723, .int .i64 t724] BK726.out hb); replace HB := Aside0.mk (Qan (Zc2 GE701.out GE726.out) hb); clear hb ho58; obtain ⟨Ao59, co59, eo59⟩ := Kd.R_slice HO713.out; subst eo59; obtain ⟨Ao60, co60, eo60⟩ := Kd.R_slice HO729.out; subst eo60) | (go_at_call 32; (with_reducible refine (QaL.calls k _ _ t711 _ _ y727 T _ ?side1 ?side2 ?side3 ?side4 A36.out).mono ?_); (case side1 => exact Zv (Kd.R_reads' HO713.out).2.2); (case side2 => exact (Kd.R_reads' HO713.out).2.1); (case side3 => exact Zv (Kd.R_reads' HO729.out).2.2); (case side4 => exact (Kd.R_reads' HO729.out).2.1); rintro e w' ⟨rfl, ⟨nd, rfl⟩⟩; have hnb61 := NB726_701.out; have hnc61 := NB701_726.out; obtain ⟨hcz62_0, hfz62_0⟩ := Zy (v := (.int .i64 t721)) BK726.out 0; obtain ⟨hcz62_1, hfz62_1⟩ := Zy (v := (.int .i64 t722)) BK726.out 1; obtain ⟨hcz62_2, hfz62_2⟩ := Zy (v := (.int .i64 t723)) BK726.out 2; obtain ⟨hcz62_3, hfz62_3⟩ := Zy (v := (.int .i64 t724)) BK726.out 3))
            go_ret
            exact ⟨Zq, Zc2 GE701.out GE726.out⟩
           rw [if_neg c42] at H
           have c42b0 : (t722 == 800) = F := beq_eq_false_iff_ne.mpr c42
           have c42b1 : (t722 != 800) = T := bne_iff_ne.mpr c42
           obtain rfl := Option.some.inj H
           go_wp2_with (first | ((with_reducible refine QaK (N := 86) rfl ?_); (try (refine QbK (by rfl) ?_; dsimp only)); refine Kd.R_lit (Kd.int .i64) _ 3 ?hg (N := 86) ?hd (xs := ([800, 300] : List Int)) (inner := [.int .i64 800, .int .i64 300]) (ok := fun _ => True) (okp := fun _ => True) ?hr ?hp (fun _ hk => hk) trivial (Below.refl _ _) (Nat.le_refl _) (by simp) ?_; (case hd => rfl); (case hg => rfl); (case hr => first | (go_simp; done) | (go_simp; rfl)); (case hp => exact (Reps.one (show Kd.M (Kd.int .i64) _ _ _ 800 [.int .i64 800] from rfl) (Reps.one (show Kd.M (Kd.int .i64) _ _ _ 300 [.int .i64 300] from rfl) (Reps.none _ _)))); intro v728 w63 ho64 hb hg_ hnew_; clear hg_ hnew_; (first | rw [← Ny727.out] at ho64 | (simp only [Int.reduceToNat] at ho64; rw [← Ny727.out] at ho64)); have HO729 := Aside0.mk (Kd.R_lower (Kd.R_new' ho64 (Kd.R_lt (by (with_reducible repeat (first | apply Kd.R_alloc | apply Kd.R_drewN | apply Kd.R_drew)); exact (Kd.R_mono (Zf gb726 3 (Zf gb726 2 (Zf gb726 1 (Zf gb726 0 (Kd.R_types HO713.out BK726.out (by decide)) (.int .i64 t721)) (.int .i64 t722)) (.int .i64 t723)) (.int .i64 t724)) (fun _ h_ => h_.1))))) (Qam (Zc2 GE701.out GE726.out))); replace HO704 := Aside0.mk (Kd.R_below (by (with_reducible repeat (first | apply Kd.R_alloc | apply Kd.R_drewN | apply Kd.R_drew)); exact (Kd.R_mono (Zf gb726 3 (Zf gb726 2 (Zf gb726 1 (Zf gb726 0 (Kd.R_types HO704.out BK726.out (by decide)) (.int .i64 t721)) (.int .i64 t722)) (.int .i64 t723)) (.int .i64 t724)) (fun _ h_ => h_.1))) hb); replace HO707 := Aside0.mk (Kd.R_below (by (with_reducible repeat (first | apply Kd.R_alloc | apply Kd.R_drewN | apply Kd.R_drew)); exact (Kd.R_mono (Zf gb726 3 (Zf gb726 2 (Zf gb726 1 (Zf gb726 0 (Kd.R_types HO707.out BK726.out (by decide)) (.int .i64 t721)) (.int .i64 t722)) (.int .i64 t723)) (.int .i64 t724)) (fun _ h_ => h_.1))) hb); replace HO710 := Aside0.mk (Kd.R_below (by (with_reducible repeat (first | apply Kd.R_alloc | apply Kd.R_drewN | apply Kd.R_drew)); exact (Kd.R_mono (Zf gb726 3 (Zf gb726 2 (Zf gb726 1 (Zf gb726 0 (Kd.R_types HO710.out BK726.out (by decide)) (.int .i64 t721)) (.int .i64 t722)) (.int .i64 t723)) (.int .i64 t724)) (fun _ h_ => h_.1))) hb); replace HO713 := Aside0.mk (Kd.R_elder' (by (with_reducible repeat (first | apply Kd.R_alloc | apply Kd.R_drewN | apply Kd.R_drew)); exact (Kd.R_mono (Zf gb726 3 (Zf gb726 2 (Zf gb726 1 (Zf gb726 0 (Kd.R_types HO713.out BK726.out (by decide)) (.int .i64 t721)) (.int .i64 t722)) (.int .i64 t723)) (.int .i64 t724)) (fun _ h_ => h_.1))) (Kd.R_base ho64) hb); replace BK701 := Aside0.mk (Qal (g := gb701) (o := .cells #[.string (⟨#[97, 108, 102, 97]⟩ : ByteArray), .string (⟨#[104, 111, 117, 115, 101]⟩ : ByteArray)] 44 (0, 0)) (Zg4 BK701.out NB701_726.out NB701_726.out NB701_726.out NB701_726.out) hb); replace BK726 := Aside0.mk (Zpi #[.int .i64 t721, .int .i64 t722, .int .i64 t723, .int .i64 t724] BK726.out hb); replace HB := Aside0.mk (Qan (Zc2 GE701.out GE726.out) hb); clear hb ho64; obtain ⟨Ao65, co65, eo65⟩ := Kd.R_slice HO713.out; subst eo65; obtain ⟨Ao66, co66, eo66⟩ := Kd.R_slice HO729.out; subst eo66) | (go_at_call 32; (with_reducible refine (QaL.calls k _ _ t711 _ _ y727 T _ ?side1 ?side2 ?side3 ?side4 A36.out).mono ?_); (case side1 => exact Zv (Kd.R_reads' HO713.out).2.2); (case side2 => exact (Kd.R_reads' HO713.out).2.1); (case side3 => exact Zv (Kd.R_reads' HO729.out).2.2); (case side4 => exact (Kd.R_reads' HO729.out).2.1); rintro e w' ⟨rfl, ⟨nd, rfl⟩⟩; have hnb67 := NB726_701.out; have hnc67 := NB701_726.out; obtain ⟨hcz68_0, hfz68_0⟩ := Zy (v := (.int .i64 t721)) BK726.out 0; obtain ⟨hcz68_1, hfz68_1⟩ := Zy (v := (.int .i64 t722)) BK726.out 1; obtain ⟨hcz68_2, hfz68_2⟩ := Zy (v := (.int .i64 t723)) BK726.out 2; obtain ⟨hcz68_3, hfz68_3⟩ := Zy (v := (.int .i64 t724)) BK726.out 3))
           go_ret
           exact ⟨Zq, Zc2 GE701.out GE726.out⟩
          rw [if_neg c41] at H
          have c41b0 : (t721 == 0) = F := beq_eq_false_iff_ne.mpr c41
          have c41b1 : (t721 != 0) = T := bne_iff_ne.mpr c41
          obtain rfl := Option.some.inj H
          go_wp2_with (first | ((with_reducible refine QaK (N := 86) rfl ?_); (try (refine QbK (by rfl) ?_; dsimp only)); refine Kd.R_lit (Kd.int .i64) _ 3 ?hg (N := 86) ?hd (xs := ([800, 300] : List Int)) (inner := [.int .i64 800, .int .i64 300]) (ok := fun _ => True) (okp := fun _ => True) ?hr ?hp (fun _ hk => hk) trivial (Below.refl _ _) (Nat.le_refl _) (by simp) ?_; (case hd => rfl); (case hg => rfl); (case hr => first | (go_simp; done) | (go_simp; rfl)); (case hp => exact (Reps.one (show Kd.M (Kd.int .i64) _ _ _ 800 [.int .i64 800] from rfl) (Reps.one (show Kd.M (Kd.int .i64) _ _ _ 300 [.int .i64 300] from rfl) (Reps.none _ _)))); intro v728 w69 ho70 hb hg_ hnew_; clear hg_ hnew_; (first | rw [← Ny727.out] at ho70 | (simp only [Int.reduceToNat] at ho70; rw [← Ny727.out] at ho70)); have HO729 := Aside0.mk (Kd.R_lower (Kd.R_new' ho70 (Kd.R_lt (by (with_reducible repeat (first | apply Kd.R_alloc | apply Kd.R_drewN | apply Kd.R_drew)); exact (Kd.R_mono (Zf gb726 3 (Zf gb726 2 (Zf gb726 1 (Zf gb726 0 (Kd.R_types HO713.out BK726.out (by decide)) (.int .i64 t721)) (.int .i64 t722)) (.int .i64 t723)) (.int .i64 t724)) (fun _ h_ => h_.1))))) (Qam (Zc2 GE701.out GE726.out))); replace HO704 := Aside0.mk (Kd.R_below (by (with_reducible repeat (first | apply Kd.R_alloc | apply Kd.R_drewN | apply Kd.R_drew)); exact (Kd.R_mono (Zf gb726 3 (Zf gb726 2 (Zf gb726 1 (Zf gb726 0 (Kd.R_types HO704.out BK726.out (by decide)) (.int .i64 t721)) (.int .i64 t722)) (.int .i64 t723)) (.int .i64 t724)) (fun _ h_ => h_.1))) hb); replace HO707 := Aside0.mk (Kd.R_below (by (with_reducible repeat (first | apply Kd.R_alloc | apply Kd.R_drewN | apply Kd.R_drew)); exact (Kd.R_mono (Zf gb726 3 (Zf gb726 2 (Zf gb726 1 (Zf gb726 0 (Kd.R_types HO707.out BK726.out (by decide)) (.int .i64 t721)) (.int .i64 t722)) (.int .i64 t723)) (.int .i64 t724)) (fun _ h_ => h_.1))) hb); replace HO710 := Aside0.mk (Kd.R_below (by (with_reducible repeat (first | apply Kd.R_alloc | apply Kd.R_drewN | apply Kd.R_drew)); exact (Kd.R_mono (Zf gb726 3 (Zf gb726 2 (Zf gb726 1 (Zf gb726 0 (Kd.R_types HO710.out BK726.out (by decide)) (.int .i64 t721)) (.int .i64 t722)) (.int .i64 t723)) (.int .i64 t724)) (fun _ h_ => h_.1))) hb); replace HO713 := Aside0.mk (Kd.R_elder' (by (with_reducible repeat (first | apply Kd.R_alloc | apply Kd.R_drewN | apply Kd.R_drew)); exact (Kd.R_mono (Zf gb726 3 (Zf gb726 2 (Zf gb726 1 (Zf gb726 0 (Kd.R_types HO713.out BK726.out (by decide)) (.int .i64 t721)) (.int .i64 t722)) (.int .i64 t723)) (.int .i64 t724)) (fun _ h_ => h_.1))) (Kd.R_base ho70) hb); replace BK701 := Aside0.mk (Qal (g := gb701) (o := .cells #[.string (⟨#[97, 108, 102, 97]⟩ : ByteArray), .string (⟨#[104, 111, 117, 115, 101]⟩ : ByteArray)] 44 (0, 0)) (Zg4 BK701.out NB701_726.out NB701_726.out NB701_726.out NB701_726.out) hb); replace BK726 := Aside0.mk (Zpi #[.int .i64 t721, .int .i64 t722, .int .i64 t723, .int .i64 t724] BK726.out hb); replace HB := Aside0.mk (Qan (Zc2 GE701.out GE726.out) hb); clear hb ho70; obtain ⟨Ao71, co71, eo71⟩ := Kd.R_slice HO713.out; subst eo71; obtain ⟨Ao72, co72, eo72⟩ := Kd.R_slice HO729.out; subst eo72) | (go_at_call 32; (with_reducible refine (QaL.calls k _ _ t711 _ _ y727 T _ ?side1 ?side2 ?side3 ?side4 A36.out).mono ?_); (case side1 => exact Zv (Kd.R_reads' HO713.out).2.2); (case side2 => exact (Kd.R_reads' HO713.out).2.1); (case side3 => exact Zv (Kd.R_reads' HO729.out).2.2); (case side4 => exact (Kd.R_reads' HO729.out).2.1); rintro e w' ⟨rfl, ⟨nd, rfl⟩⟩; have hnb73 := NB726_701.out; have hnc73 := NB701_726.out; obtain ⟨hcz74_0, hfz74_0⟩ := Zy (v := (.int .i64 t721)) BK726.out 0; obtain ⟨hcz74_1, hfz74_1⟩ := Zy (v := (.int .i64 t722)) BK726.out 1; obtain ⟨hcz74_2, hfz74_2⟩ := Zy (v := (.int .i64 t723)) BK726.out 2; obtain ⟨hcz74_3, hfz74_3⟩ := Zy (v := (.int .i64 t724)) BK726.out 3))
          go_ret
          exact ⟨Zq, Zc2 GE701.out GE726.out⟩
         rw [if_neg c40] at H
         have c40b0 : (t719 == 700) = F := beq_eq_false_iff_ne.mpr c40
         have c40b1 : (t719 != 700) = T := bne_iff_ne.mpr c40
         obtain rfl := Option.some.inj H
         go_wp2_with (first | ((with_reducible refine QaK (N := 86) rfl ?_); (try (refine QbK (by rfl) ?_; dsimp only)); refine Kd.R_lit (Kd.int .i64) _ 3 ?hg (N := 86) ?hd (xs := ([800, 300] : List Int)) (inner := [.int .i64 800, .int .i64 300]) (ok := fun _ => True) (okp := fun _ => True) ?hr ?hp (fun _ hk => hk) trivial (Below.refl _ _) (Nat.le_refl _) (by simp) ?_; (case hd => rfl); (case hg => rfl); (case hr => first | (go_simp; done) | (go_simp; rfl)); (case hp => exact (Reps.one (show Kd.M (Kd.int .i64) _ _ _ 800 [.int .i64 800] from rfl) (Reps.one (show Kd.M (Kd.int .i64) _ _ _ 300 [.int .i64 300] from rfl) (Reps.none _ _)))); intro v728 w75 ho76 hb hg_ hnew_; clear hg_ hnew_; (first | rw [← Ny727.out] at ho76 | (simp only [Int.reduceToNat] at ho76; rw [← Ny727.out] at ho76)); have HO729 := Aside0.mk (Kd.R_lower (Kd.R_new' ho76 (Kd.R_lt (by (with_reducible repeat (first | apply Kd.R_alloc | apply Kd.R_drewN | apply Kd.R_drew)); exact (Kd.R_mono (Zf gb726 3 (Zf gb726 2 (Zf gb726 1 (Zf gb726 0 (Kd.R_types HO713.out BK726.out (by decide)) (.int .i64 t721)) (.int .i64 t722)) (.int .i64 t723)) (.int .i64 t724)) (fun _ h_ => h_.1))))) (Qam (Zc2 GE701.out GE726.out))); replace HO704 := Aside0.mk (Kd.R_below (by (with_reducible repeat (first | apply Kd.R_alloc | apply Kd.R_drewN | apply Kd.R_drew)); exact (Kd.R_mono (Zf gb726 3 (Zf gb726 2 (Zf gb726 1 (Zf gb726 0 (Kd.R_types HO704.out BK726.out (by decide)) (.int .i64 t721)) (.int .i64 t722)) (.int .i64 t723)) (.int .i64 t724)) (fun _ h_ => h_.1))) hb); replace HO707 := Aside0.mk (Kd.R_below (by (with_reducible repeat (first | apply Kd.R_alloc | apply Kd.R_drewN | apply Kd.R_drew)); exact (Kd.R_mono (Zf gb726 3 (Zf gb726 2 (Zf gb726 1 (Zf gb726 0 (Kd.R_types HO707.out BK726.out (by decide)) (.int .i64 t721)) (.int .i64 t722)) (.int .i64 t723)) (.int .i64 t724)) (fun _ h_ => h_.1))) hb); replace HO710 := Aside0.mk (Kd.R_below (by (with_reducible repeat (first | apply Kd.R_alloc | apply Kd.R_drewN | apply Kd.R_drew)); exact (Kd.R_mono (Zf gb726 3 (Zf gb726 2 (Zf gb726 1 (Zf gb726 0 (Kd.R_types HO710.out BK726.out (by decide)) (.int .i64 t721)) (.int .i64 t722)) (.int .i64 t723)) (.int .i64 t724)) (fun _ h_ => h_.1))) hb); replace HO713 := Aside0.mk (Kd.R_elder' (by (with_reducible repeat (first | apply Kd.R_alloc | apply Kd.R_drewN | apply Kd.R_drew)); exact (Kd.R_mono (Zf gb726 3 (Zf gb726 2 (Zf gb726 1 (Zf gb726 0 (Kd.R_types HO713.out BK726.out (by decide)) (.int .i64 t721)) (.int .i64 t722)) (.int .i64 t723)) (.int .i64 t724)) (fun _ h_ => h_.1))) (Kd.R_base ho76) hb); replace BK701 := Aside0.mk (Qal (g := gb701) (o := .cells #[.string (⟨#[97, 108, 102, 97]⟩ : ByteArray), .string (⟨#[104, 111, 117, 115, 101]⟩ : ByteArray)] 44 (0, 0)) (Zg4 BK701.out NB701_726.out NB701_726.out NB701_726.out NB701_726.out) hb); replace BK726 := Aside0.mk (Zpi #[.int .i64 t721, .int .i64 t722, .int .i64 t723, .int .i64 t724] BK726.out hb); replace HB := Aside0.mk (Qan (Zc2 GE701.out GE726.out) hb); clear hb ho76; obtain ⟨Ao77, co77, eo77⟩ := Kd.R_slice HO713.out; subst eo77; obtain ⟨Ao78, co78, eo78⟩ := Kd.R_slice HO729.out; subst eo78) | (go_at_call 32; (with_reducible refine (QaL.calls k _ _ t711 _ _ y727 T _ ?side1 ?side2 ?side3 ?side4 A36.out).mono ?_); (case side1 => exact Zv (Kd.R_reads' HO713.out).2.2); (case side2 => exact (Kd.R_reads' HO713.out).2.1); (case side3 => exact Zv (Kd.R_reads' HO729.out).2.2); (case side4 => exact (Kd.R_reads' HO729.out).2.1); rintro e w' ⟨rfl, ⟨nd, rfl⟩⟩))
         go_ret
         exact ⟨Zq, Zc2 GE701.out GE726.out⟩
        rw [if_neg c39] at H
        have c39b0 : (t717 == 100) = F := beq_eq_false_iff_ne.mpr c39
        have c39b1 : (t717 != 100) = T := bne_iff_ne.mpr c39
        obtain rfl := Option.some.inj H
        go_wp2_with (first | ((with_reducible refine QaK (N := 86) rfl ?_); (try (refine QbK (by rfl) ?_; dsimp only)); refine Kd.R_lit (Kd.int .i64) _ 3 ?hg (N := 86) ?hd (xs := ([800, 300] : List Int)) (inner := [.int .i64 800, .int .i64 300]) (ok := fun _ => True) (okp := fun _ => True) ?hr ?hp (fun _ hk => hk) trivial (Below.refl _ _) (Nat.le_refl _) (by simp) ?_; (case hd => rfl); (case hg => rfl); (case hr => first | (go_simp; done) | (go_simp; rfl)); (case hp => exact (Reps.one (show Kd.M (Kd.int .i64) _ _ _ 800 [.int .i64 800] from rfl) (Reps.one (show Kd.M (Kd.int .i64) _ _ _ 300 [.int .i64 300] from rfl) (Reps.none _ _)))); intro v728 w79 ho80 hb hg_ hnew_; clear hg_ hnew_; (first | rw [← Ny727.out] at ho80 | (simp only [Int.reduceToNat] at ho80; rw [← Ny727.out] at ho80)); have HO729 := Aside0.mk (Kd.R_lower (Kd.R_new' ho80 (Kd.R_lt (by (with_reducible repeat (first | apply Kd.R_alloc | apply Kd.R_drewN | apply Kd.R_drew)); exact (Kd.R_mono (Zf gb726 3 (Zf gb726 2 (Zf gb726 1 (Zf gb726 0 (Kd.R_types HO713.out BK726.out (by decide)) (.int .i64 t721)) (.int .i64 t722)) (.int .i64 t723)) (.int .i64 t724)) (fun _ h_ => h_.1))))) (Qam (Zc2 GE701.out GE726.out))); replace HO704 := Aside0.mk (Kd.R_below (by (with_reducible repeat (first | apply Kd.R_alloc | apply Kd.R_drewN | apply Kd.R_drew)); exact (Kd.R_mono (Zf gb726 3 (Zf gb726 2 (Zf gb726 1 (Zf gb726 0 (Kd.R_types HO704.out BK726.out (by decide)) (.int .i64 t721)) (.int .i64 t722)) (.int .i64 t723)) (.int .i64 t724)) (fun _ h_ => h_.1))) hb); replace HO707 := Aside0.mk (Kd.R_below (by (with_reducible repeat (first | apply Kd.R_alloc | apply Kd.R_drewN | apply Kd.R_drew)); exact (Kd.R_mono (Zf gb726 3 (Zf gb726 2 (Zf gb726 1 (Zf gb726 0 (Kd.R_types HO707.out BK726.out (by decide)) (.int .i64 t721)) (.int .i64 t722)) (.int .i64 t723)) (.int .i64 t724)) (fun _ h_ => h_.1))) hb); replace HO710 := Aside0.mk (Kd.R_below (by (with_reducible repeat (first | apply Kd.R_alloc | apply Kd.R_drewN | apply Kd.R_drew)); exact (Kd.R_mono (Zf gb726 3 (Zf gb726 2 (Zf gb726 1 (Zf gb726 0 (Kd.R_types HO710.out BK726.out (by decide)) (.int .i64 t721)) (.int .i64 t722)) (.int .i64 t723)) (.int .i64 t724)) (fun _ h_ => h_.1))) hb); replace HO713 := Aside0.mk (Kd.R_elder' (by (with_reducible repeat (first | apply Kd.R_alloc | apply Kd.R_drewN | apply Kd.R_drew)); exact (Kd.R_mono (Zf gb726 3 (Zf gb726 2 (Zf gb726 1 (Zf gb726 0 (Kd.R_types HO713.out BK726.out (by decide)) (.int .i64 t721)) (.int .i64 t722)) (.int .i64 t723)) (.int .i64 t724)) (fun _ h_ => h_.1))) (Kd.R_base ho80) hb); replace BK701 := Aside0.mk (Qal (g := gb701) (o := .cells #[.string (⟨#[97, 108, 102, 97]⟩ : ByteArray), .string (⟨#[104, 111, 117, 115, 101]⟩ : ByteArray)] 44 (0, 0)) (Zg4 BK701.out NB701_726.out NB701_726.out NB701_726.out NB701_726.out) hb); replace BK726 := Aside0.mk (Zpi #[.int .i64 t721, .int .i64 t722, .int .i64 t723, .int .i64 t724] BK726.out hb); replace HB := Aside0.mk (Qan (Zc2 GE701.out GE726.out) hb); clear hb ho80; obtain ⟨Ao81, co81, eo81⟩ := Kd.R_slice HO713.out; subst eo81; obtain ⟨Ao82, co82, eo82⟩ := Kd.R_slice HO729.out; subst eo82) | (go_at_call 32; (with_reducible refine (QaL.calls k _ _ t711 _ _ y727 T _ ?side1 ?side2 ?side3 ?side4 A36.out).mono ?_); (case side1 => exact Zv (Kd.R_reads' HO713.out).2.2); (case side2 => exact (Kd.R_reads' HO713.out).2.1); (case side3 => exact Zv (Kd.R_reads' HO729.out).2.2); (case side4 => exact (Kd.R_reads' HO729.out).2.1); rintro e w' ⟨rfl, ⟨nd, rfl⟩⟩))
        go_ret
        exact ⟨Zq, Zc2 GE701.out GE726.out⟩
       rw [if_neg c38] at H
       have c38b0 : (t715 == 1100) = F := beq_eq_false_iff_ne.mpr c38
       have c38b1 : (t715 != 1100) = T := bne_iff_ne.mpr c38
       obtain rfl := Option.some.inj H
       go_wp2_with (first | ((with_reducible refine QaK (N := 86) rfl ?_); (try (refine QbK (by rfl) ?_; dsimp only)); refine Kd.R_lit (Kd.int .i64) _ 3 ?hg (N := 86) ?hd (xs := ([800, 300] : List Int)) (inner := [.int .i64 800, .int .i64 300]) (ok := fun _ => True) (okp := fun _ => True) ?hr ?hp (fun _ hk => hk) trivial (Below.refl _ _) (Nat.le_refl _) (by simp) ?_; (case hd => rfl); (case hg => rfl); (case hr => first | (go_simp; done) | (go_simp; rfl)); (case hp => exact (Reps.one (show Kd.M (Kd.int .i64) _ _ _ 800 [.int .i64 800] from rfl) (Reps.one (show Kd.M (Kd.int .i64) _ _ _ 300 [.int .i64 300] from rfl) (Reps.none _ _)))); intro v728 w83 ho84 hb hg_ hnew_; clear hg_ hnew_; (first | rw [← Ny727.out] at ho84 | (simp only [Int.reduceToNat] at ho84; rw [← Ny727.out] at ho84)); have HO729 := Aside0.mk (Kd.R_lower (Kd.R_new' ho84 (Kd.R_lt (by (with_reducible repeat (first | apply Kd.R_alloc | apply Kd.R_drewN | apply Kd.R_drew)); exact (Kd.R_mono (Zf gb726 3 (Zf gb726 2 (Zf gb726 1 (Zf gb726 0 (Kd.R_types HO713.out BK726.out (by decide)) (.int .i64 t721)) (.int .i64 t722)) (.int .i64 t723)) (.int .i64 t724)) (fun _ h_ => h_.1))))) (Qam (Zc2 GE701.out GE726.out))); replace HO704 := Aside0.mk (Kd.R_below (by (with_reducible repeat (first | apply Kd.R_alloc | apply Kd.R_drewN | apply Kd.R_drew)); exact (Kd.R_mono (Zf gb726 3 (Zf gb726 2 (Zf gb726 1 (Zf gb726 0 (Kd.R_types HO704.out BK726.out (by decide)) (.int .i64 t721)) (.int .i64 t722)) (.int .i64 t723)) (.int .i64 t724)) (fun _ h_ => h_.1))) hb); replace HO707 := Aside0.mk (Kd.R_below (by (with_reducible repeat (first | apply Kd.R_alloc | apply Kd.R_drewN | apply Kd.R_drew)); exact (Kd.R_mono (Zf gb726 3 (Zf gb726 2 (Zf gb726 1 (Zf gb726 0 (Kd.R_types HO707.out BK726.out (by decide)) (.int .i64 t721)) (.int .i64 t722)) (.int .i64 t723)) (.int .i64 t724)) (fun _ h_ => h_.1))) hb); replace HO710 := Aside0.mk (Kd.R_below (by (with_reducible repeat (first | apply Kd.R_alloc | apply Kd.R_drewN | apply Kd.R_drew)); exact (Kd.R_mono (Zf gb726 3 (Zf gb726 2 (Zf gb726 1 (Zf gb726 0 (Kd.R_types HO710.out BK726.out (by decide)) (.int .i64 t721)) (.int .i64 t722)) (.int .i64 t723)) (.int .i64 t724)) (fun _ h_ => h_.1))) hb); replace HO713 := Aside0.mk (Kd.R_elder' (by (with_reducible repeat (first | apply Kd.R_alloc | apply Kd.R_drewN | apply Kd.R_drew)); exact (Kd.R_mono (Zf gb726 3 (Zf gb726 2 (Zf gb726 1 (Zf gb726 0 (Kd.R_types HO713.out BK726.out (by decide)) (.int .i64 t721)) (.int .i64 t722)) (.int .i64 t723)) (.int .i64 t724)) (fun _ h_ => h_.1))) (Kd.R_base ho84) hb); replace BK701 := Aside0.mk (Qal (g := gb701) (o := .cells #[.string (⟨#[97, 108, 102, 97]⟩ : ByteArray), .string (⟨#[104, 111, 117, 115, 101]⟩ : ByteArray)] 44 (0, 0)) (Zg4 BK701.out NB701_726.out NB701_726.out NB701_726.out NB701_726.out) hb); replace BK726 := Aside0.mk (Zpi #[.int .i64 t721, .int .i64 t722, .int .i64 t723, .int .i64 t724] BK726.out hb); replace HB := Aside0.mk (Qan (Zc2 GE701.out GE726.out) hb); clear hb ho84; obtain ⟨Ao85, co85, eo85⟩ := Kd.R_slice HO713.out; subst eo85; obtain ⟨Ao86, co86, eo86⟩ := Kd.R_slice HO729.out; subst eo86) | (go_at_call 32; (with_reducible refine (QaL.calls k _ _ t711 _ _ y727 T _ ?side1 ?side2 ?side3 ?side4 A36.out).mono ?_); (case side1 => exact Zv (Kd.R_reads' HO713.out).2.2); (case side2 => exact (Kd.R_reads' HO713.out).2.1); (case side3 => exact Zv (Kd.R_reads' HO729.out).2.2); (case side4 => exact (Kd.R_reads' HO729.out).2.1); rintro e w' ⟨rfl, ⟨nd, rfl⟩⟩))
       go_ret
       exact ⟨Zq, Zc2 GE701.out GE726.out⟩
      replace c37 := Bool.eq_false_iff.mpr c37
      subst c37
      have H1 : (some F) = some r := by rw [if_neg (show ¬ (F = T) by decide)] at H; exact H
      clear H
      have H := H1
      clear H1
      obtain rfl := Option.some.inj H
      go_wp2_with (first | ((with_reducible refine QaK (N := 86) rfl ?_); (try (refine QbK (by rfl) ?_; dsimp only)); refine Kd.R_lit (Kd.int .i64) _ 3 ?hg (N := 86) ?hd (xs := ([800, 300] : List Int)) (inner := [.int .i64 800, .int .i64 300]) (ok := fun _ => True) (okp := fun _ => True) ?hr ?hp (fun _ hk => hk) trivial (Below.refl _ _) (Nat.le_refl _) (by simp) ?_; (case hd => rfl); (case hg => rfl); (case hr => first | (go_simp; done) | (go_simp; rfl)); (case hp => exact (Reps.one (show Kd.M (Kd.int .i64) _ _ _ 800 [.int .i64 800] from rfl) (Reps.one (show Kd.M (Kd.int .i64) _ _ _ 300 [.int .i64 300] from rfl) (Reps.none _ _)))); intro v728 w87 ho88 hb hg_ hnew_; clear hg_ hnew_; (first | rw [← Ny727.out] at ho88 | (simp only [Int.reduceToNat] at ho88; rw [← Ny727.out] at ho88)); have HO729 := Aside0.mk (Kd.R_lower (Kd.R_new' ho88 (Kd.R_lt (by (with_reducible repeat (first | apply Kd.R_alloc | apply Kd.R_drewN | apply Kd.R_drew)); exact (Kd.R_mono (Zf gb726 3 (Zf gb726 2 (Zf gb726 1 (Zf gb726 0 (Kd.R_types HO713.out BK726.out (by decide)) (.int .i64 t721)) (.int .i64 t722)) (.int .i64 t723)) (.int .i64 t724)) (fun _ h_ => h_.1))))) (Qam (Zc2 GE701.out GE726.out))); replace HO704 := Aside0.mk (Kd.R_below (by (with_reducible repeat (first | apply Kd.R_alloc | apply Kd.R_drewN | apply Kd.R_drew)); exact (Kd.R_mono (Zf gb726 3 (Zf gb726 2 (Zf gb726 1 (Zf gb726 0 (Kd.R_types HO704.out BK726.out (by decide)) (.int .i64 t721)) (.int .i64 t722)) (.int .i64 t723)) (.int .i64 t724)) (fun _ h_ => h_.1))) hb); replace HO707 := Aside0.mk (Kd.R_below (by (with_reducible repeat (first | apply Kd.R_alloc | apply Kd.R_drewN | apply Kd.R_drew)); exact (Kd.R_mono (Zf gb726 3 (Zf gb726 2 (Zf gb726 1 (Zf gb726 0 (Kd.R_types HO707.out BK726.out (by decide)) (.int .i64 t721)) (.int .i64 t722)) (.int .i64 t723)) (.int .i64 t724)) (fun _ h_ => h_.1))) hb); replace HO710 := Aside0.mk (Kd.R_below (by (with_reducible repeat (first | apply Kd.R_alloc | apply Kd.R_drewN | apply Kd.R_drew)); exact (Kd.R_mono (Zf gb726 3 (Zf gb726 2 (Zf gb726 1 (Zf gb726 0 (Kd.R_types HO710.out BK726.out (by decide)) (.int .i64 t721)) (.int .i64 t722)) (.int .i64 t723)) (.int .i64 t724)) (fun _ h_ => h_.1))) hb); replace HO713 := Aside0.mk (Kd.R_elder' (by (with_reducible repeat (first | apply Kd.R_alloc | apply Kd.R_drewN | apply Kd.R_drew)); exact (Kd.R_mono (Zf gb726 3 (Zf gb726 2 (Zf gb726 1 (Zf gb726 0 (Kd.R_types HO713.out BK726.out (by decide)) (.int .i64 t721)) (.int .i64 t722)) (.int .i64 t723)) (.int .i64 t724)) (fun _ h_ => h_.1))) (Kd.R_base ho88) hb); replace BK701 := Aside0.mk (Qal (g := gb701) (o := .cells #[.string (⟨#[97, 108, 102, 97]⟩ : ByteArray), .string (⟨#[104, 111, 117, 115, 101]⟩ : ByteArray)] 44 (0, 0)) (Zg4 BK701.out NB701_726.out NB701_726.out NB701_726.out NB701_726.out) hb); replace BK726 := Aside0.mk (Zpi #[.int .i64 t721, .int .i64 t722, .int .i64 t723, .int .i64 t724] BK726.out hb); replace HB := Aside0.mk (Qan (Zc2 GE701.out GE726.out) hb); clear hb ho88; obtain ⟨Ao89, co89, eo89⟩ := Kd.R_slice HO713.out; subst eo89; obtain ⟨Ao90, co90, eo90⟩ := Kd.R_slice HO729.out; subst eo90) | (go_at_call 32; (with_reducible refine (QaL.calls k _ _ t711 _ _ y727 F _ ?side1 ?side2 ?side3 ?side4 A36.out).mono ?_); (case side1 => exact Zv (Kd.R_reads' HO713.out).2.2); (case side2 => exact (Kd.R_reads' HO713.out).2.1); (case side3 => exact Zv (Kd.R_reads' HO729.out).2.2); (case side4 => exact (Kd.R_reads' HO729.out).2.1); rintro e w' ⟨rfl, ⟨nd, rfl⟩⟩))
      go_ret
      exact ⟨Zq, Zc2 GE701.out GE726.out⟩
     rw [if_neg c35] at H
     have c35b0 : (t725 == 0) = F := beq_eq_false_iff_ne.mpr c35
     have c35b1 : (t725 != 0) = T := bne_iff_ne.mpr c35
     obtain rfl := Option.some.inj H
     go_wp2
     go_ret
     exact ⟨Zq, Zc2 GE701.out GE726.out⟩
    rw [if_neg c34] at H
    have c34b0 : (t720 == 0) = F := beq_eq_false_iff_ne.mpr c34
    have c34b1 : (t720 != 0) = T := bne_iff_ne.mpr c34
    obtain rfl := Option.some.inj H
    go_wp2
    go_ret
    exact ⟨Zq, Zc2 GE701.out GE726.out⟩
   rw [if_neg c33] at H
   have c33b0 : (t718 == 0) = F := beq_eq_false_iff_ne.mpr c33
   have c33b1 : (t718 != 0) = T := bne_iff_ne.mpr c33
   obtain rfl := Option.some.inj H
   go_wp2
   go_ret
   exact ⟨Zq, Zc2 GE701.out GE726.out⟩
  rw [if_neg c32] at H
  have c32b0 : (t716 == 0) = F := beq_eq_false_iff_ne.mpr c32
  have c32b1 : (t716 != 0) = T := bne_iff_ne.mpr c32
  obtain rfl := Option.some.inj H
  go_wp2
  go_ret
  exact ⟨Zq, Zc2 GE701.out GE726.out⟩
 rw [if_neg c31] at H
 have c31b0 : (t714 == 0) = F := beq_eq_false_iff_ne.mpr c31
 have c31b1 : (t714 != 0) = T := bne_iff_ne.mpr c31
 (try simp only [c31b0, c31b1])
 obtain rfl := Option.some.inj H
 go_wp2
 go_ret
 exact ⟨Zq, Zc2 GE701.out GE726.out⟩
def QaE.l0 : Nat → Int → Int → Int → Int → Int → Int → Option (Int × Int)
 | 0, _, _, _, _, _, _ => none
 | k + 1, x0, x1, x2, x8, x9, x10 => if x10 ≥ 0 then (if 0 ≤ (IntKind.u64.wrap (x10)) then (if (Int.tmod (shr .i64 x0 (IntKind.u64.wrap (x10))) 2) = 1 then (if x2 = 0 then (none) else (if (wrap64 ((wrap64 (2 * x8)) + (wrap64 (Int.tdiv (wrap64 ((wrap64 (2 * x9)) + x1)) x2)))) > 2305843009213693952 then (QaE.l0 k x0 x1 x2 2305843009213693952 (Int.tmod (wrap64 ((wrap64 (2 * x9)) + x1)) x2) (wrap64 (x10 - 1))) else (QaE.l0 k x0 x1 x2 (wrap64 ((wrap64 (2 * x8)) + (wrap64 (Int.tdiv (wrap64 ((wrap64 (2 * x9)) + x1)) x2)))) (Int.tmod (wrap64 ((wrap64 (2 * x9)) + x1)) x2) (wrap64 (x10 - 1))))) else (if x2 = 0 then (none) else (if (wrap64 ((wrap64 (2 * x8)) + (wrap64 (Int.tdiv (wrap64 (2 * x9)) x2)))) > 2305843009213693952 then (QaE.l0 k x0 x1 x2 2305843009213693952 (Int.tmod (wrap64 (2 * x9)) x2) (wrap64 (x10 - 1))) else (QaE.l0 k x0 x1 x2 (wrap64 ((wrap64 (2 * x8)) + (wrap64 (Int.tdiv (wrap64 (2 * x9)) x2)))) (Int.tmod (wrap64 (2 * x9)) x2) (wrap64 (x10 - 1)))))) else (none)) else (some (x8, x9))
def QaE.f (k : Nat) (a0 : Int) (a1 : Int) (a2 : Int) : Option (Int × Int) := QaE.l0 k a0 a1 a2 0 0 60
theorem QaE.mono_l : ∀ k, (∀ y0 y1 y2 y3 y4 y5, LeO (QaE.l0 k y0 y1 y2 y3 y4 y5) (QaE.l0 (k + 1) y0 y1 y2 y3 y4 y5))
 | 0 => fun _ _ _ _ _ _ r h => by simp [QaE.l0] at h
 | k + 1 => by
  have ih0 := QaE.mono_l k
  intro y0 y1 y2 y3 y4 y5
  unfold QaE.l0
  exact ZM1 ih0
theorem QaE.mono : ∀ a0 a1 a2 k, LeO (QaE.f k a0 a1 a2) (QaE.f (k + 1) a0 a1 a2) := by
 intro a0 a1 a2 k
 have ih0 := QaE.mono_l k
 unfold QaE.f
 exact ZM1 ih0
set_option maxHeartbeats 8000000 in
theorem QaE.calls (k : Nat) (a0 : Int) (a1 : Int) (a2 : Int) (r1 : Int) (r2 : Int) (w : World) (h : QaE.f k a0 a1 a2 = some (r1, r2)) :
  Calls Try.prog 94 #[.int .i64 a0, .int .i64 a1, .int .i64 a2] w fun e w' => e = .returned (.tuple #[.int .i64 r1, .int .i64 r2]) ∧ Drawn0 w w' := by
 have H : (QaE.l0 k a0 a1 a2 0 0 60) = some (r1, r2) := h
 clear h
 have H' := Aside0.mk H
 clear H
 go_enter Try.func94, Try.ntmps94
 go_wp2
 go_loopg [8, 9, 10] k (fun kq v8 v9 v10 w' => ∃ (x8_1 : Int) (x9_1 : Int) (x10_1 : Int), v8 = .int .i64 x8_1 ∧ v9 = .int .i64 x9_1 ∧ v10 = .int .i64 x10_1 ∧ Aside0 (QaE.l0 kq a0 a1 a2 x8_1 x9_1 x10_1 = some (r1, r2)) ∧ Aside0 (kq ≤ k) ∧ Drawn0 w w')
 case atStart => exact ⟨(0), (0), (60), (Zs), (Zs), (Zs), H', ⟨Nat.le_refl _⟩, Zd⟩
 case round =>
  clear H'
  try clear p2
  obtain ⟨x8_1, x9_1, x10_1, rfl, rfl, rfl, HA, HK1, ⟨m1, rfl⟩⟩ := hrel
  cases gk with
  | zero => exact absurd HA.out (by simp [QaE.l0])
  | succ k1 =>
   have H := HA.out
   clear HA
   simp only [QaE.l0] at H
   by_cases c4 : x10_1 ≥ 0
   ·rw [if_pos c4] at H
    have c4b0 : decide (0 ≤ x10_1) = T := decide_eq_true c4
    clear c4
    (try simp only [c4b0])
    obtain ⟨ji5, hji5⟩ : ∃ j_ : Int, (IntKind.u64.wrap (x10_1)) = j_ := ⟨_, rfl⟩
    replace H : (if 0 ≤ (ji5) then (if (Int.tmod (shr .i64 a0 (ji5)) 2) = 1 then (if a2 = 0 then (none) else (if (wrap64 ((wrap64 (2 * x8_1)) + (wrap64 (Int.tdiv (wrap64 ((wrap64 (2 * x9_1)) + a1)) a2)))) > 2305843009213693952 then (QaE.l0 k1 a0 a1 a2 2305843009213693952 (Int.tmod (wrap64 ((wrap64 (2 * x9_1)) + a1)) a2) (wrap64 (x10_1 - 1))) else (QaE.l0 k1 a0 a1 a2 (wrap64 ((wrap64 (2 * x8_1)) + (wrap64 (Int.tdiv (wrap64 ((wrap64 (2 * x9_1)) + a1)) a2)))) (Int.tmod (wrap64 ((wrap64 (2 * x9_1)) + a1)) a2) (wrap64 (x10_1 - 1))))) else (if a2 = 0 then (none) else (if (wrap64 ((wrap64 (2 * x8_1)) + (wrap64 (Int.tdiv (wrap64 (2 * x9_1)) a2)))) > 2305843009213693952 then (QaE.l0 k1 a0 a1 a2 2305843009213693952 (Int.tmod (wrap64 (2 * x9_1)) a2) (wrap64 (x10_1 - 1))) else (QaE.l0 k1 a0 a1 a2 (wrap64 ((wrap64 (2 * x8_1)) + (wrap64 (Int.tdiv (wrap64 (2 * x9_1)) a2)))) (Int.tmod (wrap64 (2 * x9_1)) a2) (wrap64 (x10_1 - 1)))))) else (none)) = some (r1, r2) := by first | (rw [hji5] at H; exact H) | (simp only [hji5] at H ⊢; exact H)
    by_cases c6 : 0 ≤ (ji5)
    ·rw [if_pos c6] at H
     have c6b0 := eq_true c6
     have c6b1 : decide (0 ≤ (ji5)) = T := decide_eq_true c6
     clear c6
     obtain ⟨ji7, hji7⟩ : ∃ j_ : Int, (shr .i64 a0 (ji5)) = j_ := ⟨_, rfl⟩
     replace H : (if (Int.tmod (ji7) 2) = 1 then (if a2 = 0 then (none) else (if (wrap64 ((wrap64 (2 * x8_1)) + (wrap64 (Int.tdiv (wrap64 ((wrap64 (2 * x9_1)) + a1)) a2)))) > 2305843009213693952 then (QaE.l0 k1 a0 a1 a2 2305843009213693952 (Int.tmod (wrap64 ((wrap64 (2 * x9_1)) + a1)) a2) (wrap64 (x10_1 - 1))) else (QaE.l0 k1 a0 a1 a2 (wrap64 ((wrap64 (2 * x8_1)) + (wrap64 (Int.tdiv (wrap64 ((wrap64 (2 * x9_1)) + a1)) a2)))) (Int.tmod (wrap64 ((wrap64 (2 * x9_1)) + a1)) a2) (wrap64 (x10_1 - 1))))) else (if a2 = 0 then (none) else (if (wrap64 ((wrap64 (2 * x8_1)) + (wrap64 (Int.tdiv (wrap64 (2 * x9_1)) a2)))) > 2305843009213693952 then (QaE.l0 k1 a0 a1 a2 2305843009213693952 (Int.tmod (wrap64 (2 * x9_1)) a2) (wrap64 (x10_1 - 1))) else (QaE.l0 k1 a0 a1 a2 (wrap64 ((wrap64 (2 * x8_1)) + (wrap64 (Int.tdiv (wrap64 (2 * x9_1)) a2)))) (Int.tmod (wrap64 (2 * x9_1)) a2) (wrap64 (x10_1 - 1)))))) = some (r1, r2) := by first | (rw [hji7] at H; exact H) | (simp only [hji7] at H ⊢; exact H)
     have hji7_ : (a0 / 2 ^ min (ji5).toNat 64) = ji7 := hji7
     have hji7z : (ji5) ≤ 64 → (a0 / 2 ^ (ji5).toNat) = ji7 := QcV hji7
     by_cases c8 : (Int.tmod (ji7) 2) = 1
     ·rw [if_pos c8] at H
      have c8b0 : ((Int.tmod (ji7) 2) == 1) = T := beq_iff_eq.mpr c8
      have c8b1 : ((Int.tmod (ji7) 2) != 1) = F := bne_eq_false_iff_eq.mpr c8
      clear c8
      (try simp only [c8b0, c8b1])
      by_cases c9 : a2 = 0
      ·rw [if_pos c9] at H
       exact absurd H (by simp)
      rw [if_neg c9] at H
      have c9b0 : (a2 == 0) = F := beq_eq_false_iff_ne.mpr c9
      have c9b1 : (a2 != 0) = T := bne_iff_ne.mpr c9
      by_cases c10 : (wrap64 ((wrap64 (2 * x8_1)) + (wrap64 (Int.tdiv (wrap64 ((wrap64 (2 * x9_1)) + a1)) a2)))) > 2305843009213693952
      ·rw [if_pos c10] at H
       have c10b0 : decide (2305843009213693952 < (wrap64 ((wrap64 (2 * x8_1)) + (wrap64 (Int.tdiv (wrap64 ((wrap64 (2 * x9_1)) + a1)) a2))))) = T := decide_eq_true c10
       clear c10
       (try simp only [c10b0])
       have H' := Aside0.mk H
       clear H
       go_wp2
       go_roundg k1
       case measure => have := HK1.out; omega
       case rel => exact ⟨(2305843009213693952), (Int.tmod (wrap64 ((wrap64 (2 * x9_1)) + a1)) a2), (wrap64 (x10_1 - 1)), (Zs), (Zs), (Zs), H', ⟨by have := HK1.out; omega⟩, Zd⟩
      rw [if_neg c10] at H
      have c10b0 : decide (2305843009213693952 < (wrap64 ((wrap64 (2 * x8_1)) + (wrap64 (Int.tdiv (wrap64 ((wrap64 (2 * x9_1)) + a1)) a2))))) = F := decide_eq_false c10
      clear c10
      (try simp only [c10b0])
      have H' := Aside0.mk H
      clear H
      go_wp2
      go_roundg k1
      case measure => have := HK1.out; omega
      case rel => exact ⟨(wrap64 ((wrap64 (2 * x8_1)) + (wrap64 (Int.tdiv (wrap64 ((wrap64 (2 * x9_1)) + a1)) a2)))), (Int.tmod (wrap64 ((wrap64 (2 * x9_1)) + a1)) a2), (wrap64 (x10_1 - 1)), (Zs), (Zs), (Zs), H', ⟨by have := HK1.out; omega⟩, Zd⟩
     rw [if_neg c8] at H
     have c8b0 : ((Int.tmod (ji7) 2) == 1) = F := beq_eq_false_iff_ne.mpr c8
     have c8b1 : ((Int.tmod (ji7) 2) != 1) = T := bne_iff_ne.mpr c8
     (try simp only [c8b0, c8b1])
     by_cases c11 : a2 = 0
     ·rw [if_pos c11] at H
      exact absurd H (by simp)
     rw [if_neg c11] at H
     have c11b0 : (a2 == 0) = F := beq_eq_false_iff_ne.mpr c11
     have c11b1 : (a2 != 0) = T := bne_iff_ne.mpr c11
     by_cases c12 : (wrap64 ((wrap64 (2 * x8_1)) + (wrap64 (Int.tdiv (wrap64 (2 * x9_1)) a2)))) > 2305843009213693952
     ·rw [if_pos c12] at H
      have c12b0 : decide (2305843009213693952 < (wrap64 ((wrap64 (2 * x8_1)) + (wrap64 (Int.tdiv (wrap64 (2 * x9_1)) a2))))) = T := decide_eq_true c12
      clear c12
      (try simp only [c12b0])
      have H' := Aside0.mk H
      clear H
      go_wp2
      go_roundg k1
      case measure => have := HK1.out; omega
      case rel => exact ⟨(2305843009213693952), (Int.tmod (wrap64 (2 * x9_1)) a2), (wrap64 (x10_1 - 1)), (Zs), (Zs), (Zs), H', ⟨by have := HK1.out; omega⟩, Zd⟩
     rw [if_neg c12] at H
     have c12b0 : decide (2305843009213693952 < (wrap64 ((wrap64 (2 * x8_1)) + (wrap64 (Int.tdiv (wrap64 (2 * x9_1)) a2))))) = F := decide_eq_false c12
     clear c12
     (try simp only [c12b0])
     have H' := Aside0.mk H
     clear H
     go_wp2
     go_roundg k1
     case measure => have := HK1.out; omega
     case rel => exact ⟨(wrap64 ((wrap64 (2 * x8_1)) + (wrap64 (Int.tdiv (wrap64 (2 * x9_1)) a2)))), (Int.tmod (wrap64 (2 * x9_1)) a2), (wrap64 (x10_1 - 1)), (Zs), (Zs), (Zs), H', ⟨by have := HK1.out; omega⟩, Zd⟩
    rw [if_neg c6] at H
    exact absurd H (by simp)
   rw [if_neg c4] at H
   have c4b0 : decide (0 ≤ x10_1) = F := decide_eq_false c4
   clear c4
   (try simp only [c4b0])
   simp only [Option.some.injEq, Prod.mk.injEq] at H
   obtain ⟨rfl, rfl⟩ := H
   go_wp2
   go_ret2
   exact ⟨Zs, Zd⟩
theorem Qg8 (N c x : Int) (hc : 0 < c) : (2 * N + x) / c = 2 * (N / c) + (2 * (N % c) + x) / c ∧ (2 * N + x) % c = (2 * (N % c) + x) % c := by
 have h := Int.mul_ediv_add_emod N c
 have e : 2 * N + x = (2 * (N % c) + x) + c * (2 * (N / c)) := by grind
 rw [e]
 exact ⟨by rw [Int.add_mul_ediv_left _ _ (by omega)]; omega, by rw [Int.add_mul_emod_self_left]⟩
theorem Qg7 (Q s q : Int) (hQ : 0 ≤ Q) (hs : 0 ≤ s) (hs' : s ≤ 2305843009213693952) (hq : q = if Q ≤ 2305843009213693952 then Q else 2305843009213693952) :
  (if wrap64 (wrap64 (2 * q) + wrap64 s) > 2305843009213693952 then 2305843009213693952 else wrap64 (wrap64 (2 * q) + wrap64 s)) = if 2 * Q + s ≤ 2305843009213693952 then 2 * Q + s else 2305843009213693952 := by
 unfold wrap64
 subst hq
 split <;> split <;> split <;> omega
theorem Qgp (a b c : Int) (ha : 0 ≤ a) (ha' : a ≤ 1152921504606846976) (hb : 0 ≤ b) (hb' : b ≤ 1152921504606846976) (hc : 0 < c) (hc' : c ≤ 1152921504606846976) :
    ∀ (n : Nat) (k : Nat) (q r : Int), n ≤ 61 → n < k → q = (if a / 2 ^ n * b / c ≤ 2305843009213693952 then a / 2 ^ n * b / c else 2305843009213693952) → r = a / 2 ^ n * b % c →
      QaE.l0 k a b c q r ((n : Int) - 1) = some (if a * b / c ≤ 2305843009213693952 then a * b / c else 2305843009213693952, a * b % c) := by
  intro n
  induction n with
  | zero =>
    intro k q r _ hk hq hr
    obtain ⟨k, rfl⟩ : ∃ m, k = m + 1 := ⟨k - 1, by omega⟩
    simp only [QaE.l0]
    rw [if_neg (by omega), hq, hr]
    simp
  | succ n ih =>
    intro k q r hn hk hq hr
    obtain ⟨k, rfl⟩ : ∃ m, k = m + 1 := ⟨k - 1, by omega⟩
    have e0 : ((n + 1 : Nat) : Int) - 1 = (n : Int) := by omega
    have w0 : IntKind.u64.wrap (n : Int) = (n : Int) := by rw [IntKind.wrap_u64]; omega
    have hp : (0 : Int) < 2 ^ n := Int.pow_pos (by omega)
    have hA : 0 ≤ a / 2 ^ n := Int.ediv_nonneg ha (by omega)
    have hA2 : a / 2 ^ (n + 1) = a / 2 ^ n / 2 := by
      rw [Int.pow_succ, Int.ediv_ediv_of_nonneg (by omega)]
    have hAle : a / 2 ^ n ≤ a := Int.ediv_le_self _ ha
    have esh : shr .i64 a (n : Int) = a / 2 ^ n := by
      unfold shr
      rw [Int.toNat_natCast, Nat.min_eq_left (show n ≤ IntKind.i64.bits by show n ≤ 64; omega)]
    have hr0 := Int.emod_nonneg (a / 2 ^ (n + 1) * b) (b := c) (by omega)
    have hr1 := Int.emod_lt_of_pos (a / 2 ^ (n + 1) * b) hc
    have hQ0 : 0 ≤ a / 2 ^ (n + 1) * b / c := Int.ediv_nonneg (Int.mul_nonneg (by rw [hA2]; omega) hb) (by omega)
    generalize hA' : a / 2 ^ n = A at *
    generalize hN : a / 2 ^ (n + 1) * b = N at *
    have wr : wrap64 (2 * r) = 2 * r := by unfold wrap64; omega
    have wrb : wrap64 (wrap64 (2 * r) + b) = 2 * r + b := by unfold wrap64; omega
    have wn : wrap64 ((n : Int) - 1) = (n : Int) - 1 := by unfold wrap64; omega
    have step : ∀ x : Int, 0 ≤ x → x ≤ 1152921504606846976 → A * b = 2 * N + x → 
        (if wrap64 (wrap64 (2 * q) + wrap64 ((2 * r + x) / c)) > 2305843009213693952 then QaE.l0 k a b c 2305843009213693952 ((2 * r + x) % c) ((n : Int) - 1)
         else QaE.l0 k a b c (wrap64 (wrap64 (2 * q) + wrap64 ((2 * r + x) / c))) ((2 * r + x) % c) ((n : Int) - 1)) = some (if a * b / c ≤ 2305843009213693952 then a * b / c else 2305843009213693952, a * b % c) := by
      intro x hx0 hx1 hx
      obtain ⟨d1, d2⟩ := Qg8 N c x hc
      rw [← hr] at d1 d2
      have s0 : 0 ≤ (2 * r + x) / c := Int.ediv_nonneg (by omega) (by omega)
      have s1 : (2 * r + x) / c ≤ 2305843009213693952 := by
        have : (2 * r + x) / c < 2305843009213693953 := (Int.ediv_lt_iff_lt_mul hc).2 (by omega)
        omega
      have cap := Qg7 (N / c) ((2 * r + x) / c) q hQ0 s0 s1 hq
      rw [← d1, ← hx] at cap
      rw [← hx] at d2
      have := ih k (if wrap64 (wrap64 (2 * q) + wrap64 ((2 * r + x) / c)) > 2305843009213693952 then 2305843009213693952 else wrap64 (wrap64 (2 * q) + wrap64 ((2 * r + x) / c))) ((2 * r + x) % c) (by omega) (by omega) cap d2.symm
      split at this
      · rw [if_pos (by assumption)]; exact this
      · rw [if_neg (by assumption)]; exact this
    simp only [QaE.l0]
    rw [e0, if_pos (by omega), w0, if_pos (by omega), esh, Int.tmod_eq_emod_of_nonneg hA, if_neg (show ¬ c = 0 by omega), if_neg (show ¬ c = 0 by omega), wrb, wr, wn]
    rw [Int.tdiv_eq_ediv_of_nonneg (show 0 ≤ 2 * r + b by omega), Int.tmod_eq_emod_of_nonneg (show 0 ≤ 2 * r + b by omega), Int.tdiv_eq_ediv_of_nonneg (show 0 ≤ 2 * r by omega), Int.tmod_eq_emod_of_nonneg (show 0 ≤ 2 * r by omega)]
    by_cases hbit : A % 2 = 1
    · rw [if_pos hbit]
      refine step b hb hb' ?_
      rw [← hN, hA2]
      have : A = 2 * (A / 2) + 1 := by omega
      grind
    · rw [if_neg hbit]
      have := step 0 (by omega) (by omega) (by
        rw [← hN, hA2]
        have : A = 2 * (A / 2) := by omega
        grind)
      rw [Int.add_zero] at this
      exact this
theorem QaE.eq (a b c : Int) (ha : 0 ≤ a) (ha' : a ≤ 1152921504606846976) (hb : 0 ≤ b) (hb' : b ≤ 1152921504606846976) (hc : 0 < c) (hc' : c ≤ 1152921504606846976) (k : Nat) (hk : 70 ≤ k) :
  QaE.f k a b c = some (if a * b / c ≤ 2305843009213693952 then a * b / c else 2305843009213693952, a * b % c) := by
 unfold QaE.f
 have h0 : a / 2 ^ 61 = 0 := Int.ediv_eq_zero_of_lt ha (by omega)
 exact Qgp a b c ha ha' hb hb' hc hc' 61 k 0 0 (by omega) (by omega) (by rw [h0]; simp) (by rw [h0]; simp)
set_option maxHeartbeats 4000000 in
theorem Qbb.bad (a0 a1 a2 a3 : Int) (w : World) (h : ¬ (mdFits a0 ∧ mdFits a1 ∧ mdFits a2 ∧ 1 ≤ a3 ∧ a3 ≤ 5)) :
  Calls Try.prog 58 #[.int .i64 a0, .int .i64 a1, .int .i64 a2, .int .i64 a3] w fun e w' => e = .returned (.tuple #[.int .i64 0, .int .i64 2]) ∧ w' = w := by
 rcases Qdi a0 a1 a2 a3 h with h1 | h1 | ⟨⟨h1, h2⟩, h3⟩ | ⟨⟨h1, h2⟩, h3⟩ | ⟨⟨h1, h2⟩, ⟨h3, h4⟩, h5⟩ | ⟨⟨h1, h2⟩, ⟨h3, h4⟩, h5⟩ | ⟨⟨h1, h2⟩, ⟨h3, h4⟩, ⟨h5, h6⟩, h7⟩ | ⟨⟨h1, h2⟩, ⟨h3, h4⟩, ⟨h5, h6⟩, h7⟩
 all_goals
  clear h
  go_enter Try.func58, Try.ntmps58
  go_wp2
  go_ret2
  exact ⟨rfl, rfl⟩
set_option maxHeartbeats 4000000 in
theorem Qbb.z (a0 a1 a2 a3 : Int) (w : World) (h1 : -1152921504606846976 ≤ a0) (h2 : a0 ≤ 1152921504606846976) (h3 : -1152921504606846976 ≤ a1) (h4 : a1 ≤ 1152921504606846976)
  (h5 : -1152921504606846976 ≤ a2) (h6 : a2 ≤ 1152921504606846976) (hc : (a2 == 0) = T) (m1 : 1 ≤ a3) (m2 : a3 ≤ 5) :
  Calls Try.prog 58 #[.int .i64 a0, .int .i64 a1, .int .i64 a2, .int .i64 a3] w fun e w' => e = .returned (.tuple #[.int .i64 0, .int .i64 4]) ∧ Below w.heap.size w w' := by
 go_enter Try.func58, Try.ntmps58
 go_wp2_with (go_at_call 93; go_in)
 go_ret2
 exact ⟨rfl, Below.refl _ _⟩
theorem Qdc (a : Int) (h1 : -1152921504606846976 ≤ a) : Qbv.f a = some (a.natAbs : Int) := by
 unfold Qbv.f wrap64
 split <;> (congr 1; omega)
def rmQ (Q R : Int) (av : Bool) : Int := if 0 < R ∧ av = T then Q + 1 else Q
def rmRes (q : Int) (bl : Bool) : Int × Int := if 1152921504606846976 < q then (0, 3) else (if bl = T then -q else q, 0)
theorem rm_end {q n er : Int} {bl : Bool} (h : rmRes q bl = (n, er)) : Ending.returned (.tuple #[.int .i64 n, .int .i64 er]) = .returned (.tuple #[.int .i64 (rmRes q bl).1, .int .i64 (rmRes q bl).2]) := by rw [h]
set_option maxHeartbeats 4000000 in
theorem Qbb.main (a0 a1 a2 a3 : Int) (w : World) (h1 : -1152921504606846976 ≤ a0) (h2 : a0 ≤ 1152921504606846976) (h3 : -1152921504606846976 ≤ a1) (h4 : a1 ≤ 1152921504606846976)
  (h5 : -1152921504606846976 ≤ a2) (h6 : a2 ≤ 1152921504606846976) (hc : (a2 == 0) = F) (m1 : 1 ≤ a3) (m2 : a3 ≤ 5) (Q R : Int) (bl av : Bool)
  (fb : (!((!(decide (a0 < 0) == decide (a1 < 0))) == decide (a2 < 0))) = bl) (hQ : Aside0 (QaE.f 70 a0.natAbs a1.natAbs a2.natAbs = some (Q, R)))
  (hav : Aside0 (QbO.f Q R a2.natAbs a3 bl = some av)) (hQ0 : 0 ≤ Q) (hQ1 : Q ≤ 2305843009213693952) :
  Calls Try.prog 58 #[.int .i64 a0, .int .i64 a1, .int .i64 a2, .int .i64 a3] w fun e w' => e = .returned (.tuple #[.int .i64 (rmRes (rmQ Q R av) bl).1, .int .i64 (rmRes (rmQ Q R av) bl).2]) ∧ Below w.heap.size w w' := by
 by_cases hR : 0 < R
 ·cases av
  ·have eq : rmQ Q R F = Q := by unfold rmQ; rw [if_neg (by simp)]
   rw [eq]; clear eq
   go_enter Try.func58, Try.ntmps58
   go_wp2_with (first | (go_at_call 93; go_in) | (go_at_call 95; refine (Qbv.calls _ _ _ (Qdc _ (by omega))).mono ?_; rintro e w1 ⟨rfl, ⟨nd, rfl⟩⟩) | (go_at_call 94; refine (QaE.calls 70 _ _ _ _ _ _ hQ.out).mono ?_; rintro e w1 ⟨rfl, ⟨nd, rfl⟩⟩) | (go_at_call 96; refine (QbO.calls _ _ _ _ _ _ _ hav.out).mono ?_; rintro e w1 ⟨rfl, ⟨nd, rfl⟩⟩))
   all_goals go_ret2
   all_goals refine ⟨rm_end ?_, by repeat (first | exact Below.refl _ _ | apply Qae | apply Qcb)⟩
   all_goals go_light
   ·exact if_pos (by omega)
   ·exact (if_neg (by omega)).trans (by rw [if_pos (by first | rfl | assumption)])
   exact (if_neg (by omega)).trans (by rw [if_neg (by first | (simp; done) | (simp; assumption))])
  have eq : rmQ Q R T = Q + 1 := by unfold rmQ; rw [if_pos ⟨hR, rfl⟩]
  rw [eq]; clear eq
  go_enter Try.func58, Try.ntmps58
  go_wp2_with (first | (go_at_call 93; go_in) | (go_at_call 95; refine (Qbv.calls _ _ _ (Qdc _ (by omega))).mono ?_; rintro e w1 ⟨rfl, ⟨nd, rfl⟩⟩) | (go_at_call 94; refine (QaE.calls 70 _ _ _ _ _ _ hQ.out).mono ?_; rintro e w1 ⟨rfl, ⟨nd, rfl⟩⟩) | (go_at_call 96; refine (QbO.calls _ _ _ _ _ _ _ hav.out).mono ?_; rintro e w1 ⟨rfl, ⟨nd, rfl⟩⟩))
  all_goals go_ret2
  all_goals refine ⟨rm_end ?_, by repeat (first | exact Below.refl _ _ | apply Qae | apply Qcb)⟩
  all_goals go_light
  ·exact if_pos (by omega)
  ·exact (if_neg (by omega)).trans (by rw [if_pos (by first | rfl | assumption)])
  exact (if_neg (by omega)).trans (by rw [if_neg (by first | (simp; done) | (simp; assumption))])
 have eq : rmQ Q R av = Q := by unfold rmQ; rw [if_neg (fun h => hR h.1)]
 rw [eq]; clear eq
 have hR' : R ≤ 0 := by omega
 clear hR
 go_enter Try.func58, Try.ntmps58
 go_wp2_with (first | (go_at_call 93; go_in) | (go_at_call 95; refine (Qbv.calls _ _ _ (Qdc _ (by omega))).mono ?_; rintro e w1 ⟨rfl, ⟨nd, rfl⟩⟩) | (go_at_call 94; refine (QaE.calls 70 _ _ _ _ _ _ hQ.out).mono ?_; rintro e w1 ⟨rfl, ⟨nd, rfl⟩⟩) | (go_at_call 96; refine (QbO.calls _ _ _ _ _ _ _ hav.out).mono ?_; rintro e w1 ⟨rfl, ⟨nd, rfl⟩⟩))
 all_goals go_ret2
 all_goals refine ⟨rm_end ?_, by repeat (first | exact Below.refl _ _ | apply Qae | apply Qcb)⟩
 all_goals go_light
 ·exact if_pos (by omega)
 ·exact (if_neg (by omega)).trans (by rw [if_pos (by first | rfl | assumption)])
 exact (if_neg (by omega)).trans (by rw [if_neg (by first | (simp; done) | (simp; assumption))])
theorem Qgq (Q R c mode : Int) (bl : Bool) (h0 : 0 ≤ Q) (hR : 0 ≤ R) (hc : R < c) (hc' : c ≤ 1152921504606846976) (m1 : 1 ≤ mode) (m2 : mode ≤ 5) : QbO.f Q R c mode bl = some (mdAway mode bl Q R c) := by
 have hw : wrap64 (c - R) = c - R := by unfold wrap64; omega
 have ht : Int.tmod Q 2 = Q % 2 := Int.tmod_eq_emod_of_nonneg h0
 unfold QbO.f mdAway
 rw [hw, ht]
 obtain rfl | rfl | rfl | rfl | rfl : mode = 1 ∨ mode = 2 ∨ mode = 3 ∨ mode = 4 ∨ mode = 5 := by omega
 ·rfl
 ·rfl
 ·cases bl <;> rfl
 ·cases bl <;> rfl
 by_cases g1 : R > c - R
 ·rw [if_neg (by omega), if_neg (by omega), if_neg (by omega), if_pos rfl, if_pos g1, decide_eq_true (show c - R < R from g1)]; rfl
 rw [if_neg (by omega), if_neg (by omega), if_neg (by omega), if_pos rfl, if_neg g1, decide_eq_false (show ¬ c - R < R from g1)]
 by_cases g2 : R = c - R
 ·rw [if_pos g2, decide_eq_true g2]
  by_cases g3 : Q % 2 = 1
  ·rw [g3]; rfl
  rw [decide_eq_false g3, beq_eq_false_iff_ne.mpr g3]; rfl
 rw [if_neg g2, decide_eq_false g2]; rfl
def Qbb.f (a0 a1 a2 a3 : Int) : Option (Int × Int) := Qa5.f a0 a1 a2 a3
theorem Qbb.calls (a0 a1 a2 a3 r1 r2 : Int) (w : World) (h : Qbb.f a0 a1 a2 a3 = some (r1, r2)) :
  Calls Try.prog 58 #[.int .i64 a0, .int .i64 a1, .int .i64 a2, .int .i64 a3] w fun e w' => e = .returned (.tuple #[.int .i64 r1, .int .i64 r2]) ∧ Below w.heap.size w w' := by
 unfold Qbb.f Qa5.f at h
 by_cases c : mdFits a0 ∧ mdFits a1 ∧ mdFits a2 ∧ 1 ≤ a3 ∧ a3 ≤ 5
 ·rw [if_pos c] at h
  obtain ⟨⟨c1, c2⟩, ⟨c3, c4⟩, ⟨c5, c6⟩, c7, c8⟩ := c
  by_cases d : a2 = 0
  ·rw [if_pos d] at h
   have h' := Option.some.inj h
   simp only [Prod.mk.injEq] at h'
   obtain ⟨rfl, rfl⟩ := h'
   exact Qbb.z a0 a1 a2 a3 w c1 c2 c3 c4 c5 c6 (by simpa using d) c7 c8
  rw [if_neg d] at h
  have h' := Option.some.inj h
  have e1 : (mdRes a0 a1 a2 a3).1 = r1 := by rw [h']
  have e2 : (mdRes a0 a1 a2 a3).2 = r2 := by rw [h']
  rw [← e1, ← e2]
  have hq0 : 0 ≤ (a0.natAbs : Int) * a1.natAbs / a2.natAbs := Int.ediv_nonneg (Int.mul_nonneg (by omega) (by omega)) (by omega)
  have hr0 := Int.emod_nonneg ((a0.natAbs : Int) * a1.natAbs) (b := (a2.natAbs : Int)) (by omega)
  have hr1 := Int.emod_lt_of_pos ((a0.natAbs : Int) * a1.natAbs) (b := (a2.natAbs : Int)) (by omega)
  have eq := QaE.eq a0.natAbs a1.natAbs a2.natAbs (by omega) (by omega) (by omega) (by omega) (by omega) (by omega) 70 (by omega)
  have em : rmRes (rmQ (if (a0.natAbs : Int) * a1.natAbs / a2.natAbs ≤ 2305843009213693952 then (a0.natAbs : Int) * a1.natAbs / a2.natAbs else 2305843009213693952) ((a0.natAbs : Int) * a1.natAbs % a2.natAbs)
    (mdAway a3 (QbQ a0 a1 a2) (if (a0.natAbs : Int) * a1.natAbs / a2.natAbs ≤ 2305843009213693952 then (a0.natAbs : Int) * a1.natAbs / a2.natAbs else 2305843009213693952) ((a0.natAbs : Int) * a1.natAbs % a2.natAbs) a2.natAbs)) (QbQ a0 a1 a2) = mdRes a0 a1 a2 a3 := by
   by_cases g : (a0.natAbs : Int) * a1.natAbs / a2.natAbs ≤ 2305843009213693952
   ·rw [if_pos g]; rfl
   rw [if_neg g]
   unfold rmRes mdRes
   rw [if_pos (by unfold rmQ; split <;> omega), if_pos (by unfold mdQ; split <;> omega)]
  rw [← em]
  refine Qbb.main a0 a1 a2 a3 w c1 c2 c3 c4 c5 c6 (by simpa using d) c7 c8 _ _ _ _ rfl (Aside0.mk eq) (Aside0.mk (Qgq _ _ _ _ _ ?_ hr0 hr1 (by omega) c7 c8)) ?_ ?_
  ·split <;> omega
  ·split <;> omega
  split <;> omega
 rw [if_neg c] at h
 have h' := Option.some.inj h
 simp only [Prod.mk.injEq] at h'
 obtain ⟨rfl, rfl⟩ := h'
 refine (Qbb.bad a0 a1 a2 a3 w c).mono ?_
 rintro e w' ⟨rfl, rfl⟩
 exact ⟨rfl, Below.refl _ _⟩
def Qbh.f (k : Nat) (a0_0 : ByteArray) (a0_1 : Int) (a0_2 : Int) (a0_3 : Int) (a0_4 : Int) (a0_5 : Int) : Option (Int) := (Qay.f k a0_0).bind fun t342 => (if t342 = T then ((Qap.f a0_1 1 3).bind fun t343 => (if t343 = T then ((Qap.f a0_2 0 7).bind fun t344 => (if t344 = T then ((Qap.f a0_3 1 68719476736).bind fun t345 => (if t345 = T then (if a0_1 = 1 then (if a0_3 = 1 then ((Qap.f a0_4 0 1000).bind fun t346 => (if t346 = T then ((Qap.f a0_5 0 1000).bind fun t347 => (if t347 = T then (some 0) else (some 2))) else (some 2))) else (some 2)) else ((Qap.f a0_4 0 1000).bind fun t348 => (if t348 = T then ((Qap.f a0_5 0 1000).bind fun t349 => (if t349 = T then (some 0) else (some 2))) else (some 2)))) else (some 2))) else (some 25))) else (some 2))) else (some 10))
theorem Qbh.mono : ∀ a0 a1 a2 a3 a4 a5 k, LeO (Qbh.f k a0 a1 a2 a3 a4 a5) (Qbh.f (k + 1) a0 a1 a2 a3 a4 a5) := by
 intro a0 a1 a2 a3 a4 a5 k
 unfold Qbh.f
 exact ZM1 Qay.mono
set_option maxHeartbeats 8000000 in
theorem Qbh.calls (k : Nat) (a0_0 : ByteArray) (a0_1 : Int) (a0_2 : Int) (a0_3 : Int) (a0_4 : Int) (a0_5 : Int) (r : Int) (w : World) (h : Qbh.f k a0_0 a0_1 a0_2 a0_3 a0_4 a0_5 = some r) :
  Calls Try.prog 102 #[.agg #[.string a0_0, .int .i64 a0_1, .int .i64 a0_2, .int .i64 a0_3, .int .i64 a0_4, .int .i64 a0_5]] w fun e w' => e = .returned (.int .i64 r) ∧ Below w.heap.size w w' := by
 have hu84 := Try.underlying84
 have HB := Aside0.mk (Below.refl w.heap.size w)
 have H : ((Qay.f k a0_0).bind fun t342 => (if t342 = T then ((Qap.f a0_1 1 3).bind fun t343 => (if t343 = T then ((Qap.f a0_2 0 7).bind fun t344 => (if t344 = T then ((Qap.f a0_3 1 68719476736).bind fun t345 => (if t345 = T then (if a0_1 = 1 then (if a0_3 = 1 then ((Qap.f a0_4 0 1000).bind fun t346 => (if t346 = T then ((Qap.f a0_5 0 1000).bind fun t347 => (if t347 = T then (some 0) else (some 2))) else (some 2))) else (some 2)) else ((Qap.f a0_4 0 1000).bind fun t348 => (if t348 = T then ((Qap.f a0_5 0 1000).bind fun t349 => (if t349 = T then (some 0) else (some 2))) else (some 2)))) else (some 2))) else (some 25))) else (some 2))) else (some 10))) = some r := h
 clear h
 replace H := Option.bind_eq_some_iff.mp H
 obtain ⟨t342, A20, H⟩ := H
 replace H : (if t342 = T then ((Qap.f a0_1 1 3).bind fun t343 => (if t343 = T then ((Qap.f a0_2 0 7).bind fun t344 => (if t344 = T then ((Qap.f a0_3 1 68719476736).bind fun t345 => (if t345 = T then (if a0_1 = 1 then (if a0_3 = 1 then ((Qap.f a0_4 0 1000).bind fun t346 => (if t346 = T then ((Qap.f a0_5 0 1000).bind fun t347 => (if t347 = T then (some 0) else (some 2))) else (some 2))) else (some 2)) else ((Qap.f a0_4 0 1000).bind fun t348 => (if t348 = T then ((Qap.f a0_5 0 1000).bind fun t349 => (if t349 = T then (some 0) else (some 2))) else (some 2)))) else (some 2))) else (some 25))) else (some 2))) else (some 10)) = some r := H
 have A2 := Aside0.mk A20
 clear A20
 go_enter Try.func102, Try.ntmps102
 go_upto_if 3 with (first | ((with_reducible refine QaK (N := 1) rfl ?_); refine Zbx (N := 1) (cs := #[.string a0_0, .int .i64 a0_1, .int .i64 a0_2, .int .i64 a0_3, .int .i64 a0_4, .int .i64 a0_5]) (t := 84) ?_; intro gb341 hg w3 hbox hb; have BK341 := Aside0.mk (hbox); have GW341 := Aside0.mk (Zt w hg (Zb)); have GE341 := GW341; replace HB := Aside0.mk (Qan (Zb) hb); clear hb hbox hg; obtain ⟨hcz4_0, hfz4_0⟩ := Zy (v := (.string a0_0)) BK341.out 0; obtain ⟨hcz4_1, hfz4_1⟩ := Zy (v := (.int .i64 a0_1)) BK341.out 1; obtain ⟨hcz4_2, hfz4_2⟩ := Zy (v := (.int .i64 a0_2)) BK341.out 2; obtain ⟨hcz4_3, hfz4_3⟩ := Zy (v := (.int .i64 a0_3)) BK341.out 3; obtain ⟨hcz4_4, hfz4_4⟩ := Zy (v := (.int .i64 a0_4)) BK341.out 4; obtain ⟨hcz4_5, hfz4_5⟩ := Zy (v := (.int .i64 a0_5)) BK341.out 5) | ((with_reducible refine Qax (f := 99) rfl ?_); refine goesL_ (some 6) rfl rfl Try.func99 (by kernel_rfl) rfl #[.string a0_0] rfl (Zl) ?_; (with_reducible refine (Qay.calls k a0_0 t342 _ A2.out).mono ?_); rintro e w' ⟨rfl, ⟨nd, rfl⟩⟩; refine ⟨_, rfl, ?_⟩))
 (try simp only [Act.put, Zj, Zk, Zm])
 by_cases c5 : t342 = T
 ·subst c5
  have H1 : ((Qap.f a0_1 1 3).bind fun t343 => (if t343 = T then ((Qap.f a0_2 0 7).bind fun t344 => (if t344 = T then ((Qap.f a0_3 1 68719476736).bind fun t345 => (if t345 = T then (if a0_1 = 1 then (if a0_3 = 1 then ((Qap.f a0_4 0 1000).bind fun t346 => (if t346 = T then ((Qap.f a0_5 0 1000).bind fun t347 => (if t347 = T then (some 0) else (some 2))) else (some 2))) else (some 2)) else ((Qap.f a0_4 0 1000).bind fun t348 => (if t348 = T then ((Qap.f a0_5 0 1000).bind fun t349 => (if t349 = T then (some 0) else (some 2))) else (some 2)))) else (some 2))) else (some 25))) else (some 2))) = some r := by rw [if_pos rfl] at H; exact H
  clear H
  have H := H1
  clear H1
  replace H := Option.bind_eq_some_iff.mp H
  obtain ⟨t343, A60, H⟩ := H
  replace H : (if t343 = T then ((Qap.f a0_2 0 7).bind fun t344 => (if t344 = T then ((Qap.f a0_3 1 68719476736).bind fun t345 => (if t345 = T then (if a0_1 = 1 then (if a0_3 = 1 then ((Qap.f a0_4 0 1000).bind fun t346 => (if t346 = T then ((Qap.f a0_5 0 1000).bind fun t347 => (if t347 = T then (some 0) else (some 2))) else (some 2))) else (some 2)) else ((Qap.f a0_4 0 1000).bind fun t348 => (if t348 = T then ((Qap.f a0_5 0 1000).bind fun t349 => (if t349 = T then (some 0) else (some 2))) else (some 2)))) else (some 2))) else (some 25))) else (some 2)) = some r := H
  have A6 := Aside0.mk A60
  clear A60
  obtain ⟨hcz7_0, hfz7_0⟩ := Zy (v := (.string a0_0)) BK341.out 0
  obtain ⟨hcz7_1, hfz7_1⟩ := Zy (v := (.int .i64 a0_1)) BK341.out 1
  obtain ⟨hcz7_2, hfz7_2⟩ := Zy (v := (.int .i64 a0_2)) BK341.out 2
  obtain ⟨hcz7_3, hfz7_3⟩ := Zy (v := (.int .i64 a0_3)) BK341.out 3
  obtain ⟨hcz7_4, hfz7_4⟩ := Zy (v := (.int .i64 a0_4)) BK341.out 4
  obtain ⟨hcz7_5, hfz7_5⟩ := Zy (v := (.int .i64 a0_5)) BK341.out 5
  go_upto_if 8 with (first | ((with_reducible refine Qax (f := 104) rfl ?_); refine goesL_ (some 11) rfl rfl Try.func104 (by kernel_rfl) rfl #[.int .i64 a0_1, .int .i64 1, .int .i64 3] rfl (Zl) ?_; (with_reducible refine (Qap.calls a0_1 1 3 t343 _ A6.out).mono ?_); rintro e w' ⟨rfl, ⟨nd, rfl⟩⟩; refine ⟨_, rfl, ?_⟩))
  (try simp only [Act.put, Zj, Zk, Zm])
  by_cases c8 : t343 = T
  ·subst c8
   have H1 : ((Qap.f a0_2 0 7).bind fun t344 => (if t344 = T then ((Qap.f a0_3 1 68719476736).bind fun t345 => (if t345 = T then (if a0_1 = 1 then (if a0_3 = 1 then ((Qap.f a0_4 0 1000).bind fun t346 => (if t346 = T then ((Qap.f a0_5 0 1000).bind fun t347 => (if t347 = T then (some 0) else (some 2))) else (some 2))) else (some 2)) else ((Qap.f a0_4 0 1000).bind fun t348 => (if t348 = T then ((Qap.f a0_5 0 1000).bind fun t349 => (if t349 = T then (some 0) else (some 2))) else (some 2)))) else (some 2))) else (some 25))) = some r := by rw [if_pos rfl] at H; exact H
   clear H
   have H := H1
   clear H1
   replace H := Option.bind_eq_some_iff.mp H
   obtain ⟨t344, A90, H⟩ := H
   replace H : (if t344 = T then ((Qap.f a0_3 1 68719476736).bind fun t345 => (if t345 = T then (if a0_1 = 1 then (if a0_3 = 1 then ((Qap.f a0_4 0 1000).bind fun t346 => (if t346 = T then ((Qap.f a0_5 0 1000).bind fun t347 => (if t347 = T then (some 0) else (some 2))) else (some 2))) else (some 2)) else ((Qap.f a0_4 0 1000).bind fun t348 => (if t348 = T then ((Qap.f a0_5 0 1000).bind fun t349 => (if t349 = T then (some 0) else (some 2))) else (some 2)))) else (some 2))) else (some 25)) = some r := H
   have A9 := Aside0.mk A90
   clear A90
   obtain ⟨hcz10_0, hfz10_0⟩ := Zy (v := (.string a0_0)) BK341.out 0
   obtain ⟨hcz10_1, hfz10_1⟩ := Zy (v := (.int .i64 a0_1)) BK341.out 1
   obtain ⟨hcz10_2, hfz10_2⟩ := Zy (v := (.int .i64 a0_2)) BK341.out 2
   obtain ⟨hcz10_3, hfz10_3⟩ := Zy (v := (.int .i64 a0_3)) BK341.out 3
   obtain ⟨hcz10_4, hfz10_4⟩ := Zy (v := (.int .i64 a0_4)) BK341.out 4
   obtain ⟨hcz10_5, hfz10_5⟩ := Zy (v := (.int .i64 a0_5)) BK341.out 5
   go_upto_if 13 with (first | ((with_reducible refine Qax (f := 104) rfl ?_); refine goesL_ (some 16) rfl rfl Try.func104 (by kernel_rfl) rfl #[.int .i64 a0_2, .int .i64 0, .int .i64 7] rfl (Zl) ?_; (with_reducible refine (Qap.calls a0_2 0 7 t344 _ A9.out).mono ?_); rintro e w' ⟨rfl, ⟨nd, rfl⟩⟩; refine ⟨_, rfl, ?_⟩))
   (try simp only [Act.put, Zj, Zk, Zm])
   by_cases c11 : t344 = T
   ·subst c11
    have H1 : ((Qap.f a0_3 1 68719476736).bind fun t345 => (if t345 = T then (if a0_1 = 1 then (if a0_3 = 1 then ((Qap.f a0_4 0 1000).bind fun t346 => (if t346 = T then ((Qap.f a0_5 0 1000).bind fun t347 => (if t347 = T then (some 0) else (some 2))) else (some 2))) else (some 2)) else ((Qap.f a0_4 0 1000).bind fun t348 => (if t348 = T then ((Qap.f a0_5 0 1000).bind fun t349 => (if t349 = T then (some 0) else (some 2))) else (some 2)))) else (some 2))) = some r := by rw [if_pos rfl] at H; exact H
    clear H
    have H := H1
    clear H1
    replace H := Option.bind_eq_some_iff.mp H
    obtain ⟨t345, A120, H⟩ := H
    replace H : (if t345 = T then (if a0_1 = 1 then (if a0_3 = 1 then ((Qap.f a0_4 0 1000).bind fun t346 => (if t346 = T then ((Qap.f a0_5 0 1000).bind fun t347 => (if t347 = T then (some 0) else (some 2))) else (some 2))) else (some 2)) else ((Qap.f a0_4 0 1000).bind fun t348 => (if t348 = T then ((Qap.f a0_5 0 1000).bind fun t349 => (if t349 = T then (some 0) else (some 2))) else (some 2)))) else (some 2)) = some r := H
    have A12 := Aside0.mk A120
    clear A120
    by_cases c13 : t345 = T
    ·subst c13
     have H1 : (if a0_1 = 1 then (if a0_3 = 1 then ((Qap.f a0_4 0 1000).bind fun t346 => (if t346 = T then ((Qap.f a0_5 0 1000).bind fun t347 => (if t347 = T then (some 0) else (some 2))) else (some 2))) else (some 2)) else ((Qap.f a0_4 0 1000).bind fun t348 => (if t348 = T then ((Qap.f a0_5 0 1000).bind fun t349 => (if t349 = T then (some 0) else (some 2))) else (some 2)))) = some r := by rw [if_pos rfl] at H; exact H
     clear H
     have H := H1
     clear H1
     by_cases c14 : a0_1 = 1
     ·rw [if_pos c14] at H
      have c14b0 : (a0_1 == 1) = T := beq_iff_eq.mpr c14
      have c14b1 : (a0_1 != 1) = F := bne_eq_false_iff_eq.mpr c14
      clear c14
      by_cases c15 : a0_3 = 1
      ·rw [if_pos c15] at H
       have c15b0 : (a0_3 == 1) = T := beq_iff_eq.mpr c15
       have c15b1 : (a0_3 != 1) = F := bne_eq_false_iff_eq.mpr c15
       clear c15
       replace H := Option.bind_eq_some_iff.mp H
       obtain ⟨t346, A160, H⟩ := H
       replace H : (if t346 = T then ((Qap.f a0_5 0 1000).bind fun t347 => (if t347 = T then (some 0) else (some 2))) else (some 2)) = some r := H
       have A16 := Aside0.mk A160
       clear A160
       by_cases c17 : t346 = T
       ·subst c17
        have H1 : ((Qap.f a0_5 0 1000).bind fun t347 => (if t347 = T then (some 0) else (some 2))) = some r := by rw [if_pos rfl] at H; exact H
        clear H
        have H := H1
        clear H1
        replace H := Option.bind_eq_some_iff.mp H
        obtain ⟨t347, A180, H⟩ := H
        replace H : (if t347 = T then (some 0) else (some 2)) = some r := H
        have A18 := Aside0.mk A180
        clear A180
        obtain ⟨hcz19_0, hfz19_0⟩ := Zy (v := (.string a0_0)) BK341.out 0
        obtain ⟨hcz19_1, hfz19_1⟩ := Zy (v := (.int .i64 a0_1)) BK341.out 1
        obtain ⟨hcz19_2, hfz19_2⟩ := Zy (v := (.int .i64 a0_2)) BK341.out 2
        obtain ⟨hcz19_3, hfz19_3⟩ := Zy (v := (.int .i64 a0_3)) BK341.out 3
        obtain ⟨hcz19_4, hfz19_4⟩ := Zy (v := (.int .i64 a0_4)) BK341.out 4
        obtain ⟨hcz19_5, hfz19_5⟩ := Zy (v := (.int .i64 a0_5)) BK341.out 5
        go_upto_if 18 with (first | ((with_reducible refine Qax (f := 104) rfl ?_); refine goesL_ (some 21) rfl rfl Try.func104 (by kernel_rfl) rfl #[.int .i64 a0_3, .int .i64 1, .int .i64 68719476736] rfl (Zl) ?_; (with_reducible refine (Qap.calls a0_3 1 68719476736 T _ A12.out).mono ?_); rintro e w' ⟨rfl, ⟨nd, rfl⟩⟩; refine ⟨_, rfl, ?_⟩) | (go_at_call 104; (with_reducible refine (Qap.calls a0_4 0 1000 T _ A16.out).mono ?_); rintro e w' ⟨rfl, ⟨nd, rfl⟩⟩) | (go_at_call 104; (with_reducible refine (Qap.calls a0_5 0 1000 t347 _ A18.out).mono ?_); rintro e w' ⟨rfl, ⟨nd, rfl⟩⟩))
        (try simp only [Act.put, Zj, Zk, Zm])
        by_cases c20 : t347 = T
        ·subst c20
         have H1 : (some 0) = some r := by rw [if_pos rfl] at H; exact H
         clear H
         have H := H1
         clear H1
         obtain rfl := Option.some.inj H
         go_wp2
         go_ret
         exact ⟨Zq, Zc1 GE341.out⟩
        replace c20 := Bool.eq_false_iff.mpr c20
        subst c20
        have H1 : (some 2) = some r := by rw [if_neg (show ¬ (F = T) by decide)] at H; exact H
        clear H
        have H := H1
        clear H1
        obtain rfl := Option.some.inj H
        go_wp2
        go_ret
        exact ⟨Zq, Zc1 GE341.out⟩
       replace c17 := Bool.eq_false_iff.mpr c17
       subst c17
       have H1 : (some 2) = some r := by rw [if_neg (show ¬ (F = T) by decide)] at H; exact H
       clear H
       have H := H1
       clear H1
       obtain rfl := Option.some.inj H
       obtain ⟨hcz21_0, hfz21_0⟩ := Zy (v := (.string a0_0)) BK341.out 0
       obtain ⟨hcz21_1, hfz21_1⟩ := Zy (v := (.int .i64 a0_1)) BK341.out 1
       obtain ⟨hcz21_2, hfz21_2⟩ := Zy (v := (.int .i64 a0_2)) BK341.out 2
       obtain ⟨hcz21_3, hfz21_3⟩ := Zy (v := (.int .i64 a0_3)) BK341.out 3
       obtain ⟨hcz21_4, hfz21_4⟩ := Zy (v := (.int .i64 a0_4)) BK341.out 4
       obtain ⟨hcz21_5, hfz21_5⟩ := Zy (v := (.int .i64 a0_5)) BK341.out 5
       go_wp2_with (first | ((with_reducible refine Qax (f := 104) rfl ?_); refine goesL_ (some 21) rfl rfl Try.func104 (by kernel_rfl) rfl #[.int .i64 a0_3, .int .i64 1, .int .i64 68719476736] rfl (Zl) ?_; (with_reducible refine (Qap.calls a0_3 1 68719476736 T _ A12.out).mono ?_); rintro e w' ⟨rfl, ⟨nd, rfl⟩⟩; refine ⟨_, rfl, ?_⟩) | (go_at_call 104; (with_reducible refine (Qap.calls a0_4 0 1000 F _ A16.out).mono ?_); rintro e w' ⟨rfl, ⟨nd, rfl⟩⟩))
       go_ret
       exact ⟨Zq, Zc1 GE341.out⟩
      rw [if_neg c15] at H
      have c15b0 : (a0_3 == 1) = F := beq_eq_false_iff_ne.mpr c15
      have c15b1 : (a0_3 != 1) = T := bne_iff_ne.mpr c15
      obtain rfl := Option.some.inj H
      obtain ⟨hcz22_0, hfz22_0⟩ := Zy (v := (.string a0_0)) BK341.out 0
      obtain ⟨hcz22_1, hfz22_1⟩ := Zy (v := (.int .i64 a0_1)) BK341.out 1
      obtain ⟨hcz22_2, hfz22_2⟩ := Zy (v := (.int .i64 a0_2)) BK341.out 2
      obtain ⟨hcz22_3, hfz22_3⟩ := Zy (v := (.int .i64 a0_3)) BK341.out 3
      obtain ⟨hcz22_4, hfz22_4⟩ := Zy (v := (.int .i64 a0_4)) BK341.out 4
      obtain ⟨hcz22_5, hfz22_5⟩ := Zy (v := (.int .i64 a0_5)) BK341.out 5
      go_wp2_with (first | ((with_reducible refine Qax (f := 104) rfl ?_); refine goesL_ (some 21) rfl rfl Try.func104 (by kernel_rfl) rfl #[.int .i64 a0_3, .int .i64 1, .int .i64 68719476736] rfl (Zl) ?_; (with_reducible refine (Qap.calls a0_3 1 68719476736 T _ A12.out).mono ?_); rintro e w' ⟨rfl, ⟨nd, rfl⟩⟩; refine ⟨_, rfl, ?_⟩))
      go_ret
      exact ⟨Zq, Zc1 GE341.out⟩
     rw [if_neg c14] at H
     have c14b0 : (a0_1 == 1) = F := beq_eq_false_iff_ne.mpr c14
     have c14b1 : (a0_1 != 1) = T := bne_iff_ne.mpr c14
     replace H := Option.bind_eq_some_iff.mp H
     obtain ⟨t348, A230, H⟩ := H
     replace H : (if t348 = T then ((Qap.f a0_5 0 1000).bind fun t349 => (if t349 = T then (some 0) else (some 2))) else (some 2)) = some r := H
     have A23 := Aside0.mk A230
     clear A230
     by_cases c24 : t348 = T
     ·subst c24
      have H1 : ((Qap.f a0_5 0 1000).bind fun t349 => (if t349 = T then (some 0) else (some 2))) = some r := by rw [if_pos rfl] at H; exact H
      clear H
      have H := H1
      clear H1
      replace H := Option.bind_eq_some_iff.mp H
      obtain ⟨t349, A250, H⟩ := H
      replace H : (if t349 = T then (some 0) else (some 2)) = some r := H
      have A25 := Aside0.mk A250
      clear A250
      obtain ⟨hcz26_0, hfz26_0⟩ := Zy (v := (.string a0_0)) BK341.out 0
      obtain ⟨hcz26_1, hfz26_1⟩ := Zy (v := (.int .i64 a0_1)) BK341.out 1
      obtain ⟨hcz26_2, hfz26_2⟩ := Zy (v := (.int .i64 a0_2)) BK341.out 2
      obtain ⟨hcz26_3, hfz26_3⟩ := Zy (v := (.int .i64 a0_3)) BK341.out 3
      obtain ⟨hcz26_4, hfz26_4⟩ := Zy (v := (.int .i64 a0_4)) BK341.out 4
      obtain ⟨hcz26_5, hfz26_5⟩ := Zy (v := (.int .i64 a0_5)) BK341.out 5
      go_upto_if 18 with (first | ((with_reducible refine Qax (f := 104) rfl ?_); refine goesL_ (some 21) rfl rfl Try.func104 (by kernel_rfl) rfl #[.int .i64 a0_3, .int .i64 1, .int .i64 68719476736] rfl (Zl) ?_; (with_reducible refine (Qap.calls a0_3 1 68719476736 T _ A12.out).mono ?_); rintro e w' ⟨rfl, ⟨nd, rfl⟩⟩; refine ⟨_, rfl, ?_⟩) | (go_at_call 104; (with_reducible refine (Qap.calls a0_4 0 1000 T _ A23.out).mono ?_); rintro e w' ⟨rfl, ⟨nd, rfl⟩⟩) | (go_at_call 104; (with_reducible refine (Qap.calls a0_5 0 1000 t349 _ A25.out).mono ?_); rintro e w' ⟨rfl, ⟨nd, rfl⟩⟩))
      (try simp only [Act.put, Zj, Zk, Zm])
      by_cases c27 : t349 = T
      ·subst c27
       have H1 : (some 0) = some r := by rw [if_pos rfl] at H; exact H
       clear H
       have H := H1
       clear H1
       obtain rfl := Option.some.inj H
       go_wp2
       go_ret
       exact ⟨Zq, Zc1 GE341.out⟩
      replace c27 := Bool.eq_false_iff.mpr c27
      subst c27
      have H1 : (some 2) = some r := by rw [if_neg (show ¬ (F = T) by decide)] at H; exact H
      clear H
      have H := H1
      clear H1
      obtain rfl := Option.some.inj H
      go_wp2
      go_ret
      exact ⟨Zq, Zc1 GE341.out⟩
     replace c24 := Bool.eq_false_iff.mpr c24
     subst c24
     have H1 : (some 2) = some r := by rw [if_neg (show ¬ (F = T) by decide)] at H; exact H
     clear H
     have H := H1
     clear H1
     obtain rfl := Option.some.inj H
     obtain ⟨hcz28_0, hfz28_0⟩ := Zy (v := (.string a0_0)) BK341.out 0
     obtain ⟨hcz28_1, hfz28_1⟩ := Zy (v := (.int .i64 a0_1)) BK341.out 1
     obtain ⟨hcz28_2, hfz28_2⟩ := Zy (v := (.int .i64 a0_2)) BK341.out 2
     obtain ⟨hcz28_3, hfz28_3⟩ := Zy (v := (.int .i64 a0_3)) BK341.out 3
     obtain ⟨hcz28_4, hfz28_4⟩ := Zy (v := (.int .i64 a0_4)) BK341.out 4
     obtain ⟨hcz28_5, hfz28_5⟩ := Zy (v := (.int .i64 a0_5)) BK341.out 5
     go_wp2_with (first | ((with_reducible refine Qax (f := 104) rfl ?_); refine goesL_ (some 21) rfl rfl Try.func104 (by kernel_rfl) rfl #[.int .i64 a0_3, .int .i64 1, .int .i64 68719476736] rfl (Zl) ?_; (with_reducible refine (Qap.calls a0_3 1 68719476736 T _ A12.out).mono ?_); rintro e w' ⟨rfl, ⟨nd, rfl⟩⟩; refine ⟨_, rfl, ?_⟩) | (go_at_call 104; (with_reducible refine (Qap.calls a0_4 0 1000 F _ A23.out).mono ?_); rintro e w' ⟨rfl, ⟨nd, rfl⟩⟩))
     go_ret
     exact ⟨Zq, Zc1 GE341.out⟩
    replace c13 := Bool.eq_false_iff.mpr c13
    subst c13
    have H1 : (some 2) = some r := by rw [if_neg (show ¬ (F = T) by decide)] at H; exact H
    clear H
    have H := H1
    clear H1
    obtain rfl := Option.some.inj H
    obtain ⟨hcz29_0, hfz29_0⟩ := Zy (v := (.string a0_0)) BK341.out 0
    obtain ⟨hcz29_1, hfz29_1⟩ := Zy (v := (.int .i64 a0_1)) BK341.out 1
    obtain ⟨hcz29_2, hfz29_2⟩ := Zy (v := (.int .i64 a0_2)) BK341.out 2
    obtain ⟨hcz29_3, hfz29_3⟩ := Zy (v := (.int .i64 a0_3)) BK341.out 3
    obtain ⟨hcz29_4, hfz29_4⟩ := Zy (v := (.int .i64 a0_4)) BK341.out 4
    obtain ⟨hcz29_5, hfz29_5⟩ := Zy (v := (.int .i64 a0_5)) BK341.out 5
    go_wp2_with (first | ((with_reducible refine Qax (f := 104) rfl ?_); refine goesL_ (some 21) rfl rfl Try.func104 (by kernel_rfl) rfl #[.int .i64 a0_3, .int .i64 1, .int .i64 68719476736] rfl (Zl) ?_; (with_reducible refine (Qap.calls a0_3 1 68719476736 F _ A12.out).mono ?_); rintro e w' ⟨rfl, ⟨nd, rfl⟩⟩; refine ⟨_, rfl, ?_⟩))
    go_ret
    exact ⟨Zq, Zc1 GE341.out⟩
   replace c11 := Bool.eq_false_iff.mpr c11
   subst c11
   have H1 : (some 25) = some r := by rw [if_neg (show ¬ (F = T) by decide)] at H; exact H
   clear H
   have H := H1
   clear H1
   obtain rfl := Option.some.inj H
   go_wp2
   go_ret
   exact ⟨Zq, Zc1 GE341.out⟩
  replace c8 := Bool.eq_false_iff.mpr c8
  subst c8
  have H1 : (some 2) = some r := by rw [if_neg (show ¬ (F = T) by decide)] at H; exact H
  clear H
  have H := H1
  clear H1
  obtain rfl := Option.some.inj H
  go_wp2
  go_ret
  exact ⟨Zq, Zc1 GE341.out⟩
 replace c5 := Bool.eq_false_iff.mpr c5
 subst c5
 have H1 : (some 10) = some r := by rw [if_neg (show ¬ (F = T) by decide)] at H; exact H
 clear H
 have H := H1
 clear H1
 obtain rfl := Option.some.inj H
 go_wp2
 go_ret
 exact ⟨Zq, Zc1 GE341.out⟩
def Qa0.j0 : Nat → Int → Int → Bool → Option (Int × Int)
 | 0, _, _, _ => none
 | k + 1, x0, x1, x13 => if x13 = T then (some (0, 2)) else (if x0 = 0 then (some (wrap64 (x0 * x1), 0)) else ((Qbv.f x1).bind fun t352 => ((Qbv.f x0).bind fun t353 => (if t353 = 0 then (none) else (if t352 > (wrap64 (Int.tdiv (1152921504606846976 : Int) t353)) then (some (0, 3)) else (some (wrap64 (x0 * x1), 0)))))))
def Qa0.f (k : Nat) (a0 : Int) (a1 : Int) : Option (Int × Int) := (Qbt.f a0).bind fun t350 => (if t350 = T then ((Qbt.f a1).bind fun t351 => (Qa0.j0 k a0 a1 (!t351))) else (Qa0.j0 k a0 a1 T))
theorem Qa0.mono_l : ∀ k, (∀ y0 y1 y2, LeO (Qa0.j0 k y0 y1 y2) (Qa0.j0 (k + 1) y0 y1 y2))
 | 0 => fun _ _ _ r h => by simp [Qa0.j0] at h
 | k + 1 => by
  have ih0 := Qa0.mono_l k
  intro y0 y1 y2
  unfold Qa0.j0
  exact ZM1 ih0
theorem Qa0.mono : ∀ a0 a1 k, LeO (Qa0.f k a0 a1) (Qa0.f (k + 1) a0 a1) := by
 intro a0 a1 k
 have ih0 := Qa0.mono_l k
 unfold Qa0.f
 exact ZM1 ih0
set_option maxHeartbeats 8000000 in
theorem Qa0.calls (k : Nat) (a0 : Int) (a1 : Int) (r1 : Int) (r2 : Int) (w : World) (h : Qa0.f k a0 a1 = some (r1, r2)) :
  Calls Try.prog 105 #[.int .i64 a0, .int .i64 a1] w fun e w' => e = .returned (.tuple #[.int .i64 r1, .int .i64 r2]) ∧ Drawn0 w w' := by
 have H : ((Qbt.f a0).bind fun t350 => (if t350 = T then ((Qbt.f a1).bind fun t351 => (Qa0.j0 k a0 a1 (!t351))) else (Qa0.j0 k a0 a1 T))) = some (r1, r2) := h
 clear h
 have HC3 := Aside0.mk H
 clear H
 go_enter Try.func105, Try.ntmps105
 go_upto_region 1 with (fail)
 go_cut [13] (fun v13 wc => ∃ (kq : Nat) (x13_2 : Bool), v13 = .bool x13_2 ∧ Aside0 (Qa0.j0 kq a0 a1 x13_2 = some (r1, r2)) ∧ Aside0 (kq ≤ k) ∧ Drawn0 w wc)
 case first =>
  have H := HC3.out
  clear HC3
  replace H := Option.bind_eq_some_iff.mp H
  obtain ⟨t350, A40, H⟩ := H
  replace H : (if t350 = T then ((Qbt.f a1).bind fun t351 => (Qa0.j0 k a0 a1 (!t351))) else (Qa0.j0 k a0 a1 T)) = some (r1, r2) := H
  have A4 := Aside0.mk A40
  clear A40
  by_cases c5 : t350 = T
  ·subst c5
   have H1 : ((Qbt.f a1).bind fun t351 => (Qa0.j0 k a0 a1 (!t351))) = some (r1, r2) := by rw [if_pos rfl] at H; exact H
   clear H
   have H := H1
   clear H1
   replace H := Option.bind_eq_some_iff.mp H
   obtain ⟨t351, A60, H⟩ := H
   replace H : (Qa0.j0 k a0 a1 (!t351)) = some (r1, r2) := H
   have A6 := Aside0.mk A60
   clear A60
   have H' := Aside0.mk H
   clear H
   go_wp2_with (first | ((with_reducible refine Qax (f := 93) rfl ?_); refine goesL_ (some 7) rfl rfl Try.func93 (by kernel_rfl) rfl #[.int .i64 a0] rfl (Zl) ?_; (with_reducible refine (Qbt.calls a0 T _ A4.out).mono ?_); rintro e w' ⟨rfl, ⟨nd, rfl⟩⟩; refine ⟨_, rfl, ?_⟩) | (go_at_call 93; (with_reducible refine (Qbt.calls a1 t351 _ A6.out).mono ?_); rintro e w' ⟨rfl, ⟨nd, rfl⟩⟩))
   go_meet
   case rel => exact ⟨_, (!t351), (Zs), H', ⟨by first | omega | exact Nat.le_refl _⟩, Zd⟩
  replace c5 := Bool.eq_false_iff.mpr c5
  subst c5
  have H1 : (Qa0.j0 k a0 a1 T) = some (r1, r2) := by rw [if_neg (show ¬ (F = T) by decide)] at H; exact H
  clear H
  have H := H1
  clear H1
  have H' := Aside0.mk H
  clear H
  go_wp2_with (first | ((with_reducible refine Qax (f := 93) rfl ?_); refine goesL_ (some 7) rfl rfl Try.func93 (by kernel_rfl) rfl #[.int .i64 a0] rfl (Zl) ?_; (with_reducible refine (Qbt.calls a0 F _ A4.out).mono ?_); rintro e w' ⟨rfl, ⟨nd, rfl⟩⟩; refine ⟨_, rfl, ?_⟩))
  go_meet
  case rel => exact ⟨_, (T), (Zs), H', ⟨by first | omega | exact Nat.le_refl _⟩, Zd⟩
 case rest =>
  clear HC3
  try clear c1
  try clear p2
  try clear c5
  obtain ⟨kq, x13_2, rfl, HA, HJ2, ⟨mc2, rfl⟩⟩ := hcut
  cases kq with
  | zero => exact absurd HA.out (by simp [Qa0.j0])
  | succ kj2 =>
   have H := HA.out
   clear HA
   simp only [Qa0.j0] at H
   by_cases c7 : x13_2 = T
   ·subst c7
    have H1 : (some (0, 2)) = some (r1, r2) := by rw [if_pos rfl] at H; exact H
    clear H
    have H := H1
    clear H1
    simp only [Option.some.injEq, Prod.mk.injEq] at H
    obtain ⟨rfl, rfl⟩ := H
    go_wp2
    go_ret2
    exact ⟨Zs, Zd⟩
   replace c7 := Bool.eq_false_iff.mpr c7
   subst c7
   have H1 : (if a0 = 0 then (some (wrap64 (a0 * a1), 0)) else ((Qbv.f a1).bind fun t352 => ((Qbv.f a0).bind fun t353 => (if t353 = 0 then (none) else (if t352 > (wrap64 (Int.tdiv (1152921504606846976 : Int) t353)) then (some (0, 3)) else (some (wrap64 (a0 * a1), 0))))))) = some (r1, r2) := by rw [if_neg (show ¬ (F = T) by decide)] at H; exact H
   clear H
   have H := H1
   clear H1
   by_cases c8 : a0 = 0
   ·rw [if_pos c8] at H
    have c8b0 : (a0 == 0) = T := beq_iff_eq.mpr c8
    have c8b1 : (a0 != 0) = F := bne_eq_false_iff_eq.mpr c8
    clear c8
    simp only [Option.some.injEq, Prod.mk.injEq] at H
    obtain ⟨rfl, rfl⟩ := H
    go_wp2
    go_ret2
    exact ⟨Zs, Zd⟩
   rw [if_neg c8] at H
   have c8b0 : (a0 == 0) = F := beq_eq_false_iff_ne.mpr c8
   have c8b1 : (a0 != 0) = T := bne_iff_ne.mpr c8
   replace H := Option.bind_eq_some_iff.mp H
   obtain ⟨t352, A90, H⟩ := H
   replace H : ((Qbv.f a0).bind fun t353 => (if t353 = 0 then (none) else (if t352 > (wrap64 (Int.tdiv (1152921504606846976 : Int) t353)) then (some (0, 3)) else (some (wrap64 (a0 * a1), 0))))) = some (r1, r2) := H
   have A9 := Aside0.mk A90
   clear A90
   replace H := Option.bind_eq_some_iff.mp H
   obtain ⟨t353, A100, H⟩ := H
   replace H : (if t353 = 0 then (none) else (if t352 > (wrap64 (Int.tdiv (1152921504606846976 : Int) t353)) then (some (0, 3)) else (some (wrap64 (a0 * a1), 0)))) = some (r1, r2) := H
   have A10 := Aside0.mk A100
   clear A100
   by_cases c11 : t353 = 0
   ·rw [if_pos c11] at H
    exact absurd H (by simp)
   rw [if_neg c11] at H
   have c11b0 : (t353 == 0) = F := beq_eq_false_iff_ne.mpr c11
   have c11b1 : (t353 != 0) = T := bne_iff_ne.mpr c11
   go_upto_if 23 with (first | (go_at_call 95; (with_reducible refine (Qbv.calls a1 t352 _ A9.out).mono ?_); rintro e w' ⟨rfl, ⟨nd, rfl⟩⟩) | (go_at_call 95; (with_reducible refine (Qbv.calls a0 t353 _ A10.out).mono ?_); rintro e w' ⟨rfl, ⟨nd, rfl⟩⟩))
   (try simp only [Act.put, Zj, Zk, Zm])
   by_cases c12 : t352 > (wrap64 (Int.tdiv (1152921504606846976 : Int) t353))
   ·rw [if_pos c12] at H
    have c12b0 : decide ((wrap64 (Int.tdiv (1152921504606846976 : Int) t353)) < t352) = T := decide_eq_true c12
    clear c12
    (try simp only [c12b0])
    simp only [Option.some.injEq, Prod.mk.injEq] at H
    obtain ⟨rfl, rfl⟩ := H
    go_wp2
    go_ret2
    exact ⟨Zs, Zd⟩
   rw [if_neg c12] at H
   have c12b0 : decide ((wrap64 (Int.tdiv (1152921504606846976 : Int) t353)) < t352) = F := decide_eq_false c12
   clear c12
   (try simp only [c12b0])
   simp only [Option.some.injEq, Prod.mk.injEq] at H
   obtain ⟨rfl, rfl⟩ := H
   go_wp2
   go_ret2
   exact ⟨Zs, Zd⟩
def Qbz.f (k : Nat) (a0_0 : ByteArray) (a0_1 : Int) (a0_2 : Int) (a0_3 : Int) (a0_4 : Int) (a0_5 : Int) (a1 : Int) : Option (Int × Int) := (Qbh.f k a0_0 a0_1 a0_2 a0_3 a0_4 a0_5).bind fun t355 => (if t355 = 0 then ((Qap.f a1 0 1152921504606846976).bind fun t356 => (if t356 = T then ((Qa0.f k a1 a0_3).bind fun bt357 => (some (bt357.1, bt357.2))) else (some (0, 18)))) else (some (0, t355)))
theorem Qbz.mono : ∀ a0 a1 a2 a3 a4 a5 a6 k, LeO (Qbz.f k a0 a1 a2 a3 a4 a5 a6) (Qbz.f (k + 1) a0 a1 a2 a3 a4 a5 a6) := by
 intro a0 a1 a2 a3 a4 a5 a6 k
 unfold Qbz.f
 exact ZM2 Qa0.mono Qbh.mono
set_option maxHeartbeats 8000000 in
theorem Qbz.calls (k : Nat) (a0_0 : ByteArray) (a0_1 : Int) (a0_2 : Int) (a0_3 : Int) (a0_4 : Int) (a0_5 : Int) (a1 : Int) (r1 : Int) (r2 : Int) (w : World) (h : Qbz.f k a0_0 a0_1 a0_2 a0_3 a0_4 a0_5 a1 = some (r1, r2)) :
  Calls Try.prog 69 #[.agg #[.string a0_0, .int .i64 a0_1, .int .i64 a0_2, .int .i64 a0_3, .int .i64 a0_4, .int .i64 a0_5], .int .i64 a1] w fun e w' => e = .returned (.tuple #[.int .i64 r1, .int .i64 r2]) ∧ Below w.heap.size w w' := by
 have hu84 := Try.underlying84
 have HB := Aside0.mk (Below.refl w.heap.size w)
 have H : ((Qbh.f k a0_0 a0_1 a0_2 a0_3 a0_4 a0_5).bind fun t355 => (if t355 = 0 then ((Qap.f a1 0 1152921504606846976).bind fun t356 => (if t356 = T then ((Qa0.f k a1 a0_3).bind fun bt357 => (some (bt357.1, bt357.2))) else (some (0, 18)))) else (some (0, t355)))) = some (r1, r2) := h
 clear h
 replace H := Option.bind_eq_some_iff.mp H
 obtain ⟨t355, A30, H⟩ := H
 replace H : (if t355 = 0 then ((Qap.f a1 0 1152921504606846976).bind fun t356 => (if t356 = T then ((Qa0.f k a1 a0_3).bind fun bt357 => (some (bt357.1, bt357.2))) else (some (0, 18)))) else (some (0, t355))) = some (r1, r2) := H
 have A3 := Aside0.mk A30
 clear A30
 go_enter Try.func69, Try.ntmps69
 go_upto_if 10 with (first | ((with_reducible refine QaK (N := 2) rfl ?_); refine Zbx (N := 2) (cs := #[.string a0_0, .int .i64 a0_1, .int .i64 a0_2, .int .i64 a0_3, .int .i64 a0_4, .int .i64 a0_5]) (t := 84) ?_; intro gb354 hg w4 hbox hb; have BK354 := Aside0.mk (hbox); have GW354 := Aside0.mk (Zt w hg (Zb)); have GE354 := GW354; replace HB := Aside0.mk (Qan (Zb) hb); clear hb hbox hg; obtain ⟨hcz5_0, hfz5_0⟩ := Zy (v := (.string a0_0)) BK354.out 0; obtain ⟨hcz5_1, hfz5_1⟩ := Zy (v := (.int .i64 a0_1)) BK354.out 1; obtain ⟨hcz5_2, hfz5_2⟩ := Zy (v := (.int .i64 a0_2)) BK354.out 2; obtain ⟨hcz5_3, hfz5_3⟩ := Zy (v := (.int .i64 a0_3)) BK354.out 3; obtain ⟨hcz5_4, hfz5_4⟩ := Zy (v := (.int .i64 a0_4)) BK354.out 4; obtain ⟨hcz5_5, hfz5_5⟩ := Zy (v := (.int .i64 a0_5)) BK354.out 5) | ((with_reducible refine Qax (f := 102) rfl ?_); refine goesL_ (some 8) rfl rfl Try.func102 (by kernel_rfl) rfl #[.agg #[.string a0_0, .int .i64 a0_1, .int .i64 a0_2, .int .i64 a0_3, .int .i64 a0_4, .int .i64 a0_5]] rfl (Zl) ?_; (with_reducible refine (Qbh.calls k a0_0 a0_1 a0_2 a0_3 a0_4 a0_5 t355 _ A3.out).mono ?_); rintro e w6 ⟨rfl, hb⟩; refine ⟨_, rfl, ?_⟩; replace BK354 := Aside0.mk (Zi BK354.out hb); replace HB := Aside0.mk (Qan (Zc1 GE354.out) hb); (try clear hb); (try clear hb2); (try clear hk); (try clear hi)))
 (try simp only [Act.put, Zj, Zk, Zm])
 by_cases c7 : t355 = 0
 ·rw [if_pos c7] at H
  have c7b0 : (t355 == 0) = T := beq_iff_eq.mpr c7
  have c7b1 : (t355 != 0) = F := bne_eq_false_iff_eq.mpr c7
  clear c7
  (try simp only [c7b0, c7b1])
  replace H := Option.bind_eq_some_iff.mp H
  obtain ⟨t356, A80, H⟩ := H
  replace H : (if t356 = T then ((Qa0.f k a1 a0_3).bind fun bt357 => (some (bt357.1, bt357.2))) else (some (0, 18))) = some (r1, r2) := H
  have A8 := Aside0.mk A80
  clear A80
  go_upto_if 14 with (first | ((with_reducible refine Qax (f := 104) rfl ?_); refine goesL_ (some 13) rfl rfl Try.func104 (by kernel_rfl) rfl #[.int .i64 a1, .int .i64 0, .int .i64 1152921504606846976] rfl (Zl) ?_; (with_reducible refine (Qap.calls a1 0 1152921504606846976 t356 _ A8.out).mono ?_); rintro e w' ⟨rfl, ⟨nd, rfl⟩⟩; refine ⟨_, rfl, ?_⟩))
  (try simp only [Act.put, Zj, Zk, Zm])
  by_cases c9 : t356 = T
  ·subst c9
   have H1 : ((Qa0.f k a1 a0_3).bind fun bt357 => (some (bt357.1, bt357.2))) = some (r1, r2) := by rw [if_pos rfl] at H; exact H
   clear H
   have H := H1
   clear H1
   replace H := Option.bind_eq_some_iff.mp H
   obtain ⟨⟨t357, t358⟩, A100, H⟩ := H
   replace H : (some (t357, t358)) = some (r1, r2) := H
   have A10 := Aside0.mk A100
   clear A100
   simp only [Option.some.injEq, Prod.mk.injEq] at H
   obtain ⟨rfl, rfl⟩ := H
   obtain ⟨hcz11_0, hfz11_0⟩ := Zy (v := (.string a0_0)) BK354.out 0
   obtain ⟨hcz11_1, hfz11_1⟩ := Zy (v := (.int .i64 a0_1)) BK354.out 1
   obtain ⟨hcz11_2, hfz11_2⟩ := Zy (v := (.int .i64 a0_2)) BK354.out 2
   obtain ⟨hcz11_3, hfz11_3⟩ := Zy (v := (.int .i64 a0_3)) BK354.out 3
   obtain ⟨hcz11_4, hfz11_4⟩ := Zy (v := (.int .i64 a0_4)) BK354.out 4
   obtain ⟨hcz11_5, hfz11_5⟩ := Zy (v := (.int .i64 a0_5)) BK354.out 5
   go_wp2_with (first | ((with_reducible refine Qax (f := 105) rfl ?_); refine goesL_ (some 18) rfl rfl Try.func105 (by kernel_rfl) rfl #[.int .i64 a1, .int .i64 a0_3] rfl (Zl) ?_; (with_reducible refine (Qa0.calls k a1 a0_3 t357 t358 _ A10.out).mono ?_); rintro e w' ⟨rfl, ⟨nd, rfl⟩⟩; refine ⟨_, rfl, ?_⟩))
   go_ret2
   exact ⟨Zq, Zc1 GE354.out⟩
  replace c9 := Bool.eq_false_iff.mpr c9
  subst c9
  have H1 : (some (0, 18)) = some (r1, r2) := by rw [if_neg (show ¬ (F = T) by decide)] at H; exact H
  clear H
  have H := H1
  clear H1
  simp only [Option.some.injEq, Prod.mk.injEq] at H
  obtain ⟨rfl, rfl⟩ := H
  go_wp2
  go_ret2
  exact ⟨Zq, Zc1 GE354.out⟩
 rw [if_neg c7] at H
 have c7b0 : (t355 == 0) = F := beq_eq_false_iff_ne.mpr c7
 have c7b1 : (t355 != 0) = T := bne_iff_ne.mpr c7
 (try simp only [c7b0, c7b1])
 simp only [Option.some.injEq, Prod.mk.injEq] at H
 obtain ⟨rfl, rfl⟩ := H
 go_wp2
 go_ret2
 exact ⟨Zq, Zc1 GE354.out⟩
def QaS.l0 : Nat → List (S98) → ByteArray → Int → Option (Int × Bool)
 | 0, _, _, _ => none
 | k + 1, x0, x1, x6 => if x6 < (x0.length : Int) then (if 0 ≤ x6 then (if ((rd_T98 x0 x6).f0).toList = x1.toList then (some (x6, T)) else (QaS.l0 k x0 x1 (wrap64 (x6 + 1)))) else (none)) else (some (0, F))
def QaS.f (k : Nat) (l0 : List (S98)) (a1 : ByteArray) : Option (Int × Bool) := QaS.l0 k l0 a1 0
theorem QaS.mono_l : ∀ k, (∀ y0 y1 y2, LeO (QaS.l0 k y0 y1 y2) (QaS.l0 (k + 1) y0 y1 y2))
 | 0 => fun _ _ _ r h => by simp [QaS.l0] at h
 | k + 1 => by
  have ih0 := QaS.mono_l k
  intro y0 y1 y2
  unfold QaS.l0
  exact ZM1 ih0
theorem QaS.mono : ∀ a0 a1 k, LeO (QaS.f k a0 a1) (QaS.f (k + 1) a0 a1) := by
 intro a0 a1 k
 have ih0 := QaS.mono_l k
 unfold QaS.f
 exact ZM1 ih0
set_option maxHeartbeats 8000000 in
theorem QaS.calls (k : Nat) (A0 : Option Addr) (c0 : Nat) (l0 : List (S98)) (a1 : ByteArray) (r1 : Int) (r2 : Bool) (w : World) (hr0 : Kd.C k98 w A0 l0.length l0) (hc0 : l0.length ≤ c0) (h : QaS.f k l0 a1 = some (r1, r2)) :
  Calls Try.prog 128 #[.slice A0 l0.length c0, .string a1] w fun e w' => e = .returned (.tuple #[.int .i64 r1, .bool r2]) ∧ Drawn0 w w' := by
 have HR0 := Aside0.mk hr0
 have HC0 := Aside0.mk hc0
 clear hr0 hc0
 have H : (QaS.l0 k l0 a1 0) = some (r1, r2) := h
 clear h
 have H' := Aside0.mk H
 clear H
 go_enter Try.func128, Try.ntmps128
 go_wp2
 go_loopg [6] k (fun kq v6 w' => ∃ (x6_1 : Int), v6 = .int .i64 x6_1 ∧ Aside0 (QaS.l0 kq l0 a1 x6_1 = some (r1, r2)) ∧ Aside0 (kq ≤ k) ∧ Drawn0 w w')
 case atStart => exact ⟨(0), (Zs), H', ⟨Nat.le_refl _⟩, Zd⟩
 case round =>
  clear H'
  try clear c1
  try clear p2
  obtain ⟨x6_1, rfl, HA, HK1, ⟨m1, rfl⟩⟩ := hrel
  cases gk with
  | zero => exact absurd HA.out (by simp [QaS.l0])
  | succ k1 =>
   have H := HA.out
   clear HA
   simp only [QaS.l0] at H
   by_cases c3 : x6_1 < (l0.length : Int)
   ·rw [if_pos c3] at H
    have c3b0 : decide (x6_1 < (l0.length : Int)) = T := decide_eq_true c3
    clear c3
    (try simp only [c3b0])
    by_cases c4 : 0 ≤ x6_1
    ·rw [if_pos c4] at H
     have c4b0 : decide (0 ≤ x6_1) = T := decide_eq_true c4
     clear c4
     have p359 : 0 ≤ (x6_1 : Int) := Ze
     have q359 : x6_1 < (l0.length : Int) := Ze
     obtain ⟨ad359, e359, hx359_0, hx359_1⟩ := at_T98 HR0.out x6_1 p359 q359
     cases e359
     replace p359 := eq_true p359
     replace q359 := eq_true q359
     go_upto_if 19 with (fail)
     by_cases c5 : ((rd_T98 l0 x6_1).f0).toList = a1.toList
     ·rw [if_pos c5] at H
      have c5b0 : (((rd_T98 l0 x6_1).f0).toList == a1.toList) = T := beq_iff_eq.mpr c5
      have c5b1 : (((rd_T98 l0 x6_1).f0).toList != a1.toList) = F := bne_eq_false_iff_eq.mpr c5
      clear c5
      (try simp only [c5b0, c5b1])
      simp only [Option.some.injEq, Prod.mk.injEq] at H
      obtain ⟨rfl, rfl⟩ := H
      go_wp2
      go_ret2
      exact ⟨Zs, Zd⟩
     rw [if_neg c5] at H
     have c5b0 : (((rd_T98 l0 x6_1).f0).toList == a1.toList) = F := beq_eq_false_iff_ne.mpr c5
     have c5b1 : (((rd_T98 l0 x6_1).f0).toList != a1.toList) = T := bne_iff_ne.mpr c5
     (try simp only [c5b0, c5b1])
     have H' := Aside0.mk H
     clear H
     go_wp2
     go_roundg k1
     case measure => have := HK1.out; omega
     case rel => exact ⟨(wrap64 (x6_1 + 1)), (Zs), H', ⟨by have := HK1.out; omega⟩, Zd⟩
    rw [if_neg c4] at H
    exact absurd H (by simp)
   rw [if_neg c3] at H
   have c3b0 : decide (x6_1 < (l0.length : Int)) = F := decide_eq_false c3
   clear c3
   (try simp only [c3b0])
   simp only [Option.some.injEq, Prod.mk.injEq] at H
   obtain ⟨rfl, rfl⟩ := H
   go_wp2
   go_ret2
   exact ⟨Zs, Zd⟩
def Qbk.f (k : Nat) (a0_0 : ByteArray) (a0_1 : ByteArray) : Option (Bool) := (Qay.f k a0_0).bind fun t388 => (if t388 = T then ((Qay.f k a0_1).bind fun t389 => (some t389)) else (some F))
theorem Qbk.mono : ∀ a0 a1 k, LeO (Qbk.f k a0 a1) (Qbk.f (k + 1) a0 a1) := by
 intro a0 a1 k
 unfold Qbk.f
 exact ZM1 Qay.mono
set_option maxHeartbeats 8000000 in
theorem Qbk.calls (k : Nat) (a0_0 : ByteArray) (a0_1 : ByteArray) (r : Bool) (w : World) (h : Qbk.f k a0_0 a0_1 = some r) :
  Calls Try.prog 98 #[.agg #[.string a0_0, .string a0_1]] w fun e w' => e = .returned (.bool r) ∧ Below w.heap.size w w' := by
 have hu44 := Try.underlying44
 have HB := Aside0.mk (Below.refl w.heap.size w)
 have H : ((Qay.f k a0_0).bind fun t388 => (if t388 = T then ((Qay.f k a0_1).bind fun t389 => (some t389)) else (some F))) = some r := h
 clear h
 go_enter Try.func98, Try.ntmps98
 go_upto_region 1 with (first | ((with_reducible refine QaK (N := 1) rfl ?_); refine Zbx (N := 1) (cs := #[.string a0_0, .string a0_1]) (t := 44) ?_; intro gb387 hg w2 hbox hb; have BK387 := Aside0.mk (hbox); have GW387 := Aside0.mk (Zt w hg (Zb)); have GE387 := GW387; replace HB := Aside0.mk (Qan (Zb) hb); clear hb hbox hg))
 (try simp only [Act.put, Zj, Zk, Zm])
 replace H := Option.bind_eq_some_iff.mp H
 obtain ⟨t388, A30, H⟩ := H
 replace H : (if t388 = T then ((Qay.f k a0_1).bind fun t389 => (some t389)) else (some F)) = some r := H
 have A3 := Aside0.mk A30
 clear A30
 by_cases c4 : t388 = T
 ·subst c4
  have H1 : ((Qay.f k a0_1).bind fun t389 => (some t389)) = some r := by rw [if_pos rfl] at H; exact H
  clear H
  have H := H1
  clear H1
  replace H := Option.bind_eq_some_iff.mp H
  obtain ⟨t389, A50, H⟩ := H
  replace H : (some t389) = some r := H
  have A5 := Aside0.mk A50
  clear A50
  obtain rfl := Option.some.inj H
  obtain ⟨hcz6_0, hfz6_0⟩ := Zy (v := (.string a0_0)) BK387.out 0
  obtain ⟨hcz6_1, hfz6_1⟩ := Zy (v := (.string a0_1)) BK387.out 1
  go_wp2_with (first | ((with_reducible refine Qax (f := 99) rfl ?_); refine goesL_ (some 5) rfl rfl Try.func99 (by kernel_rfl) rfl #[.string a0_0] rfl (Zl) ?_; (with_reducible refine (Qay.calls k a0_0 T _ A3.out).mono ?_); rintro e w' ⟨rfl, ⟨nd, rfl⟩⟩; refine ⟨_, rfl, ?_⟩) | (go_at_call 99; (with_reducible refine (Qay.calls k a0_1 t389 _ A5.out).mono ?_); rintro e w' ⟨rfl, ⟨nd, rfl⟩⟩))
  go_ret
  exact ⟨Zq, Zc1 GE387.out⟩
 replace c4 := Bool.eq_false_iff.mpr c4
 subst c4
 have H1 : (some F) = some r := by rw [if_neg (show ¬ (F = T) by decide)] at H; exact H
 clear H
 have H := H1
 clear H1
 obtain rfl := Option.some.inj H
 obtain ⟨hcz7_0, hfz7_0⟩ := Zy (v := (.string a0_0)) BK387.out 0
 obtain ⟨hcz7_1, hfz7_1⟩ := Zy (v := (.string a0_1)) BK387.out 1
 go_wp2_with (first | ((with_reducible refine Qax (f := 99) rfl ?_); refine goesL_ (some 5) rfl rfl Try.func99 (by kernel_rfl) rfl #[.string a0_0] rfl (Zl) ?_; (with_reducible refine (Qay.calls k a0_0 F _ A3.out).mono ?_); rintro e w' ⟨rfl, ⟨nd, rfl⟩⟩; refine ⟨_, rfl, ?_⟩))
 go_ret
 exact ⟨Zq, Zc1 GE387.out⟩
end Go.Proofs.Ytfcaaefdmabkhaa.Pr
