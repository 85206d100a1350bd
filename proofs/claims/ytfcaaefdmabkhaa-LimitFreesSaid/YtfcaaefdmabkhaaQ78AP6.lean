/- Functions' values and contracts, as the print wrote them. -/
import Derived.Test.YtfcaaefdmabkhaaQ78AP0
import Derived.Test.YtfcaaefdmabkhaaQ78AP4
import Derived.Test.YtfcaaefdmabkhaaQ78AP3
import Derived.Test.YtfcaaefdmabkhaaQ78AP5
namespace Go.Proofs.Ytfcaaefdmabkhaa.Pr
open Bool renaming true → T
open Bool renaming false → F
open Go.RowKit Go.Proofs.YtfcaaefdmabkhaaW.PrintWords Go.Proofs.YtfcaaefdmabkhaaW.PrintLast Go.Proofs.YtfcaaefdmabkhaaW.PrintMore
attribute [local go_sem] QaS QaU Qa0 Qa1 QaM QaN QaT QaV   -- for this text's walks alone
set_option linter.unusedVariables false
set_option linter.unusedSimpArgs false
set_option maxRecDepth 100000
set_option maxHeartbeats 8000000
theorem Qcq (d : Nat) (w : World) (x0 x1 x2 x3 y0 y1 y2 y3 : Int) : (Op.equalIn (d + 2) 74 (.agg #[.int .i64 x0, .int .i64 x1, .int .i64 x2, .int .i64 x3]) (.agg #[.int .i64 y0, .int .i64 y1, .int .i64 y2, .int .i64 y3])).run Try.prog w = .ok (x0 == y0 && (x1 == y1 && (x2 == y2 && (x3 == y3)))) w := by
 have hs : (sizeOf 3 : Sem Nat).run Try.prog w = .ok 1 w := by go_simp
 have he : ∀ a b : Int, (Op.equalIn (d + 1) 3 (.int .i64 a) (.int .i64 b)).run Try.prog w = .ok (a == b) w := fun a b => by go_simp
 have p0 : ∀ (z0 z1 z2 z3 : Int), (part 3 #[.int .i64 z0, .int .i64 z1, .int .i64 z2, .int .i64 z3] 0).run Try.prog w = .ok (.int .i64 z0) w := fun z0 z1 z2 z3 => by go_simp
 have p1 : ∀ (z0 z1 z2 z3 : Int), (part 3 #[.int .i64 z0, .int .i64 z1, .int .i64 z2, .int .i64 z3] 1).run Try.prog w = .ok (.int .i64 z1) w := fun z0 z1 z2 z3 => by go_simp
 have p2 : ∀ (z0 z1 z2 z3 : Int), (part 3 #[.int .i64 z0, .int .i64 z1, .int .i64 z2, .int .i64 z3] 2).run Try.prog w = .ok (.int .i64 z2) w := fun z0 z1 z2 z3 => by go_simp
 have p3 : ∀ (z0 z1 z2 z3 : Int), (part 3 #[.int .i64 z0, .int .i64 z1, .int .i64 z2, .int .i64 z3] 3).run Try.prog w = .ok (.int .i64 z3) w := fun z0 z1 z2 z3 => by go_simp
 show (Op.equalIn ((d + 1) + 1) 74 _ _).run Try.prog w = _
 revert he
 generalize d + 1 = D
 intro he
 simp only [Op.equalIn, Sem.run_bind, run_underlying Try.underlying74, Result.andThen_ok, hs]
 simp only [Std.Legacy.Range.forIn_eq_forIn_range', Std.Legacy.Range.size, Nat.sub_zero, Nat.add_one_sub_one, Nat.div_one, List.range', List.forIn_cons, List.forIn_nil, Nat.mul_one, Nat.zero_add, Nat.reduceAdd, Sem.run_bind, p0, p1, p2, p3, he, Result.andThen_ok]
 cases h0 : (x0 == y0) <;> cases h1 : (x1 == y1) <;> cases h2 : (x2 == y2) <;> cases h3 : (x3 == y3) <;> simp [p0, p1, p2, p3, he, h0, h1, h2, h3]
attribute [local go_sem] Qcq
def QaI.f (k : Nat)  : Option (Bool) := (some (([(⟨(⟨#[99, 97, 115, 104]⟩ : ByteArray), 1, 0, 1, 0, 1000⟩ : S84), (⟨(⟨#[103, 111, 108, 100]⟩ : ByteArray), 3, 0, 1, 0, 300⟩ : S84)] : List (S84)) : List (S84))).bind fun y702 => ((some (([(⟨(⟨#[117, 115, 100]⟩ : ByteArray), 1000000⟩ : S98)] : List (S98)) : List (S98))).bind fun y705 => ((some (([(⟨(⟨(⟨#[97, 108, 102, 97]⟩ : ByteArray), (⟨#[104, 111, 117, 115, 101]⟩ : ByteArray)⟩ : S44), (⟨#[99, 97, 115, 104]⟩ : ByteArray), 800⟩ : S46), (⟨(⟨(⟨#[97, 108, 102, 97]⟩ : ByteArray), (⟨#[104, 111, 117, 115, 101]⟩ : ByteArray)⟩ : S44), (⟨#[103, 111, 108, 100]⟩ : ByteArray), 900⟩ : S46)] : List (S46)) : List (S46))).bind fun y708 => ((Qav.f k y708 (⟨#[97, 108, 102, 97]⟩ : ByteArray) (⟨#[104, 111, 117, 115, 101]⟩ : ByteArray) 1000 y702 y705).bind fun bt711 => ((QaO.f k y708 (⟨#[97, 108, 102, 97]⟩ : ByteArray) (⟨#[104, 111, 117, 115, 101]⟩ : ByteArray) 1000 y702 y705).bind fun bt715 => ((QaC.f k y708 (⟨#[97, 108, 102, 97]⟩ : ByteArray) (⟨#[104, 111, 117, 115, 101]⟩ : ByteArray) (⟨#[99, 97, 115, 104]⟩ : ByteArray) 1000 y702 y705).bind fun bt717 => ((QaC.f k y708 (⟨#[97, 108, 102, 97]⟩ : ByteArray) (⟨#[104, 111, 117, 115, 101]⟩ : ByteArray) (⟨#[103, 111, 108, 100]⟩ : ByteArray) 1000 y702 y705).bind fun bt719 => ((QaX.f k y708 (⟨#[97, 108, 102, 97]⟩ : ByteArray) (⟨#[104, 111, 117, 115, 101]⟩ : ByteArray) y702 y705).bind fun bt721 => (if bt711.2 = 0 then (if bt715.2 = 0 then (if bt717.2 = 0 then (if bt719.2 = 0 then (if bt721.2.2.2.2 = 0 then ((QaD.f k bt711.1 (([800, 300] : List Int))).bind fun t730 => (if t730 = T then (if bt715.1 = 1100 then (if bt717.1 = 100 then (if bt719.1 = 700 then (if bt721.1 = 0 then (if bt721.2.1 = 800 then (if bt721.2.2.1 = 0 then (if bt721.2.2.2.1 = 900 then (some T) else (some F)) else (some F)) else (some F)) else (some F)) else (some F)) else (some F)) else (some F)) else (some F))) else (some F)) else (some F)) else (some F)) else (some F)) else (some F)))))))))
theorem QaI.mono : ∀ k, LeO (QaI.f k ) (QaI.f (k + 1) ) := by
 intro  k
 unfold QaI.f
 exact ZM5 QaD.mono Qav.mono QaO.mono QaC.mono QaX.mono
theorem QaI.calls (k : Nat)  (r : Bool) (w : World) (h : QaI.f k  = some r) :
  Calls Try.prog 27 #[] w fun e w' => e = .returned (.bool r) ∧ Below w.heap.size w w' := by
 have hu44 := Try.underlying44
 have hu84 := Try.underlying84
 have hu98 := Try.underlying98
 have hu46 := Try.underlying46
 have hu74 := Try.underlying74
 have HB := Aside0.mk (Below.refl w.heap.size w)
 have H : ((some (([(⟨(⟨#[99, 97, 115, 104]⟩ : ByteArray), 1, 0, 1, 0, 1000⟩ : S84), (⟨(⟨#[103, 111, 108, 100]⟩ : ByteArray), 3, 0, 1, 0, 300⟩ : S84)] : List (S84)) : List (S84))).bind fun y702 => ((some (([(⟨(⟨#[117, 115, 100]⟩ : ByteArray), 1000000⟩ : S98)] : List (S98)) : List (S98))).bind fun y705 => ((some (([(⟨(⟨(⟨#[97, 108, 102, 97]⟩ : ByteArray), (⟨#[104, 111, 117, 115, 101]⟩ : ByteArray)⟩ : S44), (⟨#[99, 97, 115, 104]⟩ : ByteArray), 800⟩ : S46), (⟨(⟨(⟨#[97, 108, 102, 97]⟩ : ByteArray), (⟨#[104, 111, 117, 115, 101]⟩ : ByteArray)⟩ : S44), (⟨#[103, 111, 108, 100]⟩ : ByteArray), 900⟩ : S46)] : List (S46)) : List (S46))).bind fun y708 => ((Qav.f k y708 (⟨#[97, 108, 102, 97]⟩ : ByteArray) (⟨#[104, 111, 117, 115, 101]⟩ : ByteArray) 1000 y702 y705).bind fun bt711 => ((QaO.f k y708 (⟨#[97, 108, 102, 97]⟩ : ByteArray) (⟨#[104, 111, 117, 115, 101]⟩ : ByteArray) 1000 y702 y705).bind fun bt715 => ((QaC.f k y708 (⟨#[97, 108, 102, 97]⟩ : ByteArray) (⟨#[104, 111, 117, 115, 101]⟩ : ByteArray) (⟨#[99, 97, 115, 104]⟩ : ByteArray) 1000 y702 y705).bind fun bt717 => ((QaC.f k y708 (⟨#[97, 108, 102, 97]⟩ : ByteArray) (⟨#[104, 111, 117, 115, 101]⟩ : ByteArray) (⟨#[103, 111, 108, 100]⟩ : ByteArray) 1000 y702 y705).bind fun bt719 => ((QaX.f k y708 (⟨#[97, 108, 102, 97]⟩ : ByteArray) (⟨#[104, 111, 117, 115, 101]⟩ : ByteArray) y702 y705).bind fun bt721 => (if bt711.2 = 0 then (if bt715.2 = 0 then (if bt717.2 = 0 then (if bt719.2 = 0 then (if bt721.2.2.2.2 = 0 then ((QaD.f k bt711.1 (([800, 300] : List Int))).bind fun t730 => (if t730 = T then (if bt715.1 = 1100 then (if bt717.1 = 100 then (if bt719.1 = 700 then (if bt721.1 = 0 then (if bt721.2.1 = 800 then (if bt721.2.2.1 = 0 then (if bt721.2.2.2.1 = 900 then (some T) else (some F)) else (some F)) else (some F)) else (some F)) else (some F)) else (some F)) else (some F)) else (some F))) else (some F)) else (some F)) else (some F)) else (some F)) else (some F)))))))))) = some r := h
 clear h
 obtain ⟨y702, hy702⟩ : ∃ y_ : List (S84), y_ = (([(⟨(⟨#[99, 97, 115, 104]⟩ : ByteArray), 1, 0, 1, 0, 1000⟩ : S84), (⟨(⟨#[103, 111, 108, 100]⟩ : ByteArray), 3, 0, 1, 0, 300⟩ : S84)] : List (S84))) := ⟨_, rfl⟩
 replace H : ((some (([(⟨(⟨#[117, 115, 100]⟩ : ByteArray), 1000000⟩ : S98)] : List (S98)) : List (S98))).bind fun y705 => ((some (([(⟨(⟨(⟨#[97, 108, 102, 97]⟩ : ByteArray), (⟨#[104, 111, 117, 115, 101]⟩ : ByteArray)⟩ : S44), (⟨#[99, 97, 115, 104]⟩ : ByteArray), 800⟩ : S46), (⟨(⟨(⟨#[97, 108, 102, 97]⟩ : ByteArray), (⟨#[104, 111, 117, 115, 101]⟩ : ByteArray)⟩ : S44), (⟨#[103, 111, 108, 100]⟩ : ByteArray), 900⟩ : S46)] : List (S46)) : List (S46))).bind fun y708 => ((Qav.f k y708 (⟨#[97, 108, 102, 97]⟩ : ByteArray) (⟨#[104, 111, 117, 115, 101]⟩ : ByteArray) 1000 y702 y705).bind fun bt711 => ((QaO.f k y708 (⟨#[97, 108, 102, 97]⟩ : ByteArray) (⟨#[104, 111, 117, 115, 101]⟩ : ByteArray) 1000 y702 y705).bind fun bt715 => ((QaC.f k y708 (⟨#[97, 108, 102, 97]⟩ : ByteArray) (⟨#[104, 111, 117, 115, 101]⟩ : ByteArray) (⟨#[99, 97, 115, 104]⟩ : ByteArray) 1000 y702 y705).bind fun bt717 => ((QaC.f k y708 (⟨#[97, 108, 102, 97]⟩ : ByteArray) (⟨#[104, 111, 117, 115, 101]⟩ : ByteArray) (⟨#[103, 111, 108, 100]⟩ : ByteArray) 1000 y702 y705).bind fun bt719 => ((QaX.f k y708 (⟨#[97, 108, 102, 97]⟩ : ByteArray) (⟨#[104, 111, 117, 115, 101]⟩ : ByteArray) y702 y705).bind fun bt721 => (if bt711.2 = 0 then (if bt715.2 = 0 then (if bt717.2 = 0 then (if bt719.2 = 0 then (if bt721.2.2.2.2 = 0 then ((QaD.f k bt711.1 (([800, 300] : List Int))).bind fun t730 => (if t730 = T then (if bt715.1 = 1100 then (if bt717.1 = 100 then (if bt719.1 = 700 then (if bt721.1 = 0 then (if bt721.2.1 = 800 then (if bt721.2.2.1 = 0 then (if bt721.2.2.2.1 = 900 then (some T) else (some F)) else (some F)) else (some F)) else (some F)) else (some F)) else (some F)) else (some F)) else (some F))) else (some F)) else (some F)) else (some F)) else (some F)) else (some F))))))))) = some r := by first | (rw [hy702]; with_reducible exact H) | (have H2_ := (Option.bind_some _ _).symm.trans H; rw [hy702]; with_reducible exact H2_) | (have H2_ := (Option.bind_some _ _).symm.trans H; with_reducible exact H2_) | with_reducible exact H | (rw [hy702]; exact H) | exact H
 have Ny702 := Aside0.mk hy702
 clear hy702
 obtain ⟨y705, hy705⟩ : ∃ y_ : List (S98), y_ = (([(⟨(⟨#[117, 115, 100]⟩ : ByteArray), 1000000⟩ : S98)] : List (S98))) := ⟨_, rfl⟩
 replace H : ((some (([(⟨(⟨(⟨#[97, 108, 102, 97]⟩ : ByteArray), (⟨#[104, 111, 117, 115, 101]⟩ : ByteArray)⟩ : S44), (⟨#[99, 97, 115, 104]⟩ : ByteArray), 800⟩ : S46), (⟨(⟨(⟨#[97, 108, 102, 97]⟩ : ByteArray), (⟨#[104, 111, 117, 115, 101]⟩ : ByteArray)⟩ : S44), (⟨#[103, 111, 108, 100]⟩ : ByteArray), 900⟩ : S46)] : List (S46)) : List (S46))).bind fun y708 => ((Qav.f k y708 (⟨#[97, 108, 102, 97]⟩ : ByteArray) (⟨#[104, 111, 117, 115, 101]⟩ : ByteArray) 1000 y702 y705).bind fun bt711 => ((QaO.f k y708 (⟨#[97, 108, 102, 97]⟩ : ByteArray) (⟨#[104, 111, 117, 115, 101]⟩ : ByteArray) 1000 y702 y705).bind fun bt715 => ((QaC.f k y708 (⟨#[97, 108, 102, 97]⟩ : ByteArray) (⟨#[104, 111, 117, 115, 101]⟩ : ByteArray) (⟨#[99, 97, 115, 104]⟩ : ByteArray) 1000 y702 y705).bind fun bt717 => ((QaC.f k y708 (⟨#[97, 108, 102, 97]⟩ : ByteArray) (⟨#[104, 111, 117, 115, 101]⟩ : ByteArray) (⟨#[103, 111, 108, 100]⟩ : ByteArray) 1000 y702 y705).bind fun bt719 => ((QaX.f k y708 (⟨#[97, 108, 102, 97]⟩ : ByteArray) (⟨#[104, 111, 117, 115, 101]⟩ : ByteArray) y702 y705).bind fun bt721 => (if bt711.2 = 0 then (if bt715.2 = 0 then (if bt717.2 = 0 then (if bt719.2 = 0 then (if bt721.2.2.2.2 = 0 then ((QaD.f k bt711.1 (([800, 300] : List Int))).bind fun t730 => (if t730 = T then (if bt715.1 = 1100 then (if bt717.1 = 100 then (if bt719.1 = 700 then (if bt721.1 = 0 then (if bt721.2.1 = 800 then (if bt721.2.2.1 = 0 then (if bt721.2.2.2.1 = 900 then (some T) else (some F)) else (some F)) else (some F)) else (some F)) else (some F)) else (some F)) else (some F)) else (some F))) else (some F)) else (some F)) else (some F)) else (some F)) else (some F)))))))) = some r := by first | (rw [hy705]; with_reducible exact H) | (have H2_ := (Option.bind_some _ _).symm.trans H; rw [hy705]; with_reducible exact H2_) | (have H2_ := (Option.bind_some _ _).symm.trans H; with_reducible exact H2_) | with_reducible exact H | (rw [hy705]; exact H) | exact H
 have Ny705 := Aside0.mk hy705
 clear hy705
 obtain ⟨y708, hy708⟩ : ∃ y_ : List (S46), y_ = (([(⟨(⟨(⟨#[97, 108, 102, 97]⟩ : ByteArray), (⟨#[104, 111, 117, 115, 101]⟩ : ByteArray)⟩ : S44), (⟨#[99, 97, 115, 104]⟩ : ByteArray), 800⟩ : S46), (⟨(⟨(⟨#[97, 108, 102, 97]⟩ : ByteArray), (⟨#[104, 111, 117, 115, 101]⟩ : ByteArray)⟩ : S44), (⟨#[103, 111, 108, 100]⟩ : ByteArray), 900⟩ : S46)] : List (S46))) := ⟨_, rfl⟩
 replace H : ((Qav.f k y708 (⟨#[97, 108, 102, 97]⟩ : ByteArray) (⟨#[104, 111, 117, 115, 101]⟩ : ByteArray) 1000 y702 y705).bind fun bt711 => ((QaO.f k y708 (⟨#[97, 108, 102, 97]⟩ : ByteArray) (⟨#[104, 111, 117, 115, 101]⟩ : ByteArray) 1000 y702 y705).bind fun bt715 => ((QaC.f k y708 (⟨#[97, 108, 102, 97]⟩ : ByteArray) (⟨#[104, 111, 117, 115, 101]⟩ : ByteArray) (⟨#[99, 97, 115, 104]⟩ : ByteArray) 1000 y702 y705).bind fun bt717 => ((QaC.f k y708 (⟨#[97, 108, 102, 97]⟩ : ByteArray) (⟨#[104, 111, 117, 115, 101]⟩ : ByteArray) (⟨#[103, 111, 108, 100]⟩ : ByteArray) 1000 y702 y705).bind fun bt719 => ((QaX.f k y708 (⟨#[97, 108, 102, 97]⟩ : ByteArray) (⟨#[104, 111, 117, 115, 101]⟩ : ByteArray) y702 y705).bind fun bt721 => (if bt711.2 = 0 then (if bt715.2 = 0 then (if bt717.2 = 0 then (if bt719.2 = 0 then (if bt721.2.2.2.2 = 0 then ((QaD.f k bt711.1 (([800, 300] : List Int))).bind fun t730 => (if t730 = T then (if bt715.1 = 1100 then (if bt717.1 = 100 then (if bt719.1 = 700 then (if bt721.1 = 0 then (if bt721.2.1 = 800 then (if bt721.2.2.1 = 0 then (if bt721.2.2.2.1 = 900 then (some T) else (some F)) else (some F)) else (some F)) else (some F)) else (some F)) else (some F)) else (some F)) else (some F))) else (some F)) else (some F)) else (some F)) else (some F)) else (some F))))))) = some r := by first | (rw [hy708]; with_reducible exact H) | (have H2_ := (Option.bind_some _ _).symm.trans H; rw [hy708]; with_reducible exact H2_) | (have H2_ := (Option.bind_some _ _).symm.trans H; with_reducible exact H2_) | with_reducible exact H | (rw [hy708]; exact H) | exact H
 have Ny708 := Aside0.mk hy708
 clear hy708
 replace H := Option.bind_eq_some_iff.mp H
 obtain ⟨⟨t711, t714⟩, A10, H⟩ := H
 replace H : ((QaO.f k y708 (⟨#[97, 108, 102, 97]⟩ : ByteArray) (⟨#[104, 111, 117, 115, 101]⟩ : ByteArray) 1000 y702 y705).bind fun bt715 => ((QaC.f k y708 (⟨#[97, 108, 102, 97]⟩ : ByteArray) (⟨#[104, 111, 117, 115, 101]⟩ : ByteArray) (⟨#[99, 97, 115, 104]⟩ : ByteArray) 1000 y702 y705).bind fun bt717 => ((QaC.f k y708 (⟨#[97, 108, 102, 97]⟩ : ByteArray) (⟨#[104, 111, 117, 115, 101]⟩ : ByteArray) (⟨#[103, 111, 108, 100]⟩ : ByteArray) 1000 y702 y705).bind fun bt719 => ((QaX.f k y708 (⟨#[97, 108, 102, 97]⟩ : ByteArray) (⟨#[104, 111, 117, 115, 101]⟩ : ByteArray) y702 y705).bind fun bt721 => (if t714 = 0 then (if bt715.2 = 0 then (if bt717.2 = 0 then (if bt719.2 = 0 then (if bt721.2.2.2.2 = 0 then ((QaD.f k t711 (([800, 300] : List Int))).bind fun t730 => (if t730 = T then (if bt715.1 = 1100 then (if bt717.1 = 100 then (if bt719.1 = 700 then (if bt721.1 = 0 then (if bt721.2.1 = 800 then (if bt721.2.2.1 = 0 then (if bt721.2.2.2.1 = 900 then (some T) else (some F)) else (some F)) else (some F)) else (some F)) else (some F)) else (some F)) else (some F)) else (some F))) else (some F)) else (some F)) else (some F)) else (some F)) else (some F)))))) = some r := H
 have A1 := Aside0.mk A10
 clear A10
 replace H := Option.bind_eq_some_iff.mp H
 obtain ⟨⟨t715, t716⟩, A20, H⟩ := H
 replace H : ((QaC.f k y708 (⟨#[97, 108, 102, 97]⟩ : ByteArray) (⟨#[104, 111, 117, 115, 101]⟩ : ByteArray) (⟨#[99, 97, 115, 104]⟩ : ByteArray) 1000 y702 y705).bind fun bt717 => ((QaC.f k y708 (⟨#[97, 108, 102, 97]⟩ : ByteArray) (⟨#[104, 111, 117, 115, 101]⟩ : ByteArray) (⟨#[103, 111, 108, 100]⟩ : ByteArray) 1000 y702 y705).bind fun bt719 => ((QaX.f k y708 (⟨#[97, 108, 102, 97]⟩ : ByteArray) (⟨#[104, 111, 117, 115, 101]⟩ : ByteArray) y702 y705).bind fun bt721 => (if t714 = 0 then (if t716 = 0 then (if bt717.2 = 0 then (if bt719.2 = 0 then (if bt721.2.2.2.2 = 0 then ((QaD.f k t711 (([800, 300] : List Int))).bind fun t730 => (if t730 = T then (if t715 = 1100 then (if bt717.1 = 100 then (if bt719.1 = 700 then (if bt721.1 = 0 then (if bt721.2.1 = 800 then (if bt721.2.2.1 = 0 then (if bt721.2.2.2.1 = 900 then (some T) else (some F)) else (some F)) else (some F)) else (some F)) else (some F)) else (some F)) else (some F)) else (some F))) else (some F)) else (some F)) else (some F)) else (some F)) else (some F))))) = some r := H
 have A2 := Aside0.mk A20
 clear A20
 replace H := Option.bind_eq_some_iff.mp H
 obtain ⟨⟨t717, t718⟩, A30, H⟩ := H
 replace H : ((QaC.f k y708 (⟨#[97, 108, 102, 97]⟩ : ByteArray) (⟨#[104, 111, 117, 115, 101]⟩ : ByteArray) (⟨#[103, 111, 108, 100]⟩ : ByteArray) 1000 y702 y705).bind fun bt719 => ((QaX.f k y708 (⟨#[97, 108, 102, 97]⟩ : ByteArray) (⟨#[104, 111, 117, 115, 101]⟩ : ByteArray) y702 y705).bind fun bt721 => (if t714 = 0 then (if t716 = 0 then (if t718 = 0 then (if bt719.2 = 0 then (if bt721.2.2.2.2 = 0 then ((QaD.f k t711 (([800, 300] : List Int))).bind fun t730 => (if t730 = T then (if t715 = 1100 then (if t717 = 100 then (if bt719.1 = 700 then (if bt721.1 = 0 then (if bt721.2.1 = 800 then (if bt721.2.2.1 = 0 then (if bt721.2.2.2.1 = 900 then (some T) else (some F)) else (some F)) else (some F)) else (some F)) else (some F)) else (some F)) else (some F)) else (some F))) else (some F)) else (some F)) else (some F)) else (some F)) else (some F)))) = some r := H
 have A3 := Aside0.mk A30
 clear A30
 replace H := Option.bind_eq_some_iff.mp H
 obtain ⟨⟨t719, t720⟩, A40, H⟩ := H
 replace H : ((QaX.f k y708 (⟨#[97, 108, 102, 97]⟩ : ByteArray) (⟨#[104, 111, 117, 115, 101]⟩ : ByteArray) y702 y705).bind fun bt721 => (if t714 = 0 then (if t716 = 0 then (if t718 = 0 then (if t720 = 0 then (if bt721.2.2.2.2 = 0 then ((QaD.f k t711 (([800, 300] : List Int))).bind fun t730 => (if t730 = T then (if t715 = 1100 then (if t717 = 100 then (if t719 = 700 then (if bt721.1 = 0 then (if bt721.2.1 = 800 then (if bt721.2.2.1 = 0 then (if bt721.2.2.2.1 = 900 then (some T) else (some F)) else (some F)) else (some F)) else (some F)) else (some F)) else (some F)) else (some F)) else (some F))) else (some F)) else (some F)) else (some F)) else (some F)) else (some F))) = some r := H
 have A4 := Aside0.mk A40
 clear A40
 replace H := Option.bind_eq_some_iff.mp H
 obtain ⟨⟨t721, t722, t723, t724, t725⟩, A50, H⟩ := H
 replace H : (if t714 = 0 then (if t716 = 0 then (if t718 = 0 then (if t720 = 0 then (if t725 = 0 then ((QaD.f k t711 (([800, 300] : List Int))).bind fun t730 => (if t730 = T then (if t715 = 1100 then (if t717 = 100 then (if t719 = 700 then (if t721 = 0 then (if t722 = 800 then (if t723 = 0 then (if t724 = 900 then (some T) else (some F)) else (some F)) else (some F)) else (some F)) else (some F)) else (some F)) else (some F)) else (some F))) else (some F)) else (some F)) else (some F)) else (some F)) else (some F)) = some r := H
 have A5 := Aside0.mk A50
 clear A50
 go_enter Try.func27, Try.ntmps27
 go_upto_region 10 with (first | ((with_reducible refine QaG (N := 1) rfl ?_); (try (refine Qbs (by rfl) ?_; dsimp only)); refine Zbx (N := 1) (cs := #[.string (⟨#[]⟩ : ByteArray), .string (⟨#[]⟩ : ByteArray)]) (t := 44) ?_; intro gb701 hg w6 hbox hb; have BK701 := Aside0.mk (hbox); have GW701 := Aside0.mk (Zt w hg (Zb)); have GE701 := GW701; replace HB := Aside0.mk (Qao (Zb) hb); clear hb hbox hg; obtain ⟨hcz7_0, hfz7_0⟩ := Zy (v := (.string (⟨#[]⟩ : ByteArray))) BK701.out 0; obtain ⟨hcz7_1, hfz7_1⟩ := Zy (v := (.string (⟨#[]⟩ : ByteArray))) BK701.out 1) | ((with_reducible refine QaG (N := 18) rfl ?_); (try (refine Qbs (by rfl) ?_; dsimp only)); refine Kd.R_lit k84 _ 84 ?hg (N := 18) ?hd (xs := ([(⟨(⟨#[99, 97, 115, 104]⟩ : ByteArray), 1, 0, 1, 0, 1000⟩ : S84), (⟨(⟨#[103, 111, 108, 100]⟩ : ByteArray), 3, 0, 1, 0, 300⟩ : S84)] : List (S84))) (inner := [.string (⟨#[99, 97, 115, 104]⟩ : ByteArray), .int .i64 1, .int .i64 0, .int .i64 1, .int .i64 0, .int .i64 1000, .string (⟨#[103, 111, 108, 100]⟩ : ByteArray), .int .i64 3, .int .i64 0, .int .i64 1, .int .i64 0, .int .i64 300]) (ok := fun _ => True) (okp := fun _ => True) ?hr ?hp (fun _ hk => hk) trivial (Below.refl _ _) (Nat.le_refl _) (by simp) ?_; (case hd => rfl); (case hg => rfl); (case hr => first | (go_simp; done) | (go_simp; rfl)); (case hp => exact (Reps.c6 (show Kd.M k84 _ _ _ (⟨(⟨#[99, 97, 115, 104]⟩ : ByteArray), 1, 0, 1, 0, 1000⟩ : S84) [.string (⟨#[99, 97, 115, 104]⟩ : ByteArray), .int .i64 1, .int .i64 0, .int .i64 1, .int .i64 0, .int .i64 1000] from (Qeo _ _ _ (⟨(⟨#[99, 97, 115, 104]⟩ : ByteArray), 1, 0, 1, 0, 1000⟩ : S84) )) (Reps.c6 (show Kd.M k84 _ _ _ (⟨(⟨#[103, 111, 108, 100]⟩ : ByteArray), 3, 0, 1, 0, 300⟩ : S84) [.string (⟨#[103, 111, 108, 100]⟩ : ByteArray), .int .i64 3, .int .i64 0, .int .i64 1, .int .i64 0, .int .i64 300] from (Qeo _ _ _ (⟨(⟨#[103, 111, 108, 100]⟩ : ByteArray), 3, 0, 1, 0, 300⟩ : S84) )) (Reps.none _ _)))); intro v703 w8 ho9 hb hg_ hnew_; clear hg_ hnew_; (first | rw [← Ny702.out] at ho9 | (simp only [Int.reduceToNat] at ho9; rw [← Ny702.out] at ho9)); have HO704 := Aside0.mk (Kd.R_lower ho9 (Qam (Zc1 GE701.out))); replace BK701 := Aside0.mk (Zpi #[.string (⟨#[97, 108, 102, 97]⟩ : ByteArray), .string (⟨#[104, 111, 117, 115, 101]⟩ : ByteArray)] BK701.out hb); replace HB := Aside0.mk (Qao (Zc1 GE701.out) hb); clear hb ho9) | ((with_reducible refine QaG (N := 20) rfl ?_); (try (refine Qbs (by rfl) ?_; dsimp only)); refine Kd.R_lit k98 _ 98 ?hg (N := 20) ?hd (xs := ([(⟨(⟨#[117, 115, 100]⟩ : ByteArray), 1000000⟩ : S98)] : List (S98))) (inner := [.string (⟨#[117, 115, 100]⟩ : ByteArray), .int .i64 1000000]) (ok := fun _ => True) (okp := fun _ => True) ?hr ?hp (fun _ hk => hk) trivial (Below.refl _ _) (Nat.le_refl _) (by simp) ?_; (case hd => rfl); (case hg => rfl); (case hr => first | (go_simp; done) | (go_simp; rfl)); (case hp => exact (Reps.c2 (show Kd.M k98 _ _ _ (⟨(⟨#[117, 115, 100]⟩ : ByteArray), 1000000⟩ : S98) [.string (⟨#[117, 115, 100]⟩ : ByteArray), .int .i64 1000000] from (Qf8 _ _ _ (⟨(⟨#[117, 115, 100]⟩ : ByteArray), 1000000⟩ : S98) )) (Reps.none _ _))); intro v706 w10 ho11 hb hg_ hnew_; clear hg_ hnew_; (first | rw [← Ny705.out] at ho11 | (simp only [Int.reduceToNat] at ho11; rw [← Ny705.out] at ho11)); have HO707 := Aside0.mk (Kd.R_lower ho11 (Qam (Zc1 GE701.out))); replace HO704 := Aside0.mk (Kd.R_below (Zr HO704.out) hb); replace BK701 := Aside0.mk (Zi BK701.out hb); replace HB := Aside0.mk (Qao (Zc1 GE701.out) hb); clear hb ho11; obtain ⟨hcz12_0, hfz12_0⟩ := Zy (v := (.string (⟨#[97, 108, 102, 97]⟩ : ByteArray))) BK701.out 0; obtain ⟨hcz12_1, hfz12_1⟩ := Zy (v := (.string (⟨#[104, 111, 117, 115, 101]⟩ : ByteArray))) BK701.out 1) | ((with_reducible refine QaG (N := 25) rfl ?_); (try (refine Qbs (by rfl) ?_; dsimp only)); refine Kd.R_lit k46 _ 46 ?hg (N := 25) ?hd (xs := ([(⟨(⟨(⟨#[97, 108, 102, 97]⟩ : ByteArray), (⟨#[104, 111, 117, 115, 101]⟩ : ByteArray)⟩ : S44), (⟨#[99, 97, 115, 104]⟩ : ByteArray), 800⟩ : S46), (⟨(⟨(⟨#[97, 108, 102, 97]⟩ : ByteArray), (⟨#[104, 111, 117, 115, 101]⟩ : ByteArray)⟩ : S44), (⟨#[103, 111, 108, 100]⟩ : ByteArray), 900⟩ : S46)] : List (S46))) (inner := [.string (⟨#[97, 108, 102, 97]⟩ : ByteArray), .string (⟨#[104, 111, 117, 115, 101]⟩ : ByteArray), .string (⟨#[99, 97, 115, 104]⟩ : ByteArray), .int .i64 800, .string (⟨#[97, 108, 102, 97]⟩ : ByteArray), .string (⟨#[104, 111, 117, 115, 101]⟩ : ByteArray), .string (⟨#[103, 111, 108, 100]⟩ : ByteArray), .int .i64 900]) (ok := fun _ => True) (okp := fun _ => True) ?hr ?hp (fun _ hk => hk) trivial (Below.refl _ _) (Nat.le_refl _) (by simp) ?_; (case hd => rfl); (case hg => rfl); (case hr => first | (go_simp; done) | (go_simp; rfl)); (case hp => exact (Reps.c4 (show Kd.M k46 _ _ _ (⟨(⟨(⟨#[97, 108, 102, 97]⟩ : ByteArray), (⟨#[104, 111, 117, 115, 101]⟩ : ByteArray)⟩ : S44), (⟨#[99, 97, 115, 104]⟩ : ByteArray), 800⟩ : S46) [.string (⟨#[97, 108, 102, 97]⟩ : ByteArray), .string (⟨#[104, 111, 117, 115, 101]⟩ : ByteArray), .string (⟨#[99, 97, 115, 104]⟩ : ByteArray), .int .i64 800] from (QbS _ _ _ (⟨(⟨(⟨#[97, 108, 102, 97]⟩ : ByteArray), (⟨#[104, 111, 117, 115, 101]⟩ : ByteArray)⟩ : S44), (⟨#[99, 97, 115, 104]⟩ : ByteArray), 800⟩ : S46) )) (Reps.c4 (show Kd.M k46 _ _ _ (⟨(⟨(⟨#[97, 108, 102, 97]⟩ : ByteArray), (⟨#[104, 111, 117, 115, 101]⟩ : ByteArray)⟩ : S44), (⟨#[103, 111, 108, 100]⟩ : ByteArray), 900⟩ : S46) [.string (⟨#[97, 108, 102, 97]⟩ : ByteArray), .string (⟨#[104, 111, 117, 115, 101]⟩ : ByteArray), .string (⟨#[103, 111, 108, 100]⟩ : ByteArray), .int .i64 900] from (QbS _ _ _ (⟨(⟨(⟨#[97, 108, 102, 97]⟩ : ByteArray), (⟨#[104, 111, 117, 115, 101]⟩ : ByteArray)⟩ : S44), (⟨#[103, 111, 108, 100]⟩ : ByteArray), 900⟩ : S46) )) (Reps.none _ _)))); intro v709 w13 ho14 hb hg_ hnew_; clear hg_ hnew_; (first | rw [← Ny708.out] at ho14 | (simp only [Int.reduceToNat] at ho14; rw [← Ny708.out] at ho14)); have HO710 := Aside0.mk (Kd.R_lower ho14 (Qam (Zc1 GE701.out))); replace HO704 := Aside0.mk (Kd.R_below (Zr HO704.out) hb); replace HO707 := Aside0.mk (Kd.R_below (Zr HO707.out) hb); replace BK701 := Aside0.mk (Zi BK701.out hb); replace HB := Aside0.mk (Qao (Zc1 GE701.out) hb); clear hb ho14; obtain ⟨hcz15_0, hfz15_0⟩ := Zy (v := (.string (⟨#[97, 108, 102, 97]⟩ : ByteArray))) BK701.out 0; obtain ⟨hcz15_1, hfz15_1⟩ := Zy (v := (.string (⟨#[104, 111, 117, 115, 101]⟩ : ByteArray))) BK701.out 1; obtain ⟨Ao16, co16, eo16⟩ := Kd.R_slice HO710.out; subst eo16; obtain ⟨Ao17, co17, eo17⟩ := Kd.R_slice HO704.out; subst eo17; obtain ⟨Ao18, co18, eo18⟩ := Kd.R_slice HO707.out; subst eo18) | ((with_reducible refine Qax (f := 28) rfl ?_); refine goesL_ (some 31) rfl rfl Try.func28 (by kernel_rfl) rfl #[.slice Ao16 y708.length co16, .agg #[.string (⟨#[97, 108, 102, 97]⟩ : ByteArray), .string (⟨#[104, 111, 117, 115, 101]⟩ : ByteArray)], .int .i64 1000, .slice Ao17 y702.length co17, .slice Ao18 y705.length co18] rfl (Zl) ?_; (with_reducible refine (Qav.calls k _ _ y708 (⟨#[97, 108, 102, 97]⟩ : ByteArray) (⟨#[104, 111, 117, 115, 101]⟩ : ByteArray) 1000 _ _ y702 _ _ y705 t711 t714 _ ?side1 ?side2 ?side3 ?side4 ?side5 ?side6 A1.out).mono ?_); (case side1 => exact Zv (Kd.R_reads' HO710.out).2.2); (case side2 => exact (Kd.R_reads' HO710.out).2.1); (case side3 => exact Zv (Kd.R_reads' HO704.out).2.2); (case side4 => exact (Kd.R_reads' HO704.out).2.1); (case side5 => exact Zv (Kd.R_reads' HO707.out).2.2); (case side6 => exact (Kd.R_reads' HO707.out).2.1); rintro e w19 ⟨v712, rfl, ho0, hb⟩; refine ⟨_, rfl, ?_⟩; have HO713 := Aside0.mk (Kd.R_lower ho0 (Qam (Zc1 GE701.out))); replace HO704 := Aside0.mk (Kd.R_below (Zr HO704.out) hb); replace HO707 := Aside0.mk (Kd.R_below (Zr HO707.out) hb); replace HO710 := Aside0.mk (Kd.R_below (Zr HO710.out) hb); replace BK701 := Aside0.mk (Zi BK701.out hb); replace HB := Aside0.mk (Qao (Zc1 GE701.out) hb); (try clear hb); (try clear hb2); (try clear hk); (try clear hi); (try clear ho0); obtain ⟨hcz20_0, hfz20_0⟩ := Zy (v := (.string (⟨#[97, 108, 102, 97]⟩ : ByteArray))) BK701.out 0; obtain ⟨hcz20_1, hfz20_1⟩ := Zy (v := (.string (⟨#[104, 111, 117, 115, 101]⟩ : ByteArray))) BK701.out 1) | ((with_reducible refine Qax (f := 30) rfl ?_); refine goesL_ (some 39) rfl rfl Try.func30 (by kernel_rfl) rfl #[.slice Ao16 y708.length co16, .agg #[.string (⟨#[97, 108, 102, 97]⟩ : ByteArray), .string (⟨#[104, 111, 117, 115, 101]⟩ : ByteArray)], .int .i64 1000, .slice Ao17 y702.length co17, .slice Ao18 y705.length co18] rfl (Zl) ?_; (with_reducible refine (QaO.calls k _ _ y708 (⟨#[97, 108, 102, 97]⟩ : ByteArray) (⟨#[104, 111, 117, 115, 101]⟩ : ByteArray) 1000 _ _ y702 _ _ y705 t715 t716 _ ?side1 ?side2 ?side3 ?side4 ?side5 ?side6 A2.out).mono ?_); (case side1 => exact Zv (Kd.R_reads' HO710.out).2.2); (case side2 => exact (Kd.R_reads' HO710.out).2.1); (case side3 => exact Zv (Kd.R_reads' HO704.out).2.2); (case side4 => exact (Kd.R_reads' HO704.out).2.1); (case side5 => exact Zv (Kd.R_reads' HO707.out).2.2); (case side6 => exact (Kd.R_reads' HO707.out).2.1); rintro e w21 ⟨rfl, hb⟩; refine ⟨_, rfl, ?_⟩; replace HO704 := Aside0.mk (Kd.R_below (Zr HO704.out) hb); replace HO707 := Aside0.mk (Kd.R_below (Zr HO707.out) hb); replace HO710 := Aside0.mk (Kd.R_below (Zr HO710.out) hb); replace HO713 := Aside0.mk (Kd.R_below (Zr HO713.out) hb); replace BK701 := Aside0.mk (Zi BK701.out hb); replace HB := Aside0.mk (Qao (Zc1 GE701.out) hb); (try clear hb); (try clear hb2); (try clear hk); (try clear hi); obtain ⟨hcz22_0, hfz22_0⟩ := Zy (v := (.string (⟨#[97, 108, 102, 97]⟩ : ByteArray))) BK701.out 0; obtain ⟨hcz22_1, hfz22_1⟩ := Zy (v := (.string (⟨#[104, 111, 117, 115, 101]⟩ : ByteArray))) BK701.out 1) | ((with_reducible refine Qax (f := 33) rfl ?_); refine goesL_ (some 47) rfl rfl Try.func33 (by kernel_rfl) rfl #[.slice Ao16 y708.length co16, .agg #[.string (⟨#[97, 108, 102, 97]⟩ : ByteArray), .string (⟨#[104, 111, 117, 115, 101]⟩ : ByteArray)], .string (⟨#[99, 97, 115, 104]⟩ : ByteArray), .int .i64 1000, .slice Ao17 y702.length co17, .slice Ao18 y705.length co18] rfl (Zl) ?_; (with_reducible refine (QaC.calls k _ _ y708 (⟨#[97, 108, 102, 97]⟩ : ByteArray) (⟨#[104, 111, 117, 115, 101]⟩ : ByteArray) (⟨#[99, 97, 115, 104]⟩ : ByteArray) 1000 _ _ y702 _ _ y705 t717 t718 _ ?side1 ?side2 ?side3 ?side4 ?side5 ?side6 A3.out).mono ?_); (case side1 => exact Zv (Kd.R_reads' HO710.out).2.2); (case side2 => exact (Kd.R_reads' HO710.out).2.1); (case side3 => exact Zv (Kd.R_reads' HO704.out).2.2); (case side4 => exact (Kd.R_reads' HO704.out).2.1); (case side5 => exact Zv (Kd.R_reads' HO707.out).2.2); (case side6 => exact (Kd.R_reads' HO707.out).2.1); rintro e w23 ⟨rfl, hb⟩; refine ⟨_, rfl, ?_⟩; replace HO704 := Aside0.mk (Kd.R_below (Zr HO704.out) hb); replace HO707 := Aside0.mk (Kd.R_below (Zr HO707.out) hb); replace HO710 := Aside0.mk (Kd.R_below (Zr HO710.out) hb); replace HO713 := Aside0.mk (Kd.R_below (Zr HO713.out) hb); replace BK701 := Aside0.mk (Zi BK701.out hb); replace HB := Aside0.mk (Qao (Zc1 GE701.out) hb); (try clear hb); (try clear hb2); (try clear hk); (try clear hi); obtain ⟨hcz24_0, hfz24_0⟩ := Zy (v := (.string (⟨#[97, 108, 102, 97]⟩ : ByteArray))) BK701.out 0; obtain ⟨hcz24_1, hfz24_1⟩ := Zy (v := (.string (⟨#[104, 111, 117, 115, 101]⟩ : ByteArray))) BK701.out 1) | ((with_reducible refine Qax (f := 33) rfl ?_); refine goesL_ (some 55) rfl rfl Try.func33 (by kernel_rfl) rfl #[.slice Ao16 y708.length co16, .agg #[.string (⟨#[97, 108, 102, 97]⟩ : ByteArray), .string (⟨#[104, 111, 117, 115, 101]⟩ : ByteArray)], .string (⟨#[103, 111, 108, 100]⟩ : ByteArray), .int .i64 1000, .slice Ao17 y702.length co17, .slice Ao18 y705.length co18] rfl (Zl) ?_; (with_reducible refine (QaC.calls k _ _ y708 (⟨#[97, 108, 102, 97]⟩ : ByteArray) (⟨#[104, 111, 117, 115, 101]⟩ : ByteArray) (⟨#[103, 111, 108, 100]⟩ : ByteArray) 1000 _ _ y702 _ _ y705 t719 t720 _ ?side1 ?side2 ?side3 ?side4 ?side5 ?side6 A4.out).mono ?_); (case side1 => exact Zv (Kd.R_reads' HO710.out).2.2); (case side2 => exact (Kd.R_reads' HO710.out).2.1); (case side3 => exact Zv (Kd.R_reads' HO704.out).2.2); (case side4 => exact (Kd.R_reads' HO704.out).2.1); (case side5 => exact Zv (Kd.R_reads' HO707.out).2.2); (case side6 => exact (Kd.R_reads' HO707.out).2.1); rintro e w25 ⟨rfl, hb⟩; refine ⟨_, rfl, ?_⟩; replace HO704 := Aside0.mk (Kd.R_below (Zr HO704.out) hb); replace HO707 := Aside0.mk (Kd.R_below (Zr HO707.out) hb); replace HO710 := Aside0.mk (Kd.R_below (Zr HO710.out) hb); replace HO713 := Aside0.mk (Kd.R_below (Zr HO713.out) hb); replace BK701 := Aside0.mk (Zi BK701.out hb); replace HB := Aside0.mk (Qao (Zc1 GE701.out) hb); (try clear hb); (try clear hb2); (try clear hk); (try clear hi); obtain ⟨hcz26_0, hfz26_0⟩ := Zy (v := (.string (⟨#[97, 108, 102, 97]⟩ : ByteArray))) BK701.out 0; obtain ⟨hcz26_1, hfz26_1⟩ := Zy (v := (.string (⟨#[104, 111, 117, 115, 101]⟩ : ByteArray))) BK701.out 1) | ((with_reducible refine Qax (f := 35) rfl ?_); refine goesL_ (some 63) rfl rfl Try.func35 (by kernel_rfl) rfl #[.slice Ao16 y708.length co16, .agg #[.string (⟨#[97, 108, 102, 97]⟩ : ByteArray), .string (⟨#[104, 111, 117, 115, 101]⟩ : ByteArray)], .slice Ao17 y702.length co17, .slice Ao18 y705.length co18] rfl (Zl) ?_; (with_reducible refine (QaX.calls k _ _ y708 (⟨#[97, 108, 102, 97]⟩ : ByteArray) (⟨#[104, 111, 117, 115, 101]⟩ : ByteArray) _ _ y702 _ _ y705 t721 t722 t723 t724 t725 _ ?side1 ?side2 ?side3 ?side4 ?side5 ?side6 A5.out).mono ?_); (case side1 => exact Zv (Kd.R_reads' HO710.out).2.2); (case side2 => exact (Kd.R_reads' HO710.out).2.1); (case side3 => exact Zv (Kd.R_reads' HO704.out).2.2); (case side4 => exact (Kd.R_reads' HO704.out).2.1); (case side5 => exact Zv (Kd.R_reads' HO707.out).2.2); (case side6 => exact (Kd.R_reads' HO707.out).2.1); rintro e w27 ⟨rfl, hb⟩; refine ⟨_, rfl, ?_⟩; replace HO704 := Aside0.mk (Kd.R_below (Zr HO704.out) hb); replace HO707 := Aside0.mk (Kd.R_below (Zr HO707.out) hb); replace HO710 := Aside0.mk (Kd.R_below (Zr HO710.out) hb); replace HO713 := Aside0.mk (Kd.R_below (Zr HO713.out) hb); replace BK701 := Aside0.mk (Zi BK701.out hb); replace HB := Aside0.mk (Qao (Zc1 GE701.out) hb); (try clear hb); (try clear hb2); (try clear hk); (try clear hi)) | ((with_reducible refine QaG (N := 13) rfl ?_); (try (refine Qbs (by rfl) ?_; dsimp only)); refine Zbx (N := 13) (cs := #[.int .i64 0, .int .i64 0, .int .i64 0, .int .i64 0]) (t := 74) ?_; intro gb726 hg w28 hbox hb; have BK726 := Aside0.mk (hbox); have GW726 := Aside0.mk (Zt w hg (Zc1 GE701.out)); have GE726 := GW726; have NB701_726 := Aside0.mk (Zn hg BK701.out); have NB726_701 := Aside0.mk NB701_726.out.symm; replace HO704 := Aside0.mk (Kd.R_below (Zr HO704.out) hb); replace HO707 := Aside0.mk (Kd.R_below (Zr HO707.out) hb); replace HO710 := Aside0.mk (Kd.R_below (Zr HO710.out) hb); replace HO713 := Aside0.mk (Kd.R_below (Zr HO713.out) hb); replace BK701 := Aside0.mk (Zi BK701.out hb); replace HB := Aside0.mk (Qao (Zc1 GE701.out) hb); clear hb hbox hg; have hnb29 := NB726_701.out; have hnc29 := NB701_726.out; obtain ⟨hcz30_0, hfz30_0⟩ := Zy (v := (.int .i64 0)) BK726.out 0; obtain ⟨hcz30_1, hfz30_1⟩ := Zy (v := (.int .i64 0)) BK726.out 1; obtain ⟨hcz30_2, hfz30_2⟩ := Zy (v := (.int .i64 0)) BK726.out 2; obtain ⟨hcz30_3, hfz30_3⟩ := Zy (v := (.int .i64 0)) BK726.out 3))
 (try simp only [Act.put, Zj, Zk, Zm])
 by_cases c31 : t714 = 0
 ·rw [if_pos c31] at H
  have c31b0 : (t714 == 0) = T := beq_iff_eq.mpr c31
  have c31b1 : (t714 != 0) = F := bne_eq_false_iff_eq.mpr c31
  clear c31
  (try simp only [c31b0, c31b1])
  by_cases c32 : t716 = 0
  ·rw [if_pos c32] at H
   have c32b0 : (t716 == 0) = T := beq_iff_eq.mpr c32
   have c32b1 : (t716 != 0) = F := bne_eq_false_iff_eq.mpr c32
   clear c32
   by_cases c33 : t718 = 0
   ·rw [if_pos c33] at H
    have c33b0 : (t718 == 0) = T := beq_iff_eq.mpr c33
    have c33b1 : (t718 != 0) = F := bne_eq_false_iff_eq.mpr c33
    clear c33
    by_cases c34 : t720 = 0
    ·rw [if_pos c34] at H
     have c34b0 : (t720 == 0) = T := beq_iff_eq.mpr c34
     have c34b1 : (t720 != 0) = F := bne_eq_false_iff_eq.mpr c34
     clear c34
     by_cases c35 : t725 = 0
     ·rw [if_pos c35] at H
      have c35b0 : (t725 == 0) = T := beq_iff_eq.mpr c35
      have c35b1 : (t725 != 0) = F := bne_eq_false_iff_eq.mpr c35
      clear c35
      obtain ⟨y727, hy727⟩ : ∃ y_ : List Int, y_ = (([800, 300] : List Int)) := ⟨_, rfl⟩
      replace H : ((QaD.f k t711 y727).bind fun t730 => (if t730 = T then (if t715 = 1100 then (if t717 = 100 then (if t719 = 700 then (if t721 = 0 then (if t722 = 800 then (if t723 = 0 then (if t724 = 900 then (some T) else (some F)) else (some F)) else (some F)) else (some F)) else (some F)) else (some F)) else (some F)) else (some F))) = some r := by first | (rw [hy727]; with_reducible exact H) | (have H2_ := (Option.bind_some _ _).symm.trans H; rw [hy727]; with_reducible exact H2_) | (have H2_ := (Option.bind_some _ _).symm.trans H; with_reducible exact H2_) | with_reducible exact H | (rw [hy727]; exact H) | exact H
      have Ny727 := Aside0.mk hy727
      clear hy727
      replace H := Option.bind_eq_some_iff.mp H
      obtain ⟨t730, A360, H⟩ := H
      replace H : (if t730 = T then (if t715 = 1100 then (if t717 = 100 then (if t719 = 700 then (if t721 = 0 then (if t722 = 800 then (if t723 = 0 then (if t724 = 900 then (some T) else (some F)) else (some F)) else (some F)) else (some F)) else (some F)) else (some F)) else (some F)) else (some F)) = some r := H
      have A36 := Aside0.mk A360
      clear A360
      by_cases c37 : t730 = T
      ·subst c37
       have H1 : (if t715 = 1100 then (if t717 = 100 then (if t719 = 700 then (if t721 = 0 then (if t722 = 800 then (if t723 = 0 then (if t724 = 900 then (some T) else (some F)) else (some F)) else (some F)) else (some F)) else (some F)) else (some F)) else (some F)) = some r := by rw [if_pos rfl] at H; exact H
       clear H
       have H := H1
       clear H1
       by_cases c38 : t715 = 1100
       ·rw [if_pos c38] at H
        have c38b0 : (t715 == 1100) = T := beq_iff_eq.mpr c38
        have c38b1 : (t715 != 1100) = F := bne_eq_false_iff_eq.mpr c38
        clear c38
        by_cases c39 : t717 = 100
        ·rw [if_pos c39] at H
         have c39b0 : (t717 == 100) = T := beq_iff_eq.mpr c39
         have c39b1 : (t717 != 100) = F := bne_eq_false_iff_eq.mpr c39
         clear c39
         by_cases c40 : t719 = 700
         ·rw [if_pos c40] at H
          have c40b0 : (t719 == 700) = T := beq_iff_eq.mpr c40
          have c40b1 : (t719 != 700) = F := bne_eq_false_iff_eq.mpr c40
          clear c40
          by_cases c41 : t721 = 0
          ·rw [if_pos c41] at H
           have c41b0 : (t721 == 0) = T := beq_iff_eq.mpr c41
           have c41b1 : (t721 != 0) = F := bne_eq_false_iff_eq.mpr c41
           clear c41
           by_cases c42 : t722 = 800
           ·rw [if_pos c42] at H
            have c42b0 : (t722 == 800) = T := beq_iff_eq.mpr c42
            have c42b1 : (t722 != 800) = F := bne_eq_false_iff_eq.mpr c42
            clear c42
            by_cases c43 : t723 = 0
            ·rw [if_pos c43] at H
             have c43b0 : (t723 == 0) = T := beq_iff_eq.mpr c43
             have c43b1 : (t723 != 0) = F := bne_eq_false_iff_eq.mpr c43
             clear c43
             by_cases c44 : t724 = 900
             ·rw [if_pos c44] at H
              have c44b0 : (t724 == 900) = T := beq_iff_eq.mpr c44
              have c44b1 : (t724 != 900) = F := bne_eq_false_iff_eq.mpr c44
              clear c44
              obtain rfl := Option.some.inj H
              go_wp2_with (first | ((with_reducible refine QaG (N := 86) rfl ?_); (try (refine Qbs (by rfl) ?_; dsimp only)); refine Kd.R_lit (Kd.int .i64) _ 3 ?hg (N := 86) ?hd (xs := ([800, 300] : List Int)) (inner := [.int .i64 800, .int .i64 300]) (ok := fun _ => True) (okp := fun _ => True) ?hr ?hp (fun _ hk => hk) trivial (Below.refl _ _) (Nat.le_refl _) (by simp) ?_; (case hd => rfl); (case hg => rfl); (case hr => first | (go_simp; done) | (go_simp; rfl)); (case hp => exact (Reps.one (show Kd.M (Kd.int .i64) _ _ _ 800 [.int .i64 800] from rfl) (Reps.one (show Kd.M (Kd.int .i64) _ _ _ 300 [.int .i64 300] from rfl) (Reps.none _ _)))); intro v728 w45 ho46 hb hg_ hnew_; clear hg_ hnew_; (first | rw [← Ny727.out] at ho46 | (simp only [Int.reduceToNat] at ho46; rw [← Ny727.out] at ho46)); have HO729 := Aside0.mk (Kd.R_lower (Kd.R_new' ho46 (Kd.R_lt (by (with_reducible repeat (first | apply Kd.R_alloc | apply Kd.R_drewN | apply Kd.R_drew)); exact (Kd.R_mono (Zf gb726 3 (Zf gb726 2 (Zf gb726 1 (Zf gb726 0 (Kd.R_types HO713.out BK726.out (by decide)) (.int .i64 t721)) (.int .i64 t722)) (.int .i64 t723)) (.int .i64 t724)) (fun _ h_ => h_.1))))) (Qam (Zc2 GE701.out GE726.out))); replace HO704 := Aside0.mk (Kd.R_below (by (with_reducible repeat (first | apply Kd.R_alloc | apply Kd.R_drewN | apply Kd.R_drew)); exact (Kd.R_mono (Zf gb726 3 (Zf gb726 2 (Zf gb726 1 (Zf gb726 0 (Kd.R_types HO704.out BK726.out (by decide)) (.int .i64 t721)) (.int .i64 t722)) (.int .i64 t723)) (.int .i64 t724)) (fun _ h_ => h_.1))) hb); replace HO707 := Aside0.mk (Kd.R_below (by (with_reducible repeat (first | apply Kd.R_alloc | apply Kd.R_drewN | apply Kd.R_drew)); exact (Kd.R_mono (Zf gb726 3 (Zf gb726 2 (Zf gb726 1 (Zf gb726 0 (Kd.R_types HO707.out BK726.out (by decide)) (.int .i64 t721)) (.int .i64 t722)) (.int .i64 t723)) (.int .i64 t724)) (fun _ h_ => h_.1))) hb); replace HO710 := Aside0.mk (Kd.R_below (by (with_reducible repeat (first | apply Kd.R_alloc | apply Kd.R_drewN | apply Kd.R_drew)); exact (Kd.R_mono (Zf gb726 3 (Zf gb726 2 (Zf gb726 1 (Zf gb726 0 (Kd.R_types HO710.out BK726.out (by decide)) (.int .i64 t721)) (.int .i64 t722)) (.int .i64 t723)) (.int .i64 t724)) (fun _ h_ => h_.1))) hb); replace HO713 := Aside0.mk (Kd.R_elder' (by (with_reducible repeat (first | apply Kd.R_alloc | apply Kd.R_drewN | apply Kd.R_drew)); exact (Kd.R_mono (Zf gb726 3 (Zf gb726 2 (Zf gb726 1 (Zf gb726 0 (Kd.R_types HO713.out BK726.out (by decide)) (.int .i64 t721)) (.int .i64 t722)) (.int .i64 t723)) (.int .i64 t724)) (fun _ h_ => h_.1))) (Kd.R_base ho46) hb); replace BK701 := Aside0.mk (Qaj (g := gb701) (o := .cells #[.string (⟨#[97, 108, 102, 97]⟩ : ByteArray), .string (⟨#[104, 111, 117, 115, 101]⟩ : ByteArray)] 44 (0, 0)) (Zg4 BK701.out NB701_726.out NB701_726.out NB701_726.out NB701_726.out) hb); replace BK726 := Aside0.mk (Zpi #[.int .i64 t721, .int .i64 t722, .int .i64 t723, .int .i64 t724] BK726.out hb); replace HB := Aside0.mk (Qao (Zc2 GE701.out GE726.out) hb); clear hb ho46; obtain ⟨Ao47, co47, eo47⟩ := Kd.R_slice HO713.out; subst eo47; obtain ⟨Ao48, co48, eo48⟩ := Kd.R_slice HO729.out; subst eo48) | (go_at_call 32; (with_reducible refine (QaD.calls k _ _ t711 _ _ y727 T _ ?side1 ?side2 ?side3 ?side4 A36.out).mono ?_); (case side1 => exact Zv (Kd.R_reads' HO713.out).2.2); (case side2 => exact (Kd.R_reads' HO713.out).2.1); (case side3 => exact Zv (Kd.R_reads' HO729.out).2.2); (case side4 => exact (Kd.R_reads' HO729.out).2.1); rintro e w' ⟨rfl, ⟨nd, rfl⟩⟩; have hnb49 := NB726_701.out; have hnc49 := NB701_726.out; obtain ⟨hcz50_0, hfz50_0⟩ := Zy (v := (.int .i64 t721)) BK726.out 0; obtain ⟨hcz50_1, hfz50_1⟩ := Zy (v := (.int .i64 t722)) BK726.out 1; obtain ⟨hcz50_2, hfz50_2⟩ := Zy (v := (.int .i64 t723)) BK726.out 2; obtain ⟨hcz50_3, hfz50_3⟩ := Zy (v := (.int .i64 t724)) BK726.out 3))
              go_ret
              exact ⟨Zq, Zc2 GE701.out GE726.out⟩
             rw [if_neg c44] at H
             have c44b0 : (t724 == 900) = F := beq_eq_false_iff_ne.mpr c44
             have c44b1 : (t724 != 900) = T := bne_iff_ne.mpr c44
             obtain rfl := Option.some.inj H
             go_wp2_with (first | ((with_reducible refine QaG (N := 86) rfl ?_); (try (refine Qbs (by rfl) ?_; dsimp only)); refine Kd.R_lit (Kd.int .i64) _ 3 ?hg (N := 86) ?hd (xs := ([800, 300] : List Int)) (inner := [.int .i64 800, .int .i64 300]) (ok := fun _ => True) (okp := fun _ => True) ?hr ?hp (fun _ hk => hk) trivial (Below.refl _ _) (Nat.le_refl _) (by simp) ?_; (case hd => rfl); (case hg => rfl); (case hr => first | (go_simp; done) | (go_simp; rfl)); (case hp => exact (Reps.one (show Kd.M (Kd.int .i64) _ _ _ 800 [.int .i64 800] from rfl) (Reps.one (show Kd.M (Kd.int .i64) _ _ _ 300 [.int .i64 300] from rfl) (Reps.none _ _)))); intro v728 w51 ho52 hb hg_ hnew_; clear hg_ hnew_; (first | rw [← Ny727.out] at ho52 | (simp only [Int.reduceToNat] at ho52; rw [← Ny727.out] at ho52)); have HO729 := Aside0.mk (Kd.R_lower (Kd.R_new' ho52 (Kd.R_lt (by (with_reducible repeat (first | apply Kd.R_alloc | apply Kd.R_drewN | apply Kd.R_drew)); exact (Kd.R_mono (Zf gb726 3 (Zf gb726 2 (Zf gb726 1 (Zf gb726 0 (Kd.R_types HO713.out BK726.out (by decide)) (.int .i64 t721)) (.int .i64 t722)) (.int .i64 t723)) (.int .i64 t724)) (fun _ h_ => h_.1))))) (Qam (Zc2 GE701.out GE726.out))); replace HO704 := Aside0.mk (Kd.R_below (by (with_reducible repeat (first | apply Kd.R_alloc | apply Kd.R_drewN | apply Kd.R_drew)); exact (Kd.R_mono (Zf gb726 3 (Zf gb726 2 (Zf gb726 1 (Zf gb726 0 (Kd.R_types HO704.out BK726.out (by decide)) (.int .i64 t721)) (.int .i64 t722)) (.int .i64 t723)) (.int .i64 t724)) (fun _ h_ => h_.1))) hb); replace HO707 := Aside0.mk (Kd.R_below (by (with_reducible repeat (first | apply Kd.R_alloc | apply Kd.R_drewN | apply Kd.R_drew)); exact (Kd.R_mono (Zf gb726 3 (Zf gb726 2 (Zf gb726 1 (Zf gb726 0 (Kd.R_types HO707.out BK726.out (by decide)) (.int .i64 t721)) (.int .i64 t722)) (.int .i64 t723)) (.int .i64 t724)) (fun _ h_ => h_.1))) hb); replace HO710 := Aside0.mk (Kd.R_below (by (with_reducible repeat (first | apply Kd.R_alloc | apply Kd.R_drewN | apply Kd.R_drew)); exact (Kd.R_mono (Zf gb726 3 (Zf gb726 2 (Zf gb726 1 (Zf gb726 0 (Kd.R_types HO710.out BK726.out (by decide)) (.int .i64 t721)) (.int .i64 t722)) (.int .i64 t723)) (.int .i64 t724)) (fun _ h_ => h_.1))) hb); replace HO713 := Aside0.mk (Kd.R_elder' (by (with_reducible repeat (first | apply Kd.R_alloc | apply Kd.R_drewN | apply Kd.R_drew)); exact (Kd.R_mono (Zf gb726 3 (Zf gb726 2 (Zf gb726 1 (Zf gb726 0 (Kd.R_types HO713.out BK726.out (by decide)) (.int .i64 t721)) (.int .i64 t722)) (.int .i64 t723)) (.int .i64 t724)) (fun _ h_ => h_.1))) (Kd.R_base ho52) hb); replace BK701 := Aside0.mk (Qaj (g := gb701) (o := .cells #[.string (⟨#[97, 108, 102, 97]⟩ : ByteArray), .string (⟨#[104, 111, 117, 115, 101]⟩ : ByteArray)] 44 (0, 0)) (Zg4 BK701.out NB701_726.out NB701_726.out NB701_726.out NB701_726.out) hb); replace BK726 := Aside0.mk (Zpi #[.int .i64 t721, .int .i64 t722, .int .i64 t723, .int .i64 t724] BK726.out hb); replace HB := Aside0.mk (Qao (Zc2 GE701.out GE726.out) hb); clear hb ho52; obtain ⟨Ao53, co53, eo53⟩ := Kd.R_slice HO713.out; subst eo53; obtain ⟨Ao54, co54, eo54⟩ := Kd.R_slice HO729.out; subst eo54) | (go_at_call 32; (with_reducible refine (QaD.calls k _ _ t711 _ _ y727 T _ ?side1 ?side2 ?side3 ?side4 A36.out).mono ?_); (case side1 => exact Zv (Kd.R_reads' HO713.out).2.2); (case side2 => exact (Kd.R_reads' HO713.out).2.1); (case side3 => exact Zv (Kd.R_reads' HO729.out).2.2); (case side4 => exact (Kd.R_reads' HO729.out).2.1); rintro e w' ⟨rfl, ⟨nd, rfl⟩⟩; have hnb55 := NB726_701.out; have hnc55 := NB701_726.out; obtain ⟨hcz56_0, hfz56_0⟩ := Zy (v := (.int .i64 t721)) BK726.out 0; obtain ⟨hcz56_1, hfz56_1⟩ := Zy (v := (.int .i64 t722)) BK726.out 1; obtain ⟨hcz56_2, hfz56_2⟩ := Zy (v := (.int .i64 t723)) BK726.out 2; obtain ⟨hcz56_3, hfz56_3⟩ := Zy (v := (.int .i64 t724)) BK726.out 3))
             go_ret
             exact ⟨Zq, Zc2 GE701.out GE726.out⟩
            rw [if_neg c43] at H
            have c43b0 : (t723 == 0) = F := beq_eq_false_iff_ne.mpr c43
            have c43b1 : (t723 != 0) = T := bne_iff_ne.mpr c43
            obtain rfl := Option.some.inj H
            go_wp2_with (first | ((with_reducible refine QaG (N := 86) rfl ?_); (try (refine Qbs (by rfl) ?_; dsimp only)); refine Kd.R_lit (Kd.int .i64) _ 3 ?hg (N := 86) ?hd (xs := ([800, 300] : List Int)) (inner := [.int .i64 800, .int .i64 300]) (ok := fun _ => True) (okp := fun _ => True) ?hr ?hp (fun _ hk => hk) trivial (Below.refl _ _) (Nat.le_refl _) (by simp) ?_; (case hd => rfl); (case hg => rfl); (case hr => first | (go_simp; done) | (go_simp; rfl)); (case hp => exact (Reps.one (show Kd.M (Kd.int .i64) _ _ _ 800 [.int .i64 800] from rfl) (Reps.one (show Kd.M (Kd.int .i64) _ _ _ 300 [.int .i64 300] from rfl) (Reps.none _ _)))); intro v728 w57 ho58 hb hg_ hnew_; clear hg_ hnew_; (first | rw [← Ny727.out] at ho58 | (simp only [Int.reduceToNat] at ho58; rw [← Ny727.out] at ho58)); have HO729 := Aside0.mk (Kd.R_lower (Kd.R_new' ho58 (Kd.R_lt (by (with_reducible repeat (first | apply Kd.R_alloc | apply Kd.R_drewN | apply Kd.R_drew)); exact (Kd.R_mono (Zf gb726 3 (Zf gb726 2 (Zf gb726 1 (Zf gb726 0 (Kd.R_types HO713.out BK726.out (by decide)) (.int .i64 t721)) (.int .i64 t722)) (.int .i64 t723)) (.int .i64 t724)) (fun _ h_ => h_.1))))) (Qam (Zc2 GE701.out GE726.out))); replace HO704 := Aside0.mk (Kd.R_below (by (with_reducible repeat (first | apply Kd.R_alloc | apply Kd.R_drewN | apply Kd.R_drew)); exact (Kd.R_mono (Zf gb726 3 (Zf gb726 2 (Zf gb726 1 (Zf gb726 0 (Kd.R_types HO704.out BK726.out (by decide)) (.int .i64 t721)) (.int .i64 t722)) (.int .i64 t723)) (.int .i64 t724)) (fun _ h_ => h_.1))) hb); replace HO707 := Aside0.mk (Kd.R_below (by (with_reducible repeat (first | apply Kd.R_alloc | apply Kd.R_drewN | apply Kd.R_drew)); exact (Kd.R_mono (Zf gb726 3 (Zf gb726 2 (Zf gb726 1 (Zf gb726 0 (Kd.R_types HO707.out BK726.out (by decide)) (.int .i64 t721)) (.int .i64 t722)) (.int .i64 t723)) (.int .i64 t724)) (fun _ h_ => h_.1))) hb); replace HO710 := Aside0.mk (Kd.R_below (by (with_reducible repeat (first | apply Kd.R_alloc | apply Kd.R_drewN | apply Kd.R_drew)); exact (Kd.R_mono (Zf gb726 3 (Zf gb726 2 (Zf gb726 1 (Zf gb726 0 (Kd.R_types HO710.out BK726.out (by decide)) (.int .i64 t721)) (.int .i64 t722)) (.int .i64 t723)) (.int .i64 t724)) (fun _ h_ => h_.1))) hb); replace HO713 := Aside0.mk (Kd.R_elder' (by (with_reducible repeat (first | apply Kd.R_alloc | apply Kd.R_drewN | apply Kd.R_drew)); exact (Kd.R_mono (Zf gb726 3 (Zf gb726 2 (Zf gb726 1 (Zf gb726 0 (Kd.R_types HO713.out BK726.out (by decide)) (.int .i64 t721)) (.int .i64 t722)) (.int .i64 t723)) (.int .i64 t724)) (fun _ h_ => h_.1))) (Kd.R_base ho58) hb); replace BK701 := Aside0.mk (Qaj (g := gb701) (o := .cells #[.string (⟨#[97, 108, 102, 97]⟩ : ByteArray), .string (⟨#[104, 111, 117, 115, 101]⟩ : ByteArray)] 44 (0, 0)) (Zg4 BK701.out NB701_726.out NB701_726.out NB701_726.out NB701_726.out) hb); replace BK726 := Aside0.mk (Zpi #[.int .i64 t721, .int .i64 t722, .int .i64 t723, .int .i64 t724] BK726.out hb); replace HB := Aside0.mk (Qao (Zc2 GE701.out GE726.out) hb); clear hb ho58; obtain ⟨Ao59, co59, eo59⟩ := Kd.R_slice HO713.out; subst eo59; obtain ⟨Ao60, co60, eo60⟩ := Kd.R_slice HO729.out; subst eo60) | (go_at_call 32; (with_reducible refine (QaD.calls k _ _ t711 _ _ y727 T _ ?side1 ?side2 ?side3 ?side4 A36.out).mono ?_); (case side1 => exact Zv (Kd.R_reads' HO713.out).2.2); (case side2 => exact (Kd.R_reads' HO713.out).2.1); (case side3 => exact Zv (Kd.R_reads' HO729.out).2.2); (case side4 => exact (Kd.R_reads' HO729.out).2.1); rintro e w' ⟨rfl, ⟨nd, rfl⟩⟩; have hnb61 := NB726_701.out; have hnc61 := NB701_726.out; obtain ⟨hcz62_0, hfz62_0⟩ := Zy (v := (.int .i64 t721)) BK726.out 0; obtain ⟨hcz62_1, hfz62_1⟩ := Zy (v := (.int .i64 t722)) BK726.out 1; obtain ⟨hcz62_2, hfz62_2⟩ := Zy (v := (.int .i64 t723)) BK726.out 2; obtain ⟨hcz62_3, hfz62_3⟩ := Zy (v := (.int .i64 t724)) BK726.out 3))
            go_ret
            exact ⟨Zq, Zc2 GE701.out GE726.out⟩
           rw [if_neg c42] at H
           have c42b0 : (t722 == 800) = F := beq_eq_false_iff_ne.mpr c42
           have c42b1 : (t722 != 800) = T := bne_iff_ne.mpr c42
           obtain rfl := Option.some.inj H
           go_wp2_with (first | ((with_reducible refine QaG (N := 86) rfl ?_); (try (refine Qbs (by rfl) ?_; dsimp only)); refine Kd.R_lit (Kd.int .i64) _ 3 ?hg (N := 86) ?hd (xs := ([800, 300] : List Int)) (inner := [.int .i64 800, .int .i64 300]) (ok := fun _ => True) (okp := fun _ => True) ?hr ?hp (fun _ hk => hk) trivial (Below.refl _ _) (Nat.le_refl _) (by simp) ?_; (case hd => rfl); (case hg => rfl); (case hr => first | (go_simp; done) | (go_simp; rfl)); (case hp => exact (Reps.one (show Kd.M (Kd.int .i64) _ _ _ 800 [.int .i64 800] from rfl) (Reps.one (show Kd.M (Kd.int .i64) _ _ _ 300 [.int .i64 300] from rfl) (Reps.none _ _)))); intro v728 w63 ho64 hb hg_ hnew_; clear hg_ hnew_; (first | rw [← Ny727.out] at ho64 | (simp only [Int.reduceToNat] at ho64; rw [← Ny727.out] at ho64)); have HO729 := Aside0.mk (Kd.R_lower (Kd.R_new' ho64 (Kd.R_lt (by (with_reducible repeat (first | apply Kd.R_alloc | apply Kd.R_drewN | apply Kd.R_drew)); exact (Kd.R_mono (Zf gb726 3 (Zf gb726 2 (Zf gb726 1 (Zf gb726 0 (Kd.R_types HO713.out BK726.out (by decide)) (.int .i64 t721)) (.int .i64 t722)) (.int .i64 t723)) (.int .i64 t724)) (fun _ h_ => h_.1))))) (Qam (Zc2 GE701.out GE726.out))); replace HO704 := Aside0.mk (Kd.R_below (by (with_reducible repeat (first | apply Kd.R_alloc | apply Kd.R_drewN | apply Kd.R_drew)); exact (Kd.R_mono (Zf gb726 3 (Zf gb726 2 (Zf gb726 1 (Zf gb726 0 (Kd.R_types HO704.out BK726.out (by decide)) (.int .i64 t721)) (.int .i64 t722)) (.int .i64 t723)) (.int .i64 t724)) (fun _ h_ => h_.1))) hb); replace HO707 := Aside0.mk (Kd.R_below (by (with_reducible repeat (first | apply Kd.R_alloc | apply Kd.R_drewN | apply Kd.R_drew)); exact (Kd.R_mono (Zf gb726 3 (Zf gb726 2 (Zf gb726 1 (Zf gb726 0 (Kd.R_types HO707.out BK726.out (by decide)) (.int .i64 t721)) (.int .i64 t722)) (.int .i64 t723)) (.int .i64 t724)) (fun _ h_ => h_.1))) hb); replace HO710 := Aside0.mk (Kd.R_below (by (with_reducible repeat (first | apply Kd.R_alloc | apply Kd.R_drewN | apply Kd.R_drew)); exact (Kd.R_mono (Zf gb726 3 (Zf gb726 2 (Zf gb726 1 (Zf gb726 0 (Kd.R_types HO710.out BK726.out (by decide)) (.int .i64 t721)) (.int .i64 t722)) (.int .i64 t723)) (.int .i64 t724)) (fun _ h_ => h_.1))) hb); replace HO713 := Aside0.mk (Kd.R_elder' (by (with_reducible repeat (first | apply Kd.R_alloc | apply Kd.R_drewN | apply Kd.R_drew)); exact (Kd.R_mono (Zf gb726 3 (Zf gb726 2 (Zf gb726 1 (Zf gb726 0 (Kd.R_types HO713.out BK726.out (by decide)) (.int .i64 t721)) (.int .i64 t722)) (.int .i64 t723)) (.int .i64 t724)) (fun _ h_ => h_.1))) (Kd.R_base ho64) hb); replace BK701 := Aside0.mk (Qaj (g := gb701) (o := .cells #[.string (⟨#[97, 108, 102, 97]⟩ : ByteArray), .string (⟨#[104, 111, 117, 115, 101]⟩ : ByteArray)] 44 (0, 0)) (Zg4 BK701.out NB701_726.out NB701_726.out NB701_726.out NB701_726.out) hb); replace BK726 := Aside0.mk (Zpi #[.int .i64 t721, .int .i64 t722, .int .i64 t723, .int .i64 t724] BK726.out hb); replace HB := Aside0.mk (Qao (Zc2 GE701.out GE726.out) hb); clear hb ho64; obtain ⟨Ao65, co65, eo65⟩ := Kd.R_slice HO713.out; subst eo65; obtain ⟨Ao66, co66, eo66⟩ := Kd.R_slice HO729.out; subst eo66) | (go_at_call 32; (with_reducible refine (QaD.calls k _ _ t711 _ _ y727 T _ ?side1 ?side2 ?side3 ?side4 A36.out).mono ?_); (case side1 => exact Zv (Kd.R_reads' HO713.out).2.2); (case side2 => exact (Kd.R_reads' HO713.out).2.1); (case side3 => exact Zv (Kd.R_reads' HO729.out).2.2); (case side4 => exact (Kd.R_reads' HO729.out).2.1); rintro e w' ⟨rfl, ⟨nd, rfl⟩⟩; have hnb67 := NB726_701.out; have hnc67 := NB701_726.out; obtain ⟨hcz68_0, hfz68_0⟩ := Zy (v := (.int .i64 t721)) BK726.out 0; obtain ⟨hcz68_1, hfz68_1⟩ := Zy (v := (.int .i64 t722)) BK726.out 1; obtain ⟨hcz68_2, hfz68_2⟩ := Zy (v := (.int .i64 t723)) BK726.out 2; obtain ⟨hcz68_3, hfz68_3⟩ := Zy (v := (.int .i64 t724)) BK726.out 3))
           go_ret
           exact ⟨Zq, Zc2 GE701.out GE726.out⟩
          rw [if_neg c41] at H
          have c41b0 : (t721 == 0) = F := beq_eq_false_iff_ne.mpr c41
          have c41b1 : (t721 != 0) = T := bne_iff_ne.mpr c41
          obtain rfl := Option.some.inj H
          go_wp2_with (first | ((with_reducible refine QaG (N := 86) rfl ?_); (try (refine Qbs (by rfl) ?_; dsimp only)); refine Kd.R_lit (Kd.int .i64) _ 3 ?hg (N := 86) ?hd (xs := ([800, 300] : List Int)) (inner := [.int .i64 800, .int .i64 300]) (ok := fun _ => True) (okp := fun _ => True) ?hr ?hp (fun _ hk => hk) trivial (Below.refl _ _) (Nat.le_refl _) (by simp) ?_; (case hd => rfl); (case hg => rfl); (case hr => first | (go_simp; done) | (go_simp; rfl)); (case hp => exact (Reps.one (show Kd.M (Kd.int .i64) _ _ _ 800 [.int .i64 800] from rfl) (Reps.one (show Kd.M (Kd.int .i64) _ _ _ 300 [.int .i64 300] from rfl) (Reps.none _ _)))); intro v728 w69 ho70 hb hg_ hnew_; clear hg_ hnew_; (first | rw [← Ny727.out] at ho70 | (simp only [Int.reduceToNat] at ho70; rw [← Ny727.out] at ho70)); have HO729 := Aside0.mk (Kd.R_lower (Kd.R_new' ho70 (Kd.R_lt (by (with_reducible repeat (first | apply Kd.R_alloc | apply Kd.R_drewN | apply Kd.R_drew)); exact (Kd.R_mono (Zf gb726 3 (Zf gb726 2 (Zf gb726 1 (Zf gb726 0 (Kd.R_types HO713.out BK726.out (by decide)) (.int .i64 t721)) (.int .i64 t722)) (.int .i64 t723)) (.int .i64 t724)) (fun _ h_ => h_.1))))) (Qam (Zc2 GE701.out GE726.out))); replace HO704 := Aside0.mk (Kd.R_below (by (with_reducible repeat (first | apply Kd.R_alloc | apply Kd.R_drewN | apply Kd.R_drew)); exact (Kd.R_mono (Zf gb726 3 (Zf gb726 2 (Zf gb726 1 (Zf gb726 0 (Kd.R_types HO704.out BK726.out (by decide)) (.int .i64 t721)) (.int .i64 t722)) (.int .i64 t723)) (.int .i64 t724)) (fun _ h_ => h_.1))) hb); replace HO707 := Aside0.mk (Kd.R_below (by (with_reducible repeat (first | apply Kd.R_alloc | apply Kd.R_drewN | apply Kd.R_drew)); exact (Kd.R_mono (Zf gb726 3 (Zf gb726 2 (Zf gb726 1 (Zf gb726 0 (Kd.R_types HO707.out BK726.out (by decide)) (.int .i64 t721)) (.int .i64 t722)) (.int .i64 t723)) (.int .i64 t724)) (fun _ h_ => h_.1))) hb); replace HO710 := Aside0.mk (Kd.R_below (by (with_reducible repeat (first | apply Kd.R_alloc | apply Kd.R_drewN | apply Kd.R_drew)); exact (Kd.R_mono (Zf gb726 3 (Zf gb726 2 (Zf gb726 1 (Zf gb726 0 (Kd.R_types HO710.out BK726.out (by decide)) (.int .i64 t721)) (.int .i64 t722)) (.int .i64 t723)) (.int .i64 t724)) (fun _ h_ => h_.1))) hb); replace HO713 := Aside0.mk (Kd.R_elder' (by (with_reducible repeat (first | apply Kd.R_alloc | apply Kd.R_drewN | apply Kd.R_drew)); exact (Kd.R_mono (Zf gb726 3 (Zf gb726 2 (Zf gb726 1 (Zf gb726 0 (Kd.R_types HO713.out BK726.out (by decide)) (.int .i64 t721)) (.int .i64 t722)) (.int .i64 t723)) (.int .i64 t724)) (fun _ h_ => h_.1))) (Kd.R_base ho70) hb); replace BK701 := Aside0.mk (Qaj (g := gb701) (o := .cells #[.string (⟨#[97, 108, 102, 97]⟩ : ByteArray), .string (⟨#[104, 111, 117, 115, 101]⟩ : ByteArray)] 44 (0, 0)) (Zg4 BK701.out NB701_726.out NB701_726.out NB701_726.out NB701_726.out) hb); replace BK726 := Aside0.mk (Zpi #[.int .i64 t721, .int .i64 t722, .int .i64 t723, .int .i64 t724] BK726.out hb); replace HB := Aside0.mk (Qao (Zc2 GE701.out GE726.out) hb); clear hb ho70; obtain ⟨Ao71, co71, eo71⟩ := Kd.R_slice HO713.out; subst eo71; obtain ⟨Ao72, co72, eo72⟩ := Kd.R_slice HO729.out; subst eo72) | (go_at_call 32; (with_reducible refine (QaD.calls k _ _ t711 _ _ y727 T _ ?side1 ?side2 ?side3 ?side4 A36.out).mono ?_); (case side1 => exact Zv (Kd.R_reads' HO713.out).2.2); (case side2 => exact (Kd.R_reads' HO713.out).2.1); (case side3 => exact Zv (Kd.R_reads' HO729.out).2.2); (case side4 => exact (Kd.R_reads' HO729.out).2.1); rintro e w' ⟨rfl, ⟨nd, rfl⟩⟩; have hnb73 := NB726_701.out; have hnc73 := NB701_726.out; obtain ⟨hcz74_0, hfz74_0⟩ := Zy (v := (.int .i64 t721)) BK726.out 0; obtain ⟨hcz74_1, hfz74_1⟩ := Zy (v := (.int .i64 t722)) BK726.out 1; obtain ⟨hcz74_2, hfz74_2⟩ := Zy (v := (.int .i64 t723)) BK726.out 2; obtain ⟨hcz74_3, hfz74_3⟩ := Zy (v := (.int .i64 t724)) BK726.out 3))
          go_ret
          exact ⟨Zq, Zc2 GE701.out GE726.out⟩
         rw [if_neg c40] at H
         have c40b0 : (t719 == 700) = F := beq_eq_false_iff_ne.mpr c40
         have c40b1 : (t719 != 700) = T := bne_iff_ne.mpr c40
         obtain rfl := Option.some.inj H
         go_wp2_with (first | ((with_reducible refine QaG (N := 86) rfl ?_); (try (refine Qbs (by rfl) ?_; dsimp only)); refine Kd.R_lit (Kd.int .i64) _ 3 ?hg (N := 86) ?hd (xs := ([800, 300] : List Int)) (inner := [.int .i64 800, .int .i64 300]) (ok := fun _ => True) (okp := fun _ => True) ?hr ?hp (fun _ hk => hk) trivial (Below.refl _ _) (Nat.le_refl _) (by simp) ?_; (case hd => rfl); (case hg => rfl); (case hr => first | (go_simp; done) | (go_simp; rfl)); (case hp => exact (Reps.one (show Kd.M (Kd.int .i64) _ _ _ 800 [.int .i64 800] from rfl) (Reps.one (show Kd.M (Kd.int .i64) _ _ _ 300 [.int .i64 300] from rfl) (Reps.none _ _)))); intro v728 w75 ho76 hb hg_ hnew_; clear hg_ hnew_; (first | rw [← Ny727.out] at ho76 | (simp only [Int.reduceToNat] at ho76; rw [← Ny727.out] at ho76)); have HO729 := Aside0.mk (Kd.R_lower (Kd.R_new' ho76 (Kd.R_lt (by (with_reducible repeat (first | apply Kd.R_alloc | apply Kd.R_drewN | apply Kd.R_drew)); exact (Kd.R_mono (Zf gb726 3 (Zf gb726 2 (Zf gb726 1 (Zf gb726 0 (Kd.R_types HO713.out BK726.out (by decide)) (.int .i64 t721)) (.int .i64 t722)) (.int .i64 t723)) (.int .i64 t724)) (fun _ h_ => h_.1))))) (Qam (Zc2 GE701.out GE726.out))); replace HO704 := Aside0.mk (Kd.R_below (by (with_reducible repeat (first | apply Kd.R_alloc | apply Kd.R_drewN | apply Kd.R_drew)); exact (Kd.R_mono (Zf gb726 3 (Zf gb726 2 (Zf gb726 1 (Zf gb726 0 (Kd.R_types HO704.out BK726.out (by decide)) (.int .i64 t721)) (.int .i64 t722)) (.int .i64 t723)) (.int .i64 t724)) (fun _ h_ => h_.1))) hb); replace HO707 := Aside0.mk (Kd.R_below (by (with_reducible repeat (first | apply Kd.R_alloc | apply Kd.R_drewN | apply Kd.R_drew)); exact (Kd.R_mono (Zf gb726 3 (Zf gb726 2 (Zf gb726 1 (Zf gb726 0 (Kd.R_types HO707.out BK726.out (by decide)) (.int .i64 t721)) (.int .i64 t722)) (.int .i64 t723)) (.int .i64 t724)) (fun _ h_ => h_.1))) hb); replace HO710 := Aside0.mk (Kd.R_below (by (with_reducible repeat (first | apply Kd.R_alloc | apply Kd.R_drewN | apply Kd.R_drew)); exact (Kd.R_mono (Zf gb726 3 (Zf gb726 2 (Zf gb726 1 (Zf gb726 0 (Kd.R_types HO710.out BK726.out (by decide)) (.int .i64 t721)) (.int .i64 t722)) (.int .i64 t723)) (.int .i64 t724)) (fun _ h_ => h_.1))) hb); replace HO713 := Aside0.mk (Kd.R_elder' (by (with_reducible repeat (first | apply Kd.R_alloc | apply Kd.R_drewN | apply Kd.R_drew)); exact (Kd.R_mono (Zf gb726 3 (Zf gb726 2 (Zf gb726 1 (Zf gb726 0 (Kd.R_types HO713.out BK726.out (by decide)) (.int .i64 t721)) (.int .i64 t722)) (.int .i64 t723)) (.int .i64 t724)) (fun _ h_ => h_.1))) (Kd.R_base ho76) hb); replace BK701 := Aside0.mk (Qaj (g := gb701) (o := .cells #[.string (⟨#[97, 108, 102, 97]⟩ : ByteArray), .string (⟨#[104, 111, 117, 115, 101]⟩ : ByteArray)] 44 (0, 0)) (Zg4 BK701.out NB701_726.out NB701_726.out NB701_726.out NB701_726.out) hb); replace BK726 := Aside0.mk (Zpi #[.int .i64 t721, .int .i64 t722, .int .i64 t723, .int .i64 t724] BK726.out hb); replace HB := Aside0.mk (Qao (Zc2 GE701.out GE726.out) hb); clear hb ho76; obtain ⟨Ao77, co77, eo77⟩ := Kd.R_slice HO713.out; subst eo77; obtain ⟨Ao78, co78, eo78⟩ := Kd.R_slice HO729.out; subst eo78) | (go_at_call 32; (with_reducible refine (QaD.calls k _ _ t711 _ _ y727 T _ ?side1 ?side2 ?side3 ?side4 A36.out).mono ?_); (case side1 => exact Zv (Kd.R_reads' HO713.out).2.2); (case side2 => exact (Kd.R_reads' HO713.out).2.1); (case side3 => exact Zv (Kd.R_reads' HO729.out).2.2); (case side4 => exact (Kd.R_reads' HO729.out).2.1); rintro e w' ⟨rfl, ⟨nd, rfl⟩⟩))
         go_ret
         exact ⟨Zq, Zc2 GE701.out GE726.out⟩
        rw [if_neg c39] at H
        have c39b0 : (t717 == 100) = F := beq_eq_false_iff_ne.mpr c39
        have c39b1 : (t717 != 100) = T := bne_iff_ne.mpr c39
        obtain rfl := Option.some.inj H
        go_wp2_with (first | ((with_reducible refine QaG (N := 86) rfl ?_); (try (refine Qbs (by rfl) ?_; dsimp only)); refine Kd.R_lit (Kd.int .i64) _ 3 ?hg (N := 86) ?hd (xs := ([800, 300] : List Int)) (inner := [.int .i64 800, .int .i64 300]) (ok := fun _ => True) (okp := fun _ => True) ?hr ?hp (fun _ hk => hk) trivial (Below.refl _ _) (Nat.le_refl _) (by simp) ?_; (case hd => rfl); (case hg => rfl); (case hr => first | (go_simp; done) | (go_simp; rfl)); (case hp => exact (Reps.one (show Kd.M (Kd.int .i64) _ _ _ 800 [.int .i64 800] from rfl) (Reps.one (show Kd.M (Kd.int .i64) _ _ _ 300 [.int .i64 300] from rfl) (Reps.none _ _)))); intro v728 w79 ho80 hb hg_ hnew_; clear hg_ hnew_; (first | rw [← Ny727.out] at ho80 | (simp only [Int.reduceToNat] at ho80; rw [← Ny727.out] at ho80)); have HO729 := Aside0.mk (Kd.R_lower (Kd.R_new' ho80 (Kd.R_lt (by (with_reducible repeat (first | apply Kd.R_alloc | apply Kd.R_drewN | apply Kd.R_drew)); exact (Kd.R_mono (Zf gb726 3 (Zf gb726 2 (Zf gb726 1 (Zf gb726 0 (Kd.R_types HO713.out BK726.out (by decide)) (.int .i64 t721)) (.int .i64 t722)) (.int .i64 t723)) (.int .i64 t724)) (fun _ h_ => h_.1))))) (Qam (Zc2 GE701.out GE726.out))); replace HO704 := Aside0.mk (Kd.R_below (by (with_reducible repeat (first | apply Kd.R_alloc | apply Kd.R_drewN | apply Kd.R_drew)); exact (Kd.R_mono (Zf gb726 3 (Zf gb726 2 (Zf gb726 1 (Zf gb726 0 (Kd.R_types HO704.out BK726.out (by decide)) (.int .i64 t721)) (.int .i64 t722)) (.int .i64 t723)) (.int .i64 t724)) (fun _ h_ => h_.1))) hb); replace HO707 := Aside0.mk (Kd.R_below (by (with_reducible repeat (first | apply Kd.R_alloc | apply Kd.R_drewN | apply Kd.R_drew)); exact (Kd.R_mono (Zf gb726 3 (Zf gb726 2 (Zf gb726 1 (Zf gb726 0 (Kd.R_types HO707.out BK726.out (by decide)) (.int .i64 t721)) (.int .i64 t722)) (.int .i64 t723)) (.int .i64 t724)) (fun _ h_ => h_.1))) hb); replace HO710 := Aside0.mk (Kd.R_below (by (with_reducible repeat (first | apply Kd.R_alloc | apply Kd.R_drewN | apply Kd.R_drew)); exact (Kd.R_mono (Zf gb726 3 (Zf gb726 2 (Zf gb726 1 (Zf gb726 0 (Kd.R_types HO710.out BK726.out (by decide)) (.int .i64 t721)) (.int .i64 t722)) (.int .i64 t723)) (.int .i64 t724)) (fun _ h_ => h_.1))) hb); replace HO713 := Aside0.mk (Kd.R_elder' (by (with_reducible repeat (first | apply Kd.R_alloc | apply Kd.R_drewN | apply Kd.R_drew)); exact (Kd.R_mono (Zf gb726 3 (Zf gb726 2 (Zf gb726 1 (Zf gb726 0 (Kd.R_types HO713.out BK726.out (by decide)) (.int .i64 t721)) (.int .i64 t722)) (.int .i64 t723)) (.int .i64 t724)) (fun _ h_ => h_.1))) (Kd.R_base ho80) hb); replace BK701 := Aside0.mk (Qaj (g := gb701) (o := .cells #[.string (⟨#[97, 108, 102, 97]⟩ : ByteArray), .string (⟨#[104, 111, 117, 115, 101]⟩ : ByteArray)] 44 (0, 0)) (Zg4 BK701.out NB701_726.out NB701_726.out NB701_726.out NB701_726.out) hb); replace BK726 := Aside0.mk (Zpi #[.int .i64 t721, .int .i64 t722, .int .i64 t723, .int .i64 t724] BK726.out hb); replace HB := Aside0.mk (Qao (Zc2 GE701.out GE726.out) hb); clear hb ho80; obtain ⟨Ao81, co81, eo81⟩ := Kd.R_slice HO713.out; subst eo81; obtain ⟨Ao82, co82, eo82⟩ := Kd.R_slice HO729.out; subst eo82) | (go_at_call 32; (with_reducible refine (QaD.calls k _ _ t711 _ _ y727 T _ ?side1 ?side2 ?side3 ?side4 A36.out).mono ?_); (case side1 => exact Zv (Kd.R_reads' HO713.out).2.2); (case side2 => exact (Kd.R_reads' HO713.out).2.1); (case side3 => exact Zv (Kd.R_reads' HO729.out).2.2); (case side4 => exact (Kd.R_reads' HO729.out).2.1); rintro e w' ⟨rfl, ⟨nd, rfl⟩⟩))
        go_ret
        exact ⟨Zq, Zc2 GE701.out GE726.out⟩
       rw [if_neg c38] at H
       have c38b0 : (t715 == 1100) = F := beq_eq_false_iff_ne.mpr c38
       have c38b1 : (t715 != 1100) = T := bne_iff_ne.mpr c38
       obtain rfl := Option.some.inj H
       go_wp2_with (first | ((with_reducible refine QaG (N := 86) rfl ?_); (try (refine Qbs (by rfl) ?_; dsimp only)); refine Kd.R_lit (Kd.int .i64) _ 3 ?hg (N := 86) ?hd (xs := ([800, 300] : List Int)) (inner := [.int .i64 800, .int .i64 300]) (ok := fun _ => True) (okp := fun _ => True) ?hr ?hp (fun _ hk => hk) trivial (Below.refl _ _) (Nat.le_refl _) (by simp) ?_; (case hd => rfl); (case hg => rfl); (case hr => first | (go_simp; done) | (go_simp; rfl)); (case hp => exact (Reps.one (show Kd.M (Kd.int .i64) _ _ _ 800 [.int .i64 800] from rfl) (Reps.one (show Kd.M (Kd.int .i64) _ _ _ 300 [.int .i64 300] from rfl) (Reps.none _ _)))); intro v728 w83 ho84 hb hg_ hnew_; clear hg_ hnew_; (first | rw [← Ny727.out] at ho84 | (simp only [Int.reduceToNat] at ho84; rw [← Ny727.out] at ho84)); have HO729 := Aside0.mk (Kd.R_lower (Kd.R_new' ho84 (Kd.R_lt (by (with_reducible repeat (first | apply Kd.R_alloc | apply Kd.R_drewN | apply Kd.R_drew)); exact (Kd.R_mono (Zf gb726 3 (Zf gb726 2 (Zf gb726 1 (Zf gb726 0 (Kd.R_types HO713.out BK726.out (by decide)) (.int .i64 t721)) (.int .i64 t722)) (.int .i64 t723)) (.int .i64 t724)) (fun _ h_ => h_.1))))) (Qam (Zc2 GE701.out GE726.out))); replace HO704 := Aside0.mk (Kd.R_below (by (with_reducible repeat (first | apply Kd.R_alloc | apply Kd.R_drewN | apply Kd.R_drew)); exact (Kd.R_mono (Zf gb726 3 (Zf gb726 2 (Zf gb726 1 (Zf gb726 0 (Kd.R_types HO704.out BK726.out (by decide)) (.int .i64 t721)) (.int .i64 t722)) (.int .i64 t723)) (.int .i64 t724)) (fun _ h_ => h_.1))) hb); replace HO707 := Aside0.mk (Kd.R_below (by (with_reducible repeat (first | apply Kd.R_alloc | apply Kd.R_drewN | apply Kd.R_drew)); exact (Kd.R_mono (Zf gb726 3 (Zf gb726 2 (Zf gb726 1 (Zf gb726 0 (Kd.R_types HO707.out BK726.out (by decide)) (.int .i64 t721)) (.int .i64 t722)) (.int .i64 t723)) (.int .i64 t724)) (fun _ h_ => h_.1))) hb); replace HO710 := Aside0.mk (Kd.R_below (by (with_reducible repeat (first | apply Kd.R_alloc | apply Kd.R_drewN | apply Kd.R_drew)); exact (Kd.R_mono (Zf gb726 3 (Zf gb726 2 (Zf gb726 1 (Zf gb726 0 (Kd.R_types HO710.out BK726.out (by decide)) (.int .i64 t721)) (.int .i64 t722)) (.int .i64 t723)) (.int .i64 t724)) (fun _ h_ => h_.1))) hb); replace HO713 := Aside0.mk (Kd.R_elder' (by (with_reducible repeat (first | apply Kd.R_alloc | apply Kd.R_drewN | apply Kd.R_drew)); exact (Kd.R_mono (Zf gb726 3 (Zf gb726 2 (Zf gb726 1 (Zf gb726 0 (Kd.R_types HO713.out BK726.out (by decide)) (.int .i64 t721)) (.int .i64 t722)) (.int .i64 t723)) (.int .i64 t724)) (fun _ h_ => h_.1))) (Kd.R_base ho84) hb); replace BK701 := Aside0.mk (Qaj (g := gb701) (o := .cells #[.string (⟨#[97, 108, 102, 97]⟩ : ByteArray), .string (⟨#[104, 111, 117, 115, 101]⟩ : ByteArray)] 44 (0, 0)) (Zg4 BK701.out NB701_726.out NB701_726.out NB701_726.out NB701_726.out) hb); replace BK726 := Aside0.mk (Zpi #[.int .i64 t721, .int .i64 t722, .int .i64 t723, .int .i64 t724] BK726.out hb); replace HB := Aside0.mk (Qao (Zc2 GE701.out GE726.out) hb); clear hb ho84; obtain ⟨Ao85, co85, eo85⟩ := Kd.R_slice HO713.out; subst eo85; obtain ⟨Ao86, co86, eo86⟩ := Kd.R_slice HO729.out; subst eo86) | (go_at_call 32; (with_reducible refine (QaD.calls k _ _ t711 _ _ y727 T _ ?side1 ?side2 ?side3 ?side4 A36.out).mono ?_); (case side1 => exact Zv (Kd.R_reads' HO713.out).2.2); (case side2 => exact (Kd.R_reads' HO713.out).2.1); (case side3 => exact Zv (Kd.R_reads' HO729.out).2.2); (case side4 => exact (Kd.R_reads' HO729.out).2.1); rintro e w' ⟨rfl, ⟨nd, rfl⟩⟩))
       go_ret
       exact ⟨Zq, Zc2 GE701.out GE726.out⟩
      replace c37 := Bool.eq_false_iff.mpr c37
      subst c37
      have H1 : (some F) = some r := by rw [if_neg (show ¬ (F = T) by decide)] at H; exact H
      clear H
      have H := H1
      clear H1
      obtain rfl := Option.some.inj H
      go_wp2_with (first | ((with_reducible refine QaG (N := 86) rfl ?_); (try (refine Qbs (by rfl) ?_; dsimp only)); refine Kd.R_lit (Kd.int .i64) _ 3 ?hg (N := 86) ?hd (xs := ([800, 300] : List Int)) (inner := [.int .i64 800, .int .i64 300]) (ok := fun _ => True) (okp := fun _ => True) ?hr ?hp (fun _ hk => hk) trivial (Below.refl _ _) (Nat.le_refl _) (by simp) ?_; (case hd => rfl); (case hg => rfl); (case hr => first | (go_simp; done) | (go_simp; rfl)); (case hp => exact (Reps.one (show Kd.M (Kd.int .i64) _ _ _ 800 [.int .i64 800] from rfl) (Reps.one (show Kd.M (Kd.int .i64) _ _ _ 300 [.int .i64 300] from rfl) (Reps.none _ _)))); intro v728 w87 ho88 hb hg_ hnew_; clear hg_ hnew_; (first | rw [← Ny727.out] at ho88 | (simp only [Int.reduceToNat] at ho88; rw [← Ny727.out] at ho88)); have HO729 := Aside0.mk (Kd.R_lower (Kd.R_new' ho88 (Kd.R_lt (by (with_reducible repeat (first | apply Kd.R_alloc | apply Kd.R_drewN | apply Kd.R_drew)); exact (Kd.R_mono (Zf gb726 3 (Zf gb726 2 (Zf gb726 1 (Zf gb726 0 (Kd.R_types HO713.out BK726.out (by decide)) (.int .i64 t721)) (.int .i64 t722)) (.int .i64 t723)) (.int .i64 t724)) (fun _ h_ => h_.1))))) (Qam (Zc2 GE701.out GE726.out))); replace HO704 := Aside0.mk (Kd.R_below (by (with_reducible repeat (first | apply Kd.R_alloc | apply Kd.R_drewN | apply Kd.R_drew)); exact (Kd.R_mono (Zf gb726 3 (Zf gb726 2 (Zf gb726 1 (Zf gb726 0 (Kd.R_types HO704.out BK726.out (by decide)) (.int .i64 t721)) (.int .i64 t722)) (.int .i64 t723)) (.int .i64 t724)) (fun _ h_ => h_.1))) hb); replace HO707 := Aside0.mk (Kd.R_below (by (with_reducible repeat (first | apply Kd.R_alloc | apply Kd.R_drewN | apply Kd.R_drew)); exact (Kd.R_mono (Zf gb726 3 (Zf gb726 2 (Zf gb726 1 (Zf gb726 0 (Kd.R_types HO707.out BK726.out (by decide)) (.int .i64 t721)) (.int .i64 t722)) (.int .i64 t723)) (.int .i64 t724)) (fun _ h_ => h_.1))) hb); replace HO710 := Aside0.mk (Kd.R_below (by (with_reducible repeat (first | apply Kd.R_alloc | apply Kd.R_drewN | apply Kd.R_drew)); exact (Kd.R_mono (Zf gb726 3 (Zf gb726 2 (Zf gb726 1 (Zf gb726 0 (Kd.R_types HO710.out BK726.out (by decide)) (.int .i64 t721)) (.int .i64 t722)) (.int .i64 t723)) (.int .i64 t724)) (fun _ h_ => h_.1))) hb); replace HO713 := Aside0.mk (Kd.R_elder' (by (with_reducible repeat (first | apply Kd.R_alloc | apply Kd.R_drewN | apply Kd.R_drew)); exact (Kd.R_mono (Zf gb726 3 (Zf gb726 2 (Zf gb726 1 (Zf gb726 0 (Kd.R_types HO713.out BK726.out (by decide)) (.int .i64 t721)) (.int .i64 t722)) (.int .i64 t723)) (.int .i64 t724)) (fun _ h_ => h_.1))) (Kd.R_base ho88) hb); replace BK701 := Aside0.mk (Qaj (g := gb701) (o := .cells #[.string (⟨#[97, 108, 102, 97]⟩ : ByteArray), .string (⟨#[104, 111, 117, 115, 101]⟩ : ByteArray)] 44 (0, 0)) (Zg4 BK701.out NB701_726.out NB701_726.out NB701_726.out NB701_726.out) hb); replace BK726 := Aside0.mk (Zpi #[.int .i64 t721, .int .i64 t722, .int .i64 t723, .int .i64 t724] BK726.out hb); replace HB := Aside0.mk (Qao (Zc2 GE701.out GE726.out) hb); clear hb ho88; obtain ⟨Ao89, co89, eo89⟩ := Kd.R_slice HO713.out; subst eo89; obtain ⟨Ao90, co90, eo90⟩ := Kd.R_slice HO729.out; subst eo90) | (go_at_call 32; (with_reducible refine (QaD.calls k _ _ t711 _ _ y727 F _ ?side1 ?side2 ?side3 ?side4 A36.out).mono ?_); (case side1 => exact Zv (Kd.R_reads' HO713.out).2.2); (case side2 => exact (Kd.R_reads' HO713.out).2.1); (case side3 => exact Zv (Kd.R_reads' HO729.out).2.2); (case side4 => exact (Kd.R_reads' HO729.out).2.1); rintro e w' ⟨rfl, ⟨nd, rfl⟩⟩))
      go_ret
      exact ⟨Zq, Zc2 GE701.out GE726.out⟩
     rw [if_neg c35] at H
     have c35b0 : (t725 == 0) = F := beq_eq_false_iff_ne.mpr c35
     have c35b1 : (t725 != 0) = T := bne_iff_ne.mpr c35
     obtain rfl := Option.some.inj H
     go_wp2
     go_ret
     exact ⟨Zq, Zc2 GE701.out GE726.out⟩
    rw [if_neg c34] at H
    have c34b0 : (t720 == 0) = F := beq_eq_false_iff_ne.mpr c34
    have c34b1 : (t720 != 0) = T := bne_iff_ne.mpr c34
    obtain rfl := Option.some.inj H
    go_wp2
    go_ret
    exact ⟨Zq, Zc2 GE701.out GE726.out⟩
   rw [if_neg c33] at H
   have c33b0 : (t718 == 0) = F := beq_eq_false_iff_ne.mpr c33
   have c33b1 : (t718 != 0) = T := bne_iff_ne.mpr c33
   obtain rfl := Option.some.inj H
   go_wp2
   go_ret
   exact ⟨Zq, Zc2 GE701.out GE726.out⟩
  rw [if_neg c32] at H
  have c32b0 : (t716 == 0) = F := beq_eq_false_iff_ne.mpr c32
  have c32b1 : (t716 != 0) = T := bne_iff_ne.mpr c32
  obtain rfl := Option.some.inj H
  go_wp2
  go_ret
  exact ⟨Zq, Zc2 GE701.out GE726.out⟩
 rw [if_neg c31] at H
 have c31b0 : (t714 == 0) = F := beq_eq_false_iff_ne.mpr c31
 have c31b1 : (t714 != 0) = T := bne_iff_ne.mpr c31
 (try simp only [c31b0, c31b1])
 obtain rfl := Option.some.inj H
 go_wp2
 go_ret
 exact ⟨Zq, Zc2 GE701.out GE726.out⟩
mutual
def Qas.l0 : Nat → List (S46) → Int → Option (Int)
 | 0, _, _ => none
 | k + 1, x0, x3 => if x3 < (x0.length : Int) then (if 0 ≤ x3 then ((Qa5.f k ((rd_T46 x0 x3).f0.f0) ((rd_T46 x0 x3).f0.f1)).bind fun t393 => (if t393 = T then ((Qay.f k ((rd_T46 x0 x3).f1)).bind fun t395 => (Qas.j1 k x0 x3 (!t395))) else (Qas.j1 k x0 x3 T))) else (none)) else (some 0)
def Qas.j1 : Nat → List (S46) → Int → Bool → Option (Int)
 | 0, _, _, _ => none
 | k + 1, x0, x3, x28 => if x28 = T then (some 10) else (if x3 > 0 then (if 0 ≤ (wrap64 (x3 - 1)) then (if (wrap64 (x3 - 1)) < (x0.length : Int) then (if 0 ≤ x3 then (if x3 < (x0.length : Int) then ((Qbk.f ((rd_T46 x0 (wrap64 (x3 - 1))).f0.f0) ((rd_T46 x0 (wrap64 (x3 - 1))).f0.f1) ((rd_T46 x0 (wrap64 (x3 - 1))).f1) ((rd_T46 x0 (wrap64 (x3 - 1))).f2) ((rd_T46 x0 x3).f0.f0) ((rd_T46 x0 x3).f0.f1) ((rd_T46 x0 x3).f1) ((rd_T46 x0 x3).f2)).bind fun t398 => (Qas.j2 k x0 x3 (!t398))) else (none)) else (none)) else (none)) else (none)) else (Qas.j2 k x0 x3 F))
def Qas.j2 : Nat → List (S46) → Int → Bool → Option (Int)
 | 0, _, _, _ => none
 | k + 1, x0, x3, x43 => if x43 = T then (some 12) else (if 0 ≤ x3 then (if x3 < (x0.length : Int) then ((Qbn.f ((rd_T46 x0 x3).f2)).bind fun t400 => (if t400 = T then (Qas.l0 k x0 (wrap64 (x3 + 1))) else (some 18))) else (none)) else (none))
end
def Qas.f (k : Nat) (l0 : List (S46)) : Option (Int) := if (l0.length : Int) > 1024 then (some 8) else (Qas.l0 k l0 0)
theorem Qas.mono_l : ∀ k, (∀ y0 y1, LeO (Qas.l0 k y0 y1) (Qas.l0 (k + 1) y0 y1)) ∧ (∀ y0 y1 y2, LeO (Qas.j1 k y0 y1 y2) (Qas.j1 (k + 1) y0 y1 y2)) ∧ (∀ y0 y1 y2, LeO (Qas.j2 k y0 y1 y2) (Qas.j2 (k + 1) y0 y1 y2))
 | 0 => ⟨fun _ _ r h => by simp [Qas.l0] at h, fun _ _ _ r h => by simp [Qas.j1] at h, fun _ _ _ r h => by simp [Qas.j2] at h⟩
 | k + 1 => by
  obtain ⟨ih0, ih1, ih2⟩ := Qas.mono_l k
  refine ⟨?_, ?_, ?_⟩
  ·intro y0 y1
   unfold Qas.l0
   exact ZM5 ih0 ih1 ih2 Qay.mono Qa5.mono
  ·intro y0 y1 y2
   unfold Qas.j1
   exact ZM5 ih0 ih1 ih2 Qay.mono Qa5.mono
  intro y0 y1 y2
  unfold Qas.j2
  exact ZM5 ih0 ih1 ih2 Qay.mono Qa5.mono
theorem Qas.mono : ∀ a0 k, LeO (Qas.f k a0) (Qas.f (k + 1) a0) := by
 intro a0 k
 obtain ⟨ih0, ih1, ih2⟩ := Qas.mono_l k
 unfold Qas.f
 exact ZM5 ih0 ih1 ih2 Qay.mono Qa5.mono
def Qas.T8 : Bool × List (List Nat × List Nat) := (T, [([], []), ([0], [0]), ([1], [1]), ([2], [2]), ([2], [2]), ([4, 2], [2, 4]), ([3, 5, 2], [2, 3, 5]), ([6, 2], [2, 6]), ([2], [2]), ([2], [2]), ([8, 9, 2], [2, 8, 9]), ([10, 2], [2, 10]), ([7, 11, 2, 2], [2, 7, 11]), ([12, 2], [2, 12]), ([2, 13], [2, 13])])
def Qas.B8 : List Nat := [0, 1, 3, 7, 7, 23, 63, 127, 7, 7, 775, 1799, 4095, 8191, 16383]
theorem Qas.tab8 : rtab .any (opsOf Try.f66 8) = Qas.T8 := by kernel_rfl
theorem Qas.bits8 : QbP Qas.T8.2 Qas.B8 = T := by kernel_rfl
theorem Qas.calls (k : Nat) (A0 : Option Addr) (c0 : Nat) (l0 : List (S46)) (r : Int) (w : World) (hr0 : Kd.C k46 w A0 l0.length l0) (hc0 : l0.length ≤ c0) (h : Qas.f k l0 = some r) :
  Calls Try.prog 66 #[.slice A0 l0.length c0] w fun e w' => e = .returned (.int .i64 r) ∧ Below w.heap.size w w' := by
 have hu44 := Try.underlying44
 have hu46 := Try.underlying46
 have HR0 := Aside0.mk hr0
 have HC0 := Aside0.mk hc0
 clear hr0 hc0
 have HB := Aside0.mk (Below.refl w.heap.size w)
 have H : (if (l0.length : Int) > 1024 then (some 8) else (Qas.l0 k l0 0)) = some r := h
 clear h
 by_cases c2 : (l0.length : Int) > 1024
 ·rw [if_pos c2] at H
  have c2b0 : decide (1024 < (l0.length : Int)) = T := decide_eq_true c2
  have c2b1 : decide (1024 < l0.length) = T := decide_eq_true (by omega)
  clear c2
  obtain rfl := Option.some.inj H
  go_enter Try.func66, Try.ntmps66
  go_wp2
  go_ret
  exact ⟨Zq, Zb⟩
 rw [if_neg c2] at H
 have c2b0 : decide (1024 < (l0.length : Int)) = F := decide_eq_false c2
 have c2b1 : decide (1024 < l0.length) = F := decide_eq_false (by omega)
 clear c2
 have H' := Aside0.mk H
 clear H
 go_enter Try.func66, Try.ntmps66
 go_wp2
 go_loopg [3] k (fun kq v3 w' => ∃ (x3_1 : Int), v3 = .int .i64 x3_1 ∧ Aside0 (Qas.l0 kq l0 x3_1 = some r) ∧ Aside0 (kq ≤ k) ∧ Aside0 (Below w.heap.size w w'))
 case atStart => exact ⟨(0), (Zs), H', ⟨Nat.le_refl _⟩, ⟨Zb⟩⟩
 case round =>
  clear H'
  try clear c2
  try clear c2b0
  try clear c2b1
  try clear p2
  obtain ⟨x3_1, rfl, HA, HK1, HB⟩ := hrel
  cases gk with
  | zero => exact absurd HA.out (by simp [Qas.l0])
  | succ k1 =>
   have H := HA.out
   clear HA
   simp only [Qas.l0] at H
   by_cases c3 : x3_1 < (l0.length : Int)
   ·rw [if_pos c3] at H
    have c3b0 : decide (x3_1 < (l0.length : Int)) = T := decide_eq_true c3
    clear c3
    (try simp only [c3b0])
    have HC4 := Aside0.mk H
    clear H
    go_upto_region 6 with (fail)
    go_cut [28] (fun v28 wc => ∃ (kq : Nat) (x28_3 : Bool), v28 = .bool x28_3 ∧ Aside0 (Qas.j1 kq l0 x3_1 x28_3 = some r) ∧ Aside0 (kq ≤ k1) ∧ Aside0 (Below w.heap.size w wc))
    case first =>
     have H := HC4.out
     clear HC4
     by_cases c5 : 0 ≤ x3_1
     ·rw [if_pos c5] at H
      have c5b0 : decide (0 ≤ x3_1) = T := decide_eq_true c5
      clear c5
      replace H := Option.bind_eq_some_iff.mp H
      obtain ⟨t393, A60, H⟩ := H
      replace H : (if t393 = T then ((Qay.f k1 ((rd_T46 l0 x3_1).f1)).bind fun t395 => (Qas.j1 k1 l0 x3_1 (!t395))) else (Qas.j1 k1 l0 x3_1 T)) = some r := H
      have A6 := Aside0.mk A60
      clear A60
      by_cases c7 : t393 = T
      ·subst c7
       have H1 : ((Qay.f k1 ((rd_T46 l0 x3_1).f1)).bind fun t395 => (Qas.j1 k1 l0 x3_1 (!t395))) = some r := by rw [if_pos rfl] at H; exact H
       clear H
       have H := H1
       clear H1
       replace H := Option.bind_eq_some_iff.mp H
       obtain ⟨t395, A80, H⟩ := H
       replace H : (Qas.j1 k1 l0 x3_1 (!t395)) = some r := H
       have A8 := Aside0.mk A80
       clear A80
       have H' := Aside0.mk H
       clear H
       have p392 : 0 ≤ (x3_1 : Int) := Ze
       have q392 : x3_1 < (l0.length : Int) := Ze
       obtain ⟨ad392, e392, hx392_0, hx392_1, hx392_2, hx392_3⟩ := at_T46 HR0.out x3_1 p392 q392
       cases e392
       replace hx392_0 := Zx HB.out hx392_0
       replace hx392_1 := Zx HB.out hx392_1
       replace hx392_2 := Zx HB.out hx392_2
       replace hx392_3 := Zx HB.out hx392_3
       replace p392 := eq_true p392
       replace q392 := eq_true q392
       go_wp2_with (first | ((with_reducible refine Qax (f := 98) rfl ?_); refine goesL_ (some 18) rfl rfl Try.func98 (by kernel_rfl) rfl #[.agg #[.string ((rd_T46 l0 x3_1).f0.f0), .string ((rd_T46 l0 x3_1).f0.f1)]] rfl (Zl) ?_; (with_reducible refine (Qa5.calls k1 ((rd_T46 l0 x3_1).f0.f0) ((rd_T46 l0 x3_1).f0.f1) T _ A6.out).mono ?_); rintro e w9 ⟨rfl, hb⟩; refine ⟨_, rfl, ?_⟩; replace HB := Aside0.mk (Qao (Zb) hb); (try clear hb); (try clear hb2); (try clear hk); (try clear hi); have p394 : 0 ≤ (x3_1 : Int) := Ze; have q394 : x3_1 < (l0.length : Int) := Ze; obtain ⟨ad394, e394, hx394_0, hx394_1, hx394_2, hx394_3⟩ := at_T46 HR0.out x3_1 p394 q394; obtain rfl : ad392 = ad394 := (by injection e394); replace hx394_0 := Zx HB.out hx394_0; replace hx394_1 := Zx HB.out hx394_1; replace hx394_2 := Zx HB.out hx394_2; replace hx394_3 := Zx HB.out hx394_3; replace p394 := eq_true p394; replace q394 := eq_true q394) | (go_at_call 99; (with_reducible refine (Qay.calls k1 ((rd_T46 l0 x3_1).f1) t395 _ A8.out).mono ?_); rintro e w' ⟨rfl, ⟨nd, rfl⟩⟩))
       go_meet
       case rel => exact ⟨_, (!t395), (Zs), H', ⟨by have := HK1.out; first | omega | exact Nat.le_refl _⟩, ⟨Zb⟩⟩
      replace c7 := Bool.eq_false_iff.mpr c7
      subst c7
      have H1 : (Qas.j1 k1 l0 x3_1 T) = some r := by rw [if_neg (show ¬ (F = T) by decide)] at H; exact H
      clear H
      have H := H1
      clear H1
      have H' := Aside0.mk H
      clear H
      have p392 : 0 ≤ (x3_1 : Int) := Ze
      have q392 : x3_1 < (l0.length : Int) := Ze
      obtain ⟨ad392, e392, hx392_0, hx392_1, hx392_2, hx392_3⟩ := at_T46 HR0.out x3_1 p392 q392
      cases e392
      replace hx392_0 := Zx HB.out hx392_0
      replace hx392_1 := Zx HB.out hx392_1
      replace hx392_2 := Zx HB.out hx392_2
      replace hx392_3 := Zx HB.out hx392_3
      replace p392 := eq_true p392
      replace q392 := eq_true q392
      go_wp2_with (first | ((with_reducible refine Qax (f := 98) rfl ?_); refine goesL_ (some 18) rfl rfl Try.func98 (by kernel_rfl) rfl #[.agg #[.string ((rd_T46 l0 x3_1).f0.f0), .string ((rd_T46 l0 x3_1).f0.f1)]] rfl (Zl) ?_; (with_reducible refine (Qa5.calls k1 ((rd_T46 l0 x3_1).f0.f0) ((rd_T46 l0 x3_1).f0.f1) F _ A6.out).mono ?_); rintro e w10 ⟨rfl, hb⟩; refine ⟨_, rfl, ?_⟩; replace HB := Aside0.mk (Qao (Zb) hb); (try clear hb); (try clear hb2); (try clear hk); (try clear hi)))
      go_meet
      case rel => exact ⟨_, (T), (Zs), H', ⟨by have := HK1.out; first | omega | exact Nat.le_refl _⟩, ⟨Zb⟩⟩
     rw [if_neg c5] at H
     exact absurd H (by simp)
    case rest =>
     clear HC4
     try clear c2
     try clear c2b0
     try clear c2b1
     try clear p2
     try clear c3
     try clear c3b0
     try clear p3
     try clear q3
     try clear hx3
     try clear c5
     try clear c5b0
     try clear c6
     try clear c7
     try clear c9
     try clear hx392_0
     try clear hx392_1
     try clear hx392_2
     try clear hx392_3
     try clear hx394_0
     try clear hx394_1
     try clear hx394_2
     try clear hx394_3
     try clear p2
     try clear p392
     try clear p394
     try clear q392
     try clear q394
     obtain ⟨kq, x28_3, rfl, HA, HJ3, HB⟩ := hcut
     cases kq with
     | zero => exact absurd HA.out (by simp [Qas.j1])
     | succ kj3 =>
      have H := HA.out
      clear HA
      simp only [Qas.j1] at H
      by_cases c11 : x28_3 = T
      ·subst c11
       have H1 : (some 10) = some r := by rw [if_pos rfl] at H; exact H
       clear H
       have H := H1
       clear H1
       obtain rfl := Option.some.inj H
       go_wp2
       go_ret
       exact ⟨Zq, Zb⟩
      replace c11 := Bool.eq_false_iff.mpr c11
      subst c11
      have H1 : (if x3_1 > 0 then (if 0 ≤ (wrap64 (x3_1 - 1)) then (if (wrap64 (x3_1 - 1)) < (l0.length : Int) then (if 0 ≤ x3_1 then (if x3_1 < (l0.length : Int) then ((Qbk.f ((rd_T46 l0 (wrap64 (x3_1 - 1))).f0.f0) ((rd_T46 l0 (wrap64 (x3_1 - 1))).f0.f1) ((rd_T46 l0 (wrap64 (x3_1 - 1))).f1) ((rd_T46 l0 (wrap64 (x3_1 - 1))).f2) ((rd_T46 l0 x3_1).f0.f0) ((rd_T46 l0 x3_1).f0.f1) ((rd_T46 l0 x3_1).f1) ((rd_T46 l0 x3_1).f2)).bind fun t398 => (Qas.j2 kj3 l0 x3_1 (!t398))) else (none)) else (none)) else (none)) else (none)) else (Qas.j2 kj3 l0 x3_1 F)) = some r := by rw [if_neg (show ¬ (F = T) by decide)] at H; exact H
      clear H
      have H := H1
      clear H1
      have HC12 := Aside0.mk H
      clear H
      go_upto_region 8 with (fail)
      go_cut [43] (fun v43 wc => ∃ (kq : Nat) (x43_11 : Bool), v43 = .bool x43_11 ∧ Aside0 (Qas.j2 kq l0 x3_1 x43_11 = some r) ∧ Aside0 (kq ≤ kj3) ∧ Aside0 (Below w.heap.size w wc))
      case first =>
       have H := HC12.out
       clear HC12
       by_cases c13 : x3_1 > 0
       ·rw [if_pos c13] at H
        have c13b0 : decide (0 < x3_1) = T := decide_eq_true c13
        clear c13
        (first | rw [c13b0] | (simp only [i64_w, i32_w]; rw [c13b0]) | skip)
        obtain ⟨ji14, hji14⟩ : ∃ j_ : Int, (wrap64 (x3_1 - 1)) = j_ := ⟨_, rfl⟩
        replace H : (if 0 ≤ (ji14) then (if (ji14) < (l0.length : Int) then (if 0 ≤ x3_1 then (if x3_1 < (l0.length : Int) then ((Qbk.f ((rd_T46 l0 (ji14)).f0.f0) ((rd_T46 l0 (ji14)).f0.f1) ((rd_T46 l0 (ji14)).f1) ((rd_T46 l0 (ji14)).f2) ((rd_T46 l0 x3_1).f0.f0) ((rd_T46 l0 x3_1).f0.f1) ((rd_T46 l0 x3_1).f1) ((rd_T46 l0 x3_1).f2)).bind fun t398 => (Qas.j2 kj3 l0 x3_1 (!t398))) else (none)) else (none)) else (none)) else (none)) = some r := by first | (rw [hji14] at H; exact H) | (simp only [hji14] at H ⊢; exact H)
        have hji14w : (IntKind.i64.wrap (x3_1 - 1)) = ji14 := (i64_w _).trans hji14
        by_cases c15 : 0 ≤ (ji14)
        ·rw [if_pos c15] at H
         have c15b0 : decide (0 ≤ (ji14)) = T := decide_eq_true c15
         clear c15
         by_cases c16 : (ji14) < (l0.length : Int)
         ·rw [if_pos c16] at H
          have c16b0 : decide ((ji14) < (l0.length : Int)) = T := decide_eq_true c16
          clear c16
          by_cases c17 : 0 ≤ x3_1
          ·rw [if_pos c17] at H
           have c17b0 : decide (0 ≤ x3_1) = T := decide_eq_true c17
           clear c17
           by_cases c18 : x3_1 < (l0.length : Int)
           ·rw [if_pos c18] at H
            have c18b0 : decide (x3_1 < (l0.length : Int)) = T := decide_eq_true c18
            clear c18
            replace H := Option.bind_eq_some_iff.mp H
            obtain ⟨t398, A190, H⟩ := H
            replace H : (Qas.j2 kj3 l0 x3_1 (!t398)) = some r := H
            have A19 := Aside0.mk A190
            clear A190
            have H' := Aside0.mk H
            clear H
            try go_wp2
            replace HB := Aside0.mk (Qag HB.out)
            have p396 : 0 ≤ ((ji14) : Int) := Ze
            have q396 : (ji14) < (l0.length : Int) := Ze
            obtain ⟨ad396, e396, hx396_0, hx396_1, hx396_2, hx396_3⟩ := at_T46 HR0.out (ji14) p396 q396
            have hw396_3 := hx396_3
            have hw396_2 := hx396_2
            have hw396_1 := hx396_1
            have hw396_0 := hx396_0
            cases e396
            replace hx396_0 := Zx HB.out hx396_0
            replace hx396_1 := Zx HB.out hx396_1
            replace hx396_2 := Zx HB.out hx396_2
            replace hx396_3 := Zx HB.out hx396_3
            replace p396 := eq_true p396
            replace q396 := eq_true q396
            have p397 : 0 ≤ (x3_1 : Int) := Ze
            have q397 : x3_1 < (l0.length : Int) := Ze
            obtain ⟨ad397, e397, hx397_0, hx397_1, hx397_2, hx397_3⟩ := at_T46 HR0.out x3_1 p397 q397
            have hw397_3 := hx397_3
            have hw397_2 := hx397_2
            have hw397_1 := hx397_1
            have hw397_0 := hx397_0
            obtain rfl : ad396 = ad397 := (by injection e397)
            replace hx397_0 := Zx HB.out hx397_0
            replace hx397_1 := Zx HB.out hx397_1
            replace hx397_2 := Zx HB.out hx397_2
            replace hx397_3 := Zx HB.out hx397_3
            replace p397 := eq_true p397
            replace q397 := eq_true q397
            refine start_ (n := 15) (S := fun w' => w'.cell? (ad396.add (((ji14)).toNat * 4)) = some (.string ((rd_T46 l0 (ji14)).f0.f0)) ∧ w'.cell? ⟨(ad396.add (((ji14)).toNat * 4)).block, (ad396.add (((ji14)).toNat * 4)).off + 1, none⟩ = some (.string ((rd_T46 l0 (ji14)).f0.f1)) ∧ w'.cell? ⟨(ad396.add (((ji14)).toNat * 4)).block, (ad396.add (((ji14)).toNat * 4)).off + 2, none⟩ = some (.string ((rd_T46 l0 (ji14)).f1)) ∧ w'.cell? ⟨(ad396.add (((ji14)).toNat * 4)).block, (ad396.add (((ji14)).toNat * 4)).off + 3, none⟩ = some (.int .i64 ((rd_T46 l0 (ji14)).f2)) ∧ w'.cell? (ad396.add ((x3_1).toNat * 4)) = some (.string ((rd_T46 l0 x3_1).f0.f0)) ∧ w'.cell? ⟨(ad396.add ((x3_1).toNat * 4)).block, (ad396.add ((x3_1).toNat * 4)).off + 1, none⟩ = some (.string ((rd_T46 l0 x3_1).f0.f1)) ∧ w'.cell? ⟨(ad396.add ((x3_1).toNat * 4)).block, (ad396.add ((x3_1).toNat * 4)).off + 2, none⟩ = some (.string ((rd_T46 l0 x3_1).f1)) ∧ w'.cell? ⟨(ad396.add ((x3_1).toNat * 4)).block, (ad396.add ((x3_1).toNat * 4)).off + 3, none⟩ = some (.int .i64 ((rd_T46 l0 x3_1).f2))) (ds := []) #[F, F, F, F, F, F, F, F, F, F, F, F, F, F, F] (by kernel_rfl) rfl rfl ⟨((HB.out.cell (World.block_lt_of_cell? w _ hw396_0)).trans hw396_0), ((HB.out.cell (World.block_lt_of_cell? w _ hw396_1)).trans hw396_1), ((HB.out.cell (World.block_lt_of_cell? w _ hw396_2)).trans hw396_2), ((HB.out.cell (World.block_lt_of_cell? w _ hw396_3)).trans hw396_3), ((HB.out.cell (World.block_lt_of_cell? w _ hw397_0)).trans hw397_0), ((HB.out.cell (World.block_lt_of_cell? w _ hw397_1)).trans hw397_1), ((HB.out.cell (World.block_lt_of_cell? w _ hw397_2)).trans hw397_2), ((HB.out.cell (World.block_lt_of_cell? w _ hw397_3)).trans hw397_3)⟩ (fun hHeld => ?_); refine Qbz Qas.tab8 Qas.bits8 (fun HT_ HW_ => ?_)
            generalize wc.drew = w20 at HB hx396_0 hx396_1 hx396_2 hx396_3 hx397_0 hx397_1 hx397_2 hx397_3 hHeld ⊢
            refine pure_ (i := 0) (N := some 29) (v := ?_) (a' := ?_) #[T, F, F, F, F, F, F, F, F, F, F, F, F, F, F] rfl rfl (any_of HT_.out (by kernel_rfl)) (fun _ _ _ h => h) (Or.inl ⟨by rfl, ?_⟩) ?_ ?_
            rotate_left
            ·intro w'
             go_simp
             with_reducible rfl
            rotate_left
            ·simp only [Act.put, Zj, Zk, Zm, i64_w, i32_w]
             rfl
            refine pure_ (i := 1) (N := some 30) (v := ?_) (a' := ?_) #[T, T, F, F, F, F, F, F, F, F, F, F, F, F, F] rfl rfl (any_of HT_.out (by kernel_rfl)) (fun _ _ _ h => h) (Or.inl ⟨by rfl, ?_⟩) ?_ ?_
            rotate_left
            ·intro w'
             go_simp
             with_reducible rfl
            rotate_left
            ·simp only [Act.put, Zj, Zk, Zm, i64_w, i32_w]
             rfl
            refine pure_ (i := 2) (N := some 31) (v := ?_) (a' := ?_) #[T, T, T, F, F, F, F, F, F, F, F, F, F, F, F] rfl rfl (any_of HT_.out (by kernel_rfl)) (fun _ _ _ h => h) (Or.inl ⟨by rfl, ?_⟩) ?_ ?_
            rotate_left
            ·intro w'
             go_simp
             with_reducible rfl
            rotate_left
            ·simp only [Act.put, Zj, Zk, Zm, i64_w, i32_w]
             rfl
            refine pure_ (i := 3) (N := some 32) (v := ?_) (a' := ?_) #[T, T, T, T, F, F, F, F, F, F, F, F, F, F, F] rfl rfl (any_of HT_.out (by kernel_rfl)) (fun _ _ _ h => h) (Or.inl ⟨by rfl, ?_⟩) ?_ ?_
            rotate_left
            ·intro w'
             go_simp
             with_reducible rfl
            rotate_left
            ·simp only [Act.put, Zj, Zk, Zm, i64_w, i32_w]
             rfl
            refine pure_ (i := 4) (N := some 33) (v := ?_) (a' := ?_) #[T, T, T, T, T, F, F, F, F, F, F, F, F, F, F] rfl rfl (any_of HT_.out (by kernel_rfl)) (fun _ _ _ h => h) (Or.inl ⟨by rfl, ?_⟩) ?_ ?_
            rotate_left
            ·intro w'
             go_simp
             with_reducible rfl
            rotate_left
            ·simp only [Act.put, Zj, Zk, Zm, i64_w, i32_w]
             rfl
            refine pure_ (i := 5) (N := some 34) (v := ?_) (a' := ?_) #[T, T, T, T, T, T, F, F, F, F, F, F, F, F, F] rfl rfl (any_of HT_.out (by kernel_rfl)) (fun _ _ _ h => h) (Or.inl ⟨by rfl, ?_⟩) ?_ ?_
            rotate_left
            ·intro w'
             go_simp
             with_reducible rfl
            rotate_left
            ·simp only [Act.put, Zj, Zk, Zm, i64_w, i32_w]
             rfl
            refine pure_ (i := 6) (N := some 35) (v := ?_) (a' := ?_) #[T, T, T, T, T, T, T, F, F, F, F, F, F, F, F] rfl rfl (any_of HT_.out (by kernel_rfl)) (fun _ _ _ h => h) (Or.inl ⟨by rfl, ?_⟩) ?_ ?_
            rotate_left
            ·intro w'
             go_simp
             with_reducible rfl
            rotate_left
            ·simp only [Act.put, Zj, Zk, Zm, i64_w, i32_w]
             rfl
            refine pure_ (i := 8) (N := some 37) (v := ?_) (a' := ?_) #[T, T, T, T, T, T, T, F, T, F, F, F, F, F, F] rfl rfl (any_of HT_.out (by kernel_rfl)) (fun _ _ _ h => h) (Or.inl ⟨by rfl, ?_⟩) ?_ ?_
            rotate_left
            ·intro w'
             go_simp
             with_reducible rfl
            rotate_left
            ·simp only [Act.put, Zj, Zk, Zm, i64_w, i32_w]
             rfl
            refine pure_ (i := 9) (N := some 38) (v := ?_) (a' := ?_) #[T, T, T, T, T, T, T, F, T, T, F, F, F, F, F] rfl rfl (any_of HT_.out (by kernel_rfl)) (fun _ _ _ h => h) (Or.inl ⟨by rfl, ?_⟩) ?_ ?_
            rotate_left
            ·intro w'
             go_simp
             with_reducible rfl
            rotate_left
            ·simp only [Act.put, Zj, Zk, Zm, i64_w, i32_w]
             rfl
            refine pure_ (i := 10) (N := some 39) (v := ?_) (a' := ?_) #[T, T, T, T, T, T, T, F, T, T, T, F, F, F, F] rfl rfl (any_of HT_.out (by kernel_rfl)) (fun _ _ _ h => h) (Or.inl ⟨by rfl, ?_⟩) ?_ ?_
            rotate_left
            ·intro w'
             go_simp
             with_reducible rfl
            rotate_left
            ·simp only [Act.put, Zj, Zk, Zm, i64_w, i32_w]
             rfl
            refine take_ (i := 7) (N := some 36) (v := ?_) (a' := ?_) #[T, T, T, T, T, T, T, T, T, T, T, F, F, F, F] rfl rfl (Qbm HT_.out HW_.out (by kernel_rfl)) (fun _ _ _ h => h) (Or.inl ⟨by rfl, ?_⟩) hHeld ?_ ?_
            rotate_left
            ·rintro w' ⟨s0, s1, s2, s3, s4, s5, s6, s7⟩
             go_simp
             with_reducible rfl
            rotate_left
            ·simp only [Act.put, Zj, Zk, Zm, i64_w, i32_w]
             rfl
            refine take_ (i := 11) (N := some 40) (v := ?_) (a' := ?_) #[T, T, T, T, T, T, T, T, T, T, T, T, F, F, F] rfl rfl (Qbm HT_.out HW_.out (by kernel_rfl)) (fun _ _ _ h => h) (Or.inl ⟨by rfl, ?_⟩) hHeld ?_ ?_
            rotate_left
            ·rintro w' ⟨s0, s1, s2, s3, s4, s5, s6, s7⟩
             go_simp
             with_reducible rfl
            rotate_left
            ·simp only [Act.put, Zj, Zk, Zm, i64_w, i32_w]
             rfl
            refine one_ (i := 12) (N := some 41) #[T, T, T, T, T, T, T, T, T, T, T, T, T, F, F] rfl rfl (one_of HT_.out (by kernel_rfl)) (by decide) (fun K hK => ?_)
            refine goes_ Try.func100 (by kernel_rfl) rfl #[.agg #[.string ((rd_T46 l0 (ji14)).f0.f0), .string ((rd_T46 l0 (ji14)).f0.f1), .string ((rd_T46 l0 (ji14)).f1), .int .i64 ((rd_T46 l0 (ji14)).f2)], .agg #[.string ((rd_T46 l0 x3_1).f0.f0), .string ((rd_T46 l0 x3_1).f0.f1), .string ((rd_T46 l0 x3_1).f1), .int .i64 ((rd_T46 l0 x3_1).f2)]] (by rfl) rfl rfl (by (try simp only [List.map_toArray, List.map_cons, List.map_nil]); first | done | (simp only [hji14]; rfl) | rfl | (simp only [List.length_drop, List.length_take]; rfl)) ?_
            with_reducible refine (Qbk.calls ((rd_T46 l0 (ji14)).f0.f0) ((rd_T46 l0 (ji14)).f0.f1) ((rd_T46 l0 (ji14)).f1) ((rd_T46 l0 (ji14)).f2) ((rd_T46 l0 x3_1).f0.f0) ((rd_T46 l0 x3_1).f0.f1) ((rd_T46 l0 x3_1).f1) ((rd_T46 l0 x3_1).f2) t398 _ A19.out).mono ?_
            rintro e w21 ⟨rfl, hb⟩
            refine ⟨_, rfl, ?_⟩
            replace HB := Aside0.mk (Qao (Zb) hb)
            (try clear hb)
            (try clear hb2)
            (try clear hk)
            (try clear hi)
            refine hK.out _ _ ⟨((HB.out.cell (World.block_lt_of_cell? w _ hw396_0)).trans hw396_0), ((HB.out.cell (World.block_lt_of_cell? w _ hw396_1)).trans hw396_1), ((HB.out.cell (World.block_lt_of_cell? w _ hw396_2)).trans hw396_2), ((HB.out.cell (World.block_lt_of_cell? w _ hw396_3)).trans hw396_3), ((HB.out.cell (World.block_lt_of_cell? w _ hw397_0)).trans hw397_0), ((HB.out.cell (World.block_lt_of_cell? w _ hw397_1)).trans hw397_1), ((HB.out.cell (World.block_lt_of_cell? w _ hw397_2)).trans hw397_2), ((HB.out.cell (World.block_lt_of_cell? w _ hw397_3)).trans hw397_3)⟩ (fun hHeld => ?_)
            clear hK K
            refine norm_ (a' := ?_) ?_ ?_
            rotate_left
            ·show Act.put _ (some 41) _ = _
             simp only [Act.put, Zj, Zk, Zm, i64_w, i32_w]
             rfl
            refine pure_ (i := 13) (N := some 42) (v := ?_) (a' := ?_) #[T, T, T, T, T, T, T, T, T, T, T, T, T, T, F] rfl rfl (any_of HT_.out (by kernel_rfl)) (fun _ _ _ h => h) (Or.inl ⟨by rfl, ?_⟩) ?_ ?_
            rotate_left
            ·intro w'
             go_simp
             with_reducible rfl
            rotate_left
            ·simp only [Act.put, Zj, Zk, Zm, i64_w, i32_w]
             rfl
            refine pure_ (i := 14) (N := some 43) (v := ?_) (a' := ?_) #[T, T, T, T, T, T, T, T, T, T, T, T, T, T, T] rfl rfl (any_of HT_.out (by kernel_rfl)) (fun _ _ _ h => h) (Or.inl ⟨by rfl, ?_⟩) ?_ ?_
            rotate_left
            ·intro w'
             go_simp
             with_reducible rfl
            rotate_left
            ·simp only [Act.put, Zj, Zk, Zm, i64_w, i32_w]
             rfl
            refine done_ (QbJ HT_.out (by kernel_rfl)) ?_
            try go_wp2
            go_meet
            case rel => exact ⟨_, (!t398), (Zs), H', ⟨by have := HK1.out; have := HJ3.out; first | omega | exact Nat.le_refl _⟩, ⟨Zb⟩⟩
           rw [if_neg c18] at H
           exact absurd H (by simp)
          rw [if_neg c17] at H
          exact absurd H (by simp)
         rw [if_neg c16] at H
         exact absurd H (by simp)
        rw [if_neg c15] at H
        exact absurd H (by simp)
       rw [if_neg c13] at H
       have c13b0 : decide (0 < x3_1) = F := decide_eq_false c13
       clear c13
       (first | rw [c13b0] | (simp only [i64_w, i32_w]; rw [c13b0]) | skip)
       have H' := Aside0.mk H
       clear H
       try go_wp2
       replace HB := Aside0.mk (Qag HB.out)
       refine start_ (n := 15) (S := fun w' => True) (ds := []) #[F, F, F, F, F, F, F, F, F, F, F, F, F, F, F] (by kernel_rfl) rfl rfl trivial (fun hHeld => ?_); refine Qbz Qas.tab8 Qas.bits8 (fun HT_ HW_ => ?_)
       generalize wc.drew = w22 at HB hHeld ⊢
       refine pure_ (i := 0) (N := some 29) (v := ?_) (a' := ?_) #[T, F, F, F, F, F, F, F, F, F, F, F, F, F, F] rfl rfl (any_of HT_.out (by kernel_rfl)) (fun _ _ _ h => h) (Or.inl ⟨by rfl, ?_⟩) ?_ ?_
       rotate_left
       ·intro w'
        go_simp
        with_reducible rfl
       rotate_left
       ·simp only [Act.put, Zj, Zk, Zm, i64_w, i32_w]
        rfl
       refine pure_ (i := 1) (N := some 30) (v := ?_) (a' := ?_) #[T, T, F, F, F, F, F, F, F, F, F, F, F, F, F] rfl rfl (any_of HT_.out (by kernel_rfl)) (fun _ _ _ h => h) (Or.inl ⟨by rfl, ?_⟩) ?_ ?_
       rotate_left
       ·intro w'
        go_simp
        with_reducible rfl
       rotate_left
       ·simp only [Act.put, Zj, Zk, Zm, i64_w, i32_w]
        rfl
       refine pure_ (i := 2) (N := some 31) (v := ?_) (a' := ?_) #[T, T, T, F, F, F, F, F, F, F, F, F, F, F, F] rfl rfl (any_of HT_.out (by kernel_rfl)) (fun _ _ _ h => h) (Or.inl ⟨by rfl, ?_⟩) ?_ ?_
       rotate_left
       ·intro w'
        go_simp
        with_reducible rfl
       rotate_left
       ·simp only [Act.put, Zj, Zk, Zm, i64_w, i32_w]
        rfl
       refine pure_ (i := 3) (N := some 32) (v := undef) (a' := ?_) #[T, T, T, T, F, F, F, F, F, F, F, F, F, F, F] rfl rfl (any_of HT_.out (by kernel_rfl)) (fun _ _ _ h => h) (Or.inr ⟨by rfl, rfl⟩) ?_ ?_
       rotate_left
       ·simp only [Act.put, Zj, Zk, Zm, i64_w, i32_w]
        rfl
       refine pure_ (i := 4) (N := some 33) (v := undef) (a' := ?_) #[T, T, T, T, T, F, F, F, F, F, F, F, F, F, F] rfl rfl (any_of HT_.out (by kernel_rfl)) (fun _ _ _ h => h) (Or.inr ⟨by rfl, rfl⟩) ?_ ?_
       rotate_left
       ·simp only [Act.put, Zj, Zk, Zm, i64_w, i32_w]
        rfl
       refine pure_ (i := 5) (N := some 34) (v := undef) (a' := ?_) #[T, T, T, T, T, T, F, F, F, F, F, F, F, F, F] rfl rfl (any_of HT_.out (by kernel_rfl)) (fun _ _ _ h => h) (Or.inr ⟨by rfl, rfl⟩) ?_ ?_
       rotate_left
       ·simp only [Act.put, Zj, Zk, Zm, i64_w, i32_w]
        rfl
       refine pure_ (i := 6) (N := some 35) (v := undef) (a' := ?_) #[T, T, T, T, T, T, T, F, F, F, F, F, F, F, F] rfl rfl (any_of HT_.out (by kernel_rfl)) (fun _ _ _ h => h) (Or.inr ⟨by rfl, rfl⟩) ?_ ?_
       rotate_left
       ·simp only [Act.put, Zj, Zk, Zm, i64_w, i32_w]
        rfl
       refine pure_ (i := 7) (N := some 36) (v := undef) (a' := ?_) #[T, T, T, T, T, T, T, T, F, F, F, F, F, F, F] rfl rfl (any_of HT_.out (by kernel_rfl)) (fun _ _ _ h => h) (Or.inr ⟨by rfl, rfl⟩) ?_ ?_
       rotate_left
       ·simp only [Act.put, Zj, Zk, Zm, i64_w, i32_w]
        rfl
       refine pure_ (i := 8) (N := some 37) (v := undef) (a' := ?_) #[T, T, T, T, T, T, T, T, T, F, F, F, F, F, F] rfl rfl (any_of HT_.out (by kernel_rfl)) (fun _ _ _ h => h) (Or.inr ⟨by rfl, rfl⟩) ?_ ?_
       rotate_left
       ·simp only [Act.put, Zj, Zk, Zm, i64_w, i32_w]
        rfl
       refine pure_ (i := 9) (N := some 38) (v := undef) (a' := ?_) #[T, T, T, T, T, T, T, T, T, T, F, F, F, F, F] rfl rfl (any_of HT_.out (by kernel_rfl)) (fun _ _ _ h => h) (Or.inr ⟨by rfl, rfl⟩) ?_ ?_
       rotate_left
       ·simp only [Act.put, Zj, Zk, Zm, i64_w, i32_w]
        rfl
       refine pure_ (i := 10) (N := some 39) (v := undef) (a' := ?_) #[T, T, T, T, T, T, T, T, T, T, T, F, F, F, F] rfl rfl (any_of HT_.out (by kernel_rfl)) (fun _ _ _ h => h) (Or.inr ⟨by rfl, rfl⟩) ?_ ?_
       rotate_left
       ·simp only [Act.put, Zj, Zk, Zm, i64_w, i32_w]
        rfl
       refine pure_ (i := 11) (N := some 40) (v := undef) (a' := ?_) #[T, T, T, T, T, T, T, T, T, T, T, T, F, F, F] rfl rfl (any_of HT_.out (by kernel_rfl)) (fun _ _ _ h => h) (Or.inr ⟨by rfl, rfl⟩) ?_ ?_
       rotate_left
       ·simp only [Act.put, Zj, Zk, Zm, i64_w, i32_w]
        rfl
       refine pure_ (i := 12) (N := some 41) (v := undef) (a' := ?_) #[T, T, T, T, T, T, T, T, T, T, T, T, T, F, F] rfl rfl (any_of HT_.out (by kernel_rfl)) (fun _ _ _ h => h) (Or.inr ⟨by rfl, rfl⟩) ?_ ?_
       rotate_left
       ·simp only [Act.put, Zj, Zk, Zm, i64_w, i32_w]
        rfl
       refine pure_ (i := 13) (N := some 42) (v := undef) (a' := ?_) #[T, T, T, T, T, T, T, T, T, T, T, T, T, T, F] rfl rfl (any_of HT_.out (by kernel_rfl)) (fun _ _ _ h => h) (Or.inr ⟨by rfl, rfl⟩) ?_ ?_
       rotate_left
       ·simp only [Act.put, Zj, Zk, Zm, i64_w, i32_w]
        rfl
       refine pure_ (i := 14) (N := some 43) (v := ?_) (a' := ?_) #[T, T, T, T, T, T, T, T, T, T, T, T, T, T, T] rfl rfl (any_of HT_.out (by kernel_rfl)) (fun _ _ _ h => h) (Or.inl ⟨by rfl, ?_⟩) ?_ ?_
       rotate_left
       ·intro w'
        go_simp
        with_reducible rfl
       rotate_left
       ·simp only [Act.put, Zj, Zk, Zm, i64_w, i32_w]
        rfl
       refine done_ (QbJ HT_.out (by kernel_rfl)) ?_
       try go_wp2
       go_meet
       case rel => exact ⟨_, (F), (Zs), H', ⟨by have := HK1.out; have := HJ3.out; first | omega | exact Nat.le_refl _⟩, ⟨Zb⟩⟩
      case rest =>
       clear HC12
       try clear c1
       try clear c2
       try clear c2b0
       try clear c2b1
       try clear p2
       try clear c3
       try clear c3b0
       try clear p3
       try clear q3
       try clear hx3
       try clear c5
       try clear c5b0
       try clear c6
       try clear p6
       try clear c7
       try clear c9
       try clear c10
       try clear c11
       try clear c13
       try clear c13b0
       try clear c15
       try clear c15b0
       try clear c16
       try clear c16b0
       try clear c17
       try clear c17b0
       try clear c18
       try clear c18b0
       try clear hx392_0
       try clear hx392_1
       try clear hx392_2
       try clear hx392_3
       try clear hx394_0
       try clear hx394_1
       try clear hx394_2
       try clear hx394_3
       try clear hx396_0
       try clear hx396_1
       try clear hx396_2
       try clear hx396_3
       try clear hx397_0
       try clear hx397_1
       try clear hx397_2
       try clear hx397_3
       try clear p2
       try clear p3
       try clear p392
       try clear p394
       try clear p396
       try clear p397
       try clear q3
       try clear q392
       try clear q394
       try clear q396
       try clear q397
       obtain ⟨kq, x43_11, rfl, HA, HJ11, HB⟩ := hcut
       cases kq with
       | zero => exact absurd HA.out (by simp [Qas.j2])
       | succ kj11 =>
        have H := HA.out
        clear HA
        simp only [Qas.j2] at H
        by_cases c23 : x43_11 = T
        ·subst c23
         have H1 : (some 12) = some r := by rw [if_pos rfl] at H; exact H
         clear H
         have H := H1
         clear H1
         obtain rfl := Option.some.inj H
         go_wp2
         go_ret
         exact ⟨Zq, Zb⟩
        replace c23 := Bool.eq_false_iff.mpr c23
        subst c23
        have H1 : (if 0 ≤ x3_1 then (if x3_1 < (l0.length : Int) then ((Qbn.f ((rd_T46 l0 x3_1).f2)).bind fun t400 => (if t400 = T then (Qas.l0 kj11 l0 (wrap64 (x3_1 + 1))) else (some 18))) else (none)) else (none)) = some r := by rw [if_neg (show ¬ (F = T) by decide)] at H; exact H
        clear H
        have H := H1
        clear H1
        by_cases c24 : 0 ≤ x3_1
        ·rw [if_pos c24] at H
         have c24b0 : decide (0 ≤ x3_1) = T := decide_eq_true c24
         clear c24
         (try simp only [c24b0])
         by_cases c25 : x3_1 < (l0.length : Int)
         ·rw [if_pos c25] at H
          have c25b0 : decide (x3_1 < (l0.length : Int)) = T := decide_eq_true c25
          clear c25
          replace H := Option.bind_eq_some_iff.mp H
          obtain ⟨t400, A260, H⟩ := H
          replace H : (if t400 = T then (Qas.l0 kj11 l0 (wrap64 (x3_1 + 1))) else (some 18)) = some r := H
          have A26 := Aside0.mk A260
          clear A260
          have p399 : 0 ≤ (x3_1 : Int) := Ze
          have q399 : x3_1 < (l0.length : Int) := Ze
          obtain ⟨ad399, e399, hx399_0, hx399_1, hx399_2, hx399_3⟩ := at_T46 HR0.out x3_1 p399 q399
          cases e399
          replace hx399_0 := Zx HB.out hx399_0
          replace hx399_1 := Zx HB.out hx399_1
          replace hx399_2 := Zx HB.out hx399_2
          replace hx399_3 := Zx HB.out hx399_3
          replace p399 := eq_true p399
          replace q399 := eq_true q399
          go_upto_if 50 with (first | ((with_reducible refine Qax (f := 101) rfl ?_); refine goesL_ (some 49) rfl rfl Try.func101 (by kernel_rfl) rfl #[.int .i64 ((rd_T46 l0 x3_1).f2)] rfl (Zl) ?_; (with_reducible refine (Qbn.calls ((rd_T46 l0 x3_1).f2) t400 _ A26.out).mono ?_); rintro e w' ⟨rfl, ⟨nd, rfl⟩⟩; refine ⟨_, rfl, ?_⟩))
          (try simp only [Act.put, Zj, Zk, Zm])
          by_cases c27 : t400 = T
          ·subst c27
           have H1 : (Qas.l0 kj11 l0 (wrap64 (x3_1 + 1))) = some r := by rw [if_pos rfl] at H; exact H
           clear H
           have H := H1
           clear H1
           have H' := Aside0.mk H
           clear H
           go_wp2
           go_roundg kj11
           case measure => have := HK1.out; have := HJ3.out; have := HJ11.out; omega
           case rel => exact ⟨(wrap64 (x3_1 + 1)), (Zs), H', ⟨by have := HK1.out; have := HJ3.out; have := HJ11.out; omega⟩, ⟨Zb⟩⟩
          replace c27 := Bool.eq_false_iff.mpr c27
          subst c27
          have H1 : (some 18) = some r := by rw [if_neg (show ¬ (F = T) by decide)] at H; exact H
          clear H
          have H := H1
          clear H1
          obtain rfl := Option.some.inj H
          go_wp2
          go_ret
          exact ⟨Zq, Zb⟩
         rw [if_neg c25] at H
         exact absurd H (by simp)
        rw [if_neg c24] at H
        exact absurd H (by simp)
   rw [if_neg c3] at H
   have c3b0 : decide (x3_1 < (l0.length : Int)) = F := decide_eq_false c3
   clear c3
   (try simp only [c3b0])
   obtain rfl := Option.some.inj H
   go_wp2
   go_ret
   exact ⟨Zq, Zb⟩
end Go.Proofs.Ytfcaaefdmabkhaa.Pr
