-- Written by a program of this session over the print of the translation (its own patch, foreign contracts, cut ways): not trusted: Lean checks it.
import Derived.Test.YtgiljibkjccgfaaGx0
import Derived.Test.YtgiljibkjccgfaaGx1
import Derived.Test.YtgiljibkjccgfaaGx3
import Derived.Test.YtgiljibkjccgfaaGx4
import Derived.Test.YtgiljibkjccgfaaGx5
namespace Go.Proofs.Ytgiljibkjccgfaa.G
open Go.RowKit Go.Proofs.YtgiljibkjccgfaaW.PrintWords Go.Proofs.YtgiljibkjccgfaaW.PrintLast Go.Proofs.YtgiljibkjccgfaaW.PrintMore
attribute [local go_sem] max2_int min2_int max_two min_two max_three min_three max_four min_four   -- for this text's walks alone
set_option linter.unusedVariables false
set_option linter.unusedSimpArgs false

attribute [local go_sem high] eqA25
/-! ### caulklaw07_lives: function 20 -/
def caulklaw07_lives.f (k : Nat)  : Option (Bool) := (field_Put.f k 4 16909060).bind fun bt193 => ((field_Get.f k 2 bt193.1).bind fun bt195 => ((field_Put.f k 1 256).bind fun bt197 => ((field_Get.f k 8 bt193.1).bind fun bt199 => ((field_Put.f k 3 0).bind fun bt201 => ((field_All.f k bt193.1 (([1, 2] : List Int))).bind fun bt206 => ((field_Text.f (⟨#[97, 98]⟩ : ByteArray)).bind fun bt211 => ((field_Ptr.f k 1 2 3).bind fun bt213 => (if bt213.1.size + 1 ≤ 9223372036854775807 then ((field_GetPtr.f k (bt213.1 ++ (⟨#[33]⟩ : ByteArray))).bind fun bt215 => (if bt193.1.toList = ([4, 3, 2, 1] : List UInt8) then (if bt193.2 = 0 then (if bt195.1 = 772 then (if bt195.2 = 0 then (if bt197.2 = 1 then (if bt199.2 = 5 then (if bt201.2 = 1 then ((caulkref07_Same.f k bt206.1 (([4, 515] : List Int))).bind fun t223 => (if t223 = true then (if bt206.2.1.toList = ([1] : List UInt8) then (if bt206.2.2 = 0 then (if bt211.1.toList = ([2, 97, 98] : List UInt8) then (if bt211.2 = 0 then (if (bt213.1.size : Int) = 12 then (if bt213.2 = 0 then (if (bt215.1 == 1 && (bt215.2.1 == 2 && (bt215.2.2.1 == 3))) = true then (some (bt215.2.2.2 == 0)) else (none)) else (none)) else (none)) else (none)) else (none)) else (none)) else (none)) else (none))) else (none)) else (none)) else (none)) else (none)) else (none)) else (none)) else (none))) else (none)))))))))
theorem caulklaw07_lives.mono : ∀ k, LeO (caulklaw07_lives.f k ) (caulklaw07_lives.f (k + 1) ) := by
  intro  k
  unfold caulklaw07_lives.f
  repeat' first
      | (with_reducible exact caulkref07_Same.mono _ _ _)
      | (with_reducible exact field_All.mono _ _ _)
      | (with_reducible exact field_Get.mono _ _ _)
      | (with_reducible exact field_GetPtr.mono _ _)
      | (with_reducible exact field_Ptr.mono _ _ _ _)
      | (with_reducible exact field_Put.mono _ _ _)
      | (with_reducible exact LeO.refl _)
      | (with_reducible exact LeO.none _)
      | (with_reducible refine LeO.ite ?_ ?_)
      | (with_reducible refine LeO.bind ?_ (fun _ => ?_))
      | exact caulkref07_Same.mono _ _ _
      | exact field_All.mono _ _ _
      | exact field_Get.mono _ _ _
      | exact field_GetPtr.mono _ _
      | exact field_Ptr.mono _ _ _ _
      | exact field_Put.mono _ _ _
      | exact LeO.none _
      | refine LeO.ite ?_ ?_
      | refine LeO.bind ?_ (fun _ => ?_)
theorem calls_letter {P : Program} {f : Nat} {vs : Array Value} {W : World} {Q : Ending → World → Prop} (h : ∀ w', w' = W → Calls P f vs w' Q) : Calls P f vs W Q := h W rfl
theorem lit2_C (W : World) (g : Nat) (hg : W.heap.size = g) (a b : Int) (t : TypeId) : (Kd.int .u64).C (W.alloc (.cells #[.int .u64 a, .int .u64 b] t)) (some ⟨g, 0, none⟩) 2 [a, b] := by
  subst hg
  refine Kd.C_of_reads (enc := Value.int .u64) (d := 0) ⟨rfl, by decide, fun _ => ⟨_, rfl, fun j hj => ?_⟩⟩
  rw [add_plain, cell_of_row _ _ _ _ _ _ (heap_alloc_new W _)]
  rcases (by omega : j = 0 ∨ j = 1) with rfl | rfl <;> rfl
set_option maxHeartbeats 8000000 in
set_option maxRecDepth 100000 in
theorem caulklaw07_lives.calls (k : Nat)  (r : Bool) (w : World) (h : caulklaw07_lives.f k  = some r) :
    Calls Try.prog 20 #[] w fun e w' => e = .returned (.bool r) ∧ Below w.heap.size w w' := by
  have hu25 := Try.underlying25
  have HB := Aside0.mk (Below.refl w.heap.size w)
  have H : ((field_Put.f k 4 16909060).bind fun bt193 => ((field_Get.f k 2 bt193.1).bind fun bt195 => ((field_Put.f k 1 256).bind fun bt197 => ((field_Get.f k 8 bt193.1).bind fun bt199 => ((field_Put.f k 3 0).bind fun bt201 => ((field_All.f k bt193.1 (([1, 2] : List Int))).bind fun bt206 => ((field_Text.f (⟨#[97, 98]⟩ : ByteArray)).bind fun bt211 => ((field_Ptr.f k 1 2 3).bind fun bt213 => (if bt213.1.size + 1 ≤ 9223372036854775807 then ((field_GetPtr.f k (bt213.1 ++ (⟨#[33]⟩ : ByteArray))).bind fun bt215 => (if bt193.1.toList = ([4, 3, 2, 1] : List UInt8) then (if bt193.2 = 0 then (if bt195.1 = 772 then (if bt195.2 = 0 then (if bt197.2 = 1 then (if bt199.2 = 5 then (if bt201.2 = 1 then ((caulkref07_Same.f k bt206.1 (([4, 515] : List Int))).bind fun t223 => (if t223 = true then (if bt206.2.1.toList = ([1] : List UInt8) then (if bt206.2.2 = 0 then (if bt211.1.toList = ([2, 97, 98] : List UInt8) then (if bt211.2 = 0 then (if (bt213.1.size : Int) = 12 then (if bt213.2 = 0 then (if (bt215.1 == 1 && (bt215.2.1 == 2 && (bt215.2.2.1 == 3))) = true then (some (bt215.2.2.2 == 0)) else (none)) else (none)) else (none)) else (none)) else (none)) else (none)) else (none)) else (none))) else (none)) else (none)) else (none)) else (none)) else (none)) else (none)) else (none))) else (none)))))))))) = some r := h
  clear h
  replace H := Option.bind_eq_some_iff.mp H
  obtain ⟨⟨t193, t194⟩, A10, H⟩ := H
  replace H : ((field_Get.f k 2 t193).bind fun bt195 => ((field_Put.f k 1 256).bind fun bt197 => ((field_Get.f k 8 t193).bind fun bt199 => ((field_Put.f k 3 0).bind fun bt201 => ((field_All.f k t193 (([1, 2] : List Int))).bind fun bt206 => ((field_Text.f (⟨#[97, 98]⟩ : ByteArray)).bind fun bt211 => ((field_Ptr.f k 1 2 3).bind fun bt213 => (if bt213.1.size + 1 ≤ 9223372036854775807 then ((field_GetPtr.f k (bt213.1 ++ (⟨#[33]⟩ : ByteArray))).bind fun bt215 => (if t193.toList = ([4, 3, 2, 1] : List UInt8) then (if t194 = 0 then (if bt195.1 = 772 then (if bt195.2 = 0 then (if bt197.2 = 1 then (if bt199.2 = 5 then (if bt201.2 = 1 then ((caulkref07_Same.f k bt206.1 (([4, 515] : List Int))).bind fun t223 => (if t223 = true then (if bt206.2.1.toList = ([1] : List UInt8) then (if bt206.2.2 = 0 then (if bt211.1.toList = ([2, 97, 98] : List UInt8) then (if bt211.2 = 0 then (if (bt213.1.size : Int) = 12 then (if bt213.2 = 0 then (if (bt215.1 == 1 && (bt215.2.1 == 2 && (bt215.2.2.1 == 3))) = true then (some (bt215.2.2.2 == 0)) else (none)) else (none)) else (none)) else (none)) else (none)) else (none)) else (none)) else (none))) else (none)) else (none)) else (none)) else (none)) else (none)) else (none)) else (none))) else (none))))))))) = some r := H
  have A1 := Aside0.mk A10
  clear A10
  replace H := Option.bind_eq_some_iff.mp H
  obtain ⟨⟨t195, t196⟩, A20, H⟩ := H
  replace H : ((field_Put.f k 1 256).bind fun bt197 => ((field_Get.f k 8 t193).bind fun bt199 => ((field_Put.f k 3 0).bind fun bt201 => ((field_All.f k t193 (([1, 2] : List Int))).bind fun bt206 => ((field_Text.f (⟨#[97, 98]⟩ : ByteArray)).bind fun bt211 => ((field_Ptr.f k 1 2 3).bind fun bt213 => (if bt213.1.size + 1 ≤ 9223372036854775807 then ((field_GetPtr.f k (bt213.1 ++ (⟨#[33]⟩ : ByteArray))).bind fun bt215 => (if t193.toList = ([4, 3, 2, 1] : List UInt8) then (if t194 = 0 then (if t195 = 772 then (if t196 = 0 then (if bt197.2 = 1 then (if bt199.2 = 5 then (if bt201.2 = 1 then ((caulkref07_Same.f k bt206.1 (([4, 515] : List Int))).bind fun t223 => (if t223 = true then (if bt206.2.1.toList = ([1] : List UInt8) then (if bt206.2.2 = 0 then (if bt211.1.toList = ([2, 97, 98] : List UInt8) then (if bt211.2 = 0 then (if (bt213.1.size : Int) = 12 then (if bt213.2 = 0 then (if (bt215.1 == 1 && (bt215.2.1 == 2 && (bt215.2.2.1 == 3))) = true then (some (bt215.2.2.2 == 0)) else (none)) else (none)) else (none)) else (none)) else (none)) else (none)) else (none)) else (none))) else (none)) else (none)) else (none)) else (none)) else (none)) else (none)) else (none))) else (none)))))))) = some r := H
  have A2 := Aside0.mk A20
  clear A20
  replace H := Option.bind_eq_some_iff.mp H
  obtain ⟨⟨t197, t198⟩, A30, H⟩ := H
  replace H : ((field_Get.f k 8 t193).bind fun bt199 => ((field_Put.f k 3 0).bind fun bt201 => ((field_All.f k t193 (([1, 2] : List Int))).bind fun bt206 => ((field_Text.f (⟨#[97, 98]⟩ : ByteArray)).bind fun bt211 => ((field_Ptr.f k 1 2 3).bind fun bt213 => (if bt213.1.size + 1 ≤ 9223372036854775807 then ((field_GetPtr.f k (bt213.1 ++ (⟨#[33]⟩ : ByteArray))).bind fun bt215 => (if t193.toList = ([4, 3, 2, 1] : List UInt8) then (if t194 = 0 then (if t195 = 772 then (if t196 = 0 then (if t198 = 1 then (if bt199.2 = 5 then (if bt201.2 = 1 then ((caulkref07_Same.f k bt206.1 (([4, 515] : List Int))).bind fun t223 => (if t223 = true then (if bt206.2.1.toList = ([1] : List UInt8) then (if bt206.2.2 = 0 then (if bt211.1.toList = ([2, 97, 98] : List UInt8) then (if bt211.2 = 0 then (if (bt213.1.size : Int) = 12 then (if bt213.2 = 0 then (if (bt215.1 == 1 && (bt215.2.1 == 2 && (bt215.2.2.1 == 3))) = true then (some (bt215.2.2.2 == 0)) else (none)) else (none)) else (none)) else (none)) else (none)) else (none)) else (none)) else (none))) else (none)) else (none)) else (none)) else (none)) else (none)) else (none)) else (none))) else (none))))))) = some r := H
  have A3 := Aside0.mk A30
  clear A30
  replace H := Option.bind_eq_some_iff.mp H
  obtain ⟨⟨t199, t200⟩, A40, H⟩ := H
  replace H : ((field_Put.f k 3 0).bind fun bt201 => ((field_All.f k t193 (([1, 2] : List Int))).bind fun bt206 => ((field_Text.f (⟨#[97, 98]⟩ : ByteArray)).bind fun bt211 => ((field_Ptr.f k 1 2 3).bind fun bt213 => (if bt213.1.size + 1 ≤ 9223372036854775807 then ((field_GetPtr.f k (bt213.1 ++ (⟨#[33]⟩ : ByteArray))).bind fun bt215 => (if t193.toList = ([4, 3, 2, 1] : List UInt8) then (if t194 = 0 then (if t195 = 772 then (if t196 = 0 then (if t198 = 1 then (if t200 = 5 then (if bt201.2 = 1 then ((caulkref07_Same.f k bt206.1 (([4, 515] : List Int))).bind fun t223 => (if t223 = true then (if bt206.2.1.toList = ([1] : List UInt8) then (if bt206.2.2 = 0 then (if bt211.1.toList = ([2, 97, 98] : List UInt8) then (if bt211.2 = 0 then (if (bt213.1.size : Int) = 12 then (if bt213.2 = 0 then (if (bt215.1 == 1 && (bt215.2.1 == 2 && (bt215.2.2.1 == 3))) = true then (some (bt215.2.2.2 == 0)) else (none)) else (none)) else (none)) else (none)) else (none)) else (none)) else (none)) else (none))) else (none)) else (none)) else (none)) else (none)) else (none)) else (none)) else (none))) else (none)))))) = some r := H
  have A4 := Aside0.mk A40
  clear A40
  replace H := Option.bind_eq_some_iff.mp H
  obtain ⟨⟨t201, t202⟩, A50, H⟩ := H
  replace H : ((field_All.f k t193 (([1, 2] : List Int))).bind fun bt206 => ((field_Text.f (⟨#[97, 98]⟩ : ByteArray)).bind fun bt211 => ((field_Ptr.f k 1 2 3).bind fun bt213 => (if bt213.1.size + 1 ≤ 9223372036854775807 then ((field_GetPtr.f k (bt213.1 ++ (⟨#[33]⟩ : ByteArray))).bind fun bt215 => (if t193.toList = ([4, 3, 2, 1] : List UInt8) then (if t194 = 0 then (if t195 = 772 then (if t196 = 0 then (if t198 = 1 then (if t200 = 5 then (if t202 = 1 then ((caulkref07_Same.f k bt206.1 (([4, 515] : List Int))).bind fun t223 => (if t223 = true then (if bt206.2.1.toList = ([1] : List UInt8) then (if bt206.2.2 = 0 then (if bt211.1.toList = ([2, 97, 98] : List UInt8) then (if bt211.2 = 0 then (if (bt213.1.size : Int) = 12 then (if bt213.2 = 0 then (if (bt215.1 == 1 && (bt215.2.1 == 2 && (bt215.2.2.1 == 3))) = true then (some (bt215.2.2.2 == 0)) else (none)) else (none)) else (none)) else (none)) else (none)) else (none)) else (none)) else (none))) else (none)) else (none)) else (none)) else (none)) else (none)) else (none)) else (none))) else (none))))) = some r := H
  have A5 := Aside0.mk A50
  clear A50
  obtain ⟨y203, hy203⟩ : ∃ y_ : List Int, y_ = (([1, 2] : List Int)) := ⟨_, rfl⟩
  replace H : ((field_All.f k t193 y203).bind fun bt206 => ((field_Text.f (⟨#[97, 98]⟩ : ByteArray)).bind fun bt211 => ((field_Ptr.f k 1 2 3).bind fun bt213 => (if bt213.1.size + 1 ≤ 9223372036854775807 then ((field_GetPtr.f k (bt213.1 ++ (⟨#[33]⟩ : ByteArray))).bind fun bt215 => (if t193.toList = ([4, 3, 2, 1] : List UInt8) then (if t194 = 0 then (if t195 = 772 then (if t196 = 0 then (if t198 = 1 then (if t200 = 5 then (if t202 = 1 then ((caulkref07_Same.f k bt206.1 (([4, 515] : List Int))).bind fun t223 => (if t223 = true then (if bt206.2.1.toList = ([1] : List UInt8) then (if bt206.2.2 = 0 then (if bt211.1.toList = ([2, 97, 98] : List UInt8) then (if bt211.2 = 0 then (if (bt213.1.size : Int) = 12 then (if bt213.2 = 0 then (if (bt215.1 == 1 && (bt215.2.1 == 2 && (bt215.2.2.1 == 3))) = true then (some (bt215.2.2.2 == 0)) else (none)) else (none)) else (none)) else (none)) else (none)) else (none)) else (none)) else (none))) else (none)) else (none)) else (none)) else (none)) else (none)) else (none)) else (none))) else (none))))) = some r := by first | (rw [hy203]; with_reducible exact H) | (have H2_ := (Option.bind_some _ _).symm.trans H; rw [hy203]; with_reducible exact H2_) | (have H2_ := (Option.bind_some _ _).symm.trans H; with_reducible exact H2_) | with_reducible exact H | (rw [hy203]; exact H) | exact H
  have Ny203 := Aside0.mk hy203
  clear hy203
  replace H := Option.bind_eq_some_iff.mp H
  obtain ⟨⟨t206, t207, t208⟩, A60, H⟩ := H
  replace H : ((field_Text.f (⟨#[97, 98]⟩ : ByteArray)).bind fun bt211 => ((field_Ptr.f k 1 2 3).bind fun bt213 => (if bt213.1.size + 1 ≤ 9223372036854775807 then ((field_GetPtr.f k (bt213.1 ++ (⟨#[33]⟩ : ByteArray))).bind fun bt215 => (if t193.toList = ([4, 3, 2, 1] : List UInt8) then (if t194 = 0 then (if t195 = 772 then (if t196 = 0 then (if t198 = 1 then (if t200 = 5 then (if t202 = 1 then ((caulkref07_Same.f k t206 (([4, 515] : List Int))).bind fun t223 => (if t223 = true then (if t207.toList = ([1] : List UInt8) then (if t208 = 0 then (if bt211.1.toList = ([2, 97, 98] : List UInt8) then (if bt211.2 = 0 then (if (bt213.1.size : Int) = 12 then (if bt213.2 = 0 then (if (bt215.1 == 1 && (bt215.2.1 == 2 && (bt215.2.2.1 == 3))) = true then (some (bt215.2.2.2 == 0)) else (none)) else (none)) else (none)) else (none)) else (none)) else (none)) else (none)) else (none))) else (none)) else (none)) else (none)) else (none)) else (none)) else (none)) else (none))) else (none)))) = some r := H
  have A6 := Aside0.mk A60
  clear A60
  replace H := Option.bind_eq_some_iff.mp H
  obtain ⟨⟨t211, t212⟩, A70, H⟩ := H
  replace H : ((field_Ptr.f k 1 2 3).bind fun bt213 => (if bt213.1.size + 1 ≤ 9223372036854775807 then ((field_GetPtr.f k (bt213.1 ++ (⟨#[33]⟩ : ByteArray))).bind fun bt215 => (if t193.toList = ([4, 3, 2, 1] : List UInt8) then (if t194 = 0 then (if t195 = 772 then (if t196 = 0 then (if t198 = 1 then (if t200 = 5 then (if t202 = 1 then ((caulkref07_Same.f k t206 (([4, 515] : List Int))).bind fun t223 => (if t223 = true then (if t207.toList = ([1] : List UInt8) then (if t208 = 0 then (if t211.toList = ([2, 97, 98] : List UInt8) then (if t212 = 0 then (if (bt213.1.size : Int) = 12 then (if bt213.2 = 0 then (if (bt215.1 == 1 && (bt215.2.1 == 2 && (bt215.2.2.1 == 3))) = true then (some (bt215.2.2.2 == 0)) else (none)) else (none)) else (none)) else (none)) else (none)) else (none)) else (none)) else (none))) else (none)) else (none)) else (none)) else (none)) else (none)) else (none)) else (none))) else (none))) = some r := H
  have A7 := Aside0.mk A70
  clear A70
  replace H := Option.bind_eq_some_iff.mp H
  obtain ⟨⟨t213, t214⟩, A80, H⟩ := H
  replace H : (if t213.size + 1 ≤ 9223372036854775807 then ((field_GetPtr.f k (t213 ++ (⟨#[33]⟩ : ByteArray))).bind fun bt215 => (if t193.toList = ([4, 3, 2, 1] : List UInt8) then (if t194 = 0 then (if t195 = 772 then (if t196 = 0 then (if t198 = 1 then (if t200 = 5 then (if t202 = 1 then ((caulkref07_Same.f k t206 (([4, 515] : List Int))).bind fun t223 => (if t223 = true then (if t207.toList = ([1] : List UInt8) then (if t208 = 0 then (if t211.toList = ([2, 97, 98] : List UInt8) then (if t212 = 0 then (if (t213.size : Int) = 12 then (if t214 = 0 then (if (bt215.1 == 1 && (bt215.2.1 == 2 && (bt215.2.2.1 == 3))) = true then (some (bt215.2.2.2 == 0)) else (none)) else (none)) else (none)) else (none)) else (none)) else (none)) else (none)) else (none))) else (none)) else (none)) else (none)) else (none)) else (none)) else (none)) else (none))) else (none)) = some r := H
  have A8 := Aside0.mk A80
  clear A80
  by_cases c9 : t213.size + 1 ≤ 9223372036854775807
  · rw [if_pos c9] at H
    have c9b0 := eq_true c9
    have c9b1 : decide (t213.size + 1 ≤ 9223372036854775807) = true := decide_eq_true c9
    try have c9b2 : (9223372036854775807 < t213.size + 1) = False := eq_false (Nat.not_lt.2 c9)
    replace H := Option.bind_eq_some_iff.mp H
    obtain ⟨⟨t215, t216, t217, t218⟩, A100, H⟩ := H
    replace H : (if t193.toList = ([4, 3, 2, 1] : List UInt8) then (if t194 = 0 then (if t195 = 772 then (if t196 = 0 then (if t198 = 1 then (if t200 = 5 then (if t202 = 1 then ((caulkref07_Same.f k t206 (([4, 515] : List Int))).bind fun t223 => (if t223 = true then (if t207.toList = ([1] : List UInt8) then (if t208 = 0 then (if t211.toList = ([2, 97, 98] : List UInt8) then (if t212 = 0 then (if (t213.size : Int) = 12 then (if t214 = 0 then (if (t215 == 1 && (t216 == 2 && (t217 == 3))) = true then (some (t218 == 0)) else (none)) else (none)) else (none)) else (none)) else (none)) else (none)) else (none)) else (none))) else (none)) else (none)) else (none)) else (none)) else (none)) else (none)) else (none)) = some r := H
    have A10 := Aside0.mk A100
    clear A100
    by_cases c11 : t193.toList = ([4, 3, 2, 1] : List UInt8)
    · rw [if_pos c11] at H
      have c11b0 : (t193.toList == ([4, 3, 2, 1] : List UInt8)) = true := beq_iff_eq.mpr c11
      have c11b1 : (t193.toList != ([4, 3, 2, 1] : List UInt8)) = false := bne_eq_false_iff_eq.mpr c11
      clear c11
      by_cases c12 : t194 = 0
      · rw [if_pos c12] at H
        have c12b0 : (t194 == 0) = true := beq_iff_eq.mpr c12
        have c12b1 : (t194 != 0) = false := bne_eq_false_iff_eq.mpr c12
        clear c12
        by_cases c13 : t195 = 772
        · rw [if_pos c13] at H
          have c13b0 : (t195 == 772) = true := beq_iff_eq.mpr c13
          have c13b1 : (t195 != 772) = false := bne_eq_false_iff_eq.mpr c13
          clear c13
          by_cases c14 : t196 = 0
          · rw [if_pos c14] at H
            have c14b0 : (t196 == 0) = true := beq_iff_eq.mpr c14
            have c14b1 : (t196 != 0) = false := bne_eq_false_iff_eq.mpr c14
            clear c14
            by_cases c15 : t198 = 1
            · rw [if_pos c15] at H
              have c15b0 : (t198 == 1) = true := beq_iff_eq.mpr c15
              have c15b1 : (t198 != 1) = false := bne_eq_false_iff_eq.mpr c15
              clear c15
              by_cases c16 : t200 = 5
              · rw [if_pos c16] at H
                have c16b0 : (t200 == 5) = true := beq_iff_eq.mpr c16
                have c16b1 : (t200 != 5) = false := bne_eq_false_iff_eq.mpr c16
                clear c16
                by_cases c17 : t202 = 1
                · rw [if_pos c17] at H
                  have c17b0 : (t202 == 1) = true := beq_iff_eq.mpr c17
                  have c17b1 : (t202 != 1) = false := bne_eq_false_iff_eq.mpr c17
                  clear c17
                  obtain ⟨y220, hy220⟩ : ∃ y_ : List Int, y_ = (([4, 515] : List Int)) := ⟨_, rfl⟩
                  replace H : ((caulkref07_Same.f k t206 y220).bind fun t223 => (if t223 = true then (if t207.toList = ([1] : List UInt8) then (if t208 = 0 then (if t211.toList = ([2, 97, 98] : List UInt8) then (if t212 = 0 then (if (t213.size : Int) = 12 then (if t214 = 0 then (if (t215 == 1 && (t216 == 2 && (t217 == 3))) = true then (some (t218 == 0)) else (none)) else (none)) else (none)) else (none)) else (none)) else (none)) else (none)) else (none))) = some r := by first | (rw [hy220]; with_reducible exact H) | (have H2_ := (Option.bind_some _ _).symm.trans H; rw [hy220]; with_reducible exact H2_) | (have H2_ := (Option.bind_some _ _).symm.trans H; with_reducible exact H2_) | with_reducible exact H | (rw [hy220]; exact H) | exact H
                  have Ny220 := Aside0.mk hy220
                  clear hy220
                  replace H := Option.bind_eq_some_iff.mp H
                  obtain ⟨t223, A180, H⟩ := H
                  replace H : (if t223 = true then (if t207.toList = ([1] : List UInt8) then (if t208 = 0 then (if t211.toList = ([2, 97, 98] : List UInt8) then (if t212 = 0 then (if (t213.size : Int) = 12 then (if t214 = 0 then (if (t215 == 1 && (t216 == 2 && (t217 == 3))) = true then (some (t218 == 0)) else (none)) else (none)) else (none)) else (none)) else (none)) else (none)) else (none)) else (none)) = some r := H
                  have A18 := Aside0.mk A180
                  clear A180
                  by_cases c19 : t223 = true
                  · subst c19
                    have H1 : (if t207.toList = ([1] : List UInt8) then (if t208 = 0 then (if t211.toList = ([2, 97, 98] : List UInt8) then (if t212 = 0 then (if (t213.size : Int) = 12 then (if t214 = 0 then (if (t215 == 1 && (t216 == 2 && (t217 == 3))) = true then (some (t218 == 0)) else (none)) else (none)) else (none)) else (none)) else (none)) else (none)) else (none)) = some r := by rw [if_pos rfl] at H; exact H
                    clear H
                    have H := H1
                    clear H1
                    by_cases c20 : t207.toList = ([1] : List UInt8)
                    · rw [if_pos c20] at H
                      have c20b0 : (t207.toList == ([1] : List UInt8)) = true := beq_iff_eq.mpr c20
                      have c20b1 : (t207.toList != ([1] : List UInt8)) = false := bne_eq_false_iff_eq.mpr c20
                      clear c20
                      by_cases c21 : t208 = 0
                      · rw [if_pos c21] at H
                        have c21b0 : (t208 == 0) = true := beq_iff_eq.mpr c21
                        have c21b1 : (t208 != 0) = false := bne_eq_false_iff_eq.mpr c21
                        clear c21
                        by_cases c22 : t211.toList = ([2, 97, 98] : List UInt8)
                        · rw [if_pos c22] at H
                          have c22b0 : (t211.toList == ([2, 97, 98] : List UInt8)) = true := beq_iff_eq.mpr c22
                          have c22b1 : (t211.toList != ([2, 97, 98] : List UInt8)) = false := bne_eq_false_iff_eq.mpr c22
                          clear c22
                          by_cases c23 : t212 = 0
                          · rw [if_pos c23] at H
                            have c23b0 : (t212 == 0) = true := beq_iff_eq.mpr c23
                            have c23b1 : (t212 != 0) = false := bne_eq_false_iff_eq.mpr c23
                            clear c23
                            by_cases c24 : (t213.size : Int) = 12
                            · rw [if_pos c24] at H
                              have c24b0 : ((t213.size : Int) == 12) = true := beq_iff_eq.mpr c24
                              have c24b1 : ((t213.size : Int) != 12) = false := bne_eq_false_iff_eq.mpr c24
                              clear c24
                              by_cases c25 : t214 = 0
                              · rw [if_pos c25] at H
                                have c25b0 : (t214 == 0) = true := beq_iff_eq.mpr c25
                                have c25b1 : (t214 != 0) = false := bne_eq_false_iff_eq.mpr c25
                                clear c25
                                by_cases c26 : (t215 == 1 && (t216 == 2 && (t217 == 3))) = true
                                · rw [if_pos c26] at H
                                  have c26b0 : (t215 == 1 && (t216 == 2 && (t217 == 3))) = true := c26
                                  (try (have c26b1 : decide (t215 = 1 && (t216 == 2 && (t217 == 3))) = true := by simpa using c26))
                                  (try (have c26b2 : (t215 == 1 && (t216 == 2 && (t217 == 3))) = true := by simpa using c26))
                                  clear c26
                                  obtain rfl := Option.some.inj H
                                  go_enter Try.func20, Try.ntmps20
                                  go_wp2_with (first | ((with_reducible refine gate_callee (f := 10) rfl ?_); refine goesL_ (some 21) rfl rfl Try.func10 (by kernel_rfl) rfl #[.int .i64 4, .int .u64 16909060] rfl (by (try simp only [List.map_toArray, List.map_cons, List.map_nil]); first | done | rfl | (simp only [List.length_drop, List.length_take]; rfl)) ?_; (with_reducible refine (field_Put.calls k 4 16909060 t193 t194 _ A1.out).mono ?_); rintro e w27 ⟨rfl, hb⟩; refine ⟨_, rfl, ?_⟩; have n0_ := Aside0.mk (below_step (by repeat (first | (with_reducible first | exact HB.out | apply below_alloc | apply pw_below_drewN | apply below_drew1) | exact HB.out)) hb); clear HB; have HB := n0_; clear n0_; (try clear hb); (try clear hb2); (try clear hk); (try clear hi)) | ((with_reducible refine gate_callee (f := 12) rfl ?_); refine goesL_ (some 26) rfl rfl Try.func12 (by kernel_rfl) rfl #[.int .i64 2, .string t193] rfl (by (try simp only [List.map_toArray, List.map_cons, List.map_nil]); first | done | rfl | (simp only [List.length_drop, List.length_take]; rfl)) ?_; (with_reducible refine (field_Get.calls k 2 t193 t195 t196 _ A2.out).mono ?_); rintro e w' ⟨rfl, ⟨nd, rfl⟩⟩; refine ⟨_, rfl, ?_⟩; (try (rw [drewN_self w27]; generalize hq_ : World.drewN w27 _ = w27; have n0_ : Aside0 (Below w.heap.size w w27) := ⟨by rw [← hq_]; exact (by repeat (first | (with_reducible first | exact HB.out | apply below_alloc | apply pw_below_drewN | apply below_drew1) | exact HB.out))⟩; clear HB hq_; have HB := n0_; clear n0_))) | ((with_reducible refine gate_callee (f := 10) rfl ?_); refine goesL_ (some 30) rfl rfl Try.func10 (by kernel_rfl) rfl #[.int .i64 1, .int .u64 256] rfl (by (try simp only [List.map_toArray, List.map_cons, List.map_nil]); first | done | rfl | (simp only [List.length_drop, List.length_take]; rfl)) ?_; (with_reducible refine (field_Put.calls k 1 256 t197 t198 _ A3.out).mono ?_); rintro e w28 ⟨rfl, hb⟩; refine ⟨_, rfl, ?_⟩; have n0_ := Aside0.mk (below_step (by repeat (first | (with_reducible first | exact HB.out | apply below_alloc | apply pw_below_drewN | apply below_drew1) | exact HB.out)) hb); clear HB; have HB := n0_; clear n0_; (try clear hb); (try clear hb2); (try clear hk); (try clear hi)) | ((with_reducible refine gate_callee (f := 12) rfl ?_); refine goesL_ (some 35) rfl rfl Try.func12 (by kernel_rfl) rfl #[.int .i64 8, .string t193] rfl (by (try simp only [List.map_toArray, List.map_cons, List.map_nil]); first | done | rfl | (simp only [List.length_drop, List.length_take]; rfl)) ?_; (with_reducible refine (field_Get.calls k 8 t193 t199 t200 _ A4.out).mono ?_); rintro e w' ⟨rfl, ⟨nd, rfl⟩⟩; refine ⟨_, rfl, ?_⟩; (try (rw [drewN_self w28]; generalize hq_ : World.drewN w28 _ = w28; have n0_ : Aside0 (Below w.heap.size w w28) := ⟨by rw [← hq_]; exact (by repeat (first | (with_reducible first | exact HB.out | apply below_alloc | apply pw_below_drewN | apply below_drew1) | exact HB.out))⟩; clear HB hq_; have HB := n0_; clear n0_))) | ((with_reducible refine gate_callee (f := 10) rfl ?_); refine goesL_ (some 39) rfl rfl Try.func10 (by kernel_rfl) rfl #[.int .i64 3, .int .u64 0] rfl (by (try simp only [List.map_toArray, List.map_cons, List.map_nil]); first | done | rfl | (simp only [List.length_drop, List.length_take]; rfl)) ?_; (with_reducible refine (field_Put.calls k 3 0 t201 t202 _ A5.out).mono ?_); rintro e w29 ⟨rfl, hb⟩; refine ⟨_, rfl, ?_⟩; have n0_ := Aside0.mk (below_step (by repeat (first | (with_reducible first | exact HB.out | apply below_alloc | apply pw_below_drewN | apply below_drew1) | exact HB.out)) hb); clear HB; have HB := n0_; clear n0_; (try clear hb); (try clear hb2); (try clear hk); (try clear hi)) | ((with_reducible refine gate_dst (N := 44) rfl ?_); (try (refine gate_guard (by rfl) ?_; dsimp only)); refine Kd.R_lit (Kd.int .i64) _ 3 ?hg (N := 44) ?hd (xs := ([1, 2] : List Int)) (inner := [.int .i64 1, .int .i64 2]) (ok := fun _ => True) (okp := fun _ => True) ?hr ?hp (fun _ hk => hk) trivial (Below.refl _ _) (Nat.le_refl _) (by simp) ?_; (case hd => rfl); (case hg => rfl); (case hr => first | (go_simp; done) | (go_simp; rfl)); (case hp => exact (Reps.one (show Kd.M (Kd.int .i64) _ _ _ 1 [.int .i64 1] from rfl) (Reps.one (show Kd.M (Kd.int .i64) _ _ _ 2 [.int .i64 2] from rfl) (Reps.none _ _)))); intro v204 w30 ho31 hb hg_ hnew_; clear hg_ hnew_; (first | rw [← Ny203.out] at ho31 | (simp only [Int.reduceToNat] at ho31; rw [← Ny203.out] at ho31)); have n0_ := Aside0.mk (Kd.R_lower ho31 (below_size (by repeat (first | (with_reducible first | exact HB.out | apply below_alloc | apply pw_below_drewN | apply below_drew1) | exact HB.out)))); have n1_ := Aside0.mk (below_step (by repeat (first | (with_reducible first | exact HB.out | apply below_alloc | apply pw_below_drewN | apply below_drew1) | exact HB.out)) hb); clear HB; have HO205 := n0_; have HB := n1_; clear n0_ n1_; clear hb ho31; obtain ⟨Ao32, co32, eo32⟩ := Kd.R_slice HO205.out; subst eo32) | ((with_reducible refine gate_callee (f := 21) rfl ?_); refine goesL_ (some 45) rfl rfl Try.func21 (by kernel_rfl) rfl #[.string t193, .slice Ao32 y203.length co32] rfl (by (try simp only [List.map_toArray, List.map_cons, List.map_nil]); first | done | rfl | (simp only [List.length_drop, List.length_take]; rfl)) ?_; (with_reducible refine (field_All.calls k t193 _ _ y203 t206 t207 t208 _ ?side1 ?side2 A6.out).mono ?_); (case side1 => repeat (first | exact (Kd.R_reads' HO205.out).2.2 | (with_reducible refine Kd.C_alloc ?_ _) | (with_reducible refine Kd.C_drewN ?_ _) | (with_reducible refine Kd.C_drew ?_))); (case side2 => exact (Kd.R_reads' HO205.out).2.1); rintro e w33 ⟨v209, rfl, ho0, hb⟩; refine ⟨_, rfl, ?_⟩; have n0_ := Aside0.mk (Kd.R_below (by (with_reducible repeat (first | apply Kd.R_alloc | apply Kd.R_drewN | apply Kd.R_drew)); exact HO205.out) hb); have n1_ := Aside0.mk (Kd.R_lower ho0 (below_size (by repeat (first | (with_reducible first | exact HB.out | apply below_alloc | apply pw_below_drewN | apply below_drew1) | exact HB.out)))); have n2_ := Aside0.mk (below_step (by repeat (first | (with_reducible first | exact HB.out | apply below_alloc | apply pw_below_drewN | apply below_drew1) | exact HB.out)) hb); clear HO205; clear HB; have HO205 := n0_; have HO210 := n1_; have HB := n2_; clear n0_ n1_ n2_; (try clear hb); (try clear hb2); (try clear hk); (try clear hi); (try clear ho0)) | ((with_reducible refine gate_callee (f := 14) rfl ?_); refine goesL_ (some 50) rfl rfl Try.func14 (by kernel_rfl) rfl #[.string (⟨#[97, 98]⟩ : ByteArray)] rfl (by (try simp only [List.map_toArray, List.map_cons, List.map_nil]); first | done | rfl | (simp only [List.length_drop, List.length_take]; rfl)) ?_; (with_reducible refine (field_Text.calls (⟨#[97, 98]⟩ : ByteArray) t211 t212 _ A7.out).mono ?_); rintro e w34 ⟨rfl, hb⟩; refine ⟨_, rfl, ?_⟩; have n0_ := Aside0.mk (Kd.R_below (by (with_reducible repeat (first | apply Kd.R_alloc | apply Kd.R_drewN | apply Kd.R_drew)); exact HO205.out) hb); have n1_ := Aside0.mk (Kd.R_below (by (with_reducible repeat (first | apply Kd.R_alloc | apply Kd.R_drewN | apply Kd.R_drew)); exact HO210.out) hb); have n2_ := Aside0.mk (below_step (by repeat (first | (with_reducible first | exact HB.out | apply below_alloc | apply pw_below_drewN | apply below_drew1) | exact HB.out)) hb); clear HO205; clear HO210; clear HB; have HO205 := n0_; have HO210 := n1_; have HB := n2_; clear n0_ n1_ n2_; (try clear hb); (try clear hb2); (try clear hk); (try clear hi)) | ((with_reducible refine gate_callee (f := 16) rfl ?_); refine goesL_ (some 55) rfl rfl Try.func16 (by kernel_rfl) rfl #[.agg #[.int .i64 1, .int .i64 2, .int .u32 3]] rfl (by (try simp only [List.map_toArray, List.map_cons, List.map_nil]); first | done | rfl | (simp only [List.length_drop, List.length_take]; rfl)) ?_; (with_reducible refine (field_Ptr.calls k 1 2 3 t213 t214 _ A8.out).mono ?_); rintro e w35 ⟨rfl, hb⟩; refine ⟨_, rfl, ?_⟩; have n0_ := Aside0.mk (Kd.R_below (by (with_reducible repeat (first | apply Kd.R_alloc | apply Kd.R_drewN | apply Kd.R_drew)); exact HO205.out) hb); have n1_ := Aside0.mk (Kd.R_below (by (with_reducible repeat (first | apply Kd.R_alloc | apply Kd.R_drewN | apply Kd.R_drew)); exact HO210.out) hb); have n2_ := Aside0.mk (below_step (by repeat (first | (with_reducible first | exact HB.out | apply below_alloc | apply pw_below_drewN | apply below_drew1) | exact HB.out)) hb); clear HO205; clear HO210; clear HB; have HO205 := n0_; have HO210 := n1_; have HB := n2_; clear n0_ n1_ n2_; (try clear hb); (try clear hb2); (try clear hk); (try clear hi)) | ((with_reducible refine gate_callee (f := 18) rfl ?_); refine goesL_ (some 61) rfl rfl Try.func18 (by kernel_rfl) rfl #[.string (t213 ++ (⟨#[33]⟩ : ByteArray))] rfl (by (try simp only [List.map_toArray, List.map_cons, List.map_nil]); first | done | rfl | (simp only [List.length_drop, List.length_take]; rfl)) ?_; (with_reducible refine (field_GetPtr.calls k (t213 ++ (⟨#[33]⟩ : ByteArray)) t215 t216 t217 t218 _ A10.out).mono ?_); rintro e w36 ⟨rfl, hb⟩; refine ⟨_, rfl, ?_⟩; have n0_ := Aside0.mk (Kd.R_below (by (with_reducible repeat (first | apply Kd.R_alloc | apply Kd.R_drewN | apply Kd.R_drew)); exact HO205.out) hb); have n1_ := Aside0.mk (Kd.R_below (by (with_reducible repeat (first | apply Kd.R_alloc | apply Kd.R_drewN | apply Kd.R_drew)); exact HO210.out) hb); have n2_ := Aside0.mk (below_step (by repeat (first | (with_reducible first | exact HB.out | apply below_alloc | apply pw_below_drewN | apply below_drew1) | exact HB.out)) hb); clear HO205; clear HO210; clear HB; have HO205 := n0_; have HO210 := n1_; have HB := n2_; clear n0_ n1_ n2_; (try clear hb); (try clear hb2); (try clear hk); (try clear hi)) | ((with_reducible refine gate_dst (N := 18) rfl ?_); (try (refine gate_guard (by rfl) ?_; dsimp only)); refine box_event ?hg (N := 18) ?hd (cs := #[.int .i64 0, .int .i64 0, .int .u32 0]) (t := 25) ?hr ?_; (case hd => rfl); (case hg => rfl); (case hr => first | (go_simp; done) | (go_simp; rfl)); intro gb219 hg w37 hbox hb; have n0_ := Aside0.mk (Kd.R_below (by (with_reducible repeat (first | apply Kd.R_alloc | apply Kd.R_drewN | apply Kd.R_drew)); exact HO205.out) hb); have n1_ := Aside0.mk (Kd.R_below (by (with_reducible repeat (first | apply Kd.R_alloc | apply Kd.R_drewN | apply Kd.R_drew)); exact HO210.out) hb); have n2_ := Aside0.mk (below_step (by repeat (first | (with_reducible first | exact HB.out | apply below_alloc | apply pw_below_drewN | apply below_drew1) | exact HB.out)) hb); have n3_ := Aside0.mk (hbox); have n4_ := Aside0.mk ((by rw [hg]; exact (below_size (by repeat (first | (with_reducible first | exact HB.out | apply below_alloc | apply pw_below_drewN | apply below_drew1) | exact HB.out))) : w.heap.size ≤ gb219)); have n5_ := Aside0.mk ((by rw [hg]; exact (below_size (by repeat (first | (with_reducible first | exact HB.out | apply below_alloc | apply pw_below_drewN | apply below_drew1) | exact HB.out))) : w.heap.size ≤ gb219)); clear HO205; clear HO210; clear HB; have HO205 := n0_; have HO210 := n1_; have HB := n2_; have BK219 := n3_; have GW219 := n4_; have GE219 := n5_; clear n0_ n1_ n2_ n3_ n4_ n5_; clear hb hbox hg; have hcz38_0 : w37.cell? ⟨gb219, 0, none⟩ = some (.int .i64 0) := (blk_cell BK219.out 0).trans rfl; have hcz38_1 : w37.cell? ⟨gb219, 1, none⟩ = some (.int .i64 0) := (blk_cell BK219.out 1).trans rfl; have hcz38_2 : w37.cell? ⟨gb219, 2, none⟩ = some (.int .u32 0) := (blk_cell BK219.out 2).trans rfl; have hfz38_0 := blk_frozen BK219.out 0; have hfz38_1 := blk_frozen BK219.out 1; have hfz38_2 := blk_frozen BK219.out 2) | (go_at_call 25; refine calls_letter (fun wz hwz => ?_); obtain ⟨Aoz, coz, eoz⟩ := Kd.R_slice HO210.out; subst eoz; have eyz := Ny220.out; subst eyz; have n1_ : (Kd.int .u64).R 22 wz w.heap.size (fun _ => True) (.slice Aoz t206.length coz) t206 := (by rw [hwz]; refine Kd.R_alloc ?_ _; exact (Kd.R_mono (Kd.R_far (p := ⟨gb219, 2, none⟩) (Kd.R_far (p := ⟨gb219, 1, none⟩) (Kd.R_far (p := ⟨gb219, 0, none⟩) (Kd.R_types HO210.out BK219.out (by decide)) (fun _ hk => hk.2) (.int .i64 t215)) (fun _ hk => hk.2) (.int .i64 t216)) (fun _ hk => hk.2) (.int .u32 t217)) (fun _ h_ => h_.1))); have n2_ : (Kd.int .u64).C wz (some ⟨w37.heap.size, 0, none⟩) 2 [4, 515] := (by rw [hwz]; exact lit2_C _ _ (by simp) 4 515 22); have n3_ : wz.heap[gb219]? = some (.cells #[.int .i64 t215, .int .i64 t216, .int .u32 t217] 25 (0, 0)) := (by rw [hwz]; refine blk_alloc ?_ _; refine blk_put (cs := #[.int .i64 t215, .int .i64 t216, .int .u32 0]) ?_ 2 _ rfl; refine blk_put (cs := #[.int .i64 t215, .int .i64 0, .int .u32 0]) ?_ 1 _ rfl; refine blk_put (cs := #[.int .i64 0, .int .i64 0, .int .u32 0]) ?_ 0 _ rfl; exact BK219.out); have n4_ : Below w.heap.size w wz := (by rw [hwz]; repeat (first | (with_reducible first | exact HB.out | apply below_alloc | apply pw_below_drewN | apply below_drew1 | refine below_set ?_ GE219.out) | exact HB.out)); have n5_ := Aside0.mk n1_; have n6_ := Aside0.mk n2_; have n7_ := Aside0.mk n3_; have n8_ := Aside0.mk n4_; clear n1_ n2_ n3_ n4_ hwz HB BK219; have BK219 := n7_; have HB := n8_; clear n7_ n8_; refine (caulkref07_Same.calls k Aoz coz t206 (some ⟨w37.heap.size, 0, none⟩) 2 [4, 515] true wz (Kd.R_reads' n5_.out).2.2 (Kd.R_reads' n5_.out).2.1 n6_.out (by simp) A18.out).mono ?_; rintro e w' ⟨rfl, ⟨nd, rfl⟩⟩; have hcz99_0 : wz.cell? ⟨gb219, 0, none⟩ = some (.int .i64 t215) := (blk_cell BK219.out 0).trans rfl; have hcz99_1 : wz.cell? ⟨gb219, 1, none⟩ = some (.int .i64 t216) := (blk_cell BK219.out 1).trans rfl; have hcz99_2 : wz.cell? ⟨gb219, 2, none⟩ = some (.int .u32 t217) := (blk_cell BK219.out 2).trans rfl; have hfz99_0 := blk_frozen BK219.out 0; have hfz99_1 := blk_frozen BK219.out 1; have hfz99_2 := blk_frozen BK219.out 2))
                                  go_ret
                                  exact ⟨by first | rfl | (simp [errW_none, errW_some] <;> rfl) | (simp [*, errW_none, errW_some] <;> rfl), by repeat (first | (with_reducible first | exact HB.out | apply below_alloc | apply pw_below_drewN | apply below_drew1 | refine below_set ?_ GE219.out) | exact HB.out)⟩
                                · rw [if_neg c26] at H
                                  exact absurd H (by simp)
                              · rw [if_neg c25] at H
                                exact absurd H (by simp)
                            · rw [if_neg c24] at H
                              exact absurd H (by simp)
                          · rw [if_neg c23] at H
                            exact absurd H (by simp)
                        · rw [if_neg c22] at H
                          exact absurd H (by simp)
                      · rw [if_neg c21] at H
                        exact absurd H (by simp)
                    · rw [if_neg c20] at H
                      exact absurd H (by simp)
                  · replace c19 := Bool.eq_false_iff.mpr c19
                    subst c19
                    have H1 : (none) = some r := by rw [if_neg (show ¬ (false = true) by decide)] at H; exact H
                    clear H
                    have H := H1
                    clear H1
                    exact absurd H (by simp)
                · rw [if_neg c17] at H
                  exact absurd H (by simp)
              · rw [if_neg c16] at H
                exact absurd H (by simp)
            · rw [if_neg c15] at H
              exact absurd H (by simp)
          · rw [if_neg c14] at H
            exact absurd H (by simp)
        · rw [if_neg c13] at H
          exact absurd H (by simp)
      · rw [if_neg c12] at H
        exact absurd H (by simp)
    · rw [if_neg c11] at H
      exact absurd H (by simp)
  · rw [if_neg c9] at H
    exact absurd H (by simp)

/-! ### caulklaw07_FieldTells: function 3 -/
def caulklaw07_FieldTells.f (k : Nat) (a0 : Int) (a1 : Int) (a2 : ByteArray) (a3_0 : Int) (a3_1 : Int) (a3_2 : Int) : Option (Bool) := (field_Put.f k a0 a1).bind fun bt225 => ((caulkref07_Put.f k a0 a1).bind fun bt227 => ((field_Get.f k a0 a2).bind fun bt229 => ((caulkref07_Get.f k a0 a2).bind fun bt231 => ((field_Text.f a2).bind fun bt233 => ((caulkref07_Text.f a2).bind fun bt235 => ((field_Ptr.f k a3_0 a3_1 a3_2).bind fun bt237 => ((caulkref07_Ptr.f k a3_0 a3_1 a3_2).bind fun bt239 => ((field_GetPtr.f k a2).bind fun bt241 => ((caulkref07_GetPtr.f k a2).bind fun bt246 => ((caulklaw07_lives.f k).bind fun t251 => (if t251 = true then (if bt225.1.toList = bt227.1.toList then (if bt225.2 = bt227.2 then (if bt229.1 = bt231.1 then (if bt229.2 = bt231.2 then (if bt233.1.toList = bt235.1.toList then (if bt233.2 = bt235.2 then (if bt237.1.toList = bt239.1.toList then (if bt237.2 = bt239.2 then (if (bt241.1 == bt246.1 && (bt241.2.1 == bt246.2.1 && (bt241.2.2.1 == bt246.2.2.1))) = true then (some (bt241.2.2.2 == bt246.2.2.2)) else (none)) else (none)) else (none)) else (none)) else (none)) else (none)) else (none)) else (none)) else (none)) else (none))))))))))))
theorem caulklaw07_FieldTells.mono : ∀ a0 a1 a2 a3 a4 a5 k, LeO (caulklaw07_FieldTells.f k a0 a1 a2 a3 a4 a5) (caulklaw07_FieldTells.f (k + 1) a0 a1 a2 a3 a4 a5) := by
  intro a0 a1 a2 a3 a4 a5 k
  unfold caulklaw07_FieldTells.f
  repeat' first
      | (with_reducible exact caulklaw07_lives.mono _)
      | (with_reducible exact caulkref07_Get.mono _ _ _)
      | (with_reducible exact caulkref07_GetPtr.mono _ _)
      | (with_reducible exact caulkref07_Ptr.mono _ _ _ _)
      | (with_reducible exact caulkref07_Put.mono _ _ _)
      | (with_reducible exact field_Get.mono _ _ _)
      | (with_reducible exact field_GetPtr.mono _ _)
      | (with_reducible exact field_Ptr.mono _ _ _ _)
      | (with_reducible exact field_Put.mono _ _ _)
      | (with_reducible exact LeO.refl _)
      | (with_reducible exact LeO.none _)
      | (with_reducible refine LeO.ite ?_ ?_)
      | (with_reducible refine LeO.bind ?_ (fun _ => ?_))
      | exact caulklaw07_lives.mono _
      | exact caulkref07_Get.mono _ _ _
      | exact caulkref07_GetPtr.mono _ _
      | exact caulkref07_Ptr.mono _ _ _ _
      | exact caulkref07_Put.mono _ _ _
      | exact field_Get.mono _ _ _
      | exact field_GetPtr.mono _ _
      | exact field_Ptr.mono _ _ _ _
      | exact field_Put.mono _ _ _
      | exact LeO.none _
      | refine LeO.ite ?_ ?_
      | refine LeO.bind ?_ (fun _ => ?_)
set_option maxHeartbeats 8000000 in
set_option maxRecDepth 100000 in
theorem caulklaw07_FieldTells.calls (k : Nat) (a0 : Int) (a1 : Int) (a2 : ByteArray) (a3_0 : Int) (a3_1 : Int) (a3_2 : Int) (r : Bool) (w : World) (h : caulklaw07_FieldTells.f k a0 a1 a2 a3_0 a3_1 a3_2 = some r) :
    Calls Try.prog 3 #[.int .i64 a0, .int .u64 a1, .string a2, .agg #[.int .i64 a3_0, .int .i64 a3_1, .int .u32 a3_2]] w fun e w' => e = .returned (.bool r) ∧ Below w.heap.size w w' := by
  have hu25 := Try.underlying25
  have HB := Aside0.mk (Below.refl w.heap.size w)
  have H : ((field_Put.f k a0 a1).bind fun bt225 => ((caulkref07_Put.f k a0 a1).bind fun bt227 => ((field_Get.f k a0 a2).bind fun bt229 => ((caulkref07_Get.f k a0 a2).bind fun bt231 => ((field_Text.f a2).bind fun bt233 => ((caulkref07_Text.f a2).bind fun bt235 => ((field_Ptr.f k a3_0 a3_1 a3_2).bind fun bt237 => ((caulkref07_Ptr.f k a3_0 a3_1 a3_2).bind fun bt239 => ((field_GetPtr.f k a2).bind fun bt241 => ((caulkref07_GetPtr.f k a2).bind fun bt246 => ((caulklaw07_lives.f k).bind fun t251 => (if t251 = true then (if bt225.1.toList = bt227.1.toList then (if bt225.2 = bt227.2 then (if bt229.1 = bt231.1 then (if bt229.2 = bt231.2 then (if bt233.1.toList = bt235.1.toList then (if bt233.2 = bt235.2 then (if bt237.1.toList = bt239.1.toList then (if bt237.2 = bt239.2 then (if (bt241.1 == bt246.1 && (bt241.2.1 == bt246.2.1 && (bt241.2.2.1 == bt246.2.2.1))) = true then (some (bt241.2.2.2 == bt246.2.2.2)) else (none)) else (none)) else (none)) else (none)) else (none)) else (none)) else (none)) else (none)) else (none)) else (none))))))))))))) = some r := h
  clear h
  replace H := Option.bind_eq_some_iff.mp H
  obtain ⟨⟨t225, t226⟩, A50, H⟩ := H
  replace H : ((caulkref07_Put.f k a0 a1).bind fun bt227 => ((field_Get.f k a0 a2).bind fun bt229 => ((caulkref07_Get.f k a0 a2).bind fun bt231 => ((field_Text.f a2).bind fun bt233 => ((caulkref07_Text.f a2).bind fun bt235 => ((field_Ptr.f k a3_0 a3_1 a3_2).bind fun bt237 => ((caulkref07_Ptr.f k a3_0 a3_1 a3_2).bind fun bt239 => ((field_GetPtr.f k a2).bind fun bt241 => ((caulkref07_GetPtr.f k a2).bind fun bt246 => ((caulklaw07_lives.f k).bind fun t251 => (if t251 = true then (if t225.toList = bt227.1.toList then (if t226 = bt227.2 then (if bt229.1 = bt231.1 then (if bt229.2 = bt231.2 then (if bt233.1.toList = bt235.1.toList then (if bt233.2 = bt235.2 then (if bt237.1.toList = bt239.1.toList then (if bt237.2 = bt239.2 then (if (bt241.1 == bt246.1 && (bt241.2.1 == bt246.2.1 && (bt241.2.2.1 == bt246.2.2.1))) = true then (some (bt241.2.2.2 == bt246.2.2.2)) else (none)) else (none)) else (none)) else (none)) else (none)) else (none)) else (none)) else (none)) else (none)) else (none)))))))))))) = some r := H
  have A5 := Aside0.mk A50
  clear A50
  replace H := Option.bind_eq_some_iff.mp H
  obtain ⟨⟨t227, t228⟩, A60, H⟩ := H
  replace H : ((field_Get.f k a0 a2).bind fun bt229 => ((caulkref07_Get.f k a0 a2).bind fun bt231 => ((field_Text.f a2).bind fun bt233 => ((caulkref07_Text.f a2).bind fun bt235 => ((field_Ptr.f k a3_0 a3_1 a3_2).bind fun bt237 => ((caulkref07_Ptr.f k a3_0 a3_1 a3_2).bind fun bt239 => ((field_GetPtr.f k a2).bind fun bt241 => ((caulkref07_GetPtr.f k a2).bind fun bt246 => ((caulklaw07_lives.f k).bind fun t251 => (if t251 = true then (if t225.toList = t227.toList then (if t226 = t228 then (if bt229.1 = bt231.1 then (if bt229.2 = bt231.2 then (if bt233.1.toList = bt235.1.toList then (if bt233.2 = bt235.2 then (if bt237.1.toList = bt239.1.toList then (if bt237.2 = bt239.2 then (if (bt241.1 == bt246.1 && (bt241.2.1 == bt246.2.1 && (bt241.2.2.1 == bt246.2.2.1))) = true then (some (bt241.2.2.2 == bt246.2.2.2)) else (none)) else (none)) else (none)) else (none)) else (none)) else (none)) else (none)) else (none)) else (none)) else (none))))))))))) = some r := H
  have A6 := Aside0.mk A60
  clear A60
  replace H := Option.bind_eq_some_iff.mp H
  obtain ⟨⟨t229, t230⟩, A70, H⟩ := H
  replace H : ((caulkref07_Get.f k a0 a2).bind fun bt231 => ((field_Text.f a2).bind fun bt233 => ((caulkref07_Text.f a2).bind fun bt235 => ((field_Ptr.f k a3_0 a3_1 a3_2).bind fun bt237 => ((caulkref07_Ptr.f k a3_0 a3_1 a3_2).bind fun bt239 => ((field_GetPtr.f k a2).bind fun bt241 => ((caulkref07_GetPtr.f k a2).bind fun bt246 => ((caulklaw07_lives.f k).bind fun t251 => (if t251 = true then (if t225.toList = t227.toList then (if t226 = t228 then (if t229 = bt231.1 then (if t230 = bt231.2 then (if bt233.1.toList = bt235.1.toList then (if bt233.2 = bt235.2 then (if bt237.1.toList = bt239.1.toList then (if bt237.2 = bt239.2 then (if (bt241.1 == bt246.1 && (bt241.2.1 == bt246.2.1 && (bt241.2.2.1 == bt246.2.2.1))) = true then (some (bt241.2.2.2 == bt246.2.2.2)) else (none)) else (none)) else (none)) else (none)) else (none)) else (none)) else (none)) else (none)) else (none)) else (none)))))))))) = some r := H
  have A7 := Aside0.mk A70
  clear A70
  replace H := Option.bind_eq_some_iff.mp H
  obtain ⟨⟨t231, t232⟩, A80, H⟩ := H
  replace H : ((field_Text.f a2).bind fun bt233 => ((caulkref07_Text.f a2).bind fun bt235 => ((field_Ptr.f k a3_0 a3_1 a3_2).bind fun bt237 => ((caulkref07_Ptr.f k a3_0 a3_1 a3_2).bind fun bt239 => ((field_GetPtr.f k a2).bind fun bt241 => ((caulkref07_GetPtr.f k a2).bind fun bt246 => ((caulklaw07_lives.f k).bind fun t251 => (if t251 = true then (if t225.toList = t227.toList then (if t226 = t228 then (if t229 = t231 then (if t230 = t232 then (if bt233.1.toList = bt235.1.toList then (if bt233.2 = bt235.2 then (if bt237.1.toList = bt239.1.toList then (if bt237.2 = bt239.2 then (if (bt241.1 == bt246.1 && (bt241.2.1 == bt246.2.1 && (bt241.2.2.1 == bt246.2.2.1))) = true then (some (bt241.2.2.2 == bt246.2.2.2)) else (none)) else (none)) else (none)) else (none)) else (none)) else (none)) else (none)) else (none)) else (none)) else (none))))))))) = some r := H
  have A8 := Aside0.mk A80
  clear A80
  replace H := Option.bind_eq_some_iff.mp H
  obtain ⟨⟨t233, t234⟩, A90, H⟩ := H
  replace H : ((caulkref07_Text.f a2).bind fun bt235 => ((field_Ptr.f k a3_0 a3_1 a3_2).bind fun bt237 => ((caulkref07_Ptr.f k a3_0 a3_1 a3_2).bind fun bt239 => ((field_GetPtr.f k a2).bind fun bt241 => ((caulkref07_GetPtr.f k a2).bind fun bt246 => ((caulklaw07_lives.f k).bind fun t251 => (if t251 = true then (if t225.toList = t227.toList then (if t226 = t228 then (if t229 = t231 then (if t230 = t232 then (if t233.toList = bt235.1.toList then (if t234 = bt235.2 then (if bt237.1.toList = bt239.1.toList then (if bt237.2 = bt239.2 then (if (bt241.1 == bt246.1 && (bt241.2.1 == bt246.2.1 && (bt241.2.2.1 == bt246.2.2.1))) = true then (some (bt241.2.2.2 == bt246.2.2.2)) else (none)) else (none)) else (none)) else (none)) else (none)) else (none)) else (none)) else (none)) else (none)) else (none)))))))) = some r := H
  have A9 := Aside0.mk A90
  clear A90
  replace H := Option.bind_eq_some_iff.mp H
  obtain ⟨⟨t235, t236⟩, A100, H⟩ := H
  replace H : ((field_Ptr.f k a3_0 a3_1 a3_2).bind fun bt237 => ((caulkref07_Ptr.f k a3_0 a3_1 a3_2).bind fun bt239 => ((field_GetPtr.f k a2).bind fun bt241 => ((caulkref07_GetPtr.f k a2).bind fun bt246 => ((caulklaw07_lives.f k).bind fun t251 => (if t251 = true then (if t225.toList = t227.toList then (if t226 = t228 then (if t229 = t231 then (if t230 = t232 then (if t233.toList = t235.toList then (if t234 = t236 then (if bt237.1.toList = bt239.1.toList then (if bt237.2 = bt239.2 then (if (bt241.1 == bt246.1 && (bt241.2.1 == bt246.2.1 && (bt241.2.2.1 == bt246.2.2.1))) = true then (some (bt241.2.2.2 == bt246.2.2.2)) else (none)) else (none)) else (none)) else (none)) else (none)) else (none)) else (none)) else (none)) else (none)) else (none))))))) = some r := H
  have A10 := Aside0.mk A100
  clear A100
  replace H := Option.bind_eq_some_iff.mp H
  obtain ⟨⟨t237, t238⟩, A110, H⟩ := H
  replace H : ((caulkref07_Ptr.f k a3_0 a3_1 a3_2).bind fun bt239 => ((field_GetPtr.f k a2).bind fun bt241 => ((caulkref07_GetPtr.f k a2).bind fun bt246 => ((caulklaw07_lives.f k).bind fun t251 => (if t251 = true then (if t225.toList = t227.toList then (if t226 = t228 then (if t229 = t231 then (if t230 = t232 then (if t233.toList = t235.toList then (if t234 = t236 then (if t237.toList = bt239.1.toList then (if t238 = bt239.2 then (if (bt241.1 == bt246.1 && (bt241.2.1 == bt246.2.1 && (bt241.2.2.1 == bt246.2.2.1))) = true then (some (bt241.2.2.2 == bt246.2.2.2)) else (none)) else (none)) else (none)) else (none)) else (none)) else (none)) else (none)) else (none)) else (none)) else (none)))))) = some r := H
  have A11 := Aside0.mk A110
  clear A110
  replace H := Option.bind_eq_some_iff.mp H
  obtain ⟨⟨t239, t240⟩, A120, H⟩ := H
  replace H : ((field_GetPtr.f k a2).bind fun bt241 => ((caulkref07_GetPtr.f k a2).bind fun bt246 => ((caulklaw07_lives.f k).bind fun t251 => (if t251 = true then (if t225.toList = t227.toList then (if t226 = t228 then (if t229 = t231 then (if t230 = t232 then (if t233.toList = t235.toList then (if t234 = t236 then (if t237.toList = t239.toList then (if t238 = t240 then (if (bt241.1 == bt246.1 && (bt241.2.1 == bt246.2.1 && (bt241.2.2.1 == bt246.2.2.1))) = true then (some (bt241.2.2.2 == bt246.2.2.2)) else (none)) else (none)) else (none)) else (none)) else (none)) else (none)) else (none)) else (none)) else (none)) else (none))))) = some r := H
  have A12 := Aside0.mk A120
  clear A120
  replace H := Option.bind_eq_some_iff.mp H
  obtain ⟨⟨t241, t242, t243, t244⟩, A130, H⟩ := H
  replace H : ((caulkref07_GetPtr.f k a2).bind fun bt246 => ((caulklaw07_lives.f k).bind fun t251 => (if t251 = true then (if t225.toList = t227.toList then (if t226 = t228 then (if t229 = t231 then (if t230 = t232 then (if t233.toList = t235.toList then (if t234 = t236 then (if t237.toList = t239.toList then (if t238 = t240 then (if (t241 == bt246.1 && (t242 == bt246.2.1 && (t243 == bt246.2.2.1))) = true then (some (t244 == bt246.2.2.2)) else (none)) else (none)) else (none)) else (none)) else (none)) else (none)) else (none)) else (none)) else (none)) else (none)))) = some r := H
  have A13 := Aside0.mk A130
  clear A130
  replace H := Option.bind_eq_some_iff.mp H
  obtain ⟨⟨t246, t247, t248, t249⟩, A140, H⟩ := H
  replace H : ((caulklaw07_lives.f k).bind fun t251 => (if t251 = true then (if t225.toList = t227.toList then (if t226 = t228 then (if t229 = t231 then (if t230 = t232 then (if t233.toList = t235.toList then (if t234 = t236 then (if t237.toList = t239.toList then (if t238 = t240 then (if (t241 == t246 && (t242 == t247 && (t243 == t248))) = true then (some (t244 == t249)) else (none)) else (none)) else (none)) else (none)) else (none)) else (none)) else (none)) else (none)) else (none)) else (none))) = some r := H
  have A14 := Aside0.mk A140
  clear A140
  replace H := Option.bind_eq_some_iff.mp H
  obtain ⟨t251, A150, H⟩ := H
  replace H : (if t251 = true then (if t225.toList = t227.toList then (if t226 = t228 then (if t229 = t231 then (if t230 = t232 then (if t233.toList = t235.toList then (if t234 = t236 then (if t237.toList = t239.toList then (if t238 = t240 then (if (t241 == t246 && (t242 == t247 && (t243 == t248))) = true then (some (t244 == t249)) else (none)) else (none)) else (none)) else (none)) else (none)) else (none)) else (none)) else (none)) else (none)) else (none)) = some r := H
  have A15 := Aside0.mk A150
  clear A150
  by_cases c16 : t251 = true
  · subst c16
    have H1 : (if t225.toList = t227.toList then (if t226 = t228 then (if t229 = t231 then (if t230 = t232 then (if t233.toList = t235.toList then (if t234 = t236 then (if t237.toList = t239.toList then (if t238 = t240 then (if (t241 == t246 && (t242 == t247 && (t243 == t248))) = true then (some (t244 == t249)) else (none)) else (none)) else (none)) else (none)) else (none)) else (none)) else (none)) else (none)) else (none)) = some r := by rw [if_pos rfl] at H; exact H
    clear H
    have H := H1
    clear H1
    by_cases c17 : t225.toList = t227.toList
    · rw [if_pos c17] at H
      have c17b0 : (t225.toList == t227.toList) = true := beq_iff_eq.mpr c17
      have c17b1 : (t225.toList != t227.toList) = false := bne_eq_false_iff_eq.mpr c17
      clear c17
      by_cases c18 : t226 = t228
      · rw [if_pos c18] at H
        have c18b0 : (t226 == t228) = true := beq_iff_eq.mpr c18
        have c18b1 : (t226 != t228) = false := bne_eq_false_iff_eq.mpr c18
        clear c18
        by_cases c19 : t229 = t231
        · rw [if_pos c19] at H
          have c19b0 : (t229 == t231) = true := beq_iff_eq.mpr c19
          have c19b1 : (t229 != t231) = false := bne_eq_false_iff_eq.mpr c19
          clear c19
          by_cases c20 : t230 = t232
          · rw [if_pos c20] at H
            have c20b0 : (t230 == t232) = true := beq_iff_eq.mpr c20
            have c20b1 : (t230 != t232) = false := bne_eq_false_iff_eq.mpr c20
            clear c20
            by_cases c21 : t233.toList = t235.toList
            · rw [if_pos c21] at H
              have c21b0 : (t233.toList == t235.toList) = true := beq_iff_eq.mpr c21
              have c21b1 : (t233.toList != t235.toList) = false := bne_eq_false_iff_eq.mpr c21
              clear c21
              by_cases c22 : t234 = t236
              · rw [if_pos c22] at H
                have c22b0 : (t234 == t236) = true := beq_iff_eq.mpr c22
                have c22b1 : (t234 != t236) = false := bne_eq_false_iff_eq.mpr c22
                clear c22
                by_cases c23 : t237.toList = t239.toList
                · rw [if_pos c23] at H
                  have c23b0 : (t237.toList == t239.toList) = true := beq_iff_eq.mpr c23
                  have c23b1 : (t237.toList != t239.toList) = false := bne_eq_false_iff_eq.mpr c23
                  clear c23
                  by_cases c24 : t238 = t240
                  · rw [if_pos c24] at H
                    have c24b0 : (t238 == t240) = true := beq_iff_eq.mpr c24
                    have c24b1 : (t238 != t240) = false := bne_eq_false_iff_eq.mpr c24
                    clear c24
                    by_cases c25 : (t241 == t246 && (t242 == t247 && (t243 == t248))) = true
                    · rw [if_pos c25] at H
                      have c25b0 : (t241 == t246 && (t242 == t247 && (t243 == t248))) = true := c25
                      (try (have c25b1 : decide (t241 = t246 && (t242 == t247 && (t243 == t248))) = true := by simpa using c25))
                      (try (have c25b2 : (t241 == t246 && (t242 == t247 && (t243 == t248))) = true := by simpa using c25))
                      clear c25
                      obtain rfl := Option.some.inj H
                      go_enter Try.func3, Try.ntmps3
                      go_wp2_with (first | ((with_reducible refine gate_dst (N := 7) rfl ?_); refine box_event ?hg (N := 7) ?hd (cs := #[.int .i64 a3_0, .int .i64 a3_1, .int .u32 a3_2]) (t := 25) ?hr ?_; (case hd => rfl); (case hg => rfl); (case hr => first | (go_simp; done) | (go_simp; rfl)); intro gb224 hg w26 hbox hb; have n0_ := Aside0.mk (below_step (by repeat (first | (with_reducible first | exact HB.out | apply below_alloc | apply pw_below_drewN | apply below_drew1) | exact HB.out)) hb); have n1_ := Aside0.mk (hbox); have n2_ := Aside0.mk ((by rw [hg]; exact (below_size (by repeat (first | (with_reducible first | exact HB.out | apply below_alloc | apply pw_below_drewN | apply below_drew1) | exact HB.out))) : w.heap.size ≤ gb224)); have n3_ := Aside0.mk ((by rw [hg]; exact (below_size (by repeat (first | (with_reducible first | exact HB.out | apply below_alloc | apply pw_below_drewN | apply below_drew1) | exact HB.out))) : w.heap.size ≤ gb224)); clear HB; have HB := n0_; have BK224 := n1_; have GW224 := n2_; have GE224 := n3_; clear n0_ n1_ n2_ n3_; clear hb hbox hg) | ((with_reducible refine gate_callee (f := 10) rfl ?_); refine goesL_ (some 32) rfl rfl Try.func10 (by kernel_rfl) rfl #[.int .i64 a0, .int .u64 a1] rfl (by (try simp only [List.map_toArray, List.map_cons, List.map_nil]); first | done | rfl | (simp only [List.length_drop, List.length_take]; rfl)) ?_; (with_reducible refine (field_Put.calls k a0 a1 t225 t226 _ A5.out).mono ?_); rintro e w27 ⟨rfl, hb⟩; refine ⟨_, rfl, ?_⟩; have n0_ := Aside0.mk (blk_below (g := gb224) (o := .cells #[.int .i64 a3_0, .int .i64 a3_1, .int .u32 a3_2] 25 (0, 0)) (by (with_reducible repeat (first | refine blk_drewN ?_ _ | refine blk_drew ?_ | refine blk_alloc ?_ _)); exact BK224.out) hb); have n1_ := Aside0.mk (below_step (by repeat (first | (with_reducible first | exact HB.out | apply below_alloc | apply pw_below_drewN | apply below_drew1 | refine below_set ?_ GE224.out) | exact HB.out)) hb); clear BK224; clear HB; have BK224 := n0_; have HB := n1_; clear n0_ n1_; (try clear hb); (try clear hb2); (try clear hk); (try clear hi)) | ((with_reducible refine gate_callee (f := 11) rfl ?_); refine goesL_ (some 38) rfl rfl Try.func11 (by kernel_rfl) rfl #[.int .i64 a0, .int .u64 a1] rfl (by (try simp only [List.map_toArray, List.map_cons, List.map_nil]); first | done | rfl | (simp only [List.length_drop, List.length_take]; rfl)) ?_; (with_reducible refine (caulkref07_Put.calls k a0 a1 t227 t228 _ A6.out).mono ?_); rintro e w28 ⟨rfl, hb⟩; refine ⟨_, rfl, ?_⟩; have n0_ := Aside0.mk (blk_below (g := gb224) (o := .cells #[.int .i64 a3_0, .int .i64 a3_1, .int .u32 a3_2] 25 (0, 0)) (by (with_reducible repeat (first | refine blk_drewN ?_ _ | refine blk_drew ?_ | refine blk_alloc ?_ _)); exact BK224.out) hb); have n1_ := Aside0.mk (below_step (by repeat (first | (with_reducible first | exact HB.out | apply below_alloc | apply pw_below_drewN | apply below_drew1 | refine below_set ?_ GE224.out) | exact HB.out)) hb); clear BK224; clear HB; have BK224 := n0_; have HB := n1_; clear n0_ n1_; (try clear hb); (try clear hb2); (try clear hk); (try clear hi)) | ((with_reducible refine gate_callee (f := 12) rfl ?_); refine goesL_ (some 44) rfl rfl Try.func12 (by kernel_rfl) rfl #[.int .i64 a0, .string a2] rfl (by (try simp only [List.map_toArray, List.map_cons, List.map_nil]); first | done | rfl | (simp only [List.length_drop, List.length_take]; rfl)) ?_; (with_reducible refine (field_Get.calls k a0 a2 t229 t230 _ A7.out).mono ?_); rintro e w' ⟨rfl, ⟨nd, rfl⟩⟩; refine ⟨_, rfl, ?_⟩; (try (rw [drewN_self w28]; generalize hq_ : World.drewN w28 _ = w28; have n0_ : Aside0 (w28.heap[gb224]? = some (.cells #[.int .i64 a3_0, .int .i64 a3_1, .int .u32 a3_2] 25 (0, 0))) := ⟨by rw [← hq_]; exact (by (with_reducible repeat (first | refine blk_drewN ?_ _ | refine blk_drew ?_ | refine blk_alloc ?_ _)); exact BK224.out)⟩; have n1_ : Aside0 (Below w.heap.size w w28) := ⟨by rw [← hq_]; exact (by repeat (first | (with_reducible first | exact HB.out | apply below_alloc | apply pw_below_drewN | apply below_drew1 | refine below_set ?_ GE224.out) | exact HB.out))⟩; clear BK224 HB hq_; have BK224 := n0_; have HB := n1_; clear n0_ n1_))) | ((with_reducible refine gate_callee (f := 13) rfl ?_); refine goesL_ (some 50) rfl rfl Try.func13 (by kernel_rfl) rfl #[.int .i64 a0, .string a2] rfl (by (try simp only [List.map_toArray, List.map_cons, List.map_nil]); first | done | rfl | (simp only [List.length_drop, List.length_take]; rfl)) ?_; (with_reducible refine (caulkref07_Get.calls k a0 a2 t231 t232 _ A8.out).mono ?_); rintro e w' ⟨rfl, ⟨nd, rfl⟩⟩; refine ⟨_, rfl, ?_⟩; (try (rw [drewN_self w28]; generalize hq_ : World.drewN w28 _ = w28; have n0_ : Aside0 (w28.heap[gb224]? = some (.cells #[.int .i64 a3_0, .int .i64 a3_1, .int .u32 a3_2] 25 (0, 0))) := ⟨by rw [← hq_]; exact (by (with_reducible repeat (first | refine blk_drewN ?_ _ | refine blk_drew ?_ | refine blk_alloc ?_ _)); exact BK224.out)⟩; have n1_ : Aside0 (Below w.heap.size w w28) := ⟨by rw [← hq_]; exact (by repeat (first | (with_reducible first | exact HB.out | apply below_alloc | apply pw_below_drewN | apply below_drew1 | refine below_set ?_ GE224.out) | exact HB.out))⟩; clear BK224 HB hq_; have BK224 := n0_; have HB := n1_; clear n0_ n1_))) | ((with_reducible refine gate_callee (f := 14) rfl ?_); refine goesL_ (some 55) rfl rfl Try.func14 (by kernel_rfl) rfl #[.string a2] rfl (by (try simp only [List.map_toArray, List.map_cons, List.map_nil]); first | done | rfl | (simp only [List.length_drop, List.length_take]; rfl)) ?_; (with_reducible refine (field_Text.calls a2 t233 t234 _ A9.out).mono ?_); rintro e w29 ⟨rfl, hb⟩; refine ⟨_, rfl, ?_⟩; have n0_ := Aside0.mk (blk_below (g := gb224) (o := .cells #[.int .i64 a3_0, .int .i64 a3_1, .int .u32 a3_2] 25 (0, 0)) (by (with_reducible repeat (first | refine blk_drewN ?_ _ | refine blk_drew ?_ | refine blk_alloc ?_ _)); exact BK224.out) hb); have n1_ := Aside0.mk (below_step (by repeat (first | (with_reducible first | exact HB.out | apply below_alloc | apply pw_below_drewN | apply below_drew1 | refine below_set ?_ GE224.out) | exact HB.out)) hb); clear BK224; clear HB; have BK224 := n0_; have HB := n1_; clear n0_ n1_; (try clear hb); (try clear hb2); (try clear hk); (try clear hi)) | ((with_reducible refine gate_callee (f := 15) rfl ?_); refine goesL_ (some 60) rfl rfl Try.func15 (by kernel_rfl) rfl #[.string a2] rfl (by (try simp only [List.map_toArray, List.map_cons, List.map_nil]); first | done | rfl | (simp only [List.length_drop, List.length_take]; rfl)) ?_; (with_reducible refine (caulkref07_Text.calls a2 t235 t236 _ A10.out).mono ?_); rintro e w30 ⟨rfl, hb⟩; refine ⟨_, rfl, ?_⟩; have n0_ := Aside0.mk (blk_below (g := gb224) (o := .cells #[.int .i64 a3_0, .int .i64 a3_1, .int .u32 a3_2] 25 (0, 0)) (by (with_reducible repeat (first | refine blk_drewN ?_ _ | refine blk_drew ?_ | refine blk_alloc ?_ _)); exact BK224.out) hb); have n1_ := Aside0.mk (below_step (by repeat (first | (with_reducible first | exact HB.out | apply below_alloc | apply pw_below_drewN | apply below_drew1 | refine below_set ?_ GE224.out) | exact HB.out)) hb); clear BK224; clear HB; have BK224 := n0_; have HB := n1_; clear n0_ n1_; (try clear hb); (try clear hb2); (try clear hk); (try clear hi); have hcz31_0 : w30.cell? ⟨gb224, 0, none⟩ = some (.int .i64 a3_0) := (blk_cell BK224.out 0).trans rfl; have hcz31_1 : w30.cell? ⟨gb224, 1, none⟩ = some (.int .i64 a3_1) := (blk_cell BK224.out 1).trans rfl; have hcz31_2 : w30.cell? ⟨gb224, 2, none⟩ = some (.int .u32 a3_2) := (blk_cell BK224.out 2).trans rfl; have hfz31_0 := blk_frozen BK224.out 0; have hfz31_1 := blk_frozen BK224.out 1; have hfz31_2 := blk_frozen BK224.out 2) | ((with_reducible refine gate_callee (f := 16) rfl ?_); refine goesL_ (some 65) rfl rfl Try.func16 (by kernel_rfl) rfl #[.agg #[.int .i64 a3_0, .int .i64 a3_1, .int .u32 a3_2]] rfl (by (try simp only [List.map_toArray, List.map_cons, List.map_nil]); first | done | rfl | (simp only [List.length_drop, List.length_take]; rfl)) ?_; (with_reducible refine (field_Ptr.calls k a3_0 a3_1 a3_2 t237 t238 _ A11.out).mono ?_); rintro e w32 ⟨rfl, hb⟩; refine ⟨_, rfl, ?_⟩; have n0_ := Aside0.mk (blk_below (g := gb224) (o := .cells #[.int .i64 a3_0, .int .i64 a3_1, .int .u32 a3_2] 25 (0, 0)) (by (with_reducible repeat (first | refine blk_drewN ?_ _ | refine blk_drew ?_ | refine blk_alloc ?_ _)); exact BK224.out) hb); have n1_ := Aside0.mk (below_step (by repeat (first | (with_reducible first | exact HB.out | apply below_alloc | apply pw_below_drewN | apply below_drew1 | refine below_set ?_ GE224.out) | exact HB.out)) hb); clear BK224; clear HB; have BK224 := n0_; have HB := n1_; clear n0_ n1_; (try clear hb); (try clear hb2); (try clear hk); (try clear hi); have hcz33_0 : w32.cell? ⟨gb224, 0, none⟩ = some (.int .i64 a3_0) := (blk_cell BK224.out 0).trans rfl; have hcz33_1 : w32.cell? ⟨gb224, 1, none⟩ = some (.int .i64 a3_1) := (blk_cell BK224.out 1).trans rfl; have hcz33_2 : w32.cell? ⟨gb224, 2, none⟩ = some (.int .u32 a3_2) := (blk_cell BK224.out 2).trans rfl; have hfz33_0 := blk_frozen BK224.out 0; have hfz33_1 := blk_frozen BK224.out 1; have hfz33_2 := blk_frozen BK224.out 2) | ((with_reducible refine gate_callee (f := 17) rfl ?_); refine goesL_ (some 70) rfl rfl Try.func17 (by kernel_rfl) rfl #[.agg #[.int .i64 a3_0, .int .i64 a3_1, .int .u32 a3_2]] rfl (by (try simp only [List.map_toArray, List.map_cons, List.map_nil]); first | done | rfl | (simp only [List.length_drop, List.length_take]; rfl)) ?_; (with_reducible refine (caulkref07_Ptr.calls k a3_0 a3_1 a3_2 t239 t240 _ A12.out).mono ?_); rintro e w34 ⟨rfl, hb⟩; refine ⟨_, rfl, ?_⟩; have n0_ := Aside0.mk (blk_below (g := gb224) (o := .cells #[.int .i64 a3_0, .int .i64 a3_1, .int .u32 a3_2] 25 (0, 0)) (by (with_reducible repeat (first | refine blk_drewN ?_ _ | refine blk_drew ?_ | refine blk_alloc ?_ _)); exact BK224.out) hb); have n1_ := Aside0.mk (below_step (by repeat (first | (with_reducible first | exact HB.out | apply below_alloc | apply pw_below_drewN | apply below_drew1 | refine below_set ?_ GE224.out) | exact HB.out)) hb); clear BK224; clear HB; have BK224 := n0_; have HB := n1_; clear n0_ n1_; (try clear hb); (try clear hb2); (try clear hk); (try clear hi)) | ((with_reducible refine gate_callee (f := 18) rfl ?_); refine goesL_ (some 75) rfl rfl Try.func18 (by kernel_rfl) rfl #[.string a2] rfl (by (try simp only [List.map_toArray, List.map_cons, List.map_nil]); first | done | rfl | (simp only [List.length_drop, List.length_take]; rfl)) ?_; (with_reducible refine (field_GetPtr.calls k a2 t241 t242 t243 t244 _ A13.out).mono ?_); rintro e w35 ⟨rfl, hb⟩; refine ⟨_, rfl, ?_⟩; have n0_ := Aside0.mk (blk_below (g := gb224) (o := .cells #[.int .i64 a3_0, .int .i64 a3_1, .int .u32 a3_2] 25 (0, 0)) (by (with_reducible repeat (first | refine blk_drewN ?_ _ | refine blk_drew ?_ | refine blk_alloc ?_ _)); exact BK224.out) hb); have n1_ := Aside0.mk (below_step (by repeat (first | (with_reducible first | exact HB.out | apply below_alloc | apply pw_below_drewN | apply below_drew1 | refine below_set ?_ GE224.out) | exact HB.out)) hb); clear BK224; clear HB; have BK224 := n0_; have HB := n1_; clear n0_ n1_; (try clear hb); (try clear hb2); (try clear hk); (try clear hi)) | ((with_reducible refine gate_dst (N := 25) rfl ?_); refine box_event ?hg (N := 25) ?hd (cs := #[.int .i64 0, .int .i64 0, .int .u32 0]) (t := 25) ?hr ?_; (case hd => rfl); (case hg => rfl); (case hr => first | (go_simp; done) | (go_simp; rfl)); intro gb245 hg w36 hbox hb; have n0_ := Aside0.mk (blk_below (g := gb224) (o := .cells #[.int .i64 a3_0, .int .i64 a3_1, .int .u32 a3_2] 25 (0, 0)) (by (with_reducible repeat (first | refine blk_drewN ?_ _ | refine blk_drew ?_ | refine blk_alloc ?_ _)); exact BK224.out) hb); have n1_ := Aside0.mk (below_step (by repeat (first | (with_reducible first | exact HB.out | apply below_alloc | apply pw_below_drewN | apply below_drew1 | refine below_set ?_ GE224.out) | exact HB.out)) hb); have n2_ := Aside0.mk (hbox); have n3_ := Aside0.mk ((by rw [hg]; exact (below_size (by repeat (first | (with_reducible first | exact HB.out | apply below_alloc | apply pw_below_drewN | apply below_drew1 | refine below_set ?_ GE224.out) | exact HB.out))) : w.heap.size ≤ gb245)); have n4_ := Aside0.mk ((by rw [hg]; exact (below_size (by repeat (first | (with_reducible first | exact HB.out | apply below_alloc | apply pw_below_drewN | apply below_drew1 | refine below_set ?_ GE224.out) | exact HB.out))) : w.heap.size ≤ gb245)); have n5_ := Aside0.mk ((by rw [hg]; exact Nat.ne_of_lt (blk_lt (g := gb224) (o := .cells #[.int .i64 a3_0, .int .i64 a3_1, .int .u32 a3_2] 25 (0, 0)) (by (with_reducible repeat (first | refine blk_drewN ?_ _ | refine blk_drew ?_ | refine blk_alloc ?_ _)); exact BK224.out)) : gb224 ≠ gb245)); have n6_ := Aside0.mk ((by rw [hg]; exact Nat.ne_of_gt (blk_lt (g := gb224) (o := .cells #[.int .i64 a3_0, .int .i64 a3_1, .int .u32 a3_2] 25 (0, 0)) (by (with_reducible repeat (first | refine blk_drewN ?_ _ | refine blk_drew ?_ | refine blk_alloc ?_ _)); exact BK224.out)) : gb245 ≠ gb224)); clear BK224; clear HB; have BK224 := n0_; have HB := n1_; have BK245 := n2_; have GW245 := n3_; have GE245 := n4_; have NB224_245 := n5_; have NB245_224 := n6_; clear n0_ n1_ n2_ n3_ n4_ n5_ n6_; clear hb hbox hg; have hnb37 := NB245_224.out; have hnc37 := NB224_245.out; have hcz38_0 : w36.cell? ⟨gb245, 0, none⟩ = some (.int .i64 0) := (blk_cell BK245.out 0).trans rfl; have hcz38_1 : w36.cell? ⟨gb245, 1, none⟩ = some (.int .i64 0) := (blk_cell BK245.out 1).trans rfl; have hcz38_2 : w36.cell? ⟨gb245, 2, none⟩ = some (.int .u32 0) := (blk_cell BK245.out 2).trans rfl; have hfz38_0 := blk_frozen BK245.out 0; have hfz38_1 := blk_frozen BK245.out 1; have hfz38_2 := blk_frozen BK245.out 2) | ((with_reducible refine gate_callee (f := 19) rfl ?_); refine goesL_ (some 80) rfl rfl Try.func19 (by kernel_rfl) rfl #[.string a2] rfl (by (try simp only [List.map_toArray, List.map_cons, List.map_nil]); first | done | rfl | (simp only [List.length_drop, List.length_take]; rfl)) ?_; (with_reducible refine (caulkref07_GetPtr.calls k a2 t246 t247 t248 t249 _ A14.out).mono ?_); rintro e w39 ⟨rfl, hb⟩; refine ⟨_, rfl, ?_⟩; have n0_ := Aside0.mk (blk_below (g := gb224) (o := .cells #[.int .i64 a3_0, .int .i64 a3_1, .int .u32 a3_2] 25 (0, 0)) (by (with_reducible repeat (first | refine blk_drewN ?_ _ | refine blk_drew ?_ | refine blk_alloc ?_ _)); refine blk_far ?_ NB224_245.out _; (with_reducible repeat (first | refine blk_drewN ?_ _ | refine blk_drew ?_ | refine blk_alloc ?_ _)); refine blk_far ?_ NB224_245.out _; (with_reducible repeat (first | refine blk_drewN ?_ _ | refine blk_drew ?_ | refine blk_alloc ?_ _)); refine blk_far ?_ NB224_245.out _; (with_reducible repeat (first | refine blk_drewN ?_ _ | refine blk_drew ?_ | refine blk_alloc ?_ _)); exact BK224.out) hb); have n1_ := Aside0.mk (blk_below (g := gb245) (o := .cells #[.int .i64 t241, .int .i64 t242, .int .u32 t243] 25 (0, 0)) (by (with_reducible repeat (first | refine blk_drewN ?_ _ | refine blk_drew ?_ | refine blk_alloc ?_ _)); refine blk_put (cs := #[.int .i64 t241, .int .i64 t242, .int .u32 0]) ?_ 2 _ rfl; (with_reducible repeat (first | refine blk_drewN ?_ _ | refine blk_drew ?_ | refine blk_alloc ?_ _)); refine blk_put (cs := #[.int .i64 t241, .int .i64 0, .int .u32 0]) ?_ 1 _ rfl; (with_reducible repeat (first | refine blk_drewN ?_ _ | refine blk_drew ?_ | refine blk_alloc ?_ _)); refine blk_put (cs := #[.int .i64 0, .int .i64 0, .int .u32 0]) ?_ 0 _ rfl; (with_reducible repeat (first | refine blk_drewN ?_ _ | refine blk_drew ?_ | refine blk_alloc ?_ _)); exact BK245.out) hb); have n2_ := Aside0.mk (below_step (by repeat (first | (with_reducible first | exact HB.out | apply below_alloc | apply pw_below_drewN | apply below_drew1 | refine below_set ?_ GE224.out | refine below_set ?_ GE245.out) | exact HB.out)) hb); clear BK224; clear BK245; clear HB; have BK224 := n0_; have BK245 := n1_; have HB := n2_; clear n0_ n1_ n2_; (try clear hb); (try clear hb2); (try clear hk); (try clear hi)) | ((with_reducible refine gate_dst (N := 27) rfl ?_); refine box_event ?hg (N := 27) ?hd (cs := #[.int .i64 0, .int .i64 0, .int .u32 0]) (t := 25) ?hr ?_; (case hd => rfl); (case hg => rfl); (case hr => first | (go_simp; done) | (go_simp; rfl)); intro gb250 hg w40 hbox hb; have n0_ := Aside0.mk (blk_below (g := gb224) (o := .cells #[.int .i64 a3_0, .int .i64 a3_1, .int .u32 a3_2] 25 (0, 0)) (by (with_reducible repeat (first | refine blk_drewN ?_ _ | refine blk_drew ?_ | refine blk_alloc ?_ _)); exact BK224.out) hb); have n1_ := Aside0.mk (blk_below (g := gb245) (o := .cells #[.int .i64 t241, .int .i64 t242, .int .u32 t243] 25 (0, 0)) (by (with_reducible repeat (first | refine blk_drewN ?_ _ | refine blk_drew ?_ | refine blk_alloc ?_ _)); exact BK245.out) hb); have n2_ := Aside0.mk (below_step (by repeat (first | (with_reducible first | exact HB.out | apply below_alloc | apply pw_below_drewN | apply below_drew1 | refine below_set ?_ GE224.out | refine below_set ?_ GE245.out) | exact HB.out)) hb); have n3_ := Aside0.mk (hbox); have n4_ := Aside0.mk ((by rw [hg]; exact (below_size (by repeat (first | (with_reducible first | exact HB.out | apply below_alloc | apply pw_below_drewN | apply below_drew1 | refine below_set ?_ GE224.out | refine below_set ?_ GE245.out) | exact HB.out))) : w.heap.size ≤ gb250)); have n5_ := Aside0.mk ((by rw [hg]; exact (below_size (by repeat (first | (with_reducible first | exact HB.out | apply below_alloc | apply pw_below_drewN | apply below_drew1 | refine below_set ?_ GE224.out | refine below_set ?_ GE245.out) | exact HB.out))) : w.heap.size ≤ gb250)); have n6_ := Aside0.mk ((by rw [hg]; exact Nat.ne_of_lt (blk_lt (g := gb224) (o := .cells #[.int .i64 a3_0, .int .i64 a3_1, .int .u32 a3_2] 25 (0, 0)) (by (with_reducible repeat (first | refine blk_drewN ?_ _ | refine blk_drew ?_ | refine blk_alloc ?_ _)); exact BK224.out)) : gb224 ≠ gb250)); have n7_ := Aside0.mk ((by rw [hg]; exact Nat.ne_of_gt (blk_lt (g := gb224) (o := .cells #[.int .i64 a3_0, .int .i64 a3_1, .int .u32 a3_2] 25 (0, 0)) (by (with_reducible repeat (first | refine blk_drewN ?_ _ | refine blk_drew ?_ | refine blk_alloc ?_ _)); exact BK224.out)) : gb250 ≠ gb224)); have n8_ := Aside0.mk ((by rw [hg]; exact Nat.ne_of_lt (blk_lt (g := gb245) (o := .cells #[.int .i64 t241, .int .i64 t242, .int .u32 t243] 25 (0, 0)) (by (with_reducible repeat (first | refine blk_drewN ?_ _ | refine blk_drew ?_ | refine blk_alloc ?_ _)); exact BK245.out)) : gb245 ≠ gb250)); have n9_ := Aside0.mk ((by rw [hg]; exact Nat.ne_of_gt (blk_lt (g := gb245) (o := .cells #[.int .i64 t241, .int .i64 t242, .int .u32 t243] 25 (0, 0)) (by (with_reducible repeat (first | refine blk_drewN ?_ _ | refine blk_drew ?_ | refine blk_alloc ?_ _)); exact BK245.out)) : gb250 ≠ gb245)); clear BK224; clear BK245; clear HB; have BK224 := n0_; have BK245 := n1_; have HB := n2_; have BK250 := n3_; have GW250 := n4_; have GE250 := n5_; have NB224_250 := n6_; have NB250_224 := n7_; have NB245_250 := n8_; have NB250_245 := n9_; clear n0_ n1_ n2_ n3_ n4_ n5_ n6_ n7_ n8_ n9_; clear hb hbox hg; have hnb41 := NB250_224.out; have hnc41 := NB224_250.out; have hnb42 := NB250_245.out; have hnc42 := NB245_250.out; have hcz43_0 : w40.cell? ⟨gb250, 0, none⟩ = some (.int .i64 0) := (blk_cell BK250.out 0).trans rfl; have hcz43_1 : w40.cell? ⟨gb250, 1, none⟩ = some (.int .i64 0) := (blk_cell BK250.out 1).trans rfl; have hcz43_2 : w40.cell? ⟨gb250, 2, none⟩ = some (.int .u32 0) := (blk_cell BK250.out 2).trans rfl; have hfz43_0 := blk_frozen BK250.out 0; have hfz43_1 := blk_frozen BK250.out 1; have hfz43_2 := blk_frozen BK250.out 2) | ((with_reducible refine gate_callee (f := 20) rfl ?_); refine goesL_ (some 83) rfl rfl Try.func20 (by kernel_rfl) rfl #[] rfl (by (try simp only [List.map_toArray, List.map_cons, List.map_nil]); first | done | rfl | (simp only [List.length_drop, List.length_take]; rfl)) ?_; (with_reducible refine (caulklaw07_lives.calls k  true _ A15.out).mono ?_); rintro e w44 ⟨rfl, hb⟩; refine ⟨_, rfl, ?_⟩; have n0_ := Aside0.mk (blk_below (g := gb224) (o := .cells #[.int .i64 a3_0, .int .i64 a3_1, .int .u32 a3_2] 25 (0, 0)) (by (with_reducible repeat (first | refine blk_drewN ?_ _ | refine blk_drew ?_ | refine blk_alloc ?_ _)); refine blk_far ?_ NB224_250.out _; (with_reducible repeat (first | refine blk_drewN ?_ _ | refine blk_drew ?_ | refine blk_alloc ?_ _)); refine blk_far ?_ NB224_250.out _; (with_reducible repeat (first | refine blk_drewN ?_ _ | refine blk_drew ?_ | refine blk_alloc ?_ _)); refine blk_far ?_ NB224_250.out _; (with_reducible repeat (first | refine blk_drewN ?_ _ | refine blk_drew ?_ | refine blk_alloc ?_ _)); exact BK224.out) hb); have n1_ := Aside0.mk (blk_below (g := gb245) (o := .cells #[.int .i64 t241, .int .i64 t242, .int .u32 t243] 25 (0, 0)) (by (with_reducible repeat (first | refine blk_drewN ?_ _ | refine blk_drew ?_ | refine blk_alloc ?_ _)); refine blk_far ?_ NB245_250.out _; (with_reducible repeat (first | refine blk_drewN ?_ _ | refine blk_drew ?_ | refine blk_alloc ?_ _)); refine blk_far ?_ NB245_250.out _; (with_reducible repeat (first | refine blk_drewN ?_ _ | refine blk_drew ?_ | refine blk_alloc ?_ _)); refine blk_far ?_ NB245_250.out _; (with_reducible repeat (first | refine blk_drewN ?_ _ | refine blk_drew ?_ | refine blk_alloc ?_ _)); exact BK245.out) hb); have n2_ := Aside0.mk (blk_below (g := gb250) (o := .cells #[.int .i64 t246, .int .i64 t247, .int .u32 t248] 25 (0, 0)) (by (with_reducible repeat (first | refine blk_drewN ?_ _ | refine blk_drew ?_ | refine blk_alloc ?_ _)); refine blk_put (cs := #[.int .i64 t246, .int .i64 t247, .int .u32 0]) ?_ 2 _ rfl; (with_reducible repeat (first | refine blk_drewN ?_ _ | refine blk_drew ?_ | refine blk_alloc ?_ _)); refine blk_put (cs := #[.int .i64 t246, .int .i64 0, .int .u32 0]) ?_ 1 _ rfl; (with_reducible repeat (first | refine blk_drewN ?_ _ | refine blk_drew ?_ | refine blk_alloc ?_ _)); refine blk_put (cs := #[.int .i64 0, .int .i64 0, .int .u32 0]) ?_ 0 _ rfl; (with_reducible repeat (first | refine blk_drewN ?_ _ | refine blk_drew ?_ | refine blk_alloc ?_ _)); exact BK250.out) hb); have n3_ := Aside0.mk (below_step (by repeat (first | (with_reducible first | exact HB.out | apply below_alloc | apply pw_below_drewN | apply below_drew1 | refine below_set ?_ GE224.out | refine below_set ?_ GE245.out | refine below_set ?_ GE250.out) | exact HB.out)) hb); clear BK224; clear BK245; clear BK250; clear HB; have BK224 := n0_; have BK245 := n1_; have BK250 := n2_; have HB := n3_; clear n0_ n1_ n2_ n3_; (try clear hb); (try clear hb2); (try clear hk); (try clear hi); have hcz45_0 : w44.cell? ⟨gb245, 0, none⟩ = some (.int .i64 t241) := (blk_cell BK245.out 0).trans rfl; have hcz45_1 : w44.cell? ⟨gb245, 1, none⟩ = some (.int .i64 t242) := (blk_cell BK245.out 1).trans rfl; have hcz45_2 : w44.cell? ⟨gb245, 2, none⟩ = some (.int .u32 t243) := (blk_cell BK245.out 2).trans rfl; have hfz45_0 := blk_frozen BK245.out 0; have hfz45_1 := blk_frozen BK245.out 1; have hfz45_2 := blk_frozen BK245.out 2; have hcz46_0 : w44.cell? ⟨gb250, 0, none⟩ = some (.int .i64 t246) := (blk_cell BK250.out 0).trans rfl; have hcz46_1 : w44.cell? ⟨gb250, 1, none⟩ = some (.int .i64 t247) := (blk_cell BK250.out 1).trans rfl; have hcz46_2 : w44.cell? ⟨gb250, 2, none⟩ = some (.int .u32 t248) := (blk_cell BK250.out 2).trans rfl; have hfz46_0 := blk_frozen BK250.out 0; have hfz46_1 := blk_frozen BK250.out 1; have hfz46_2 := blk_frozen BK250.out 2))
                      go_ret
                      exact ⟨by first | rfl | (simp [errW_none, errW_some] <;> rfl) | (simp [*, errW_none, errW_some] <;> rfl), by repeat (first | (with_reducible first | exact HB.out | apply below_alloc | apply pw_below_drewN | apply below_drew1 | refine below_set ?_ GE224.out | refine below_set ?_ GE245.out | refine below_set ?_ GE250.out) | exact HB.out)⟩
                    · rw [if_neg c25] at H
                      exact absurd H (by simp)
                  · rw [if_neg c24] at H
                    exact absurd H (by simp)
                · rw [if_neg c23] at H
                  exact absurd H (by simp)
              · rw [if_neg c22] at H
                exact absurd H (by simp)
            · rw [if_neg c21] at H
              exact absurd H (by simp)
          · rw [if_neg c20] at H
            exact absurd H (by simp)
        · rw [if_neg c19] at H
          exact absurd H (by simp)
      · rw [if_neg c18] at H
        exact absurd H (by simp)
    · rw [if_neg c17] at H
      exact absurd H (by simp)
  · replace c16 := Bool.eq_false_iff.mpr c16
    subst c16
    have H1 : (none) = some r := by rw [if_neg (show ¬ (false = true) by decide)] at H; exact H
    clear H
    have H := H1
    clear H1
    exact absurd H (by simp)

def caulklaw07_FieldTells.Pure : Prop := ∀ (a0 : Int) (a1 : Int) (a2 : ByteArray) (a3_0 : Int) (a3_1 : Int) (a3_2 : Int), (Lit.int .i64 a0).wf = true → (Lit.int .u64 a1).wf = true → a2.size ≤ 140737488351232 → (Lit.int .i64 a3_0).wf = true → (Lit.int .i64 a3_1).wf = true → (Lit.int .u32 a3_2).wf = true → ∃ k, caulklaw07_FieldTells.f k a0 a1 a2 a3_0 a3_1 a3_2 = some true

/-! ### caulklaw07_FieldAll: function 4 -/
def caulklaw07_FieldAll.f (k : Nat) (a0 : ByteArray) (l1 : List Int) (l2 : List Int) : Option (Bool) := if (l1.length : Int) > 200 then ((caulklaw07_lives.f k).bind fun t252 => (some t252)) else ((field_All.f k a0 l1).bind fun bt253 => ((caulkref07_All.f k a0 l1).bind fun bt258 => ((field_Join.f k l1 l2).bind fun bt263 => ((caulkref07_Join.f k l1 l2).bind fun bt265 => ((caulklaw07_lives.f k).bind fun t267 => (if t267 = true then ((caulkref07_Same.f k bt253.1 bt258.1).bind fun t268 => (if t268 = true then (if bt253.2.1.toList = bt258.2.1.toList then (if bt253.2.2 = bt258.2.2 then (if bt263.1.toList = bt265.1.toList then (some (bt263.2 == bt265.2)) else (none)) else (none)) else (none)) else (none))) else (none)))))))
theorem caulklaw07_FieldAll.mono : ∀ a0 a1 a2 k, LeO (caulklaw07_FieldAll.f k a0 a1 a2) (caulklaw07_FieldAll.f (k + 1) a0 a1 a2) := by
  intro a0 a1 a2 k
  unfold caulklaw07_FieldAll.f
  repeat' first
      | (with_reducible exact caulklaw07_lives.mono _)
      | (with_reducible exact caulkref07_All.mono _ _ _)
      | (with_reducible exact caulkref07_Join.mono _ _ _)
      | (with_reducible exact caulkref07_Same.mono _ _ _)
      | (with_reducible exact field_All.mono _ _ _)
      | (with_reducible exact field_Join.mono _ _ _)
      | (with_reducible exact LeO.refl _)
      | (with_reducible exact LeO.none _)
      | (with_reducible refine LeO.ite ?_ ?_)
      | (with_reducible refine LeO.bind ?_ (fun _ => ?_))
      | exact caulklaw07_lives.mono _
      | exact caulkref07_All.mono _ _ _
      | exact caulkref07_Join.mono _ _ _
      | exact caulkref07_Same.mono _ _ _
      | exact field_All.mono _ _ _
      | exact field_Join.mono _ _ _
      | exact LeO.none _
      | refine LeO.ite ?_ ?_
      | refine LeO.bind ?_ (fun _ => ?_)
set_option maxHeartbeats 8000000 in
set_option maxRecDepth 100000 in
theorem caulklaw07_FieldAll.calls (k : Nat) (a0 : ByteArray) (A1 : Option Addr) (c1 : Nat) (l1 : List Int) (A2 : Option Addr) (c2 : Nat) (l2 : List Int) (r : Bool) (w : World) (hr1 : Kd.C (Kd.int .i64) w A1 l1.length l1) (hc1 : l1.length ≤ c1) (hr2 : Kd.C (Kd.int .u64) w A2 l2.length l2) (hc2 : l2.length ≤ c2) (h : caulklaw07_FieldAll.f k a0 l1 l2 = some r) :
    Calls Try.prog 4 #[.string a0, .slice A1 l1.length c1, .slice A2 l2.length c2] w fun e w' => e = .returned (.bool r) ∧ Below w.heap.size w w' := by
  have HR1 := Aside0.mk hr1
  have HC1 := Aside0.mk hc1
  clear hr1 hc1
  have HR2 := Aside0.mk hr2
  have HC2 := Aside0.mk hc2
  clear hr2 hc2
  have HB := Aside0.mk (Below.refl w.heap.size w)
  have H : (if (l1.length : Int) > 200 then ((caulklaw07_lives.f k).bind fun t252 => (some t252)) else ((field_All.f k a0 l1).bind fun bt253 => ((caulkref07_All.f k a0 l1).bind fun bt258 => ((field_Join.f k l1 l2).bind fun bt263 => ((caulkref07_Join.f k l1 l2).bind fun bt265 => ((caulklaw07_lives.f k).bind fun t267 => (if t267 = true then ((caulkref07_Same.f k bt253.1 bt258.1).bind fun t268 => (if t268 = true then (if bt253.2.1.toList = bt258.2.1.toList then (if bt253.2.2 = bt258.2.2 then (if bt263.1.toList = bt265.1.toList then (some (bt263.2 == bt265.2)) else (none)) else (none)) else (none)) else (none))) else (none)))))))) = some r := h
  clear h
  by_cases c4 : (l1.length : Int) > 200
  · rw [if_pos c4] at H
    have c4b0 : decide (200 < (l1.length : Int)) = true := decide_eq_true c4
    have c4b1 : decide (200 < l1.length) = true := decide_eq_true (by omega)
    clear c4
    replace H := Option.bind_eq_some_iff.mp H
    obtain ⟨t252, A50, H⟩ := H
    replace H : (some t252) = some r := H
    have A5 := Aside0.mk A50
    clear A50
    obtain rfl := Option.some.inj H
    go_enter Try.func4, Try.ntmps4
    go_wp2_with (first | ((with_reducible refine gate_callee (f := 20) rfl ?_); refine goesL_ (some 20) rfl rfl Try.func20 (by kernel_rfl) rfl #[] rfl (by (try simp only [List.map_toArray, List.map_cons, List.map_nil]); first | done | rfl | (simp only [List.length_drop, List.length_take]; rfl)) ?_; (with_reducible refine (caulklaw07_lives.calls k  t252 _ A5.out).mono ?_); rintro e w6 ⟨rfl, hb⟩; refine ⟨_, rfl, ?_⟩; have n0_ := Aside0.mk (below_step (by repeat (first | (with_reducible first | exact HB.out | apply below_alloc | apply pw_below_drewN | apply below_drew1) | exact HB.out)) hb); clear HB; have HB := n0_; clear n0_; (try clear hb); (try clear hb2); (try clear hk); (try clear hi)))
    go_ret
    exact ⟨by first | rfl | (simp [errW_none, errW_some] <;> rfl) | (simp [*, errW_none, errW_some] <;> rfl), by repeat (first | (with_reducible first | exact HB.out | apply below_alloc | apply pw_below_drewN | apply below_drew1) | exact HB.out)⟩
  · rw [if_neg c4] at H
    have c4b0 : decide (200 < (l1.length : Int)) = false := decide_eq_false c4
    have c4b1 : decide (200 < l1.length) = false := decide_eq_false (by omega)
    clear c4
    replace H := Option.bind_eq_some_iff.mp H
    obtain ⟨⟨t253, t254, t255⟩, A70, H⟩ := H
    replace H : ((caulkref07_All.f k a0 l1).bind fun bt258 => ((field_Join.f k l1 l2).bind fun bt263 => ((caulkref07_Join.f k l1 l2).bind fun bt265 => ((caulklaw07_lives.f k).bind fun t267 => (if t267 = true then ((caulkref07_Same.f k t253 bt258.1).bind fun t268 => (if t268 = true then (if t254.toList = bt258.2.1.toList then (if t255 = bt258.2.2 then (if bt263.1.toList = bt265.1.toList then (some (bt263.2 == bt265.2)) else (none)) else (none)) else (none)) else (none))) else (none)))))) = some r := H
    have A7 := Aside0.mk A70
    clear A70
    replace H := Option.bind_eq_some_iff.mp H
    obtain ⟨⟨t258, t259, t260⟩, A80, H⟩ := H
    replace H : ((field_Join.f k l1 l2).bind fun bt263 => ((caulkref07_Join.f k l1 l2).bind fun bt265 => ((caulklaw07_lives.f k).bind fun t267 => (if t267 = true then ((caulkref07_Same.f k t253 t258).bind fun t268 => (if t268 = true then (if t254.toList = t259.toList then (if t255 = t260 then (if bt263.1.toList = bt265.1.toList then (some (bt263.2 == bt265.2)) else (none)) else (none)) else (none)) else (none))) else (none))))) = some r := H
    have A8 := Aside0.mk A80
    clear A80
    replace H := Option.bind_eq_some_iff.mp H
    obtain ⟨⟨t263, t264⟩, A90, H⟩ := H
    replace H : ((caulkref07_Join.f k l1 l2).bind fun bt265 => ((caulklaw07_lives.f k).bind fun t267 => (if t267 = true then ((caulkref07_Same.f k t253 t258).bind fun t268 => (if t268 = true then (if t254.toList = t259.toList then (if t255 = t260 then (if t263.toList = bt265.1.toList then (some (t264 == bt265.2)) else (none)) else (none)) else (none)) else (none))) else (none)))) = some r := H
    have A9 := Aside0.mk A90
    clear A90
    replace H := Option.bind_eq_some_iff.mp H
    obtain ⟨⟨t265, t266⟩, A100, H⟩ := H
    replace H : ((caulklaw07_lives.f k).bind fun t267 => (if t267 = true then ((caulkref07_Same.f k t253 t258).bind fun t268 => (if t268 = true then (if t254.toList = t259.toList then (if t255 = t260 then (if t263.toList = t265.toList then (some (t264 == t266)) else (none)) else (none)) else (none)) else (none))) else (none))) = some r := H
    have A10 := Aside0.mk A100
    clear A100
    replace H := Option.bind_eq_some_iff.mp H
    obtain ⟨t267, A110, H⟩ := H
    replace H : (if t267 = true then ((caulkref07_Same.f k t253 t258).bind fun t268 => (if t268 = true then (if t254.toList = t259.toList then (if t255 = t260 then (if t263.toList = t265.toList then (some (t264 == t266)) else (none)) else (none)) else (none)) else (none))) else (none)) = some r := H
    have A11 := Aside0.mk A110
    clear A110
    by_cases c12 : t267 = true
    · subst c12
      have H1 : ((caulkref07_Same.f k t253 t258).bind fun t268 => (if t268 = true then (if t254.toList = t259.toList then (if t255 = t260 then (if t263.toList = t265.toList then (some (t264 == t266)) else (none)) else (none)) else (none)) else (none))) = some r := by rw [if_pos rfl] at H; exact H
      clear H
      have H := H1
      clear H1
      replace H := Option.bind_eq_some_iff.mp H
      obtain ⟨t268, A130, H⟩ := H
      replace H : (if t268 = true then (if t254.toList = t259.toList then (if t255 = t260 then (if t263.toList = t265.toList then (some (t264 == t266)) else (none)) else (none)) else (none)) else (none)) = some r := H
      have A13 := Aside0.mk A130
      clear A130
      by_cases c14 : t268 = true
      · subst c14
        have H1 : (if t254.toList = t259.toList then (if t255 = t260 then (if t263.toList = t265.toList then (some (t264 == t266)) else (none)) else (none)) else (none)) = some r := by rw [if_pos rfl] at H; exact H
        clear H
        have H := H1
        clear H1
        by_cases c15 : t254.toList = t259.toList
        · rw [if_pos c15] at H
          have c15b0 : (t254.toList == t259.toList) = true := beq_iff_eq.mpr c15
          have c15b1 : (t254.toList != t259.toList) = false := bne_eq_false_iff_eq.mpr c15
          clear c15
          by_cases c16 : t255 = t260
          · rw [if_pos c16] at H
            have c16b0 : (t255 == t260) = true := beq_iff_eq.mpr c16
            have c16b1 : (t255 != t260) = false := bne_eq_false_iff_eq.mpr c16
            clear c16
            by_cases c17 : t263.toList = t265.toList
            · rw [if_pos c17] at H
              have c17b0 : (t263.toList == t265.toList) = true := beq_iff_eq.mpr c17
              have c17b1 : (t263.toList != t265.toList) = false := bne_eq_false_iff_eq.mpr c17
              clear c17
              obtain rfl := Option.some.inj H
              go_enter Try.func4, Try.ntmps4
              go_wp2_with (first | ((with_reducible refine gate_callee (f := 21) rfl ?_); refine goesL_ (some 24) rfl rfl Try.func21 (by kernel_rfl) rfl #[.string a0, .slice A1 l1.length c1] rfl (by (try simp only [List.map_toArray, List.map_cons, List.map_nil]); first | done | rfl | (simp only [List.length_drop, List.length_take]; rfl)) ?_; (with_reducible refine (field_All.calls k a0 _ _ l1 t253 t254 t255 _ ?side1 ?side2 A7.out).mono ?_); (case side1 => repeat (first | exact HR1.out | (with_reducible refine Kd.C_alloc ?_ _) | (with_reducible refine Kd.C_drewN ?_ _) | (with_reducible refine Kd.C_drew ?_))); (case side2 => exact HC1.out); rintro e w18 ⟨v256, rfl, ho0, hb⟩; refine ⟨_, rfl, ?_⟩; have n0_ := Aside0.mk (Kd.R_lower ho0 (below_size (by repeat (first | (with_reducible first | exact HB.out | apply below_alloc | apply pw_below_drewN | apply below_drew1) | exact HB.out)))); have n1_ := Aside0.mk (below_step (by repeat (first | (with_reducible first | exact HB.out | apply below_alloc | apply pw_below_drewN | apply below_drew1) | exact HB.out)) hb); clear HB; have HO257 := n0_; have HB := n1_; clear n0_ n1_; (try clear hb); (try clear hb2); (try clear hk); (try clear hi); (try clear ho0)) | ((with_reducible refine gate_callee (f := 22) rfl ?_); refine goesL_ (some 31) rfl rfl Try.func22 (by kernel_rfl) rfl #[.string a0, .slice A1 l1.length c1] rfl (by (try simp only [List.map_toArray, List.map_cons, List.map_nil]); first | done | rfl | (simp only [List.length_drop, List.length_take]; rfl)) ?_; (with_reducible refine (caulkref07_All.calls k a0 _ _ l1 t258 t259 t260 _ ?side1 ?side2 A8.out).mono ?_); (case side1 => repeat (first | exact (Kd.C_below HR1.out HB.out) | (with_reducible refine Kd.C_alloc ?_ _) | (with_reducible refine Kd.C_drewN ?_ _) | (with_reducible refine Kd.C_drew ?_))); (case side2 => exact HC1.out); rintro e w19 ⟨v261, rfl, ho0, hb⟩; refine ⟨_, rfl, ?_⟩; have n0_ := Aside0.mk (Kd.R_elder' (by (with_reducible repeat (first | apply Kd.R_alloc | apply Kd.R_drewN | apply Kd.R_drew)); exact HO257.out) (Kd.R_base ho0) hb); have n1_ := Aside0.mk (Kd.R_lower (Kd.R_new' ho0 (Kd.R_lt (by (with_reducible repeat (first | apply Kd.R_alloc | apply Kd.R_drewN | apply Kd.R_drew)); exact HO257.out))) (below_size (by repeat (first | (with_reducible first | exact HB.out | apply below_alloc | apply pw_below_drewN | apply below_drew1) | exact HB.out)))); have n2_ := Aside0.mk (below_step (by repeat (first | (with_reducible first | exact HB.out | apply below_alloc | apply pw_below_drewN | apply below_drew1) | exact HB.out)) hb); clear HO257; clear HB; have HO257 := n0_; have HO262 := n1_; have HB := n2_; clear n0_ n1_ n2_; (try clear hb); (try clear hb2); (try clear hk); (try clear hi); (try clear ho0)) | ((with_reducible refine gate_callee (f := 23) rfl ?_); refine goesL_ (some 38) rfl rfl Try.func23 (by kernel_rfl) rfl #[.slice A1 l1.length c1, .slice A2 l2.length c2] rfl (by (try simp only [List.map_toArray, List.map_cons, List.map_nil]); first | done | rfl | (simp only [List.length_drop, List.length_take]; rfl)) ?_; (with_reducible refine (field_Join.calls k _ _ l1 _ _ l2 t263 t264 _ ?side1 ?side2 ?side3 ?side4 A9.out).mono ?_); (case side1 => repeat (first | exact (Kd.C_below HR1.out HB.out) | (with_reducible refine Kd.C_alloc ?_ _) | (with_reducible refine Kd.C_drewN ?_ _) | (with_reducible refine Kd.C_drew ?_))); (case side2 => exact HC1.out); (case side3 => repeat (first | exact (Kd.C_below HR2.out HB.out) | (with_reducible refine Kd.C_alloc ?_ _) | (with_reducible refine Kd.C_drewN ?_ _) | (with_reducible refine Kd.C_drew ?_))); (case side4 => exact HC2.out); rintro e w20 ⟨rfl, hb⟩; refine ⟨_, rfl, ?_⟩; have n0_ := Aside0.mk (Kd.R_below (by (with_reducible repeat (first | apply Kd.R_alloc | apply Kd.R_drewN | apply Kd.R_drew)); exact HO257.out) hb); have n1_ := Aside0.mk (Kd.R_below (by (with_reducible repeat (first | apply Kd.R_alloc | apply Kd.R_drewN | apply Kd.R_drew)); exact HO262.out) hb); have n2_ := Aside0.mk (below_step (by repeat (first | (with_reducible first | exact HB.out | apply below_alloc | apply pw_below_drewN | apply below_drew1) | exact HB.out)) hb); clear HO257; clear HO262; clear HB; have HO257 := n0_; have HO262 := n1_; have HB := n2_; clear n0_ n1_ n2_; (try clear hb); (try clear hb2); (try clear hk); (try clear hi)) | ((with_reducible refine gate_callee (f := 24) rfl ?_); refine goesL_ (some 44) rfl rfl Try.func24 (by kernel_rfl) rfl #[.slice A1 l1.length c1, .slice A2 l2.length c2] rfl (by (try simp only [List.map_toArray, List.map_cons, List.map_nil]); first | done | rfl | (simp only [List.length_drop, List.length_take]; rfl)) ?_; (with_reducible refine (caulkref07_Join.calls k _ _ l1 _ _ l2 t265 t266 _ ?side1 ?side2 ?side3 ?side4 A10.out).mono ?_); (case side1 => repeat (first | exact (Kd.C_below HR1.out HB.out) | (with_reducible refine Kd.C_alloc ?_ _) | (with_reducible refine Kd.C_drewN ?_ _) | (with_reducible refine Kd.C_drew ?_))); (case side2 => exact HC1.out); (case side3 => repeat (first | exact (Kd.C_below HR2.out HB.out) | (with_reducible refine Kd.C_alloc ?_ _) | (with_reducible refine Kd.C_drewN ?_ _) | (with_reducible refine Kd.C_drew ?_))); (case side4 => exact HC2.out); rintro e w21 ⟨rfl, hb⟩; refine ⟨_, rfl, ?_⟩; have n0_ := Aside0.mk (Kd.R_below (by (with_reducible repeat (first | apply Kd.R_alloc | apply Kd.R_drewN | apply Kd.R_drew)); exact HO257.out) hb); have n1_ := Aside0.mk (Kd.R_below (by (with_reducible repeat (first | apply Kd.R_alloc | apply Kd.R_drewN | apply Kd.R_drew)); exact HO262.out) hb); have n2_ := Aside0.mk (below_step (by repeat (first | (with_reducible first | exact HB.out | apply below_alloc | apply pw_below_drewN | apply below_drew1) | exact HB.out)) hb); clear HO257; clear HO262; clear HB; have HO257 := n0_; have HO262 := n1_; have HB := n2_; clear n0_ n1_ n2_; (try clear hb); (try clear hb2); (try clear hk); (try clear hi)) | ((with_reducible refine gate_callee (f := 20) rfl ?_); refine goesL_ (some 47) rfl rfl Try.func20 (by kernel_rfl) rfl #[] rfl (by (try simp only [List.map_toArray, List.map_cons, List.map_nil]); first | done | rfl | (simp only [List.length_drop, List.length_take]; rfl)) ?_; (with_reducible refine (caulklaw07_lives.calls k  true _ A11.out).mono ?_); rintro e w22 ⟨rfl, hb⟩; refine ⟨_, rfl, ?_⟩; have n0_ := Aside0.mk (Kd.R_below (by (with_reducible repeat (first | apply Kd.R_alloc | apply Kd.R_drewN | apply Kd.R_drew)); exact HO257.out) hb); have n1_ := Aside0.mk (Kd.R_below (by (with_reducible repeat (first | apply Kd.R_alloc | apply Kd.R_drewN | apply Kd.R_drew)); exact HO262.out) hb); have n2_ := Aside0.mk (below_step (by repeat (first | (with_reducible first | exact HB.out | apply below_alloc | apply pw_below_drewN | apply below_drew1) | exact HB.out)) hb); clear HO257; clear HO262; clear HB; have HO257 := n0_; have HO262 := n1_; have HB := n2_; clear n0_ n1_ n2_; (try clear hb); (try clear hb2); (try clear hk); (try clear hi); obtain ⟨Ao23, co23, eo23⟩ := Kd.R_slice HO257.out; subst eo23; obtain ⟨Ao24, co24, eo24⟩ := Kd.R_slice HO262.out; subst eo24) | (go_at_call 25; (with_reducible refine (caulkref07_Same.calls k _ _ t253 _ _ t258 true _ ?side1 ?side2 ?side3 ?side4 A13.out).mono ?_); (case side1 => repeat (first | exact (Kd.R_reads' HO257.out).2.2 | (with_reducible refine Kd.C_alloc ?_ _) | (with_reducible refine Kd.C_drewN ?_ _) | (with_reducible refine Kd.C_drew ?_))); (case side2 => exact (Kd.R_reads' HO257.out).2.1); (case side3 => repeat (first | exact (Kd.R_reads' HO262.out).2.2 | (with_reducible refine Kd.C_alloc ?_ _) | (with_reducible refine Kd.C_drewN ?_ _) | (with_reducible refine Kd.C_drew ?_))); (case side4 => exact (Kd.R_reads' HO262.out).2.1); rintro e w' ⟨rfl, ⟨nd, rfl⟩⟩))
              go_ret
              exact ⟨by first | rfl | (simp [errW_none, errW_some] <;> rfl) | (simp [*, errW_none, errW_some] <;> rfl), by repeat (first | (with_reducible first | exact HB.out | apply below_alloc | apply pw_below_drewN | apply below_drew1) | exact HB.out)⟩
            · rw [if_neg c17] at H
              exact absurd H (by simp)
          · rw [if_neg c16] at H
            exact absurd H (by simp)
        · rw [if_neg c15] at H
          exact absurd H (by simp)
      · replace c14 := Bool.eq_false_iff.mpr c14
        subst c14
        have H1 : (none) = some r := by rw [if_neg (show ¬ (false = true) by decide)] at H; exact H
        clear H
        have H := H1
        clear H1
        exact absurd H (by simp)
    · replace c12 := Bool.eq_false_iff.mpr c12
      subst c12
      have H1 : (none) = some r := by rw [if_neg (show ¬ (false = true) by decide)] at H; exact H
      clear H
      have H := H1
      clear H1
      exact absurd H (by simp)

def caulklaw07_FieldAll.Pure : Prop := ∀ (a0 : ByteArray) (l1 : List Int) (l2 : List Int), a0.size ≤ 140737488351232 → (l1.length * 8 ≤ 140737488351232 ∧ ∀ x0_ ∈ l1, (Lit.int .i64 x0_).wf = true) → (l2.length * 8 ≤ 140737488351232 ∧ ∀ x0_ ∈ l2, (Lit.int .u64 x0_).wf = true) → ∃ k, caulklaw07_FieldAll.f k a0 l1 l2 = some true

end Go.Proofs.Ytgiljibkjccgfaa.G
