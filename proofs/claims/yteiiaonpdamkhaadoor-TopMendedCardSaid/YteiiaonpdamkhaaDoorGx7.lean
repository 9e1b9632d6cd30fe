-- Written by a program of this session over the print of the translation (its own patch, foreign contracts, cut ways): not trusted: Lean checks it.
import Derived.Test.YteiiaonpdamkhaaDoorGx0
import Derived.Test.YteiiaonpdamkhaaDoorGx2
import Derived.Test.YteiiaonpdamkhaaDoorGx5
import Derived.Test.YteiiaonpdamkhaaDoorGx6
import Derived.Test.YteiiaonpdamkhaaDoorLocFix
namespace Go.Proofs.YteiiaonpdamkhaaDoor.G
open Go.RowKit Go.Proofs.YteiiaonpdamkhaaDoorW.PrintWords Go.Proofs.YteiiaonpdamkhaaDoorW.PrintLast Go.Proofs.YteiiaonpdamkhaaDoorW.PrintMore
attribute [local go_sem] max2_int min2_int max_two min_two max_three min_three max_four min_four   -- for this text's walks alone
set_option linter.unusedVariables false
set_option linter.unusedSimpArgs false

/-! ### caulktop_TopMended: function 6 -/
mutual
noncomputable def caulktop_TopMended.j0 : Nat → Int → Int → List ByteArray → Int → ByteArray → Bool → Option (Bool)
  | 0, _, _, _, _, _, _ => none
  | k + 1, x0, x1, x2, x3, x4, x53 => if x53 = true then (some true) else (caulktop_TopMended.l0 k x0 x1 x2 x3 x4 x2 (x2.length : Int) 0)
noncomputable def caulktop_TopMended.l0 : Nat → Int → Int → List ByteArray → Int → ByteArray → List ByteArray → Int → Int → Option (Bool)
  | 0, _, _, _, _, _, _, _, _ => none
  | k + 1, x0, x1, x2, x3, x4, x54, x55, x56 => if x56 < x55 then (if 0 ≤ x56 then (if x56 < (x54.length : Int) then (if ((rdOf ByteArray.empty x54 x56).size : Int) > 1024 then (some true) else (caulktop_TopMended.l0 k x0 x1 x2 x3 x4 x54 x55 (wrap64 (x56 + 1)))) else (none)) else (none)) else ((rs_Encode.f k x0 x1 x2).bind fun bt273 => (if bt273.2 = 0 then ((some (([] : List ByteArray) : List ByteArray)).bind fun y277 => (if y277.length + x2.length < 8796093022208 then ((some (y277 ++ x2 : List ByteArray)).bind fun y280 => (if y280.length + bt273.1.length < 8796093022208 then ((some (y280 ++ bt273.1 : List ByteArray)).bind fun y283 => ((crc_Sum.f (⟨#[]⟩ : ByteArray)).bind fun t286 => (caulktop_TopMended.l1 k x0 x1 x3 x4 y283 (⟨#[]⟩ : ByteArray) t286 y283 (y283.length : Int) 0))) else (none))) else (none))) else (some ((bt273.1.length : Int) == 0))))
noncomputable def caulktop_TopMended.l1 : Nat → Int → Int → Int → ByteArray → List ByteArray → ByteArray → Int → List ByteArray → Int → Int → Option (Bool)
  | 0, _, _, _, _, _, _, _, _, _, _ => none
  | k + 1, x0, x1, x3, x4, x15, x16, x17, x82, x83, x84 => if x84 < x83 then (if 0 ≤ x84 then (if x84 < (x82.length : Int) then ((crc_Sum.f (rdOf ByteArray.empty x82 x84)).bind fun t288 => ((combine_Join.f k x17 t288 ((rdOf ByteArray.empty x82 x84).size : Int)).bind fun bt289 => (if bt289.2 = 0 then (if x16.size + (rdOf ByteArray.empty x82 x84).size ≤ 9223372036854775807 then (caulktop_TopMended.l1 k x0 x1 x3 x4 x15 (x16 ++ (rdOf ByteArray.empty x82 x84)) bt289.1 x82 x83 (wrap64 (x84 + 1))) else (none)) else (none)))) else (none)) else (none)) else ((crc_Sum.f x16).bind fun t291 => (if x17 = t291 then (if x1 < 2 then (caulktop_TopMended.j3 k x0 x1 x3 x4 x15 x17 true) else (if x3 < 0 then (caulktop_TopMended.j3 k x0 x1 x3 x4 x15 x17 true) else (if x3 ≥ (x15.length : Int) then (caulktop_TopMended.j3 k x0 x1 x3 x4 x15 x17 true) else (if 0 ≤ x3 then (if x3 < (x15.length : Int) then (caulktop_TopMended.j3 k x0 x1 x3 x4 x15 x17 ((x4.size : Int) != ((rdOf ByteArray.empty x15 x3).size : Int))) else (none)) else (none))))) else (none)))
noncomputable def caulktop_TopMended.j3 : Nat → Int → Int → Int → ByteArray → List ByteArray → Int → Bool → Option (Bool)
  | 0, _, _, _, _, _, _, _ => none
  | k + 1, x0, x1, x3, x4, x15, x17, x129 => if x129 = true then (some true) else ((some (([] : List ByteArray) : List ByteArray)).bind fun y293 => (if y293.length + x15.length < 8796093022208 then ((some (y293 ++ x15 : List ByteArray)).bind fun y296 => (if 0 ≤ x3 then (if x3 < (y296.length : Int) then ((locate_Fix.f k x0 x1 (y296.set (x3 : Int).toNat x4)).bind fun bt300 => (if bt300.2.2 = 0 then (if (bt300.1.length : Int) = (x15.length : Int) then (if bt300.2.1 = x3 then (caulktop_TopMended.j4 k x17 bt300.1 false) else (caulktop_TopMended.j4 k x17 bt300.1 (bt300.2.1 != (-1)))) else (caulktop_TopMended.j4 k x17 bt300.1 true)) else (caulktop_TopMended.j4 k x17 bt300.1 true))) else (none)) else (none))) else (none)))
noncomputable def caulktop_TopMended.j4 : Nat → Int → List ByteArray → Bool → Option (Bool)
  | 0, _, _, _ => none
  | k + 1, x17, x23, x162 => if x162 = true then (none) else (caulktop_TopMended.l2 k (⟨#[]⟩ : ByteArray) x17 x23 (x23.length : Int) 0)
noncomputable def caulktop_TopMended.l2 : Nat → ByteArray → Int → List ByteArray → Int → Int → Option (Bool)
  | 0, _, _, _, _, _ => none
  | k + 1, x16, x17, x163, x164, x165 => if x165 < x164 then (if 0 ≤ x165 then (if x165 < (x163.length : Int) then (if x16.size + (rdOf ByteArray.empty x163 x165).size ≤ 9223372036854775807 then (caulktop_TopMended.l2 k (x16 ++ (rdOf ByteArray.empty x163 x165)) x17 x163 x164 (wrap64 (x165 + 1))) else (none)) else (none)) else (none)) else ((crc_Sum.f x16).bind fun t306 => (some (t306 == x17)))
end
noncomputable def caulktop_TopMended.f (k : Nat) (a0 : Int) (a1 : Int) (l2 : List ByteArray) (a3 : Int) (a4 : ByteArray) : Option (Bool) := (caulktop_begins.f).bind fun t271 => (if t271 = true then (if a0 > 12 then (if a0 ≤ 255 then (caulktop_TopMended.j0 k a0 a1 l2 a3 a4 true) else (if a1 > 12 then (if a1 ≤ 255 then (caulktop_TopMended.j0 k a0 a1 l2 a3 a4 true) else (if (l2.length : Int) > 12 then (caulktop_TopMended.j0 k a0 a1 l2 a3 a4 true) else (caulktop_TopMended.j0 k a0 a1 l2 a3 a4 (decide ((a4.size : Int) > 1024))))) else (if (l2.length : Int) > 12 then (caulktop_TopMended.j0 k a0 a1 l2 a3 a4 true) else (caulktop_TopMended.j0 k a0 a1 l2 a3 a4 (decide ((a4.size : Int) > 1024)))))) else (if a1 > 12 then (if a1 ≤ 255 then (caulktop_TopMended.j0 k a0 a1 l2 a3 a4 true) else (if (l2.length : Int) > 12 then (caulktop_TopMended.j0 k a0 a1 l2 a3 a4 true) else (caulktop_TopMended.j0 k a0 a1 l2 a3 a4 (decide ((a4.size : Int) > 1024))))) else (if (l2.length : Int) > 12 then (caulktop_TopMended.j0 k a0 a1 l2 a3 a4 true) else (caulktop_TopMended.j0 k a0 a1 l2 a3 a4 (decide ((a4.size : Int) > 1024)))))) else (none))
theorem caulktop_TopMended.mono_l : ∀ k, (∀ y0 y1 y2 y3 y4 y5, LeO (caulktop_TopMended.j0 k y0 y1 y2 y3 y4 y5) (caulktop_TopMended.j0 (k + 1) y0 y1 y2 y3 y4 y5)) ∧ (∀ y0 y1 y2 y3 y4 y5 y6 y7, LeO (caulktop_TopMended.l0 k y0 y1 y2 y3 y4 y5 y6 y7) (caulktop_TopMended.l0 (k + 1) y0 y1 y2 y3 y4 y5 y6 y7)) ∧ (∀ y0 y1 y2 y3 y4 y5 y6 y7 y8 y9, LeO (caulktop_TopMended.l1 k y0 y1 y2 y3 y4 y5 y6 y7 y8 y9) (caulktop_TopMended.l1 (k + 1) y0 y1 y2 y3 y4 y5 y6 y7 y8 y9)) ∧ (∀ y0 y1 y2 y3 y4 y5 y6, LeO (caulktop_TopMended.j3 k y0 y1 y2 y3 y4 y5 y6) (caulktop_TopMended.j3 (k + 1) y0 y1 y2 y3 y4 y5 y6)) ∧ (∀ y0 y1 y2, LeO (caulktop_TopMended.j4 k y0 y1 y2) (caulktop_TopMended.j4 (k + 1) y0 y1 y2)) ∧ (∀ y0 y1 y2 y3 y4, LeO (caulktop_TopMended.l2 k y0 y1 y2 y3 y4) (caulktop_TopMended.l2 (k + 1) y0 y1 y2 y3 y4))
  | 0 => ⟨fun _ _ _ _ _ _ r h => by simp [caulktop_TopMended.j0] at h, fun _ _ _ _ _ _ _ _ r h => by simp [caulktop_TopMended.l0] at h, fun _ _ _ _ _ _ _ _ _ _ r h => by simp [caulktop_TopMended.l1] at h, fun _ _ _ _ _ _ _ r h => by simp [caulktop_TopMended.j3] at h, fun _ _ _ r h => by simp [caulktop_TopMended.j4] at h, fun _ _ _ _ _ r h => by simp [caulktop_TopMended.l2] at h⟩
  | k + 1 => by
    obtain ⟨ih0, ih1, ih2, ih3, ih4, ih5⟩ := caulktop_TopMended.mono_l k
    refine ⟨?_, ?_, ?_, ?_, ?_, ?_⟩
    · intro y0 y1 y2 y3 y4 y5
      unfold caulktop_TopMended.j0
      repeat' first
      | (with_reducible exact ih0 _ _ _ _ _ _)
      | (with_reducible exact ih1 _ _ _ _ _ _ _ _)
      | (with_reducible exact ih2 _ _ _ _ _ _ _ _ _ _)
      | (with_reducible exact ih3 _ _ _ _ _ _ _)
      | (with_reducible exact ih4 _ _ _)
      | (with_reducible exact ih5 _ _ _ _ _)
      | (with_reducible exact combine_Join.mono _ _ _ _)
      | (with_reducible exact locate_Fix.mono _ _ _ _)
      | (with_reducible exact rs_Encode.mono _ _ _ _)
      | (with_reducible exact LeO.refl _)
      | (with_reducible exact LeO.none _)
      | (with_reducible refine LeO.ite ?_ ?_)
      | (with_reducible refine LeO.bind ?_ (fun _ => ?_))
      | exact ih0 _ _ _ _ _ _
      | exact ih1 _ _ _ _ _ _ _ _
      | exact ih2 _ _ _ _ _ _ _ _ _ _
      | exact ih3 _ _ _ _ _ _ _
      | exact ih4 _ _ _
      | exact ih5 _ _ _ _ _
      | exact combine_Join.mono _ _ _ _
      | exact locate_Fix.mono _ _ _ _
      | exact rs_Encode.mono _ _ _ _
      | exact LeO.none _
      | refine LeO.ite ?_ ?_
      | refine LeO.bind ?_ (fun _ => ?_)
    · intro y0 y1 y2 y3 y4 y5 y6 y7
      unfold caulktop_TopMended.l0
      repeat' first
      | (with_reducible exact ih0 _ _ _ _ _ _)
      | (with_reducible exact ih1 _ _ _ _ _ _ _ _)
      | (with_reducible exact ih2 _ _ _ _ _ _ _ _ _ _)
      | (with_reducible exact ih3 _ _ _ _ _ _ _)
      | (with_reducible exact ih4 _ _ _)
      | (with_reducible exact ih5 _ _ _ _ _)
      | (with_reducible exact combine_Join.mono _ _ _ _)
      | (with_reducible exact locate_Fix.mono _ _ _ _)
      | (with_reducible exact rs_Encode.mono _ _ _ _)
      | (with_reducible exact LeO.refl _)
      | (with_reducible exact LeO.none _)
      | (with_reducible refine LeO.ite ?_ ?_)
      | (with_reducible refine LeO.bind ?_ (fun _ => ?_))
      | exact ih0 _ _ _ _ _ _
      | exact ih1 _ _ _ _ _ _ _ _
      | exact ih2 _ _ _ _ _ _ _ _ _ _
      | exact ih3 _ _ _ _ _ _ _
      | exact ih4 _ _ _
      | exact ih5 _ _ _ _ _
      | exact combine_Join.mono _ _ _ _
      | exact locate_Fix.mono _ _ _ _
      | exact rs_Encode.mono _ _ _ _
      | exact LeO.none _
      | refine LeO.ite ?_ ?_
      | refine LeO.bind ?_ (fun _ => ?_)
    · intro y0 y1 y2 y3 y4 y5 y6 y7 y8 y9
      unfold caulktop_TopMended.l1
      repeat' first
      | (with_reducible exact ih0 _ _ _ _ _ _)
      | (with_reducible exact ih1 _ _ _ _ _ _ _ _)
      | (with_reducible exact ih2 _ _ _ _ _ _ _ _ _ _)
      | (with_reducible exact ih3 _ _ _ _ _ _ _)
      | (with_reducible exact ih4 _ _ _)
      | (with_reducible exact ih5 _ _ _ _ _)
      | (with_reducible exact combine_Join.mono _ _ _ _)
      | (with_reducible exact locate_Fix.mono _ _ _ _)
      | (with_reducible exact rs_Encode.mono _ _ _ _)
      | (with_reducible exact LeO.refl _)
      | (with_reducible exact LeO.none _)
      | (with_reducible refine LeO.ite ?_ ?_)
      | (with_reducible refine LeO.bind ?_ (fun _ => ?_))
      | exact ih0 _ _ _ _ _ _
      | exact ih1 _ _ _ _ _ _ _ _
      | exact ih2 _ _ _ _ _ _ _ _ _ _
      | exact ih3 _ _ _ _ _ _ _
      | exact ih4 _ _ _
      | exact ih5 _ _ _ _ _
      | exact combine_Join.mono _ _ _ _
      | exact locate_Fix.mono _ _ _ _
      | exact rs_Encode.mono _ _ _ _
      | exact LeO.none _
      | refine LeO.ite ?_ ?_
      | refine LeO.bind ?_ (fun _ => ?_)
    · intro y0 y1 y2 y3 y4 y5 y6
      unfold caulktop_TopMended.j3
      repeat' first
      | (with_reducible exact ih0 _ _ _ _ _ _)
      | (with_reducible exact ih1 _ _ _ _ _ _ _ _)
      | (with_reducible exact ih2 _ _ _ _ _ _ _ _ _ _)
      | (with_reducible exact ih3 _ _ _ _ _ _ _)
      | (with_reducible exact ih4 _ _ _)
      | (with_reducible exact ih5 _ _ _ _ _)
      | (with_reducible exact combine_Join.mono _ _ _ _)
      | (with_reducible exact locate_Fix.mono _ _ _ _)
      | (with_reducible exact rs_Encode.mono _ _ _ _)
      | (with_reducible exact LeO.refl _)
      | (with_reducible exact LeO.none _)
      | (with_reducible refine LeO.ite ?_ ?_)
      | (with_reducible refine LeO.bind ?_ (fun _ => ?_))
      | exact ih0 _ _ _ _ _ _
      | exact ih1 _ _ _ _ _ _ _ _
      | exact ih2 _ _ _ _ _ _ _ _ _ _
      | exact ih3 _ _ _ _ _ _ _
      | exact ih4 _ _ _
      | exact ih5 _ _ _ _ _
      | exact combine_Join.mono _ _ _ _
      | exact locate_Fix.mono _ _ _ _
      | exact rs_Encode.mono _ _ _ _
      | exact LeO.none _
      | refine LeO.ite ?_ ?_
      | refine LeO.bind ?_ (fun _ => ?_)
    · intro y0 y1 y2
      unfold caulktop_TopMended.j4
      repeat' first
      | (with_reducible exact ih0 _ _ _ _ _ _)
      | (with_reducible exact ih1 _ _ _ _ _ _ _ _)
      | (with_reducible exact ih2 _ _ _ _ _ _ _ _ _ _)
      | (with_reducible exact ih3 _ _ _ _ _ _ _)
      | (with_reducible exact ih4 _ _ _)
      | (with_reducible exact ih5 _ _ _ _ _)
      | (with_reducible exact combine_Join.mono _ _ _ _)
      | (with_reducible exact locate_Fix.mono _ _ _ _)
      | (with_reducible exact rs_Encode.mono _ _ _ _)
      | (with_reducible exact LeO.refl _)
      | (with_reducible exact LeO.none _)
      | (with_reducible refine LeO.ite ?_ ?_)
      | (with_reducible refine LeO.bind ?_ (fun _ => ?_))
      | exact ih0 _ _ _ _ _ _
      | exact ih1 _ _ _ _ _ _ _ _
      | exact ih2 _ _ _ _ _ _ _ _ _ _
      | exact ih3 _ _ _ _ _ _ _
      | exact ih4 _ _ _
      | exact ih5 _ _ _ _ _
      | exact combine_Join.mono _ _ _ _
      | exact locate_Fix.mono _ _ _ _
      | exact rs_Encode.mono _ _ _ _
      | exact LeO.none _
      | refine LeO.ite ?_ ?_
      | refine LeO.bind ?_ (fun _ => ?_)
    · intro y0 y1 y2 y3 y4
      unfold caulktop_TopMended.l2
      repeat' first
      | (with_reducible exact ih0 _ _ _ _ _ _)
      | (with_reducible exact ih1 _ _ _ _ _ _ _ _)
      | (with_reducible exact ih2 _ _ _ _ _ _ _ _ _ _)
      | (with_reducible exact ih3 _ _ _ _ _ _ _)
      | (with_reducible exact ih4 _ _ _)
      | (with_reducible exact ih5 _ _ _ _ _)
      | (with_reducible exact combine_Join.mono _ _ _ _)
      | (with_reducible exact locate_Fix.mono _ _ _ _)
      | (with_reducible exact rs_Encode.mono _ _ _ _)
      | (with_reducible exact LeO.refl _)
      | (with_reducible exact LeO.none _)
      | (with_reducible refine LeO.ite ?_ ?_)
      | (with_reducible refine LeO.bind ?_ (fun _ => ?_))
      | exact ih0 _ _ _ _ _ _
      | exact ih1 _ _ _ _ _ _ _ _
      | exact ih2 _ _ _ _ _ _ _ _ _ _
      | exact ih3 _ _ _ _ _ _ _
      | exact ih4 _ _ _
      | exact ih5 _ _ _ _ _
      | exact combine_Join.mono _ _ _ _
      | exact locate_Fix.mono _ _ _ _
      | exact rs_Encode.mono _ _ _ _
      | exact LeO.none _
      | refine LeO.ite ?_ ?_
      | refine LeO.bind ?_ (fun _ => ?_)
theorem caulktop_TopMended.mono : ∀ a0 a1 a2 a3 a4 k, LeO (caulktop_TopMended.f k a0 a1 a2 a3 a4) (caulktop_TopMended.f (k + 1) a0 a1 a2 a3 a4) := by
  intro a0 a1 a2 a3 a4 k
  obtain ⟨ih0, ih1, ih2, ih3, ih4, ih5⟩ := caulktop_TopMended.mono_l k
  unfold caulktop_TopMended.f
  repeat' first
      | (with_reducible exact ih0 _ _ _ _ _ _)
      | (with_reducible exact ih1 _ _ _ _ _ _ _ _)
      | (with_reducible exact ih2 _ _ _ _ _ _ _ _ _ _)
      | (with_reducible exact ih3 _ _ _ _ _ _ _)
      | (with_reducible exact ih4 _ _ _)
      | (with_reducible exact ih5 _ _ _ _ _)
      | (with_reducible exact combine_Join.mono _ _ _ _)
      | (with_reducible exact locate_Fix.mono _ _ _ _)
      | (with_reducible exact rs_Encode.mono _ _ _ _)
      | (with_reducible exact LeO.refl _)
      | (with_reducible exact LeO.none _)
      | (with_reducible refine LeO.ite ?_ ?_)
      | (with_reducible refine LeO.bind ?_ (fun _ => ?_))
      | exact ih0 _ _ _ _ _ _
      | exact ih1 _ _ _ _ _ _ _ _
      | exact ih2 _ _ _ _ _ _ _ _ _ _
      | exact ih3 _ _ _ _ _ _ _
      | exact ih4 _ _ _
      | exact ih5 _ _ _ _ _
      | exact combine_Join.mono _ _ _ _
      | exact locate_Fix.mono _ _ _ _
      | exact rs_Encode.mono _ _ _ _
      | exact LeO.none _
      | refine LeO.ite ?_ ?_
      | refine LeO.bind ?_ (fun _ => ?_)
set_option maxHeartbeats 8000000 in
set_option maxRecDepth 100000 in
theorem caulktop_TopMended.calls (k : Nat) (a0 : Int) (a1 : Int) (A2 : Option Addr) (c2 : Nat) (l2 : List ByteArray) (a3 : Int) (a4 : ByteArray) (r : Bool) (w : World) (hr2 : Kd.C Kd.string w A2 l2.length l2) (hc2 : l2.length ≤ c2) (hG : GT w) (h : caulktop_TopMended.f k a0 a1 l2 a3 a4 = some r) :
    Calls Tryd.prog 6 #[.int .i64 a0, .int .i64 a1, .slice A2 l2.length c2, .int .i64 a3, .string a4] w fun e w' => e = .returned (.bool r) ∧ Below w.heap.size w w' := by
  have HR2 := Aside0.mk hr2
  have HC2 := Aside0.mk hc2
  clear hr2 hc2
  have HB := Aside0.mk (Below.refl w.heap.size w)
  have HG := Aside0.mk hG
  clear hG
  have H : ((caulktop_begins.f).bind fun t271 => (if t271 = true then (if a0 > 12 then (if a0 ≤ 255 then (caulktop_TopMended.j0 k a0 a1 l2 a3 a4 true) else (if a1 > 12 then (if a1 ≤ 255 then (caulktop_TopMended.j0 k a0 a1 l2 a3 a4 true) else (if (l2.length : Int) > 12 then (caulktop_TopMended.j0 k a0 a1 l2 a3 a4 true) else (caulktop_TopMended.j0 k a0 a1 l2 a3 a4 (decide ((a4.size : Int) > 1024))))) else (if (l2.length : Int) > 12 then (caulktop_TopMended.j0 k a0 a1 l2 a3 a4 true) else (caulktop_TopMended.j0 k a0 a1 l2 a3 a4 (decide ((a4.size : Int) > 1024)))))) else (if a1 > 12 then (if a1 ≤ 255 then (caulktop_TopMended.j0 k a0 a1 l2 a3 a4 true) else (if (l2.length : Int) > 12 then (caulktop_TopMended.j0 k a0 a1 l2 a3 a4 true) else (caulktop_TopMended.j0 k a0 a1 l2 a3 a4 (decide ((a4.size : Int) > 1024))))) else (if (l2.length : Int) > 12 then (caulktop_TopMended.j0 k a0 a1 l2 a3 a4 true) else (caulktop_TopMended.j0 k a0 a1 l2 a3 a4 (decide ((a4.size : Int) > 1024)))))) else (none))) = some r := h
  clear h
  replace H := Option.bind_eq_some_iff.mp H
  obtain ⟨t271, A60, H⟩ := H
  replace H : (if t271 = true then (if a0 > 12 then (if a0 ≤ 255 then (caulktop_TopMended.j0 k a0 a1 l2 a3 a4 true) else (if a1 > 12 then (if a1 ≤ 255 then (caulktop_TopMended.j0 k a0 a1 l2 a3 a4 true) else (if (l2.length : Int) > 12 then (caulktop_TopMended.j0 k a0 a1 l2 a3 a4 true) else (caulktop_TopMended.j0 k a0 a1 l2 a3 a4 (decide ((a4.size : Int) > 1024))))) else (if (l2.length : Int) > 12 then (caulktop_TopMended.j0 k a0 a1 l2 a3 a4 true) else (caulktop_TopMended.j0 k a0 a1 l2 a3 a4 (decide ((a4.size : Int) > 1024)))))) else (if a1 > 12 then (if a1 ≤ 255 then (caulktop_TopMended.j0 k a0 a1 l2 a3 a4 true) else (if (l2.length : Int) > 12 then (caulktop_TopMended.j0 k a0 a1 l2 a3 a4 true) else (caulktop_TopMended.j0 k a0 a1 l2 a3 a4 (decide ((a4.size : Int) > 1024))))) else (if (l2.length : Int) > 12 then (caulktop_TopMended.j0 k a0 a1 l2 a3 a4 true) else (caulktop_TopMended.j0 k a0 a1 l2 a3 a4 (decide ((a4.size : Int) > 1024)))))) else (none)) = some r := H
  have A6 := Aside0.mk A60
  clear A60
  by_cases c7 : t271 = true
  · subst c7
    have H1 : (if a0 > 12 then (if a0 ≤ 255 then (caulktop_TopMended.j0 k a0 a1 l2 a3 a4 true) else (if a1 > 12 then (if a1 ≤ 255 then (caulktop_TopMended.j0 k a0 a1 l2 a3 a4 true) else (if (l2.length : Int) > 12 then (caulktop_TopMended.j0 k a0 a1 l2 a3 a4 true) else (caulktop_TopMended.j0 k a0 a1 l2 a3 a4 (decide ((a4.size : Int) > 1024))))) else (if (l2.length : Int) > 12 then (caulktop_TopMended.j0 k a0 a1 l2 a3 a4 true) else (caulktop_TopMended.j0 k a0 a1 l2 a3 a4 (decide ((a4.size : Int) > 1024)))))) else (if a1 > 12 then (if a1 ≤ 255 then (caulktop_TopMended.j0 k a0 a1 l2 a3 a4 true) else (if (l2.length : Int) > 12 then (caulktop_TopMended.j0 k a0 a1 l2 a3 a4 true) else (caulktop_TopMended.j0 k a0 a1 l2 a3 a4 (decide ((a4.size : Int) > 1024))))) else (if (l2.length : Int) > 12 then (caulktop_TopMended.j0 k a0 a1 l2 a3 a4 true) else (caulktop_TopMended.j0 k a0 a1 l2 a3 a4 (decide ((a4.size : Int) > 1024)))))) = some r := by rw [if_pos rfl] at H; exact H
    clear H
    have H := H1
    clear H1
    have HC8 := Aside0.mk H
    clear H
    go_enter Tryd.func6, Tryd.ntmps6
    go_upto_region 3 with (first | ((with_reducible refine gate_callee (f := 19) rfl ?_); refine goesL_ (some 28) rfl rfl Tryd.func19 (by kernel_rfl) rfl #[] rfl (by (try simp only [List.map_toArray, List.map_cons, List.map_nil]); first | done | rfl | (simp only [List.length_drop, List.length_take]; rfl)) ?_; (with_reducible refine (caulktop_begins.calls  true _ ?side1 A6.out).mono ?_); (case side1 => first | exact HG.out | exact GT.below HG.out (by repeat (first | (with_reducible first | exact HB.out | apply below_alloc | apply pw_below_drewN | apply below_drew1) | exact HB.out))); rintro e w' ⟨rfl, ⟨nd, rfl⟩⟩; refine ⟨_, rfl, ?_⟩))
    (try simp only [Act.put, List.setIfInBounds_toArray, List.set_cons_zero, List.set_cons_succ])
    go_cut [53] (fun v53 wc => ∃ (kq : Nat) (x53_7 : Bool), v53 = .bool x53_7 ∧ Aside0 (caulktop_TopMended.j0 kq a0 a1 l2 a3 a4 x53_7 = some r) ∧ Aside0 (kq ≤ k) ∧ Aside0 (Below w.heap.size w wc))
    case first =>
      have H := HC8.out
      clear HC8
      by_cases c9 : a0 > 12
      · rw [if_pos c9] at H
        have c9b0 : decide (12 < a0) = true := decide_eq_true c9
        clear c9
        (first | rw [c9b0] | (simp only [i64_w, i32_w]; rw [c9b0]) | skip)
        by_cases c10 : a0 ≤ 255
        · rw [if_pos c10] at H
          have c10b0 : decide (a0 ≤ 255) = true := decide_eq_true c10
          clear c10
          have H' := Aside0.mk H
          clear H
          go_wp2
          go_meet
          case rel => exact ⟨_, (true), (by first | rfl | (simp; done) | (simp [*]; done)), H', ⟨by first | omega | exact Nat.le_refl _⟩, ⟨by repeat (first | (with_reducible first | exact HB.out | apply below_alloc | apply pw_below_drewN | apply below_drew1) | exact HB.out)⟩⟩
        · rw [if_neg c10] at H
          have c10b0 : decide (a0 ≤ 255) = false := decide_eq_false c10
          clear c10
          by_cases c11 : a1 > 12
          · rw [if_pos c11] at H
            have c11b0 : decide (12 < a1) = true := decide_eq_true c11
            clear c11
            by_cases c12 : a1 ≤ 255
            · rw [if_pos c12] at H
              have c12b0 : decide (a1 ≤ 255) = true := decide_eq_true c12
              clear c12
              have H' := Aside0.mk H
              clear H
              go_wp2
              go_meet
              case rel => exact ⟨_, (true), (by first | rfl | (simp; done) | (simp [*]; done)), H', ⟨by first | omega | exact Nat.le_refl _⟩, ⟨by repeat (first | (with_reducible first | exact HB.out | apply below_alloc | apply pw_below_drewN | apply below_drew1) | exact HB.out)⟩⟩
            · rw [if_neg c12] at H
              have c12b0 : decide (a1 ≤ 255) = false := decide_eq_false c12
              clear c12
              by_cases c13 : (l2.length : Int) > 12
              · rw [if_pos c13] at H
                have c13b0 : decide (12 < (l2.length : Int)) = true := decide_eq_true c13
                have c13b1 : decide (12 < l2.length) = true := decide_eq_true (by omega)
                clear c13
                have H' := Aside0.mk H
                clear H
                go_wp2
                go_meet
                case rel => exact ⟨_, (true), (by first | rfl | (simp; done) | (simp [*]; done)), H', ⟨by first | omega | exact Nat.le_refl _⟩, ⟨by repeat (first | (with_reducible first | exact HB.out | apply below_alloc | apply pw_below_drewN | apply below_drew1) | exact HB.out)⟩⟩
              · rw [if_neg c13] at H
                have c13b0 : decide (12 < (l2.length : Int)) = false := decide_eq_false c13
                have c13b1 : decide (12 < l2.length) = false := decide_eq_false (by omega)
                clear c13
                have H' := Aside0.mk H
                clear H
                go_wp2
                go_meet
                case rel => exact ⟨_, (decide ((a4.size : Int) > 1024)), (by first | rfl | (simp; done) | (simp [*]; done)), H', ⟨by first | omega | exact Nat.le_refl _⟩, ⟨by repeat (first | (with_reducible first | exact HB.out | apply below_alloc | apply pw_below_drewN | apply below_drew1) | exact HB.out)⟩⟩
          · rw [if_neg c11] at H
            have c11b0 : decide (12 < a1) = false := decide_eq_false c11
            clear c11
            by_cases c14 : (l2.length : Int) > 12
            · rw [if_pos c14] at H
              have c14b0 : decide (12 < (l2.length : Int)) = true := decide_eq_true c14
              have c14b1 : decide (12 < l2.length) = true := decide_eq_true (by omega)
              clear c14
              have H' := Aside0.mk H
              clear H
              go_wp2
              go_meet
              case rel => exact ⟨_, (true), (by first | rfl | (simp; done) | (simp [*]; done)), H', ⟨by first | omega | exact Nat.le_refl _⟩, ⟨by repeat (first | (with_reducible first | exact HB.out | apply below_alloc | apply pw_below_drewN | apply below_drew1) | exact HB.out)⟩⟩
            · rw [if_neg c14] at H
              have c14b0 : decide (12 < (l2.length : Int)) = false := decide_eq_false c14
              have c14b1 : decide (12 < l2.length) = false := decide_eq_false (by omega)
              clear c14
              have H' := Aside0.mk H
              clear H
              go_wp2
              go_meet
              case rel => exact ⟨_, (decide ((a4.size : Int) > 1024)), (by first | rfl | (simp; done) | (simp [*]; done)), H', ⟨by first | omega | exact Nat.le_refl _⟩, ⟨by repeat (first | (with_reducible first | exact HB.out | apply below_alloc | apply pw_below_drewN | apply below_drew1) | exact HB.out)⟩⟩
      · rw [if_neg c9] at H
        have c9b0 : decide (12 < a0) = false := decide_eq_false c9
        clear c9
        (first | rw [c9b0] | (simp only [i64_w, i32_w]; rw [c9b0]) | skip)
        by_cases c15 : a1 > 12
        · rw [if_pos c15] at H
          have c15b0 : decide (12 < a1) = true := decide_eq_true c15
          clear c15
          by_cases c16 : a1 ≤ 255
          · rw [if_pos c16] at H
            have c16b0 : decide (a1 ≤ 255) = true := decide_eq_true c16
            clear c16
            have H' := Aside0.mk H
            clear H
            go_wp2
            go_meet
            case rel => exact ⟨_, (true), (by first | rfl | (simp; done) | (simp [*]; done)), H', ⟨by first | omega | exact Nat.le_refl _⟩, ⟨by repeat (first | (with_reducible first | exact HB.out | apply below_alloc | apply pw_below_drewN | apply below_drew1) | exact HB.out)⟩⟩
          · rw [if_neg c16] at H
            have c16b0 : decide (a1 ≤ 255) = false := decide_eq_false c16
            clear c16
            by_cases c17 : (l2.length : Int) > 12
            · rw [if_pos c17] at H
              have c17b0 : decide (12 < (l2.length : Int)) = true := decide_eq_true c17
              have c17b1 : decide (12 < l2.length) = true := decide_eq_true (by omega)
              clear c17
              have H' := Aside0.mk H
              clear H
              go_wp2
              go_meet
              case rel => exact ⟨_, (true), (by first | rfl | (simp; done) | (simp [*]; done)), H', ⟨by first | omega | exact Nat.le_refl _⟩, ⟨by repeat (first | (with_reducible first | exact HB.out | apply below_alloc | apply pw_below_drewN | apply below_drew1) | exact HB.out)⟩⟩
            · rw [if_neg c17] at H
              have c17b0 : decide (12 < (l2.length : Int)) = false := decide_eq_false c17
              have c17b1 : decide (12 < l2.length) = false := decide_eq_false (by omega)
              clear c17
              have H' := Aside0.mk H
              clear H
              go_wp2
              go_meet
              case rel => exact ⟨_, (decide ((a4.size : Int) > 1024)), (by first | rfl | (simp; done) | (simp [*]; done)), H', ⟨by first | omega | exact Nat.le_refl _⟩, ⟨by repeat (first | (with_reducible first | exact HB.out | apply below_alloc | apply pw_below_drewN | apply below_drew1) | exact HB.out)⟩⟩
        · rw [if_neg c15] at H
          have c15b0 : decide (12 < a1) = false := decide_eq_false c15
          clear c15
          by_cases c18 : (l2.length : Int) > 12
          · rw [if_pos c18] at H
            have c18b0 : decide (12 < (l2.length : Int)) = true := decide_eq_true c18
            have c18b1 : decide (12 < l2.length) = true := decide_eq_true (by omega)
            clear c18
            have H' := Aside0.mk H
            clear H
            go_wp2
            go_meet
            case rel => exact ⟨_, (true), (by first | rfl | (simp; done) | (simp [*]; done)), H', ⟨by first | omega | exact Nat.le_refl _⟩, ⟨by repeat (first | (with_reducible first | exact HB.out | apply below_alloc | apply pw_below_drewN | apply below_drew1) | exact HB.out)⟩⟩
          · rw [if_neg c18] at H
            have c18b0 : decide (12 < (l2.length : Int)) = false := decide_eq_false c18
            have c18b1 : decide (12 < l2.length) = false := decide_eq_false (by omega)
            clear c18
            have H' := Aside0.mk H
            clear H
            go_wp2
            go_meet
            case rel => exact ⟨_, (decide ((a4.size : Int) > 1024)), (by first | rfl | (simp; done) | (simp [*]; done)), H', ⟨by first | omega | exact Nat.le_refl _⟩, ⟨by repeat (first | (with_reducible first | exact HB.out | apply below_alloc | apply pw_below_drewN | apply below_drew1) | exact HB.out)⟩⟩
    case rest =>
      clear HC8
      try clear c1
      try clear c2
      try clear p2
      try clear c6
      try clear c7
      try clear c9
      try clear c9b0
      try clear c10
      try clear c10b0
      try clear c11
      try clear c11b0
      try clear c12
      try clear c12b0
      try clear c13
      try clear c13b0
      try clear c13b1
      try clear c14
      try clear c14b0
      try clear c14b1
      try clear c15
      try clear c15b0
      try clear c16
      try clear c16b0
      try clear c17
      try clear c17b0
      try clear c17b1
      try clear c18
      try clear c18b0
      try clear c18b1
      obtain ⟨kq, x53_7, rfl, HA, HJ7, HB⟩ := hcut
      cases kq with
      | zero => exact absurd HA.out (by simp [caulktop_TopMended.j0])
      | succ kj7 =>
        have H := HA.out
        clear HA
        simp only [caulktop_TopMended.j0] at H
        by_cases c19 : x53_7 = true
        · subst c19
          have H1 : (some true) = some r := by rw [if_pos rfl] at H; exact H
          clear H
          have H := H1
          clear H1
          obtain rfl := Option.some.inj H
          go_wp2
          go_ret
          exact ⟨by first | rfl | (simp [errW_none, errW_some] <;> rfl) | (simp [*, errW_none, errW_some] <;> rfl), by repeat (first | (with_reducible first | exact HB.out | apply below_alloc | apply pw_below_drewN | apply below_drew1) | exact HB.out)⟩
        · replace c19 := Bool.eq_false_iff.mpr c19
          subst c19
          have H1 : (caulktop_TopMended.l0 kj7 a0 a1 l2 a3 a4 l2 (l2.length : Int) 0) = some r := by rw [if_neg (show ¬ (false = true) by decide)] at H; exact H
          clear H
          have H := H1
          clear H1
          have H' := Aside0.mk H
          clear H
          go_wp2
          go_loopg [56] kj7 (fun kq v56 w' => ∃ (x56_2 : Int), v56 = .int .i64 x56_2 ∧ Aside0 (caulktop_TopMended.l0 kq a0 a1 l2 a3 a4 l2 (l2.length : Int) x56_2 = some r) ∧ Aside0 (kq ≤ kj7) ∧ Aside0 (Below w.heap.size w w'))
          case atStart => exact ⟨(0), (by first | rfl | (simp; done) | (simp [*]; done)), H', ⟨Nat.le_refl _⟩, ⟨by repeat (first | (with_reducible first | exact HB.out | apply below_alloc | apply pw_below_drewN | apply below_drew1) | exact HB.out)⟩⟩
          case round =>
            clear H'
            try clear c1
            try clear c2
            try clear p2
            try clear c6
            try clear c7
            try clear c9
            try clear c9b0
            try clear c10
            try clear c10b0
            try clear c11
            try clear c11b0
            try clear c12
            try clear c12b0
            try clear c13
            try clear c13b0
            try clear c13b1
            try clear c14
            try clear c14b0
            try clear c14b1
            try clear c15
            try clear c15b0
            try clear c16
            try clear c16b0
            try clear c17
            try clear c17b0
            try clear c17b1
            try clear c18
            try clear c18b0
            try clear c18b1
            try clear c19
            try clear p2
            obtain ⟨x56_2, rfl, HA, HK2, HB⟩ := hrel
            cases gk with
            | zero => exact absurd HA.out (by simp [caulktop_TopMended.l0])
            | succ k2 =>
              have H := HA.out
              clear HA
              simp only [caulktop_TopMended.l0] at H
              by_cases c20 : x56_2 < (l2.length : Int)
              · rw [if_pos c20] at H
                have c20b0 : decide (x56_2 < (l2.length : Int)) = true := decide_eq_true c20
                clear c20
                by_cases c21 : 0 ≤ x56_2
                · rw [if_pos c21] at H
                  have c21b0 : decide (0 ≤ x56_2) = true := decide_eq_true c21
                  clear c21
                  by_cases c22 : x56_2 < (l2.length : Int)
                  · rw [if_pos c22] at H
                    have c22b0 : decide (x56_2 < (l2.length : Int)) = true := decide_eq_true c22
                    clear c22
                    by_cases c23 : ((rdOf ByteArray.empty l2 x56_2).size : Int) > 1024
                    · rw [if_pos c23] at H
                      have c23b0 : decide (1024 < ((rdOf ByteArray.empty l2 x56_2).size : Int)) = true := decide_eq_true c23
                      have c23b1 : decide (1024 < (rdOf ByteArray.empty l2 x56_2).size) = true := decide_eq_true (by omega)
                      clear c23
                      obtain rfl := Option.some.inj H
                      have p272 : 0 ≤ (x56_2 : Int) := of_decide_eq_true (by first | (with_reducible assumption) | assumption)
                      have q272 : x56_2 < (l2.length : Int) := of_decide_eq_true (by first | (with_reducible assumption) | assumption)
                      obtain ⟨ad272, e272, hx272_0⟩ := Kd.at_string HR2.out x56_2 p272 q272
                      cases e272
                      replace hx272_0 := (HB.out.cell (World.block_lt_of_cell? w _ hx272_0)).trans hx272_0
                      replace p272 := eq_true p272
                      replace q272 := eq_true q272
                      go_wp2
                      go_ret
                      exact ⟨by first | rfl | (simp [errW_none, errW_some] <;> rfl) | (simp [*, errW_none, errW_some] <;> rfl), by repeat (first | (with_reducible first | exact HB.out | apply below_alloc | apply pw_below_drewN | apply below_drew1) | exact HB.out)⟩
                    · rw [if_neg c23] at H
                      have c23b0 : decide (1024 < ((rdOf ByteArray.empty l2 x56_2).size : Int)) = false := decide_eq_false c23
                      have c23b1 : decide (1024 < (rdOf ByteArray.empty l2 x56_2).size) = false := decide_eq_false (by omega)
                      clear c23
                      have H' := Aside0.mk H
                      clear H
                      have p272 : 0 ≤ (x56_2 : Int) := of_decide_eq_true (by first | (with_reducible assumption) | assumption)
                      have q272 : x56_2 < (l2.length : Int) := of_decide_eq_true (by first | (with_reducible assumption) | assumption)
                      obtain ⟨ad272, e272, hx272_0⟩ := Kd.at_string HR2.out x56_2 p272 q272
                      cases e272
                      replace hx272_0 := (HB.out.cell (World.block_lt_of_cell? w _ hx272_0)).trans hx272_0
                      replace p272 := eq_true p272
                      replace q272 := eq_true q272
                      go_wp2
                      go_roundg k2
                      case measure => have := HJ7.out; have := HK2.out; omega
                      case rel => exact ⟨(wrap64 (x56_2 + 1)), (by first | rfl | (simp; done) | (simp [*]; done)), H', ⟨by have := HJ7.out; have := HK2.out; omega⟩, ⟨by repeat (first | (with_reducible first | exact HB.out | apply below_alloc | apply pw_below_drewN | apply below_drew1) | exact HB.out)⟩⟩
                  · rw [if_neg c22] at H
                    exact absurd H (by simp)
                · rw [if_neg c21] at H
                  exact absurd H (by simp)
              · rw [if_neg c20] at H
                have c20b0 : decide (x56_2 < (l2.length : Int)) = false := decide_eq_false c20
                clear c20
                replace H := Option.bind_eq_some_iff.mp H
                obtain ⟨⟨t273, t274⟩, A240, H⟩ := H
                replace H : (if t274 = 0 then ((some (([] : List ByteArray) : List ByteArray)).bind fun y277 => (if y277.length + l2.length < 8796093022208 then ((some (y277 ++ l2 : List ByteArray)).bind fun y280 => (if y280.length + t273.length < 8796093022208 then ((some (y280 ++ t273 : List ByteArray)).bind fun y283 => ((crc_Sum.f (⟨#[]⟩ : ByteArray)).bind fun t286 => (caulktop_TopMended.l1 k2 a0 a1 a3 a4 y283 (⟨#[]⟩ : ByteArray) t286 y283 (y283.length : Int) 0))) else (none))) else (none))) else (some ((t273.length : Int) == 0))) = some r := H
                have A24 := Aside0.mk A240
                clear A240
                by_cases c25 : t274 = 0
                · rw [if_pos c25] at H
                  have c25b0 : (t274 == 0) = true := beq_iff_eq.mpr c25
                  have c25b1 : (t274 != 0) = false := bne_eq_false_iff_eq.mpr c25
                  clear c25
                  obtain ⟨y277, hy277⟩ : ∃ y_ : List ByteArray, y_ = (([] : List ByteArray)) := ⟨_, rfl⟩
                  replace H : (if y277.length + l2.length < 8796093022208 then ((some (y277 ++ l2 : List ByteArray)).bind fun y280 => (if y280.length + t273.length < 8796093022208 then ((some (y280 ++ t273 : List ByteArray)).bind fun y283 => ((crc_Sum.f (⟨#[]⟩ : ByteArray)).bind fun t286 => (caulktop_TopMended.l1 k2 a0 a1 a3 a4 y283 (⟨#[]⟩ : ByteArray) t286 y283 (y283.length : Int) 0))) else (none))) else (none)) = some r := by first | (rw [hy277]; with_reducible exact H) | (have H2_ := (Option.bind_some _ _).symm.trans H; rw [hy277]; with_reducible exact H2_) | (have H2_ := (Option.bind_some _ _).symm.trans H; with_reducible exact H2_) | with_reducible exact H | (rw [hy277]; exact H) | exact H
                  have Ny277 := Aside0.mk hy277
                  clear hy277
                  by_cases c26 : y277.length + l2.length < 8796093022208
                  · rw [if_pos c26] at H
                    have LMc26 := Aside0.mk c26
                    clear c26
                    obtain ⟨y280, hy280⟩ : ∃ y_ : List ByteArray, y_ = (y277 ++ l2) := ⟨_, rfl⟩
                    replace H : (if y280.length + t273.length < 8796093022208 then ((some (y280 ++ t273 : List ByteArray)).bind fun y283 => ((crc_Sum.f (⟨#[]⟩ : ByteArray)).bind fun t286 => (caulktop_TopMended.l1 k2 a0 a1 a3 a4 y283 (⟨#[]⟩ : ByteArray) t286 y283 (y283.length : Int) 0))) else (none)) = some r := by first | (rw [hy280]; with_reducible exact H) | (have H2_ := (Option.bind_some _ _).symm.trans H; rw [hy280]; with_reducible exact H2_) | (have H2_ := (Option.bind_some _ _).symm.trans H; with_reducible exact H2_) | with_reducible exact H | (rw [hy280]; exact H) | exact H
                    have Ny280 := Aside0.mk hy280
                    clear hy280
                    by_cases c27 : y280.length + t273.length < 8796093022208
                    · rw [if_pos c27] at H
                      have LMc27 := Aside0.mk c27
                      clear c27
                      obtain ⟨y283, hy283⟩ : ∃ y_ : List ByteArray, y_ = (y280 ++ t273) := ⟨_, rfl⟩
                      replace H : ((crc_Sum.f (⟨#[]⟩ : ByteArray)).bind fun t286 => (caulktop_TopMended.l1 k2 a0 a1 a3 a4 y283 (⟨#[]⟩ : ByteArray) t286 y283 (y283.length : Int) 0)) = some r := by first | (rw [hy283]; with_reducible exact H) | (have H2_ := (Option.bind_some _ _).symm.trans H; rw [hy283]; with_reducible exact H2_) | (have H2_ := (Option.bind_some _ _).symm.trans H; with_reducible exact H2_) | with_reducible exact H | (rw [hy283]; exact H) | exact H
                      have Ny283 := Aside0.mk hy283
                      clear hy283
                      replace H := Option.bind_eq_some_iff.mp H
                      obtain ⟨t286, A280, H⟩ := H
                      replace H : (caulktop_TopMended.l1 k2 a0 a1 a3 a4 y283 (⟨#[]⟩ : ByteArray) t286 y283 (y283.length : Int) 0) = some r := H
                      have A28 := Aside0.mk A280
                      clear A280
                      have H' := Aside0.mk H
                      clear H
                      go_wp2_with (first | ((with_reducible refine gate_callee (f := 17) rfl ?_); refine goesL_ (some 68) rfl rfl Tryd.func17 (by kernel_rfl) rfl #[.int .i64 a0, .int .i64 a1, .slice A2 l2.length c2] rfl (by (try simp only [List.map_toArray, List.map_cons, List.map_nil]); first | done | rfl | (simp only [List.length_drop, List.length_take]; rfl)) ?_; (with_reducible refine (rs_Encode.calls k2 a0 a1 _ _ l2 t273 t274 _ ?side1 ?side2 A24.out).mono ?_); (case side1 => repeat (first | exact (Kd.C_below HR2.out HB.out) | (with_reducible refine Kd.C_alloc ?_ _) | (with_reducible refine Kd.C_drewN ?_ _) | (with_reducible refine Kd.C_drew ?_))); (case side2 => exact HC2.out); rintro e w29 ⟨v275, rfl, ho0, hb⟩; refine ⟨_, rfl, ?_⟩; have n0_ := Aside0.mk (Kd.R_lower ho0 (below_size (by repeat (first | (with_reducible first | exact HB.out | apply below_alloc | apply pw_below_drewN | apply below_drew1) | exact HB.out)))); have n1_ := Aside0.mk (below_step (by repeat (first | (with_reducible first | exact HB.out | apply below_alloc | apply pw_below_drewN | apply below_drew1) | exact HB.out)) hb); clear HB; have HO276 := n0_; have HB := n1_; clear n0_ n1_; (try clear hb); (try clear hb2); (try clear hk); (try clear hi); (try clear ho0)) | ((with_reducible refine gate_dst (N := 76) rfl ?_); (try (refine gate_guard (by rfl) ?_; dsimp only)); refine Kd.R_lit Kd.string _ 9 ?hg (N := 76) ?hd (xs := ([] : List ByteArray)) (inner := []) (ok := fun _ => True) (okp := fun _ => True) ?hr ?hp (fun _ hk => hk) trivial (Below.refl _ _) (Nat.le_refl _) (by simp) ?_; (case hd => rfl); (case hg => rfl); (case hr => first | (go_simp; done) | (go_simp; rfl)); (case hp => exact (Reps.none _ _)); intro v278 w30 ho31 hb hg_ hnew_; clear hg_ hnew_; (first | rw [← Ny277.out] at ho31 | (simp only [Int.reduceToNat] at ho31; rw [← Ny277.out] at ho31)); have n0_ := Aside0.mk (Kd.R_elder' (by (with_reducible repeat (first | apply Kd.R_alloc | apply Kd.R_drewN | apply Kd.R_drew)); exact HO276.out) (Kd.R_base ho31) hb); have n1_ := Aside0.mk (Kd.R_lower (Kd.R_new' ho31 (Kd.R_lt (by (with_reducible repeat (first | apply Kd.R_alloc | apply Kd.R_drewN | apply Kd.R_drew)); exact HO276.out))) (below_size (by repeat (first | (with_reducible first | exact HB.out | apply below_alloc | apply pw_below_drewN | apply below_drew1) | exact HB.out)))); have n2_ := Aside0.mk (below_step (by repeat (first | (with_reducible first | exact HB.out | apply below_alloc | apply pw_below_drewN | apply below_drew1) | exact HB.out)) hb); clear HO276; clear HB; have HO276 := n0_; have HO279 := n1_; have HB := n2_; clear n0_ n1_ n2_; clear hb ho31) | ((with_reducible refine gate_builtin (b := .append) (xs := #[.tmp 76, .tmp 77]) rfl ?_); (try (refine gate_guard (by rfl) ?_; dsimp only)); at_builtin; refine Kd.R_append_rows Kd.string (w0 := w) w.heap.size rfl (.tmp 76) (.tmp 77) 22 9 (.string ⟨#[]⟩) 16 rfl Tryd.underlying22 info9 rfl (by decide) (by omega) v278 y277 l2 _ _ _ (fun k_ => some k_ ≠ (v275 : Value).ownBlock) (fun _ => False) rfl rfl ?aO ?aR (fun _ _ h => h) (fun _ h => h.elim) ?aF ?aB ?aS ?aL ?_; (case aR => repeat (first | exact (Kd.C_below HR2.out HB.out) | (with_reducible refine Kd.C_alloc ?_ _) | (with_reducible refine Kd.C_drewN ?_ _) | (with_reducible refine Kd.C_drew ?_))); (case aB => exact (by repeat (first | (with_reducible first | exact HB.out | apply below_alloc | apply pw_below_drewN | apply below_drew1) | exact HB.out))); (case aF => exact (fun k_ hk => Kd.fresh' (Kd.R_lt (by (with_reducible repeat (first | apply Kd.R_alloc | apply Kd.R_drewN | apply Kd.R_drew)); exact HO276.out)) k_ hk)); (case aO => exact (by (with_reducible repeat (first | apply Kd.R_alloc | apply Kd.R_drewN | apply Kd.R_drew)); exact Kd.R_mono HO279.out (fun _ hk => hk.2))); (case aS => exact (below_size (by repeat (first | (with_reducible first | exact HB.out | apply below_alloc | apply pw_below_drewN | apply below_drew1) | exact HB.out)))); (case aL => have := LMc26.out; omega); intro v281 w32 ho hb hg hat; rw [← Ny280.out] at ho; have n0_ := Aside0.mk (Kd.R_after (ok := (fun _ => True)) (by (with_reducible repeat (first | apply Kd.R_alloc | apply Kd.R_drewN | apply Kd.R_drew)); exact HO276.out) hg hat); have n1_ := Aside0.mk (hb); have n2_ := Aside0.mk (ho); clear HO276; clear HB; clear HO279; have HO276 := n0_; have HB := n1_; have HO282 := n2_; clear n0_ n1_ n2_; clear ho hb hg hat; obtain ⟨Ao34, co34, eo34⟩ := Kd.R_slice HO276.out; subst eo34) | ((with_reducible refine gate_builtin (b := .append) (xs := #[.tmp 78, .tmp 79]) rfl ?_); (try (refine gate_guard (by rfl) ?_; dsimp only)); at_builtin; refine Kd.R_append_rows Kd.string (w0 := w) w.heap.size rfl (.tmp 78) (.tmp 79) 22 9 (.string ⟨#[]⟩) 16 rfl Tryd.underlying22 info9 rfl (by decide) (by omega) v281 y280 t273 _ _ _ (fun k_ => some k_ ≠ (.slice Ao34 t273.length co34 : Value).ownBlock) (fun _ => False) rfl rfl ?aO ?aR (fun _ _ h => h) (fun _ h => h.elim) ?aF ?aB ?aS ?aL ?_; (case aR => repeat (first | exact (Kd.R_reads' HO276.out).2.2 | (with_reducible refine Kd.C_alloc ?_ _) | (with_reducible refine Kd.C_drewN ?_ _) | (with_reducible refine Kd.C_drew ?_))); (case aB => exact (by repeat (first | (with_reducible first | exact HB.out | apply below_alloc | apply pw_below_drewN | apply below_drew1) | exact HB.out))); (case aF => exact (fun k_ hk => Kd.fresh' (Kd.R_lt (by (with_reducible repeat (first | apply Kd.R_alloc | apply Kd.R_drewN | apply Kd.R_drew)); exact HO276.out)) k_ hk)); (case aO => exact (by (with_reducible repeat (first | apply Kd.R_alloc | apply Kd.R_drewN | apply Kd.R_drew)); exact HO282.out)); (case aS => exact (below_size (by repeat (first | (with_reducible first | exact HB.out | apply below_alloc | apply pw_below_drewN | apply below_drew1) | exact HB.out)))); (case aL => have := LMc27.out; omega); intro v284 w33 ho hb hg hat; rw [← Ny283.out] at ho; have n0_ := Aside0.mk (Kd.R_after (ok := (fun _ => True)) (by (with_reducible repeat (first | apply Kd.R_alloc | apply Kd.R_drewN | apply Kd.R_drew)); exact HO276.out) hg hat); have n1_ := Aside0.mk (hb); have n2_ := Aside0.mk (ho); clear HO276; clear HB; clear HO282; have HO276 := n0_; have HB := n1_; have HO285 := n2_; clear n0_ n1_ n2_; clear ho hb hg hat) | ((with_reducible refine gate_callee (f := 20) rfl ?_); refine goesL_ (some 81) rfl rfl Tryd.func20 (by kernel_rfl) rfl #[.string (⟨#[]⟩ : ByteArray)] rfl (by (try simp only [List.map_toArray, List.map_cons, List.map_nil]); first | done | rfl | (simp only [List.length_drop, List.length_take]; rfl)) ?_; (with_reducible refine (crc_Sum.calls (⟨#[]⟩ : ByteArray) t286 _ ?side1 A28.out).mono ?_); (case side1 => first | exact HG.out | exact GT.below HG.out (by repeat (first | (with_reducible first | exact HB.out | apply below_alloc | apply pw_below_drewN | apply below_drew1) | exact HB.out))); rintro e w' ⟨rfl, ⟨nd, rfl⟩⟩; refine ⟨_, rfl, ?_⟩; obtain ⟨Ao35, co35, eo35⟩ := Kd.R_slice HO285.out; subst eo35))
                      go_loopg [16, 17, 84] k2 (fun kq v16 v17 v84 w' => ∃ (x16_3 : ByteArray) (x17_3 : Int) (x84_3 : Int), v16 = .string x16_3 ∧ v17 = .int .u32 x17_3 ∧ v84 = .int .i64 x84_3 ∧ Aside0 (caulktop_TopMended.l1 kq a0 a1 a3 a4 y283 x16_3 x17_3 y283 (y283.length : Int) x84_3 = some r) ∧ Aside0 (kq ≤ k2) ∧ Aside0 (Kd.R Kd.string 9 w' w.heap.size (fun _ => True) (.slice Ao35 y283.length co35) y283) ∧ Aside0 (Kd.R Kd.string 9 w' w.heap.size (fun _ => True) (.slice Ao35 y283.length co35) y283) ∧ Aside0 (Below w.heap.size w w'))
                      case atStart => exact ⟨((⟨#[]⟩ : ByteArray)), (t286), (0), (by first | rfl | (simp; done) | (simp [*]; done)), (by first | rfl | (simp; done) | (simp [*]; done)), (by first | rfl | (simp; done) | (simp [*]; done)), H', ⟨Nat.le_refl _⟩, ⟨by (with_reducible repeat (first | apply Kd.R_alloc | apply Kd.R_drewN | apply Kd.R_drew)); exact Kd.R_mono HO285.out (fun _ hk => trivial)⟩, ⟨by (with_reducible repeat (first | apply Kd.R_alloc | apply Kd.R_drewN | apply Kd.R_drew)); exact Kd.R_mono HO285.out (fun _ hk => trivial)⟩, ⟨by repeat (first | (with_reducible first | exact HB.out | apply below_alloc | apply pw_below_drewN | apply below_drew1) | exact HB.out)⟩⟩
                      case round =>
                        clear H'
                        try clear c1
                        try clear c2
                        try clear p2
                        try clear q2
                        try clear hx2
                        try clear c6
                        try clear p6
                        try clear c7
                        try clear c9
                        try clear c9b0
                        try clear c10
                        try clear c10b0
                        try clear c11
                        try clear c11b0
                        try clear c12
                        try clear c12b0
                        try clear c13
                        try clear c13b0
                        try clear c13b1
                        try clear c14
                        try clear c14b0
                        try clear c14b1
                        try clear c15
                        try clear c15b0
                        try clear c16
                        try clear c16b0
                        try clear c17
                        try clear c17b0
                        try clear c17b1
                        try clear c18
                        try clear c18b0
                        try clear c18b1
                        try clear c19
                        try clear c20
                        try clear c20b0
                        try clear c21
                        try clear c21b0
                        try clear c22
                        try clear c22b0
                        try clear c23
                        try clear c23b0
                        try clear c23b1
                        try clear c25
                        try clear c25b0
                        try clear c25b1
                        try clear c26
                        try clear c27
                        try clear p27
                        try clear q27
                        try clear hx27
                        try clear hx272_0
                        try clear p2
                        try clear p272
                        try clear q272
                        obtain ⟨x16_3, x17_3, x84_3, rfl, rfl, rfl, HA, HK3, HO_15, HO_82, HB⟩ := hrel
                        cases gk with
                        | zero => exact absurd HA.out (by simp [caulktop_TopMended.l1])
                        | succ k3 =>
                          have H := HA.out
                          clear HA
                          simp only [caulktop_TopMended.l1] at H
                          by_cases c36 : x84_3 < (y283.length : Int)
                          · rw [if_pos c36] at H
                            have c36b0 : decide (x84_3 < (y283.length : Int)) = true := decide_eq_true c36
                            clear c36
                            by_cases c37 : 0 ≤ x84_3
                            · rw [if_pos c37] at H
                              have c37b0 : decide (0 ≤ x84_3) = true := decide_eq_true c37
                              clear c37
                              by_cases c38 : x84_3 < (y283.length : Int)
                              · rw [if_pos c38] at H
                                have c38b0 : decide (x84_3 < (y283.length : Int)) = true := decide_eq_true c38
                                clear c38
                                replace H := Option.bind_eq_some_iff.mp H
                                obtain ⟨t288, A390, H⟩ := H
                                replace H : ((combine_Join.f k3 x17_3 t288 ((rdOf ByteArray.empty y283 x84_3).size : Int)).bind fun bt289 => (if bt289.2 = 0 then (if x16_3.size + (rdOf ByteArray.empty y283 x84_3).size ≤ 9223372036854775807 then (caulktop_TopMended.l1 k3 a0 a1 a3 a4 y283 (x16_3 ++ (rdOf ByteArray.empty y283 x84_3)) bt289.1 y283 (y283.length : Int) (wrap64 (x84_3 + 1))) else (none)) else (none))) = some r := H
                                have A39 := Aside0.mk A390
                                clear A390
                                replace H := Option.bind_eq_some_iff.mp H
                                obtain ⟨⟨t289, t290⟩, A400, H⟩ := H
                                replace H : (if t290 = 0 then (if x16_3.size + (rdOf ByteArray.empty y283 x84_3).size ≤ 9223372036854775807 then (caulktop_TopMended.l1 k3 a0 a1 a3 a4 y283 (x16_3 ++ (rdOf ByteArray.empty y283 x84_3)) t289 y283 (y283.length : Int) (wrap64 (x84_3 + 1))) else (none)) else (none)) = some r := H
                                have A40 := Aside0.mk A400
                                clear A400
                                by_cases c41 : t290 = 0
                                · rw [if_pos c41] at H
                                  have c41b0 : (t290 == 0) = true := beq_iff_eq.mpr c41
                                  have c41b1 : (t290 != 0) = false := bne_eq_false_iff_eq.mpr c41
                                  clear c41
                                  by_cases c42 : x16_3.size + (rdOf ByteArray.empty y283 x84_3).size ≤ 9223372036854775807
                                  · rw [if_pos c42] at H
                                    have c42b0 := eq_true c42
                                    have c42b1 : decide (x16_3.size + (rdOf ByteArray.empty y283 x84_3).size ≤ 9223372036854775807) = true := decide_eq_true c42
                                    try have c42b2 : (9223372036854775807 < x16_3.size + (rdOf ByteArray.empty y283 x84_3).size) = False := eq_false (Nat.not_lt.2 c42)
                                    have H' := Aside0.mk H
                                    clear H
                                    have p287 : 0 ≤ (x84_3 : Int) := of_decide_eq_true (by first | (with_reducible assumption) | assumption)
                                    have q287 : x84_3 < (y283.length : Int) := of_decide_eq_true (by first | (with_reducible assumption) | assumption)
                                    obtain ⟨ad287, e287, hx287_0⟩ := Kd.at_string (Kd.R_reads' HO_82.out).2.2 x84_3 p287 q287
                                    cases e287
                                    replace p287 := eq_true p287
                                    replace q287 := eq_true q287
                                    go_wp2_with (first | ((with_reducible refine gate_callee (f := 20) rfl ?_); refine goesL_ (some 91) rfl rfl Tryd.func20 (by kernel_rfl) rfl #[.string (rdOf ByteArray.empty y283 x84_3)] rfl (by (try simp only [List.map_toArray, List.map_cons, List.map_nil]); first | done | rfl | (simp only [List.length_drop, List.length_take]; rfl)) ?_; (with_reducible refine (crc_Sum.calls (rdOf ByteArray.empty y283 x84_3) t288 _ ?side1 A39.out).mono ?_); (case side1 => first | exact HG.out | exact GT.below HG.out (by repeat (first | (with_reducible first | exact HB.out | apply below_alloc | apply pw_below_drewN | apply below_drew1) | exact HB.out))); rintro e w' ⟨rfl, ⟨nd, rfl⟩⟩; refine ⟨_, rfl, ?_⟩) | ((with_reducible refine gate_callee (f := 21) rfl ?_); refine goesL_ (some 94) rfl rfl Tryd.func21 (by kernel_rfl) rfl #[.int .u32 x17_3, .int .u32 t288, .int .i64 ((rdOf ByteArray.empty y283 x84_3).size : Int)] rfl (by (try simp only [List.map_toArray, List.map_cons, List.map_nil]); first | done | rfl | (simp only [List.length_drop, List.length_take]; rfl)) ?_; (with_reducible refine (combine_Join.calls k3 x17_3 t288 ((rdOf ByteArray.empty y283 x84_3).size : Int) t289 t290 _ A40.out).mono ?_); rintro e w' ⟨rfl, ⟨nd, rfl⟩⟩; refine ⟨_, rfl, ?_⟩))
                                    go_roundg k3
                                    case measure => have := HJ7.out; have := HK2.out; have := HK3.out; omega
                                    case rel => exact ⟨(x16_3 ++ (rdOf ByteArray.empty y283 x84_3)), (t289), (wrap64 (x84_3 + 1)), (by first | rfl | (simp; done) | (simp [*]; done)), (by first | rfl | (simp; done) | (simp [*]; done)), (by first | rfl | (simp; done) | (simp [*]; done)), H', ⟨by have := HJ7.out; have := HK2.out; have := HK3.out; omega⟩, ⟨by (with_reducible repeat (first | apply Kd.R_alloc | apply Kd.R_drewN | apply Kd.R_drew)); exact HO_15.out⟩, ⟨by (with_reducible repeat (first | apply Kd.R_alloc | apply Kd.R_drewN | apply Kd.R_drew)); exact HO_82.out⟩, ⟨by repeat (first | (with_reducible first | exact HB.out | apply below_alloc | apply pw_below_drewN | apply below_drew1) | exact HB.out)⟩⟩
                                  · rw [if_neg c42] at H
                                    exact absurd H (by simp)
                                · rw [if_neg c41] at H
                                  exact absurd H (by simp)
                              · rw [if_neg c38] at H
                                exact absurd H (by simp)
                            · rw [if_neg c37] at H
                              exact absurd H (by simp)
                          · rw [if_neg c36] at H
                            have c36b0 : decide (x84_3 < (y283.length : Int)) = false := decide_eq_false c36
                            clear c36
                            replace H := Option.bind_eq_some_iff.mp H
                            obtain ⟨t291, A430, H⟩ := H
                            replace H : (if x17_3 = t291 then (if a1 < 2 then (caulktop_TopMended.j3 k3 a0 a1 a3 a4 y283 x17_3 true) else (if a3 < 0 then (caulktop_TopMended.j3 k3 a0 a1 a3 a4 y283 x17_3 true) else (if a3 ≥ (y283.length : Int) then (caulktop_TopMended.j3 k3 a0 a1 a3 a4 y283 x17_3 true) else (if 0 ≤ a3 then (if a3 < (y283.length : Int) then (caulktop_TopMended.j3 k3 a0 a1 a3 a4 y283 x17_3 ((a4.size : Int) != ((rdOf ByteArray.empty y283 a3).size : Int))) else (none)) else (none))))) else (none)) = some r := H
                            have A43 := Aside0.mk A430
                            clear A430
                            by_cases c44 : x17_3 = t291
                            · rw [if_pos c44] at H
                              have c44b0 : (x17_3 == t291) = true := beq_iff_eq.mpr c44
                              have c44b1 : (x17_3 != t291) = false := bne_eq_false_iff_eq.mpr c44
                              clear c44
                              have HC45 := Aside0.mk H
                              clear H
                              go_upto_region 26 with (first | ((with_reducible refine gate_callee (f := 20) rfl ?_); refine goesL_ (some 106) rfl rfl Tryd.func20 (by kernel_rfl) rfl #[.string x16_3] rfl (by (try simp only [List.map_toArray, List.map_cons, List.map_nil]); first | done | rfl | (simp only [List.length_drop, List.length_take]; rfl)) ?_; (with_reducible refine (crc_Sum.calls x16_3 t291 _ ?side1 A43.out).mono ?_); (case side1 => first | exact HG.out | exact GT.below HG.out (by repeat (first | (with_reducible first | exact HB.out | apply below_alloc | apply pw_below_drewN | apply below_drew1) | exact HB.out))); rintro e w' ⟨rfl, ⟨nd, rfl⟩⟩; refine ⟨_, rfl, ?_⟩))
                              (try simp only [Act.put, List.setIfInBounds_toArray, List.set_cons_zero, List.set_cons_succ])
                              go_cut [129] (fun v129 wc => ∃ (kq : Nat) (x129_44 : Bool), v129 = .bool x129_44 ∧ Aside0 (caulktop_TopMended.j3 kq a0 a1 a3 a4 y283 x17_3 x129_44 = some r) ∧ Aside0 (kq ≤ k3) ∧ Aside0 (Kd.R Kd.string 9 wc w.heap.size (fun _ => True) (.slice Ao35 y283.length co35) y283) ∧ Aside0 (Below w.heap.size w wc))
                              case first =>
                                have H := HC45.out
                                clear HC45
                                by_cases c46 : a1 < 2
                                · rw [if_pos c46] at H
                                  have c46b0 : decide (a1 < 2) = true := decide_eq_true c46
                                  clear c46
                                  (first | rw [c46b0] | (simp only [i64_w, i32_w]; rw [c46b0]) | skip)
                                  have H' := Aside0.mk H
                                  clear H
                                  go_wp2
                                  go_meet
                                  case rel => exact ⟨_, (true), (by first | rfl | (simp; done) | (simp [*]; done)), H', ⟨by have := HJ7.out; have := HK2.out; have := HK3.out; first | omega | exact Nat.le_refl _⟩, ⟨by (with_reducible repeat (first | apply Kd.R_alloc | apply Kd.R_drewN | apply Kd.R_drew)); exact HO_15.out⟩, ⟨by repeat (first | (with_reducible first | exact HB.out | apply below_alloc | apply pw_below_drewN | apply below_drew1) | exact HB.out)⟩⟩
                                · rw [if_neg c46] at H
                                  have c46b0 : decide (a1 < 2) = false := decide_eq_false c46
                                  clear c46
                                  (first | rw [c46b0] | (simp only [i64_w, i32_w]; rw [c46b0]) | skip)
                                  by_cases c47 : a3 < 0
                                  · rw [if_pos c47] at H
                                    have c47b0 : decide (a3 < 0) = true := decide_eq_true c47
                                    clear c47
                                    have H' := Aside0.mk H
                                    clear H
                                    go_wp2
                                    go_meet
                                    case rel => exact ⟨_, (true), (by first | rfl | (simp; done) | (simp [*]; done)), H', ⟨by have := HJ7.out; have := HK2.out; have := HK3.out; first | omega | exact Nat.le_refl _⟩, ⟨by (with_reducible repeat (first | apply Kd.R_alloc | apply Kd.R_drewN | apply Kd.R_drew)); exact HO_15.out⟩, ⟨by repeat (first | (with_reducible first | exact HB.out | apply below_alloc | apply pw_below_drewN | apply below_drew1) | exact HB.out)⟩⟩
                                  · rw [if_neg c47] at H
                                    have c47b0 : decide (a3 < 0) = false := decide_eq_false c47
                                    clear c47
                                    by_cases c48 : a3 ≥ (y283.length : Int)
                                    · rw [if_pos c48] at H
                                      have c48b0 : decide ((y283.length : Int) ≤ a3) = true := decide_eq_true c48
                                      clear c48
                                      have H' := Aside0.mk H
                                      clear H
                                      go_wp2
                                      go_meet
                                      case rel => exact ⟨_, (true), (by first | rfl | (simp; done) | (simp [*]; done)), H', ⟨by have := HJ7.out; have := HK2.out; have := HK3.out; first | omega | exact Nat.le_refl _⟩, ⟨by (with_reducible repeat (first | apply Kd.R_alloc | apply Kd.R_drewN | apply Kd.R_drew)); exact HO_15.out⟩, ⟨by repeat (first | (with_reducible first | exact HB.out | apply below_alloc | apply pw_below_drewN | apply below_drew1) | exact HB.out)⟩⟩
                                    · rw [if_neg c48] at H
                                      have c48b0 : decide ((y283.length : Int) ≤ a3) = false := decide_eq_false c48
                                      clear c48
                                      by_cases c49 : 0 ≤ a3
                                      · rw [if_pos c49] at H
                                        have c49b0 : decide (0 ≤ a3) = true := decide_eq_true c49
                                        clear c49
                                        by_cases c50 : a3 < (y283.length : Int)
                                        · rw [if_pos c50] at H
                                          have c50b0 : decide (a3 < (y283.length : Int)) = true := decide_eq_true c50
                                          clear c50
                                          have H' := Aside0.mk H
                                          clear H
                                          have p292 : 0 ≤ (a3 : Int) := of_decide_eq_true (by first | (with_reducible assumption) | assumption)
                                          have q292 : a3 < (y283.length : Int) := of_decide_eq_true (by first | (with_reducible assumption) | assumption)
                                          obtain ⟨ad292, e292, hx292_0⟩ := Kd.at_string (Kd.R_reads' HO_15.out).2.2 a3 p292 q292
                                          cases e292
                                          replace p292 := eq_true p292
                                          replace q292 := eq_true q292
                                          go_wp2
                                          go_meet
                                          case rel => exact ⟨_, (((a4.size : Int) != ((rdOf ByteArray.empty y283 a3).size : Int))), (by first | rfl | (simp; done) | (simp [*]; done)), H', ⟨by have := HJ7.out; have := HK2.out; have := HK3.out; first | omega | exact Nat.le_refl _⟩, ⟨by (with_reducible repeat (first | apply Kd.R_alloc | apply Kd.R_drewN | apply Kd.R_drew)); exact HO_15.out⟩, ⟨by repeat (first | (with_reducible first | exact HB.out | apply below_alloc | apply pw_below_drewN | apply below_drew1) | exact HB.out)⟩⟩
                                        · rw [if_neg c50] at H
                                          exact absurd H (by simp)
                                      · rw [if_neg c49] at H
                                        exact absurd H (by simp)
                              case rest =>
                                clear HC45
                                try clear c1
                                try clear c2
                                try clear p2
                                try clear q2
                                try clear hx2
                                try clear c3
                                try clear c4
                                try clear c5
                                try clear c6
                                try clear p6
                                try clear c7
                                try clear c9
                                try clear c9b0
                                try clear c10
                                try clear c10b0
                                try clear c11
                                try clear c11b0
                                try clear c12
                                try clear c12b0
                                try clear c13
                                try clear c13b0
                                try clear c13b1
                                try clear c14
                                try clear c14b0
                                try clear c14b1
                                try clear c15
                                try clear c15b0
                                try clear c16
                                try clear c16b0
                                try clear c17
                                try clear c17b0
                                try clear c17b1
                                try clear c18
                                try clear c18b0
                                try clear c18b1
                                try clear c19
                                try clear c20
                                try clear c20b0
                                try clear c21
                                try clear c21b0
                                try clear c22
                                try clear c22b0
                                try clear c23
                                try clear c23b0
                                try clear c23b1
                                try clear c25
                                try clear c25b0
                                try clear c25b1
                                try clear c26
                                try clear c27
                                try clear p27
                                try clear q27
                                try clear hx27
                                try clear p28
                                try clear q28
                                try clear hx28
                                try clear p29
                                try clear q29
                                try clear hx29
                                try clear c36
                                try clear c36b0
                                try clear c37
                                try clear c37b0
                                try clear c38
                                try clear c38b0
                                try clear c41
                                try clear c41b0
                                try clear c41b1
                                try clear c42
                                try clear c42b0
                                try clear c42b1
                                try clear c42b2
                                try clear c44
                                try clear c44b0
                                try clear c44b1
                                try clear c46
                                try clear c46b0
                                try clear c47
                                try clear c47b0
                                try clear c48
                                try clear c48b0
                                try clear c49
                                try clear c49b0
                                try clear c50
                                try clear c50b0
                                try clear hx272_0
                                try clear hx287_0
                                try clear hx292_0
                                try clear p2
                                try clear p27
                                try clear p272
                                try clear p287
                                try clear p292
                                try clear p6
                                try clear q2
                                try clear q27
                                try clear q272
                                try clear q287
                                try clear q292
                                obtain ⟨kq, x129_44, rfl, HA, HJ44, HO_15, HB⟩ := hcut
                                cases kq with
                                | zero => exact absurd HA.out (by simp [caulktop_TopMended.j3])
                                | succ kj44 =>
                                  have H := HA.out
                                  clear HA
                                  simp only [caulktop_TopMended.j3] at H
                                  by_cases c51 : x129_44 = true
                                  · subst c51
                                    have H1 : (some true) = some r := by rw [if_pos rfl] at H; exact H
                                    clear H
                                    have H := H1
                                    clear H1
                                    obtain rfl := Option.some.inj H
                                    go_wp2
                                    go_ret
                                    exact ⟨by first | rfl | (simp [errW_none, errW_some] <;> rfl) | (simp [*, errW_none, errW_some] <;> rfl), by repeat (first | (with_reducible first | exact HB.out | apply below_alloc | apply pw_below_drewN | apply below_drew1) | exact HB.out)⟩
                                  · replace c51 := Bool.eq_false_iff.mpr c51
                                    subst c51
                                    have H1 : ((some (([] : List ByteArray) : List ByteArray)).bind fun y293 => (if y293.length + y283.length < 8796093022208 then ((some (y293 ++ y283 : List ByteArray)).bind fun y296 => (if 0 ≤ a3 then (if a3 < (y296.length : Int) then ((locate_Fix.f kj44 a0 a1 (y296.set (a3 : Int).toNat a4)).bind fun bt300 => (if bt300.2.2 = 0 then (if (bt300.1.length : Int) = (y283.length : Int) then (if bt300.2.1 = a3 then (caulktop_TopMended.j4 kj44 x17_3 bt300.1 false) else (caulktop_TopMended.j4 kj44 x17_3 bt300.1 (bt300.2.1 != (-1)))) else (caulktop_TopMended.j4 kj44 x17_3 bt300.1 true)) else (caulktop_TopMended.j4 kj44 x17_3 bt300.1 true))) else (none)) else (none))) else (none))) = some r := by rw [if_neg (show ¬ (false = true) by decide)] at H; exact H
                                    clear H
                                    have H := H1
                                    clear H1
                                    obtain ⟨y293, hy293⟩ : ∃ y_ : List ByteArray, y_ = (([] : List ByteArray)) := ⟨_, rfl⟩
                                    replace H : (if y293.length + y283.length < 8796093022208 then ((some (y293 ++ y283 : List ByteArray)).bind fun y296 => (if 0 ≤ a3 then (if a3 < (y296.length : Int) then ((locate_Fix.f kj44 a0 a1 (y296.set (a3 : Int).toNat a4)).bind fun bt300 => (if bt300.2.2 = 0 then (if (bt300.1.length : Int) = (y283.length : Int) then (if bt300.2.1 = a3 then (caulktop_TopMended.j4 kj44 x17_3 bt300.1 false) else (caulktop_TopMended.j4 kj44 x17_3 bt300.1 (bt300.2.1 != (-1)))) else (caulktop_TopMended.j4 kj44 x17_3 bt300.1 true)) else (caulktop_TopMended.j4 kj44 x17_3 bt300.1 true))) else (none)) else (none))) else (none)) = some r := by first | (rw [hy293]; with_reducible exact H) | (have H2_ := (Option.bind_some _ _).symm.trans H; rw [hy293]; with_reducible exact H2_) | (have H2_ := (Option.bind_some _ _).symm.trans H; with_reducible exact H2_) | with_reducible exact H | (rw [hy293]; exact H) | exact H
                                    have Ny293 := Aside0.mk hy293
                                    clear hy293
                                    by_cases c52 : y293.length + y283.length < 8796093022208
                                    · rw [if_pos c52] at H
                                      have LMc52 := Aside0.mk c52
                                      clear c52
                                      obtain ⟨y296, hy296⟩ : ∃ y_ : List ByteArray, y_ = (y293 ++ y283) := ⟨_, rfl⟩
                                      replace H : (if 0 ≤ a3 then (if a3 < (y296.length : Int) then ((locate_Fix.f kj44 a0 a1 (y296.set (a3 : Int).toNat a4)).bind fun bt300 => (if bt300.2.2 = 0 then (if (bt300.1.length : Int) = (y283.length : Int) then (if bt300.2.1 = a3 then (caulktop_TopMended.j4 kj44 x17_3 bt300.1 false) else (caulktop_TopMended.j4 kj44 x17_3 bt300.1 (bt300.2.1 != (-1)))) else (caulktop_TopMended.j4 kj44 x17_3 bt300.1 true)) else (caulktop_TopMended.j4 kj44 x17_3 bt300.1 true))) else (none)) else (none)) = some r := by first | (rw [hy296]; with_reducible exact H) | (have H2_ := (Option.bind_some _ _).symm.trans H; rw [hy296]; with_reducible exact H2_) | (have H2_ := (Option.bind_some _ _).symm.trans H; with_reducible exact H2_) | with_reducible exact H | (rw [hy296]; exact H) | exact H
                                      have Ny296 := Aside0.mk hy296
                                      clear hy296
                                      by_cases c53 : 0 ≤ a3
                                      · rw [if_pos c53] at H
                                        have c53b0 : decide (0 ≤ a3) = true := decide_eq_true c53
                                        clear c53
                                        by_cases c54 : a3 < (y296.length : Int)
                                        · rw [if_pos c54] at H
                                          have c54b0 : decide (a3 < (y296.length : Int)) = true := decide_eq_true c54
                                          clear c54
                                          obtain ⟨y299, hy299⟩ : ∃ y_ : List ByteArray, y_ = (y296.set (a3 : Int).toNat a4) := ⟨_, rfl⟩
                                          replace H : ((locate_Fix.f kj44 a0 a1 y299).bind fun bt300 => (if bt300.2.2 = 0 then (if (bt300.1.length : Int) = (y283.length : Int) then (if bt300.2.1 = a3 then (caulktop_TopMended.j4 kj44 x17_3 bt300.1 false) else (caulktop_TopMended.j4 kj44 x17_3 bt300.1 (bt300.2.1 != (-1)))) else (caulktop_TopMended.j4 kj44 x17_3 bt300.1 true)) else (caulktop_TopMended.j4 kj44 x17_3 bt300.1 true))) = some r := by first | (rw [hy299]; with_reducible exact H) | (have H2_ := (Option.bind_some _ _).symm.trans H; rw [hy299]; with_reducible exact H2_) | (have H2_ := (Option.bind_some _ _).symm.trans H; with_reducible exact H2_) | with_reducible exact H | (rw [hy299]; exact H) | exact H
                                          have Ny299 := Aside0.mk hy299
                                          clear hy299
                                          replace H := Option.bind_eq_some_iff.mp H
                                          obtain ⟨⟨t300, t301, t302⟩, A560, H⟩ := H
                                          replace H : (if t302 = 0 then (if (t300.length : Int) = (y283.length : Int) then (if t301 = a3 then (caulktop_TopMended.j4 kj44 x17_3 t300 false) else (caulktop_TopMended.j4 kj44 x17_3 t300 (t301 != (-1)))) else (caulktop_TopMended.j4 kj44 x17_3 t300 true)) else (caulktop_TopMended.j4 kj44 x17_3 t300 true)) = some r := H
                                          have A56 := Aside0.mk A560
                                          clear A560
                                          have HC57 := Aside0.mk H
                                          clear H
                                          go_upto_region 31 with (first | ((with_reducible refine gate_dst (N := 130) rfl ?_); (try (refine gate_guard (by rfl) ?_; dsimp only)); refine Kd.R_lit Kd.string _ 9 ?hg (N := 130) ?hd (xs := ([] : List ByteArray)) (inner := []) (ok := fun _ => True) (okp := fun _ => True) ?hr ?hp (fun _ hk => hk) trivial (Below.refl _ _) (Nat.le_refl _) (by simp) ?_; (case hd => rfl); (case hg => rfl); (case hr => first | (go_simp; done) | (go_simp; rfl)); (case hp => exact (Reps.none _ _)); intro v294 w58 ho59 hb hg_ hnew_; clear hg_ hnew_; (first | rw [← Ny293.out] at ho59 | (simp only [Int.reduceToNat] at ho59; rw [← Ny293.out] at ho59)); have n0_ := Aside0.mk (Kd.R_elder' (by (with_reducible repeat (first | apply Kd.R_alloc | apply Kd.R_drewN | apply Kd.R_drew)); exact HO_15.out) (Kd.R_base ho59) hb); have n1_ := Aside0.mk (Kd.R_lower (Kd.R_new' ho59 (Kd.R_lt (by (with_reducible repeat (first | apply Kd.R_alloc | apply Kd.R_drewN | apply Kd.R_drew)); exact HO_15.out))) (below_size (by repeat (first | (with_reducible first | exact HB.out | apply below_alloc | apply pw_below_drewN | apply below_drew1) | exact HB.out)))); have n2_ := Aside0.mk (below_step (by repeat (first | (with_reducible first | exact HB.out | apply below_alloc | apply pw_below_drewN | apply below_drew1) | exact HB.out)) hb); clear HO_15; clear HB; have HO_15 := n0_; have HO295 := n1_; have HB := n2_; clear n0_ n1_ n2_; clear hb ho59) | ((with_reducible refine gate_builtin (b := .append) (xs := #[.tmp 130, .tmp 131]) rfl ?_); (try (refine gate_guard (by rfl) ?_; dsimp only)); at_builtin; refine Kd.R_append_rows Kd.string (w0 := w) w.heap.size rfl (.tmp 130) (.tmp 131) 22 9 (.string ⟨#[]⟩) 16 rfl Tryd.underlying22 info9 rfl (by decide) (by omega) v294 y293 y283 _ _ _ (fun k_ => some k_ ≠ (.slice Ao35 y283.length co35 : Value).ownBlock) (fun _ => False) rfl rfl ?aO ?aR (fun _ _ h => h) (fun _ h => h.elim) ?aF ?aB ?aS ?aL ?_; (case aR => repeat (first | exact (Kd.R_reads' HO_15.out).2.2 | (with_reducible refine Kd.C_alloc ?_ _) | (with_reducible refine Kd.C_drewN ?_ _) | (with_reducible refine Kd.C_drew ?_))); (case aB => exact (by repeat (first | (with_reducible first | exact HB.out | apply below_alloc | apply pw_below_drewN | apply below_drew1) | exact HB.out))); (case aF => exact (fun k_ hk => Kd.fresh' (Kd.R_lt (by (with_reducible repeat (first | apply Kd.R_alloc | apply Kd.R_drewN | apply Kd.R_drew)); exact HO_15.out)) k_ hk)); (case aO => exact (by (with_reducible repeat (first | apply Kd.R_alloc | apply Kd.R_drewN | apply Kd.R_drew)); exact Kd.R_mono HO295.out (fun _ hk => hk.2))); (case aS => exact (below_size (by repeat (first | (with_reducible first | exact HB.out | apply below_alloc | apply pw_below_drewN | apply below_drew1) | exact HB.out)))); (case aL => have := LMc52.out; omega); intro v297 w60 ho hb hg hat; rw [← Ny296.out] at ho; have n0_ := Aside0.mk (Kd.R_after (ok := (fun _ => True)) (by (with_reducible repeat (first | apply Kd.R_alloc | apply Kd.R_drewN | apply Kd.R_drew)); exact HO_15.out) hg hat); have n1_ := Aside0.mk (hb); have n2_ := Aside0.mk (ho); clear HO_15; clear HB; clear HO295; have HO_15 := n0_; have HB := n1_; have HO298 := n2_; clear n0_ n1_ n2_; clear ho hb hg hat; have p55 : 0 ≤ (a3 : Int) := of_decide_eq_true (by first | (with_reducible assumption) | assumption); have q55 : (a3 : Int) < ((y296.length : Int) : Int) := of_decide_eq_true (by first | (with_reducible assumption) | assumption); obtain ⟨go55, co55, eo55, gb55, gl55, cl55, HG55⟩ := Kd.R_form HO298.out (by omega); (first | cases eo55 | (injection eo55 with ea_ en_ ec_; (first | subst ea_ | (injection ea_ with ea_; subst ea_)); subst ec_; clear en_)); have GB55 := Aside0.mk gb55; have GG55 := Aside0.mk HG55; clear gb55 gl55 HG55; obtain ⟨hx55_0, hf55_0⟩ := Kd.R_celln (⟨#[]⟩ : ByteArray) HO298.out (a3 : Int) p55 q55; replace p55 := eq_true p55; replace q55 := eq_true q55; obtain ⟨hy61_, hz61_⟩ := Kd.R_celln (⟨#[]⟩ : ByteArray) HO298.out (a3 : Int) (of_decide_eq_true (by first | (with_reducible assumption) | assumption)) (of_decide_eq_true (by first | (with_reducible assumption) | assumption)); have HP61 := Kd.R_putg HO298.out (a3 : Int) a4) | ((with_reducible refine gate_store (t := 9) (p := 136) rfl ?_); refine store_event (t := 9) (p := 136) (v := ?vo_w62) (w1 := (w60.setCell ⟨go55, (a3 : Int).toNat, none⟩ (.string a4))) ?hg ?ho ?hn ?hr ?_; (case ho => rfl); (case hg => rfl); (case hn => rfl); (case hr => first | (go_simp; done) | (go_simp; rfl)); intro w62 hw; have hg : w60.grownBy w62 (some go55) := (by rw [hw]; exact HP61.2); have hp_ : Kd.R Kd.string 9 w62 w.heap.size (fun k_ => some k_ ≠ (.slice Ao35 y283.length co35 : Value).ownBlock) (.slice (some ⟨go55, 0, none⟩) y296.length co55) y299 := (by rw [hw, Ny299.out]; exact HP61.1); clear HP61; have n0_ := Aside0.mk (Kd.R_after (v := (.slice (some ⟨go55, 0, none⟩) y296.length co55)) (v1 := (.slice (some ⟨go55, 0, none⟩) y296.length co55)) (ok := (fun _ => True)) (by (with_reducible repeat (first | apply Kd.R_alloc | apply Kd.R_drewN | apply Kd.R_drew)); exact HO_15.out) hg (.inl rfl)); have n1_ := Aside0.mk (hp_); have n2_ := Aside0.mk ((by rw [hw]; exact below_set (HB.out) GB55.out : Below w.heap.size w w62)); clear HO_15; clear HO298; clear HB; have HO_15 := n0_; have HO298 := n1_; have HB := n2_; clear n0_ n1_ n2_; clear hg hw hp_) | ((with_reducible refine gate_callee (f := 13) rfl ?_); refine goesL_ (some 141) rfl rfl Tryd.func13 (by kernel_rfl) rfl #[.int .i64 a0, .int .i64 a1, .slice (some ⟨go55, 0, none⟩) y299.length co55] rfl (by (try simp only [List.map_toArray, List.map_cons, List.map_nil]); first | done | (rw [show y299.length = y296.length from (Kd.R_reads' HO298.out).1.symm] <;> rfl) | rfl | (simp only [List.length_drop, List.length_take]; rfl)) ?_; (with_reducible refine (locate_Fix.calls kj44 a0 a1 _ _ y299 t300 t301 t302 _ ?side1 ?side2 A56.out).mono ?_); (case side1 => repeat (first | exact (Kd.R_reads' HO298.out).2.2 | (with_reducible refine Kd.C_alloc ?_ _) | (with_reducible refine Kd.C_drewN ?_ _) | (with_reducible refine Kd.C_drew ?_))); (case side2 => rw [show y299.length = y296.length from (Kd.R_reads' HO298.out).1.symm]; exact (Kd.R_reads' HO298.out).2.1); rintro e w63 ⟨v303, rfl, ho0, hb⟩; refine ⟨_, rfl, ?_⟩; have n0_ := Aside0.mk (Kd.R_elder' (by (with_reducible repeat (first | apply Kd.R_alloc | apply Kd.R_drewN | apply Kd.R_drew)); exact HO_15.out) (Kd.R_base ho0) hb); have n1_ := Aside0.mk (Kd.R_elder' (by (with_reducible repeat (first | apply Kd.R_alloc | apply Kd.R_drewN | apply Kd.R_drew)); exact HO298.out) (Kd.R_base ho0) hb); have n2_ := Aside0.mk (Kd.R_lower (Kd.R_new' (Kd.R_new' ho0 (Kd.R_lt (by (with_reducible repeat (first | apply Kd.R_alloc | apply Kd.R_drewN | apply Kd.R_drew)); exact HO_15.out))) (Kd.R_lt (by (with_reducible repeat (first | apply Kd.R_alloc | apply Kd.R_drewN | apply Kd.R_drew)); exact HO298.out))) (below_size (by repeat (first | (with_reducible first | exact HB.out | apply below_alloc | apply pw_below_drewN | apply below_drew1) | exact HB.out)))); have n3_ := Aside0.mk (below_step (by repeat (first | (with_reducible first | exact HB.out | apply below_alloc | apply pw_below_drewN | apply below_drew1) | exact HB.out)) hb); clear HO_15; clear HO298; clear HB; have HO_15 := n0_; have HO298 := n1_; have HO304 := n2_; have HB := n3_; clear n0_ n1_ n2_ n3_; (try clear hb); (try clear hb2); (try clear hk); (try clear hi); (try clear ho0)))
                                          (try simp only [Act.put, List.setIfInBounds_toArray, List.set_cons_zero, List.set_cons_succ])
                                          go_cut [162] (fun v162 wc => ∃ (kq : Nat) (x162_56 : Bool), v162 = .bool x162_56 ∧ Aside0 (caulktop_TopMended.j4 kq x17_3 t300 x162_56 = some r) ∧ Aside0 (kq ≤ kj44) ∧ Aside0 (Kd.R Kd.string 9 wc w.heap.size (fun _ => True) v303 t300) ∧ Aside0 (Below w.heap.size w wc))
                                          case first =>
                                            have H := HC57.out
                                            clear HC57
                                            by_cases c64 : t302 = 0
                                            · rw [if_pos c64] at H
                                              have c64b0 : (t302 == 0) = true := beq_iff_eq.mpr c64
                                              have c64b1 : (t302 != 0) = false := bne_eq_false_iff_eq.mpr c64
                                              clear c64
                                              (first | rw [c64b0] | (simp only [i64_w, i32_w]; rw [c64b0]) | skip)
                                              by_cases c65 : (t300.length : Int) = (y283.length : Int)
                                              · rw [if_pos c65] at H
                                                have c65b0 : ((t300.length : Int) == (y283.length : Int)) = true := beq_iff_eq.mpr c65
                                                have c65b1 : ((t300.length : Int) != (y283.length : Int)) = false := bne_eq_false_iff_eq.mpr c65
                                                have c65b2 : (t300.length == y283.length) = true := by first | simpa using c65 | (simp at c65 ⊢; omega)
                                                clear c65
                                                by_cases c66 : t301 = a3
                                                · rw [if_pos c66] at H
                                                  have c66b0 : (t301 == a3) = true := beq_iff_eq.mpr c66
                                                  have c66b1 : (t301 != a3) = false := bne_eq_false_iff_eq.mpr c66
                                                  clear c66
                                                  have H' := Aside0.mk H
                                                  clear H
                                                  obtain ⟨Ao67, co67, eo67⟩ := Kd.R_slice HO304.out
                                                  subst eo67
                                                  go_wp2
                                                  go_meet
                                                  case rel => exact ⟨_, (false), (by first | rfl | (simp; done) | (simp [*]; done)), H', ⟨by have := HJ7.out; have := HK2.out; have := HK3.out; have := HJ44.out; first | omega | exact Nat.le_refl _⟩, ⟨by (with_reducible repeat (first | apply Kd.R_alloc | apply Kd.R_drewN | apply Kd.R_drew)); exact Kd.R_mono HO304.out (fun _ hk => trivial)⟩, ⟨by repeat (first | (with_reducible first | exact HB.out | apply below_alloc | apply pw_below_drewN | apply below_drew1) | exact HB.out)⟩⟩
                                                · rw [if_neg c66] at H
                                                  have c66b0 : (t301 == a3) = false := beq_eq_false_iff_ne.mpr c66
                                                  have c66b1 : (t301 != a3) = true := bne_iff_ne.mpr c66
                                                  have H' := Aside0.mk H
                                                  clear H
                                                  obtain ⟨Ao68, co68, eo68⟩ := Kd.R_slice HO304.out
                                                  subst eo68
                                                  go_wp2
                                                  go_meet
                                                  case rel => exact ⟨_, ((t301 != (-1))), (by first | rfl | (simp; done) | (simp [*]; done)), H', ⟨by have := HJ7.out; have := HK2.out; have := HK3.out; have := HJ44.out; first | omega | exact Nat.le_refl _⟩, ⟨by (with_reducible repeat (first | apply Kd.R_alloc | apply Kd.R_drewN | apply Kd.R_drew)); exact Kd.R_mono HO304.out (fun _ hk => trivial)⟩, ⟨by repeat (first | (with_reducible first | exact HB.out | apply below_alloc | apply pw_below_drewN | apply below_drew1) | exact HB.out)⟩⟩
                                              · rw [if_neg c65] at H
                                                have c65b0 : ((t300.length : Int) == (y283.length : Int)) = false := beq_eq_false_iff_ne.mpr c65
                                                have c65b1 : ((t300.length : Int) != (y283.length : Int)) = true := bne_iff_ne.mpr c65
                                                have c65b2 : (t300.length == y283.length) = false := by first | simpa using c65 | (simp at c65 ⊢; omega)
                                                have H' := Aside0.mk H
                                                clear H
                                                obtain ⟨Ao69, co69, eo69⟩ := Kd.R_slice HO304.out
                                                subst eo69
                                                go_wp2
                                                go_meet
                                                case rel => exact ⟨_, (true), (by first | rfl | (simp; done) | (simp [*]; done)), H', ⟨by have := HJ7.out; have := HK2.out; have := HK3.out; have := HJ44.out; first | omega | exact Nat.le_refl _⟩, ⟨by (with_reducible repeat (first | apply Kd.R_alloc | apply Kd.R_drewN | apply Kd.R_drew)); exact Kd.R_mono HO304.out (fun _ hk => trivial)⟩, ⟨by repeat (first | (with_reducible first | exact HB.out | apply below_alloc | apply pw_below_drewN | apply below_drew1) | exact HB.out)⟩⟩
                                            · rw [if_neg c64] at H
                                              have c64b0 : (t302 == 0) = false := beq_eq_false_iff_ne.mpr c64
                                              have c64b1 : (t302 != 0) = true := bne_iff_ne.mpr c64
                                              (first | rw [c64b0] | (simp only [i64_w, i32_w]; rw [c64b0]) | skip)
                                              have H' := Aside0.mk H
                                              clear H
                                              go_wp2
                                              go_meet
                                              case rel => exact ⟨_, (true), (by first | rfl | (simp; done) | (simp [*]; done)), H', ⟨by have := HJ7.out; have := HK2.out; have := HK3.out; have := HJ44.out; first | omega | exact Nat.le_refl _⟩, ⟨by (with_reducible repeat (first | apply Kd.R_alloc | apply Kd.R_drewN | apply Kd.R_drew)); exact Kd.R_mono HO304.out (fun _ hk => trivial)⟩, ⟨by repeat (first | (with_reducible first | exact HB.out | apply below_alloc | apply pw_below_drewN | apply below_drew1) | exact HB.out)⟩⟩
                                          case rest =>
                                            clear HC57
                                            try clear c1
                                            try clear c2
                                            try clear p2
                                            try clear q2
                                            try clear hx2
                                            try clear c3
                                            try clear c4
                                            try clear c5
                                            try clear p5
                                            try clear q5
                                            try clear hx5
                                            try clear hf5
                                            try clear c6
                                            try clear p6
                                            try clear c7
                                            try clear c9
                                            try clear c9b0
                                            try clear c10
                                            try clear c10b0
                                            try clear c11
                                            try clear c11b0
                                            try clear c12
                                            try clear c12b0
                                            try clear c13
                                            try clear c13b0
                                            try clear c13b1
                                            try clear c14
                                            try clear c14b0
                                            try clear c14b1
                                            try clear c15
                                            try clear c15b0
                                            try clear c16
                                            try clear c16b0
                                            try clear c17
                                            try clear c17b0
                                            try clear c17b1
                                            try clear c18
                                            try clear c18b0
                                            try clear c18b1
                                            try clear c19
                                            try clear c20
                                            try clear c20b0
                                            try clear c21
                                            try clear c21b0
                                            try clear c22
                                            try clear c22b0
                                            try clear c23
                                            try clear c23b0
                                            try clear c23b1
                                            try clear c25
                                            try clear c25b0
                                            try clear c25b1
                                            try clear c26
                                            try clear c27
                                            try clear p27
                                            try clear q27
                                            try clear hx27
                                            try clear p28
                                            try clear q28
                                            try clear hx28
                                            try clear p29
                                            try clear q29
                                            try clear hx29
                                            try clear c36
                                            try clear c36b0
                                            try clear c37
                                            try clear c37b0
                                            try clear c38
                                            try clear c38b0
                                            try clear c41
                                            try clear c41b0
                                            try clear c41b1
                                            try clear c42
                                            try clear c42b0
                                            try clear c42b1
                                            try clear c42b2
                                            try clear c44
                                            try clear c44b0
                                            try clear c44b1
                                            try clear c46
                                            try clear c46b0
                                            try clear c47
                                            try clear c47b0
                                            try clear c48
                                            try clear c48b0
                                            try clear c49
                                            try clear c49b0
                                            try clear c50
                                            try clear c50b0
                                            try clear c51
                                            try clear c52
                                            try clear c53
                                            try clear c53b0
                                            try clear c54
                                            try clear c54b0
                                            try clear p55
                                            try clear q55
                                            try clear hx55
                                            try clear hf55
                                            try clear c64
                                            try clear c64b0
                                            try clear c64b1
                                            try clear p64
                                            try clear c65
                                            try clear c65b0
                                            try clear c65b1
                                            try clear c65b2
                                            try clear c66
                                            try clear c66b0
                                            try clear c66b1
                                            try clear hx272_0
                                            try clear hx287_0
                                            try clear hx292_0
                                            try clear hx55_0
                                            try clear p2
                                            try clear p27
                                            try clear p272
                                            try clear p28
                                            try clear p287
                                            try clear p29
                                            try clear p292
                                            try clear p55
                                            try clear p6
                                            try clear q2
                                            try clear q27
                                            try clear q272
                                            try clear q28
                                            try clear q287
                                            try clear q29
                                            try clear q292
                                            try clear q55
                                            obtain ⟨kq, x162_56, rfl, HA, HJ56, HO_23, HB⟩ := hcut
                                            cases kq with
                                            | zero => exact absurd HA.out (by simp [caulktop_TopMended.j4])
                                            | succ kj56 =>
                                              have H := HA.out
                                              clear HA
                                              simp only [caulktop_TopMended.j4] at H
                                              by_cases c70 : x162_56 = true
                                              · subst c70
                                                have H1 : (none) = some r := by rw [if_pos rfl] at H; exact H
                                                clear H
                                                have H := H1
                                                clear H1
                                                exact absurd H (by simp)
                                              · replace c70 := Bool.eq_false_iff.mpr c70
                                                subst c70
                                                have H1 : (caulktop_TopMended.l2 kj56 (⟨#[]⟩ : ByteArray) x17_3 t300 (t300.length : Int) 0) = some r := by rw [if_neg (show ¬ (false = true) by decide)] at H; exact H
                                                clear H
                                                have H := H1
                                                clear H1
                                                have H' := Aside0.mk H
                                                clear H
                                                obtain ⟨Ao71, co71, eo71⟩ := Kd.R_slice HO_23.out
                                                subst eo71
                                                go_wp2
                                                go_loopg [16, 165] kj56 (fun kq v16 v165 w' => ∃ (x16_6 : ByteArray) (x165_6 : Int), v16 = .string x16_6 ∧ v165 = .int .i64 x165_6 ∧ Aside0 (caulktop_TopMended.l2 kq x16_6 x17_3 t300 (t300.length : Int) x165_6 = some r) ∧ Aside0 (kq ≤ kj56) ∧ Aside0 (Kd.R Kd.string 9 w' w.heap.size (fun _ => True) (.slice Ao71 t300.length co71) t300) ∧ Aside0 (Below w.heap.size w w'))
                                                case atStart => exact ⟨((⟨#[]⟩ : ByteArray)), (0), (by first | rfl | (simp; done) | (simp [*]; done)), (by first | rfl | (simp; done) | (simp [*]; done)), H', ⟨Nat.le_refl _⟩, ⟨by (with_reducible repeat (first | apply Kd.R_alloc | apply Kd.R_drewN | apply Kd.R_drew)); exact HO_23.out⟩, ⟨by repeat (first | (with_reducible first | exact HB.out | apply below_alloc | apply pw_below_drewN | apply below_drew1) | exact HB.out)⟩⟩
                                                case round =>
                                                  clear H'
                                                  try clear c1
                                                  try clear c2
                                                  try clear p2
                                                  try clear q2
                                                  try clear hx2
                                                  try clear c3
                                                  try clear c4
                                                  try clear c5
                                                  try clear p5
                                                  try clear q5
                                                  try clear hx5
                                                  try clear hf5
                                                  try clear c6
                                                  try clear p6
                                                  try clear c7
                                                  try clear c9
                                                  try clear c9b0
                                                  try clear c10
                                                  try clear c10b0
                                                  try clear c11
                                                  try clear c11b0
                                                  try clear c12
                                                  try clear c12b0
                                                  try clear c13
                                                  try clear c13b0
                                                  try clear c13b1
                                                  try clear c14
                                                  try clear c14b0
                                                  try clear c14b1
                                                  try clear c15
                                                  try clear c15b0
                                                  try clear c16
                                                  try clear c16b0
                                                  try clear c17
                                                  try clear c17b0
                                                  try clear c17b1
                                                  try clear c18
                                                  try clear c18b0
                                                  try clear c18b1
                                                  try clear c19
                                                  try clear c20
                                                  try clear c20b0
                                                  try clear c21
                                                  try clear c21b0
                                                  try clear c22
                                                  try clear c22b0
                                                  try clear c23
                                                  try clear c23b0
                                                  try clear c23b1
                                                  try clear c25
                                                  try clear c25b0
                                                  try clear c25b1
                                                  try clear c26
                                                  try clear c27
                                                  try clear p27
                                                  try clear q27
                                                  try clear hx27
                                                  try clear p28
                                                  try clear q28
                                                  try clear hx28
                                                  try clear p29
                                                  try clear q29
                                                  try clear hx29
                                                  try clear c36
                                                  try clear c36b0
                                                  try clear c37
                                                  try clear c37b0
                                                  try clear c38
                                                  try clear c38b0
                                                  try clear c41
                                                  try clear c41b0
                                                  try clear c41b1
                                                  try clear c42
                                                  try clear c42b0
                                                  try clear c42b1
                                                  try clear c42b2
                                                  try clear c44
                                                  try clear c44b0
                                                  try clear c44b1
                                                  try clear c46
                                                  try clear c46b0
                                                  try clear c47
                                                  try clear c47b0
                                                  try clear c48
                                                  try clear c48b0
                                                  try clear c49
                                                  try clear c49b0
                                                  try clear c50
                                                  try clear c50b0
                                                  try clear c51
                                                  try clear c52
                                                  try clear c53
                                                  try clear c53b0
                                                  try clear c54
                                                  try clear c54b0
                                                  try clear p55
                                                  try clear q55
                                                  try clear hx55
                                                  try clear hf55
                                                  try clear c64
                                                  try clear c64b0
                                                  try clear c64b1
                                                  try clear p64
                                                  try clear c65
                                                  try clear c65b0
                                                  try clear c65b1
                                                  try clear c65b2
                                                  try clear c66
                                                  try clear c66b0
                                                  try clear c66b1
                                                  try clear c70
                                                  try clear hx272_0
                                                  try clear hx287_0
                                                  try clear hx292_0
                                                  try clear hx55_0
                                                  try clear p2
                                                  try clear p27
                                                  try clear p272
                                                  try clear p28
                                                  try clear p287
                                                  try clear p29
                                                  try clear p292
                                                  try clear p5
                                                  try clear p55
                                                  try clear p6
                                                  try clear p64
                                                  try clear q2
                                                  try clear q27
                                                  try clear q272
                                                  try clear q28
                                                  try clear q287
                                                  try clear q29
                                                  try clear q292
                                                  try clear q5
                                                  try clear q55
                                                  obtain ⟨x16_6, x165_6, rfl, rfl, HA, HK6, HO_163, HB⟩ := hrel
                                                  cases gk with
                                                  | zero => exact absurd HA.out (by simp [caulktop_TopMended.l2])
                                                  | succ k6 =>
                                                    have H := HA.out
                                                    clear HA
                                                    simp only [caulktop_TopMended.l2] at H
                                                    by_cases c72 : x165_6 < (t300.length : Int)
                                                    · rw [if_pos c72] at H
                                                      have c72b0 : decide (x165_6 < (t300.length : Int)) = true := decide_eq_true c72
                                                      clear c72
                                                      by_cases c73 : 0 ≤ x165_6
                                                      · rw [if_pos c73] at H
                                                        have c73b0 : decide (0 ≤ x165_6) = true := decide_eq_true c73
                                                        clear c73
                                                        by_cases c74 : x165_6 < (t300.length : Int)
                                                        · rw [if_pos c74] at H
                                                          have c74b0 : decide (x165_6 < (t300.length : Int)) = true := decide_eq_true c74
                                                          clear c74
                                                          by_cases c75 : x16_6.size + (rdOf ByteArray.empty t300 x165_6).size ≤ 9223372036854775807
                                                          · rw [if_pos c75] at H
                                                            have c75b0 := eq_true c75
                                                            have c75b1 : decide (x16_6.size + (rdOf ByteArray.empty t300 x165_6).size ≤ 9223372036854775807) = true := decide_eq_true c75
                                                            try have c75b2 : (9223372036854775807 < x16_6.size + (rdOf ByteArray.empty t300 x165_6).size) = False := eq_false (Nat.not_lt.2 c75)
                                                            have H' := Aside0.mk H
                                                            clear H
                                                            have p305 : 0 ≤ (x165_6 : Int) := of_decide_eq_true (by first | (with_reducible assumption) | assumption)
                                                            have q305 : x165_6 < (t300.length : Int) := of_decide_eq_true (by first | (with_reducible assumption) | assumption)
                                                            obtain ⟨ad305, e305, hx305_0⟩ := Kd.at_string (Kd.R_reads' HO_163.out).2.2 x165_6 p305 q305
                                                            cases e305
                                                            replace p305 := eq_true p305
                                                            replace q305 := eq_true q305
                                                            go_wp2
                                                            go_roundg k6
                                                            case measure => have := HJ7.out; have := HK2.out; have := HK3.out; have := HJ44.out; have := HJ56.out; have := HK6.out; omega
                                                            case rel => exact ⟨(x16_6 ++ (rdOf ByteArray.empty t300 x165_6)), (wrap64 (x165_6 + 1)), (by first | rfl | (simp; done) | (simp [*]; done)), (by first | rfl | (simp; done) | (simp [*]; done)), H', ⟨by have := HJ7.out; have := HK2.out; have := HK3.out; have := HJ44.out; have := HJ56.out; have := HK6.out; omega⟩, ⟨by (with_reducible repeat (first | apply Kd.R_alloc | apply Kd.R_drewN | apply Kd.R_drew)); exact HO_163.out⟩, ⟨by repeat (first | (with_reducible first | exact HB.out | apply below_alloc | apply pw_below_drewN | apply below_drew1) | exact HB.out)⟩⟩
                                                          · rw [if_neg c75] at H
                                                            exact absurd H (by simp)
                                                        · rw [if_neg c74] at H
                                                          exact absurd H (by simp)
                                                      · rw [if_neg c73] at H
                                                        exact absurd H (by simp)
                                                    · rw [if_neg c72] at H
                                                      have c72b0 : decide (x165_6 < (t300.length : Int)) = false := decide_eq_false c72
                                                      clear c72
                                                      replace H := Option.bind_eq_some_iff.mp H
                                                      obtain ⟨t306, A760, H⟩ := H
                                                      replace H : (some (t306 == x17_3)) = some r := H
                                                      have A76 := Aside0.mk A760
                                                      clear A760
                                                      obtain rfl := Option.some.inj H
                                                      go_wp2_with (first | ((with_reducible refine gate_callee (f := 20) rfl ?_); refine goesL_ (some 174) rfl rfl Tryd.func20 (by kernel_rfl) rfl #[.string x16_6] rfl (by (try simp only [List.map_toArray, List.map_cons, List.map_nil]); first | done | rfl | (simp only [List.length_drop, List.length_take]; rfl)) ?_; (with_reducible refine (crc_Sum.calls x16_6 t306 _ ?side1 A76.out).mono ?_); (case side1 => first | exact HG.out | exact GT.below HG.out (by repeat (first | (with_reducible first | exact HB.out | apply below_alloc | apply pw_below_drewN | apply below_drew1) | exact HB.out))); rintro e w' ⟨rfl, ⟨nd, rfl⟩⟩; refine ⟨_, rfl, ?_⟩))
                                                      go_ret
                                                      exact ⟨by first | rfl | (simp [errW_none, errW_some] <;> rfl) | (simp [*, errW_none, errW_some] <;> rfl), by repeat (first | (with_reducible first | exact HB.out | apply below_alloc | apply pw_below_drewN | apply below_drew1) | exact HB.out)⟩
                                        · rw [if_neg c54] at H
                                          exact absurd H (by simp)
                                      · rw [if_neg c53] at H
                                        exact absurd H (by simp)
                                    · rw [if_neg c52] at H
                                      exact absurd H (by simp)
                            · rw [if_neg c44] at H
                              exact absurd H (by simp)
                    · rw [if_neg c27] at H
                      exact absurd H (by simp)
                  · rw [if_neg c26] at H
                    exact absurd H (by simp)
                · rw [if_neg c25] at H
                  have c25b0 : (t274 == 0) = false := beq_eq_false_iff_ne.mpr c25
                  have c25b1 : (t274 != 0) = true := bne_iff_ne.mpr c25
                  obtain rfl := Option.some.inj H
                  go_wp2_with (first | ((with_reducible refine gate_callee (f := 17) rfl ?_); refine goesL_ (some 68) rfl rfl Tryd.func17 (by kernel_rfl) rfl #[.int .i64 a0, .int .i64 a1, .slice A2 l2.length c2] rfl (by (try simp only [List.map_toArray, List.map_cons, List.map_nil]); first | done | rfl | (simp only [List.length_drop, List.length_take]; rfl)) ?_; (with_reducible refine (rs_Encode.calls k2 a0 a1 _ _ l2 t273 t274 _ ?side1 ?side2 A24.out).mono ?_); (case side1 => repeat (first | exact (Kd.C_below HR2.out HB.out) | (with_reducible refine Kd.C_alloc ?_ _) | (with_reducible refine Kd.C_drewN ?_ _) | (with_reducible refine Kd.C_drew ?_))); (case side2 => exact HC2.out); rintro e w77 ⟨v275, rfl, ho0, hb⟩; refine ⟨_, rfl, ?_⟩; have n0_ := Aside0.mk (Kd.R_lower ho0 (below_size (by repeat (first | (with_reducible first | exact HB.out | apply below_alloc | apply pw_below_drewN | apply below_drew1) | exact HB.out)))); have n1_ := Aside0.mk (below_step (by repeat (first | (with_reducible first | exact HB.out | apply below_alloc | apply pw_below_drewN | apply below_drew1) | exact HB.out)) hb); clear HB; have HO276 := n0_; have HB := n1_; clear n0_ n1_; (try clear hb); (try clear hb2); (try clear hk); (try clear hi); (try clear ho0); obtain ⟨Ao78, co78, eo78⟩ := Kd.R_slice HO276.out; subst eo78))
                  go_ret
                  exact ⟨by first | rfl | (simp [errW_none, errW_some] <;> rfl) | (simp [*, errW_none, errW_some] <;> rfl), by repeat (first | (with_reducible first | exact HB.out | apply below_alloc | apply pw_below_drewN | apply below_drew1) | exact HB.out)⟩
  · replace c7 := Bool.eq_false_iff.mpr c7
    subst c7
    have H1 : (none) = some r := by rw [if_neg (show ¬ (false = true) by decide)] at H; exact H
    clear H
    have H := H1
    clear H1
    exact absurd H (by simp)

def caulktop_TopMended.Pure : Prop := ∀ (a0 : Int) (a1 : Int) (l2 : List ByteArray) (a3 : Int) (a4 : ByteArray), (Lit.int .i64 a0).wf = true → (Lit.int .i64 a1).wf = true → (l2.length * 16 ≤ 140737488351232 ∧ ∀ x0_ ∈ l2, x0_.size ≤ 140737488351232) → (Lit.int .i64 a3).wf = true → a4.size ≤ 140737488351232 → ∃ k, caulktop_TopMended.f k a0 a1 l2 a3 a4 = some true

end Go.Proofs.YteiiaonpdamkhaaDoor.G
