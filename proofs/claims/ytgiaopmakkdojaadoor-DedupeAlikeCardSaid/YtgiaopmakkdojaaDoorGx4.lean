-- Written by a program of this session over the print of the translation (its own patch, foreign contracts, cut ways): not trusted: Lean checks it.
import Derived.Test.YtgiaopmakkdojaaDoorGx0
import Derived.Test.YtgiaopmakkdojaaDoorGx1
import Derived.Test.YtgiaopmakkdojaaDoorDedFirst
namespace Go.Proofs.YtgiaopmakkdojaaDoor.G
open Go.RowKit Go.Proofs.YtgiaopmakkdojaaDoorW.PrintWords Go.Proofs.YtgiaopmakkdojaaDoorW.PrintLast Go.Proofs.YtgiaopmakkdojaaDoorW.PrintMore
attribute [local go_sem] max2_int min2_int max_two min_two max_three min_three max_four min_four   -- for this text's walks alone
set_option linter.unusedVariables false
set_option linter.unusedSimpArgs false

/-! ### caulklaw38_DedupeAlike: function 4 -/
mutual
def caulklaw38_DedupeAlike.j0 : Nat → List ByteArray → List Int → List Int → Bool → Option (Bool)
  | 0, _, _, _, _ => none
  | k + 1, x0, x3, x4, x27 => if x27 = true then (none) else (caulklaw38_DedupeAlike.l0 k x0 x3 x4 (x0.length : Int) 0)
def caulklaw38_DedupeAlike.l0 : Nat → List ByteArray → List Int → List Int → Int → Int → Option (Bool)
  | 0, _, _, _, _, _ => none
  | k + 1, x0, x3, x4, x29, x30 => if x30 < x29 then (if 0 ≤ x30 then (if x30 < (x3.length : Int) then (if (rd x3 x30) < 0 then (caulklaw38_DedupeAlike.j2 k x0 x3 x4 x30 x29 x30 true) else (if (rd x3 x30) > x30 then (caulklaw38_DedupeAlike.j2 k x0 x3 x4 x30 x29 x30 true) else (if 0 ≤ (rd x3 x30) then (if (rd x3 x30) < (x3.length : Int) then (if (rd x3 (rd x3 x30)) = (rd x3 x30) then (if (rd x3 x30) < (x0.length : Int) then (if x30 < (x0.length : Int) then (if (rdOf ByteArray.empty x0 (rd x3 x30)).toList = (rdOf ByteArray.empty x0 x30).toList then (if (rd x3 x30) < (x4.length : Int) then (if x30 < (x4.length : Int) then (caulklaw38_DedupeAlike.j2 k x0 x3 x4 x30 x29 x30 ((rd x4 (rd x3 x30)) != (rd x4 x30))) else (none)) else (none)) else (caulklaw38_DedupeAlike.j2 k x0 x3 x4 x30 x29 x30 true)) else (none)) else (none)) else (caulklaw38_DedupeAlike.j2 k x0 x3 x4 x30 x29 x30 true)) else (none)) else (none)))) else (none)) else (none)) else (some true)
def caulklaw38_DedupeAlike.j2 : Nat → List ByteArray → List Int → List Int → Int → Int → Int → Bool → Option (Bool)
  | 0, _, _, _, _, _, _, _ => none
  | k + 1, x0, x3, x4, x5, x29, x30, x87 => if x87 = true then (none) else (caulklaw38_DedupeAlike.l1 k x0 x3 x4 x5 x29 x30 x5 0)
def caulklaw38_DedupeAlike.l1 : Nat → List ByteArray → List Int → List Int → Int → Int → Int → Int → Int → Option (Bool)
  | 0, _, _, _, _, _, _, _, _ => none
  | k + 1, x0, x3, x4, x5, x29, x30, x88, x89 => if x89 < x88 then (if 0 ≤ x5 then (if x5 < (x3.length : Int) then (if 0 ≤ x89 then (if x89 < (x3.length : Int) then (if x5 < (x0.length : Int) then (if x89 < (x0.length : Int) then (if (((rd x3 x5) == (rd x3 x89)) != ((rdOf ByteArray.empty x0 x5).toList == (rdOf ByteArray.empty x0 x89).toList)) = true then (none) else (caulklaw38_DedupeAlike.l1 k x0 x3 x4 x5 x29 x30 x88 (wrap64 (x89 + 1)))) else (none)) else (none)) else (none)) else (none)) else (none)) else (none)) else (caulklaw38_DedupeAlike.l0 k x0 x3 x4 x29 (wrap64 (x30 + 1)))
end
def caulklaw38_DedupeAlike.f (k : Nat) (l0 : List ByteArray) : Option (Bool) := (caulklaw38_lives.f k).bind fun t198 => (if t198 = true then ((caulklaw38_small.f k l0).bind fun t199 => (if t199 = true then ((dedupe_First.f l0).bind fun t200 => ((dedupe_Sums.f k l0).bind fun t203 => (if (t200.length : Int) = (l0.length : Int) then (caulklaw38_DedupeAlike.j0 k l0 t200 t203 ((t203.length : Int) != (l0.length : Int))) else (caulklaw38_DedupeAlike.j0 k l0 t200 t203 true)))) else (some true))) else (none))
theorem caulklaw38_DedupeAlike.mono_l : ∀ k, (∀ y0 y1 y2 y3, LeO (caulklaw38_DedupeAlike.j0 k y0 y1 y2 y3) (caulklaw38_DedupeAlike.j0 (k + 1) y0 y1 y2 y3)) ∧ (∀ y0 y1 y2 y3 y4, LeO (caulklaw38_DedupeAlike.l0 k y0 y1 y2 y3 y4) (caulklaw38_DedupeAlike.l0 (k + 1) y0 y1 y2 y3 y4)) ∧ (∀ y0 y1 y2 y3 y4 y5 y6, LeO (caulklaw38_DedupeAlike.j2 k y0 y1 y2 y3 y4 y5 y6) (caulklaw38_DedupeAlike.j2 (k + 1) y0 y1 y2 y3 y4 y5 y6)) ∧ (∀ y0 y1 y2 y3 y4 y5 y6 y7, LeO (caulklaw38_DedupeAlike.l1 k y0 y1 y2 y3 y4 y5 y6 y7) (caulklaw38_DedupeAlike.l1 (k + 1) y0 y1 y2 y3 y4 y5 y6 y7))
  | 0 => ⟨fun _ _ _ _ r h => by simp [caulklaw38_DedupeAlike.j0] at h, fun _ _ _ _ _ r h => by simp [caulklaw38_DedupeAlike.l0] at h, fun _ _ _ _ _ _ _ r h => by simp [caulklaw38_DedupeAlike.j2] at h, fun _ _ _ _ _ _ _ _ r h => by simp [caulklaw38_DedupeAlike.l1] at h⟩
  | k + 1 => by
    obtain ⟨ih0, ih1, ih2, ih3⟩ := caulklaw38_DedupeAlike.mono_l k
    refine ⟨?_, ?_, ?_, ?_⟩
    · intro y0 y1 y2 y3
      unfold caulklaw38_DedupeAlike.j0
      repeat' first
      | (with_reducible exact ih0 _ _ _ _)
      | (with_reducible exact ih1 _ _ _ _ _)
      | (with_reducible exact ih2 _ _ _ _ _ _ _)
      | (with_reducible exact ih3 _ _ _ _ _ _ _ _)
      | (with_reducible exact caulklaw38_lives.mono _)
      | (with_reducible exact caulklaw38_small.mono _ _)
      | (with_reducible exact dedupe_Sums.mono _ _)
      | (with_reducible exact LeO.refl _)
      | (with_reducible exact LeO.none _)
      | (with_reducible refine LeO.ite ?_ ?_)
      | (with_reducible refine LeO.bind ?_ (fun _ => ?_))
      | exact ih0 _ _ _ _
      | exact ih1 _ _ _ _ _
      | exact ih2 _ _ _ _ _ _ _
      | exact ih3 _ _ _ _ _ _ _ _
      | exact caulklaw38_lives.mono _
      | exact caulklaw38_small.mono _ _
      | exact dedupe_Sums.mono _ _
      | exact LeO.none _
      | refine LeO.ite ?_ ?_
      | refine LeO.bind ?_ (fun _ => ?_)
    · intro y0 y1 y2 y3 y4
      unfold caulklaw38_DedupeAlike.l0
      repeat' first
      | (with_reducible exact ih0 _ _ _ _)
      | (with_reducible exact ih1 _ _ _ _ _)
      | (with_reducible exact ih2 _ _ _ _ _ _ _)
      | (with_reducible exact ih3 _ _ _ _ _ _ _ _)
      | (with_reducible exact caulklaw38_lives.mono _)
      | (with_reducible exact caulklaw38_small.mono _ _)
      | (with_reducible exact dedupe_Sums.mono _ _)
      | (with_reducible exact LeO.refl _)
      | (with_reducible exact LeO.none _)
      | (with_reducible refine LeO.ite ?_ ?_)
      | (with_reducible refine LeO.bind ?_ (fun _ => ?_))
      | exact ih0 _ _ _ _
      | exact ih1 _ _ _ _ _
      | exact ih2 _ _ _ _ _ _ _
      | exact ih3 _ _ _ _ _ _ _ _
      | exact caulklaw38_lives.mono _
      | exact caulklaw38_small.mono _ _
      | exact dedupe_Sums.mono _ _
      | exact LeO.none _
      | refine LeO.ite ?_ ?_
      | refine LeO.bind ?_ (fun _ => ?_)
    · intro y0 y1 y2 y3 y4 y5 y6
      unfold caulklaw38_DedupeAlike.j2
      repeat' first
      | (with_reducible exact ih0 _ _ _ _)
      | (with_reducible exact ih1 _ _ _ _ _)
      | (with_reducible exact ih2 _ _ _ _ _ _ _)
      | (with_reducible exact ih3 _ _ _ _ _ _ _ _)
      | (with_reducible exact caulklaw38_lives.mono _)
      | (with_reducible exact caulklaw38_small.mono _ _)
      | (with_reducible exact dedupe_Sums.mono _ _)
      | (with_reducible exact LeO.refl _)
      | (with_reducible exact LeO.none _)
      | (with_reducible refine LeO.ite ?_ ?_)
      | (with_reducible refine LeO.bind ?_ (fun _ => ?_))
      | exact ih0 _ _ _ _
      | exact ih1 _ _ _ _ _
      | exact ih2 _ _ _ _ _ _ _
      | exact ih3 _ _ _ _ _ _ _ _
      | exact caulklaw38_lives.mono _
      | exact caulklaw38_small.mono _ _
      | exact dedupe_Sums.mono _ _
      | exact LeO.none _
      | refine LeO.ite ?_ ?_
      | refine LeO.bind ?_ (fun _ => ?_)
    · intro y0 y1 y2 y3 y4 y5 y6 y7
      unfold caulklaw38_DedupeAlike.l1
      repeat' first
      | (with_reducible exact ih0 _ _ _ _)
      | (with_reducible exact ih1 _ _ _ _ _)
      | (with_reducible exact ih2 _ _ _ _ _ _ _)
      | (with_reducible exact ih3 _ _ _ _ _ _ _ _)
      | (with_reducible exact caulklaw38_lives.mono _)
      | (with_reducible exact caulklaw38_small.mono _ _)
      | (with_reducible exact dedupe_Sums.mono _ _)
      | (with_reducible exact LeO.refl _)
      | (with_reducible exact LeO.none _)
      | (with_reducible refine LeO.ite ?_ ?_)
      | (with_reducible refine LeO.bind ?_ (fun _ => ?_))
      | exact ih0 _ _ _ _
      | exact ih1 _ _ _ _ _
      | exact ih2 _ _ _ _ _ _ _
      | exact ih3 _ _ _ _ _ _ _ _
      | exact caulklaw38_lives.mono _
      | exact caulklaw38_small.mono _ _
      | exact dedupe_Sums.mono _ _
      | exact LeO.none _
      | refine LeO.ite ?_ ?_
      | refine LeO.bind ?_ (fun _ => ?_)
theorem caulklaw38_DedupeAlike.mono : ∀ a0 k, LeO (caulklaw38_DedupeAlike.f k a0) (caulklaw38_DedupeAlike.f (k + 1) a0) := by
  intro a0 k
  obtain ⟨ih0, ih1, ih2, ih3⟩ := caulklaw38_DedupeAlike.mono_l k
  unfold caulklaw38_DedupeAlike.f
  repeat' first
      | (with_reducible exact ih0 _ _ _ _)
      | (with_reducible exact ih1 _ _ _ _ _)
      | (with_reducible exact ih2 _ _ _ _ _ _ _)
      | (with_reducible exact ih3 _ _ _ _ _ _ _ _)
      | (with_reducible exact caulklaw38_lives.mono _)
      | (with_reducible exact caulklaw38_small.mono _ _)
      | (with_reducible exact dedupe_Sums.mono _ _)
      | (with_reducible exact LeO.refl _)
      | (with_reducible exact LeO.none _)
      | (with_reducible refine LeO.ite ?_ ?_)
      | (with_reducible refine LeO.bind ?_ (fun _ => ?_))
      | exact ih0 _ _ _ _
      | exact ih1 _ _ _ _ _
      | exact ih2 _ _ _ _ _ _ _
      | exact ih3 _ _ _ _ _ _ _ _
      | exact caulklaw38_lives.mono _
      | exact caulklaw38_small.mono _ _
      | exact dedupe_Sums.mono _ _
      | exact LeO.none _
      | refine LeO.ite ?_ ?_
      | refine LeO.bind ?_ (fun _ => ?_)
set_option maxHeartbeats 8000000 in
set_option maxRecDepth 100000 in
theorem caulklaw38_DedupeAlike.calls (k : Nat) (A0 : Option Addr) (c0 : Nat) (l0 : List ByteArray) (r : Bool) (w : World) (hr0 : Kd.C Kd.string w A0 l0.length l0) (hc0 : l0.length ≤ c0) (hG : GT w) (h : caulklaw38_DedupeAlike.f k l0 = some r) :
    Calls Tryd.prog 4 #[.slice A0 l0.length c0] w fun e w' => e = .returned (.bool r) ∧ Below w.heap.size w w' := by
  have HR0 := Aside0.mk hr0
  have HC0 := Aside0.mk hc0
  clear hr0 hc0
  have HB := Aside0.mk (Below.refl w.heap.size w)
  have HG := Aside0.mk hG
  clear hG
  have H : ((caulklaw38_lives.f k).bind fun t198 => (if t198 = true then ((caulklaw38_small.f k l0).bind fun t199 => (if t199 = true then ((dedupe_First.f l0).bind fun t200 => ((dedupe_Sums.f k l0).bind fun t203 => (if (t200.length : Int) = (l0.length : Int) then (caulklaw38_DedupeAlike.j0 k l0 t200 t203 ((t203.length : Int) != (l0.length : Int))) else (caulklaw38_DedupeAlike.j0 k l0 t200 t203 true)))) else (some true))) else (none))) = some r := h
  clear h
  replace H := Option.bind_eq_some_iff.mp H
  obtain ⟨t198, A20, H⟩ := H
  replace H : (if t198 = true then ((caulklaw38_small.f k l0).bind fun t199 => (if t199 = true then ((dedupe_First.f l0).bind fun t200 => ((dedupe_Sums.f k l0).bind fun t203 => (if (t200.length : Int) = (l0.length : Int) then (caulklaw38_DedupeAlike.j0 k l0 t200 t203 ((t203.length : Int) != (l0.length : Int))) else (caulklaw38_DedupeAlike.j0 k l0 t200 t203 true)))) else (some true))) else (none)) = some r := H
  have A2 := Aside0.mk A20
  clear A20
  by_cases c3 : t198 = true
  · subst c3
    have H1 : ((caulklaw38_small.f k l0).bind fun t199 => (if t199 = true then ((dedupe_First.f l0).bind fun t200 => ((dedupe_Sums.f k l0).bind fun t203 => (if (t200.length : Int) = (l0.length : Int) then (caulklaw38_DedupeAlike.j0 k l0 t200 t203 ((t203.length : Int) != (l0.length : Int))) else (caulklaw38_DedupeAlike.j0 k l0 t200 t203 true)))) else (some true))) = some r := by rw [if_pos rfl] at H; exact H
    clear H
    have H := H1
    clear H1
    replace H := Option.bind_eq_some_iff.mp H
    obtain ⟨t199, A40, H⟩ := H
    replace H : (if t199 = true then ((dedupe_First.f l0).bind fun t200 => ((dedupe_Sums.f k l0).bind fun t203 => (if (t200.length : Int) = (l0.length : Int) then (caulklaw38_DedupeAlike.j0 k l0 t200 t203 ((t203.length : Int) != (l0.length : Int))) else (caulklaw38_DedupeAlike.j0 k l0 t200 t203 true)))) else (some true)) = some r := H
    have A4 := Aside0.mk A40
    clear A40
    by_cases c5 : t199 = true
    · subst c5
      have H1 : ((dedupe_First.f l0).bind fun t200 => ((dedupe_Sums.f k l0).bind fun t203 => (if (t200.length : Int) = (l0.length : Int) then (caulklaw38_DedupeAlike.j0 k l0 t200 t203 ((t203.length : Int) != (l0.length : Int))) else (caulklaw38_DedupeAlike.j0 k l0 t200 t203 true)))) = some r := by rw [if_pos rfl] at H; exact H
      clear H
      have H := H1
      clear H1
      replace H := Option.bind_eq_some_iff.mp H
      obtain ⟨t200, A60, H⟩ := H
      replace H : ((dedupe_Sums.f k l0).bind fun t203 => (if (t200.length : Int) = (l0.length : Int) then (caulklaw38_DedupeAlike.j0 k l0 t200 t203 ((t203.length : Int) != (l0.length : Int))) else (caulklaw38_DedupeAlike.j0 k l0 t200 t203 true))) = some r := H
      have A6 := Aside0.mk A60
      clear A60
      replace H := Option.bind_eq_some_iff.mp H
      obtain ⟨t203, A70, H⟩ := H
      replace H : (if (t200.length : Int) = (l0.length : Int) then (caulklaw38_DedupeAlike.j0 k l0 t200 t203 ((t203.length : Int) != (l0.length : Int))) else (caulklaw38_DedupeAlike.j0 k l0 t200 t203 true)) = some r := H
      have A7 := Aside0.mk A70
      clear A70
      have HC8 := Aside0.mk H
      clear H
      go_enter Tryd.func4, Tryd.ntmps4
      go_upto_region 6 with (first | (go_at_call 7; (with_reducible refine (caulklaw38_lives.calls k  true _ ?side1 A2.out).mono ?_); (case side1 => first | exact HG.out | exact GT.below HG.out (by repeat (first | (with_reducible first | exact HB.out | apply below_alloc | apply pw_below_drewN | apply below_drew1) | exact HB.out))); rintro e w9 ⟨rfl, hb⟩; have n0_ := Aside0.mk (below_step (by repeat (first | (with_reducible first | exact HB.out | apply below_alloc | apply pw_below_drewN | apply below_drew1) | exact HB.out)) hb); clear HB; have HB := n0_; clear n0_; (try clear hb); (try clear hb2); (try clear hk); (try clear hi)) | (go_at_call 6; (with_reducible refine (caulklaw38_small.calls k _ _ l0 true _ ?side1 ?side2 A4.out).mono ?_); (case side1 => repeat (first | exact (Kd.C_below HR0.out HB.out) | (with_reducible refine Kd.C_alloc ?_ _) | (with_reducible refine Kd.C_drewN ?_ _) | (with_reducible refine Kd.C_drew ?_))); (case side2 => exact HC0.out); rintro e w' ⟨rfl, ⟨nd, rfl⟩⟩; (try first | exact ⟨rfl, _, World.drewN_drewN _ _ _⟩ | exact ⟨rfl, _, Eq.trans (World.drewN_drewN _ _ _) (congrArg (World.drewN _) (Nat.add_assoc _ _ _))⟩)) | (go_at_call 11; (with_reducible refine (dedupe_First.calls _ _ l0 t200 _ ?side1 ?side2 ?side3 A6.out).mono ?_); (case side1 => repeat (first | exact (Kd.C_below HR0.out (by repeat (first | (with_reducible first | exact HB.out | apply below_alloc | apply pw_below_drewN | apply below_drew1) | exact HB.out))) | (with_reducible refine Kd.C_alloc ?_ _) | (with_reducible refine Kd.C_drewN ?_ _) | (with_reducible refine Kd.C_drew ?_))); (case side2 => exact HC0.out); (case side3 => first | exact HG.out | exact GT.below HG.out (by repeat (first | (with_reducible first | exact HB.out | apply below_alloc | apply pw_below_drewN | apply below_drew1) | exact HB.out))); rintro e w10 ⟨v201, rfl, ho0, hb⟩; have n0_ := Aside0.mk (Kd.R_lower ho0 (below_size (by repeat (first | (with_reducible first | exact HB.out | apply below_alloc | apply pw_below_drewN | apply below_drew1) | exact HB.out)))); have n1_ := Aside0.mk (below_step (by repeat (first | (with_reducible first | exact HB.out | apply below_alloc | apply pw_below_drewN | apply below_drew1) | exact HB.out)) hb); clear HB; have HO202 := n0_; have HB := n1_; clear n0_ n1_; (try clear hb); (try clear hb2); (try clear hk); (try clear hi); (try clear ho0)) | (go_at_call 8; (with_reducible refine (dedupe_Sums.calls k _ _ l0 t203 _ ?side1 ?side2 ?side3 A7.out).mono ?_); (case side1 => repeat (first | exact (Kd.C_below HR0.out HB.out) | (with_reducible refine Kd.C_alloc ?_ _) | (with_reducible refine Kd.C_drewN ?_ _) | (with_reducible refine Kd.C_drew ?_))); (case side2 => exact HC0.out); (case side3 => first | exact HG.out | exact GT.below HG.out (by repeat (first | (with_reducible first | exact HB.out | apply below_alloc | apply pw_below_drewN | apply below_drew1) | exact HB.out))); rintro e w11 ⟨v204, rfl, ho0, hb⟩; have n0_ := Aside0.mk (Kd.R_below (by (with_reducible repeat (first | apply Kd.R_alloc | apply Kd.R_drewN | apply Kd.R_drew)); exact HO202.out) hb); have n1_ := Aside0.mk (Kd.R_lower ho0 (below_size (by repeat (first | (with_reducible first | exact HB.out | apply below_alloc | apply pw_below_drewN | apply below_drew1) | exact HB.out)))); have n2_ := Aside0.mk (below_step (by repeat (first | (with_reducible first | exact HB.out | apply below_alloc | apply pw_below_drewN | apply below_drew1) | exact HB.out)) hb); clear HO202; clear HB; have HO202 := n0_; have HO205 := n1_; have HB := n2_; clear n0_ n1_ n2_; (try clear hb); (try clear hb2); (try clear hk); (try clear hi); (try clear ho0)))
      repeat (go_quiet (first | (go_at_call 7; (with_reducible refine (caulklaw38_lives.calls k  true _ ?side1 A2.out).mono ?_); (case side1 => first | exact HG.out | exact GT.below HG.out (by repeat (first | (with_reducible first | exact HB.out | apply below_alloc | apply pw_below_drewN | apply below_drew1) | exact HB.out))); rintro e w9 ⟨rfl, hb⟩; have n0_ := Aside0.mk (below_step (by repeat (first | (with_reducible first | exact HB.out | apply below_alloc | apply pw_below_drewN | apply below_drew1) | exact HB.out)) hb); clear HB; have HB := n0_; clear n0_; (try clear hb); (try clear hb2); (try clear hk); (try clear hi)) | (go_at_call 6; (with_reducible refine (caulklaw38_small.calls k _ _ l0 true _ ?side1 ?side2 A4.out).mono ?_); (case side1 => repeat (first | exact (Kd.C_below HR0.out HB.out) | (with_reducible refine Kd.C_alloc ?_ _) | (with_reducible refine Kd.C_drewN ?_ _) | (with_reducible refine Kd.C_drew ?_))); (case side2 => exact HC0.out); rintro e w' ⟨rfl, ⟨nd, rfl⟩⟩; (try first | exact ⟨rfl, _, World.drewN_drewN _ _ _⟩ | exact ⟨rfl, _, Eq.trans (World.drewN_drewN _ _ _) (congrArg (World.drewN _) (Nat.add_assoc _ _ _))⟩)) | (go_at_call 11; (with_reducible refine (dedupe_First.calls _ _ l0 t200 _ ?side1 ?side2 ?side3 A6.out).mono ?_); (case side1 => repeat (first | exact (Kd.C_below HR0.out (by repeat (first | (with_reducible first | exact HB.out | apply below_alloc | apply pw_below_drewN | apply below_drew1) | exact HB.out))) | (with_reducible refine Kd.C_alloc ?_ _) | (with_reducible refine Kd.C_drewN ?_ _) | (with_reducible refine Kd.C_drew ?_))); (case side2 => exact HC0.out); (case side3 => first | exact HG.out | exact GT.below HG.out (by repeat (first | (with_reducible first | exact HB.out | apply below_alloc | apply pw_below_drewN | apply below_drew1) | exact HB.out))); rintro e w10 ⟨v201, rfl, ho0, hb⟩; have n0_ := Aside0.mk (Kd.R_lower ho0 (below_size (by repeat (first | (with_reducible first | exact HB.out | apply below_alloc | apply pw_below_drewN | apply below_drew1) | exact HB.out)))); have n1_ := Aside0.mk (below_step (by repeat (first | (with_reducible first | exact HB.out | apply below_alloc | apply pw_below_drewN | apply below_drew1) | exact HB.out)) hb); clear HB; have HO202 := n0_; have HB := n1_; clear n0_ n1_; (try clear hb); (try clear hb2); (try clear hk); (try clear hi); (try clear ho0)) | (go_at_call 8; (with_reducible refine (dedupe_Sums.calls k _ _ l0 t203 _ ?side1 ?side2 ?side3 A7.out).mono ?_); (case side1 => repeat (first | exact (Kd.C_below HR0.out HB.out) | (with_reducible refine Kd.C_alloc ?_ _) | (with_reducible refine Kd.C_drewN ?_ _) | (with_reducible refine Kd.C_drew ?_))); (case side2 => exact HC0.out); (case side3 => first | exact HG.out | exact GT.below HG.out (by repeat (first | (with_reducible first | exact HB.out | apply below_alloc | apply pw_below_drewN | apply below_drew1) | exact HB.out))); rintro e w11 ⟨v204, rfl, ho0, hb⟩; have n0_ := Aside0.mk (Kd.R_below (by (with_reducible repeat (first | apply Kd.R_alloc | apply Kd.R_drewN | apply Kd.R_drew)); exact HO202.out) hb); have n1_ := Aside0.mk (Kd.R_lower ho0 (below_size (by repeat (first | (with_reducible first | exact HB.out | apply below_alloc | apply pw_below_drewN | apply below_drew1) | exact HB.out)))); have n2_ := Aside0.mk (below_step (by repeat (first | (with_reducible first | exact HB.out | apply below_alloc | apply pw_below_drewN | apply below_drew1) | exact HB.out)) hb); clear HO202; clear HB; have HO202 := n0_; have HO205 := n1_; have HB := n2_; clear n0_ n1_ n2_; (try clear hb); (try clear hb2); (try clear hk); (try clear hi); (try clear ho0))); go_upto_region 6 with (first | (go_at_call 7; (with_reducible refine (caulklaw38_lives.calls k  true _ ?side1 A2.out).mono ?_); (case side1 => first | exact HG.out | exact GT.below HG.out (by repeat (first | (with_reducible first | exact HB.out | apply below_alloc | apply pw_below_drewN | apply below_drew1) | exact HB.out))); rintro e w9 ⟨rfl, hb⟩; have n0_ := Aside0.mk (below_step (by repeat (first | (with_reducible first | exact HB.out | apply below_alloc | apply pw_below_drewN | apply below_drew1) | exact HB.out)) hb); clear HB; have HB := n0_; clear n0_; (try clear hb); (try clear hb2); (try clear hk); (try clear hi)) | (go_at_call 6; (with_reducible refine (caulklaw38_small.calls k _ _ l0 true _ ?side1 ?side2 A4.out).mono ?_); (case side1 => repeat (first | exact (Kd.C_below HR0.out HB.out) | (with_reducible refine Kd.C_alloc ?_ _) | (with_reducible refine Kd.C_drewN ?_ _) | (with_reducible refine Kd.C_drew ?_))); (case side2 => exact HC0.out); rintro e w' ⟨rfl, ⟨nd, rfl⟩⟩; (try first | exact ⟨rfl, _, World.drewN_drewN _ _ _⟩ | exact ⟨rfl, _, Eq.trans (World.drewN_drewN _ _ _) (congrArg (World.drewN _) (Nat.add_assoc _ _ _))⟩)) | (go_at_call 11; (with_reducible refine (dedupe_First.calls _ _ l0 t200 _ ?side1 ?side2 ?side3 A6.out).mono ?_); (case side1 => repeat (first | exact (Kd.C_below HR0.out (by repeat (first | (with_reducible first | exact HB.out | apply below_alloc | apply pw_below_drewN | apply below_drew1) | exact HB.out))) | (with_reducible refine Kd.C_alloc ?_ _) | (with_reducible refine Kd.C_drewN ?_ _) | (with_reducible refine Kd.C_drew ?_))); (case side2 => exact HC0.out); (case side3 => first | exact HG.out | exact GT.below HG.out (by repeat (first | (with_reducible first | exact HB.out | apply below_alloc | apply pw_below_drewN | apply below_drew1) | exact HB.out))); rintro e w10 ⟨v201, rfl, ho0, hb⟩; have n0_ := Aside0.mk (Kd.R_lower ho0 (below_size (by repeat (first | (with_reducible first | exact HB.out | apply below_alloc | apply pw_below_drewN | apply below_drew1) | exact HB.out)))); have n1_ := Aside0.mk (below_step (by repeat (first | (with_reducible first | exact HB.out | apply below_alloc | apply pw_below_drewN | apply below_drew1) | exact HB.out)) hb); clear HB; have HO202 := n0_; have HB := n1_; clear n0_ n1_; (try clear hb); (try clear hb2); (try clear hk); (try clear hi); (try clear ho0)) | (go_at_call 8; (with_reducible refine (dedupe_Sums.calls k _ _ l0 t203 _ ?side1 ?side2 ?side3 A7.out).mono ?_); (case side1 => repeat (first | exact (Kd.C_below HR0.out HB.out) | (with_reducible refine Kd.C_alloc ?_ _) | (with_reducible refine Kd.C_drewN ?_ _) | (with_reducible refine Kd.C_drew ?_))); (case side2 => exact HC0.out); (case side3 => first | exact HG.out | exact GT.below HG.out (by repeat (first | (with_reducible first | exact HB.out | apply below_alloc | apply pw_below_drewN | apply below_drew1) | exact HB.out))); rintro e w11 ⟨v204, rfl, ho0, hb⟩; have n0_ := Aside0.mk (Kd.R_below (by (with_reducible repeat (first | apply Kd.R_alloc | apply Kd.R_drewN | apply Kd.R_drew)); exact HO202.out) hb); have n1_ := Aside0.mk (Kd.R_lower ho0 (below_size (by repeat (first | (with_reducible first | exact HB.out | apply below_alloc | apply pw_below_drewN | apply below_drew1) | exact HB.out)))); have n2_ := Aside0.mk (below_step (by repeat (first | (with_reducible first | exact HB.out | apply below_alloc | apply pw_below_drewN | apply below_drew1) | exact HB.out)) hb); clear HO202; clear HB; have HO202 := n0_; have HO205 := n1_; have HB := n2_; clear n0_ n1_ n2_; (try clear hb); (try clear hb2); (try clear hk); (try clear hi); (try clear ho0))))
      (try simp only [Act.put, List.setIfInBounds_toArray, List.set_cons_zero, List.set_cons_succ])
      go_cut [27] (fun v27 wc => ∃ (kq : Nat) (x27_7 : Bool), v27 = .bool x27_7 ∧ Aside0 (caulklaw38_DedupeAlike.j0 kq l0 t200 t203 x27_7 = some r) ∧ Aside0 (kq ≤ k) ∧ Aside0 (Kd.R (Kd.int .i64) 3 wc w.heap.size (fun _ => True) v201 t200) ∧ Aside0 (Kd.R (Kd.int .u32) 27 wc w.heap.size (fun _ => True) v204 t203) ∧ Aside0 (Below w.heap.size w wc))
      case first =>
        have H := HC8.out
        clear HC8
        by_cases c12 : (t200.length : Int) = (l0.length : Int)
        · rw [if_pos c12] at H
          have c12b0 : ((t200.length : Int) == (l0.length : Int)) = true := beq_iff_eq.mpr c12
          have c12b1 : ((t200.length : Int) != (l0.length : Int)) = false := bne_eq_false_iff_eq.mpr c12
          have c12b2 : (t200.length == l0.length) = true := by first | simpa using c12 | (simp at c12 ⊢; omega)
          clear c12
          (first | rw [c12b0] | (simp only [i64_w, i32_w]; rw [c12b0]) | skip)
          have H' := Aside0.mk H
          clear H
          obtain ⟨Ao13, co13, eo13⟩ := Kd.R_slice HO202.out
          subst eo13
          obtain ⟨Ao14, co14, eo14⟩ := Kd.R_slice HO205.out
          subst eo14
          go_wp2
          repeat (go_quiet (fail); try go_wp2)
          go_meet
          case rel => exact ⟨_, (((t203.length : Int) != (l0.length : Int))), (by first | rfl | (simp; done) | (simp [*]; done)), H', ⟨by first | omega | exact Nat.le_refl _⟩, ⟨by (with_reducible repeat (first | apply Kd.R_alloc | apply Kd.R_drewN | apply Kd.R_drew)); exact HO202.out⟩, ⟨by (with_reducible repeat (first | apply Kd.R_alloc | apply Kd.R_drewN | apply Kd.R_drew)); exact HO205.out⟩, ⟨by repeat (first | (with_reducible first | exact HB.out | apply below_alloc | apply pw_below_drewN | apply below_drew1) | exact HB.out)⟩⟩
        · rw [if_neg c12] at H
          have c12b0 : ((t200.length : Int) == (l0.length : Int)) = false := beq_eq_false_iff_ne.mpr c12
          have c12b1 : ((t200.length : Int) != (l0.length : Int)) = true := bne_iff_ne.mpr c12
          have c12b2 : (t200.length == l0.length) = false := by first | simpa using c12 | (simp at c12 ⊢; omega)
          (first | rw [c12b0] | (simp only [i64_w, i32_w]; rw [c12b0]) | skip)
          have H' := Aside0.mk H
          clear H
          obtain ⟨Ao15, co15, eo15⟩ := Kd.R_slice HO202.out
          subst eo15
          go_wp2
          repeat (go_quiet (fail); try go_wp2)
          go_meet
          case rel => exact ⟨_, (true), (by first | rfl | (simp; done) | (simp [*]; done)), H', ⟨by first | omega | exact Nat.le_refl _⟩, ⟨by (with_reducible repeat (first | apply Kd.R_alloc | apply Kd.R_drewN | apply Kd.R_drew)); exact HO202.out⟩, ⟨by (with_reducible repeat (first | apply Kd.R_alloc | apply Kd.R_drewN | apply Kd.R_drew)); exact HO205.out⟩, ⟨by repeat (first | (with_reducible first | exact HB.out | apply below_alloc | apply pw_below_drewN | apply below_drew1) | exact HB.out)⟩⟩
      case rest =>
        clear HC8
        try clear c1
        try clear p2
        try clear c3
        try clear c4
        try clear c5
        try clear c12
        try clear c12b0
        try clear c12b1
        try clear c12b2
        obtain ⟨kq, x27_7, rfl, HA, HJ7, HO_3, HO_4, HB⟩ := hcut
        cases kq with
        | zero => exact absurd HA.out (by simp [caulklaw38_DedupeAlike.j0])
        | succ kj7 =>
          have H := HA.out
          clear HA
          simp only [caulklaw38_DedupeAlike.j0] at H
          by_cases c16 : x27_7 = true
          · subst c16
            have H1 : (none) = some r := by rw [if_pos rfl] at H; exact H
            clear H
            have H := H1
            clear H1
            exact absurd H (by simp)
          · replace c16 := Bool.eq_false_iff.mpr c16
            subst c16
            have H1 : (caulklaw38_DedupeAlike.l0 kj7 l0 t200 t203 (l0.length : Int) 0) = some r := by rw [if_neg (show ¬ (false = true) by decide)] at H; exact H
            clear H
            have H := H1
            clear H1
            have H' := Aside0.mk H
            clear H
            go_wp2
            repeat (go_quiet (fail); try go_wp2)
            go_loopg [30] kj7 (fun kq v30 w' => ∃ (x30_2 : Int), v30 = .int .i64 x30_2 ∧ Aside0 (caulklaw38_DedupeAlike.l0 kq l0 t200 t203 (l0.length : Int) x30_2 = some r) ∧ Aside0 (kq ≤ kj7) ∧ Aside0 (Kd.R (Kd.int .i64) 3 w' w.heap.size (fun _ => True) v201 t200) ∧ Aside0 (Kd.R (Kd.int .u32) 27 w' w.heap.size (fun _ => True) v204 t203) ∧ Aside0 (Below w.heap.size w w'))
            case atStart => exact ⟨(0), (by first | rfl | (simp; done) | (simp [*]; done)), H', ⟨Nat.le_refl _⟩, ⟨by (with_reducible repeat (first | apply Kd.R_alloc | apply Kd.R_drewN | apply Kd.R_drew)); exact HO_3.out⟩, ⟨by (with_reducible repeat (first | apply Kd.R_alloc | apply Kd.R_drewN | apply Kd.R_drew)); exact HO_4.out⟩, ⟨by repeat (first | (with_reducible first | exact HB.out | apply below_alloc | apply pw_below_drewN | apply below_drew1) | exact HB.out)⟩⟩
            case round =>
              clear H'
              try clear c1
              try clear p2
              try clear c3
              try clear c4
              try clear c5
              try clear c12
              try clear c12b0
              try clear c12b1
              try clear c12b2
              try clear c16
              try clear p2
              obtain ⟨x30_2, rfl, HA, HK2, HO_3, HO_4, HB⟩ := hrel
              cases gk with
              | zero => exact absurd HA.out (by simp [caulklaw38_DedupeAlike.l0])
              | succ k2 =>
                have H := HA.out
                clear HA
                simp only [caulklaw38_DedupeAlike.l0] at H
                by_cases c17 : x30_2 < (l0.length : Int)
                · rw [if_pos c17] at H
                  have c17b0 : decide (x30_2 < (l0.length : Int)) = true := decide_eq_true c17
                  clear c17
                  have HC18 := Aside0.mk H
                  clear H
                  go_upto_region 11 with (fail)
                  repeat (go_quiet (fail); go_upto_region 11 with (fail))
                  go_cut [87] (fun v87 wc => ∃ (kq : Nat) (x87_17 : Bool), v87 = .bool x87_17 ∧ Aside0 (caulklaw38_DedupeAlike.j2 kq l0 t200 t203 x30_2 (l0.length : Int) x30_2 x87_17 = some r) ∧ Aside0 (kq ≤ k2) ∧ Aside0 (Kd.R (Kd.int .i64) 3 wc w.heap.size (fun _ => True) v201 t200) ∧ Aside0 (Kd.R (Kd.int .u32) 27 wc w.heap.size (fun _ => True) v204 t203) ∧ Aside0 (Below w.heap.size w wc))
                  case first =>
                    have H := HC18.out
                    clear HC18
                    by_cases c19 : 0 ≤ x30_2
                    · rw [if_pos c19] at H
                      have c19b0 : decide (0 ≤ x30_2) = true := decide_eq_true c19
                      clear c19
                      (first | rw [c19b0] | (simp only [i64_w, i32_w]; rw [c19b0]) | skip)
                      by_cases c20 : x30_2 < (t200.length : Int)
                      · rw [if_pos c20] at H
                        have c20b0 : decide (x30_2 < (t200.length : Int)) = true := decide_eq_true c20
                        clear c20
                        by_cases c21 : (rd t200 x30_2) < 0
                        · rw [if_pos c21] at H
                          have c21b0 : decide ((rd t200 x30_2) < 0) = true := decide_eq_true c21
                          clear c21
                          have H' := Aside0.mk H
                          clear H
                          obtain ⟨Ao22, co22, eo22⟩ := Kd.R_slice HO_3.out
                          subst eo22
                          have p206 : 0 ≤ (x30_2 : Int) := of_decide_eq_true (by first | (with_reducible assumption) | assumption)
                          have q206 : x30_2 < (t200.length : Int) := of_decide_eq_true (by first | (with_reducible assumption) | assumption)
                          obtain ⟨ad206, e206, hx206_0⟩ := Kd.at_int (Kd.R_reads' HO_3.out).2.2 x30_2 p206 q206
                          cases e206
                          replace p206 := eq_true p206
                          replace q206 := eq_true q206
                          go_wp2
                          repeat (go_quiet (fail); try go_wp2)
                          go_meet
                          case rel => exact ⟨_, (true), (by first | rfl | (simp; done) | (simp [*]; done)), H', ⟨by have := HJ7.out; have := HK2.out; first | omega | exact Nat.le_refl _⟩, ⟨by (with_reducible repeat (first | apply Kd.R_alloc | apply Kd.R_drewN | apply Kd.R_drew)); exact HO_3.out⟩, ⟨by (with_reducible repeat (first | apply Kd.R_alloc | apply Kd.R_drewN | apply Kd.R_drew)); exact HO_4.out⟩, ⟨by repeat (first | (with_reducible first | exact HB.out | apply below_alloc | apply pw_below_drewN | apply below_drew1) | exact HB.out)⟩⟩
                        · rw [if_neg c21] at H
                          have c21b0 : decide ((rd t200 x30_2) < 0) = false := decide_eq_false c21
                          clear c21
                          by_cases c23 : (rd t200 x30_2) > x30_2
                          · rw [if_pos c23] at H
                            have c23b0 : decide (x30_2 < (rd t200 x30_2)) = true := decide_eq_true c23
                            clear c23
                            have H' := Aside0.mk H
                            clear H
                            obtain ⟨Ao24, co24, eo24⟩ := Kd.R_slice HO_3.out
                            subst eo24
                            have p206 : 0 ≤ (x30_2 : Int) := of_decide_eq_true (by first | (with_reducible assumption) | assumption)
                            have q206 : x30_2 < (t200.length : Int) := of_decide_eq_true (by first | (with_reducible assumption) | assumption)
                            obtain ⟨ad206, e206, hx206_0⟩ := Kd.at_int (Kd.R_reads' HO_3.out).2.2 x30_2 p206 q206
                            cases e206
                            replace p206 := eq_true p206
                            replace q206 := eq_true q206
                            have p207 : 0 ≤ (x30_2 : Int) := of_decide_eq_true (by first | (with_reducible assumption) | assumption)
                            have q207 : x30_2 < (t200.length : Int) := of_decide_eq_true (by first | (with_reducible assumption) | assumption)
                            obtain ⟨ad207, e207, hx207_0⟩ := Kd.at_int (Kd.R_reads' HO_3.out).2.2 x30_2 p207 q207
                            obtain rfl : ad206 = ad207 := (by injection e207)
                            replace p207 := eq_true p207
                            replace q207 := eq_true q207
                            go_wp2
                            repeat (go_quiet (fail); try go_wp2)
                            go_meet
                            case rel => exact ⟨_, (true), (by first | rfl | (simp; done) | (simp [*]; done)), H', ⟨by have := HJ7.out; have := HK2.out; first | omega | exact Nat.le_refl _⟩, ⟨by (with_reducible repeat (first | apply Kd.R_alloc | apply Kd.R_drewN | apply Kd.R_drew)); exact HO_3.out⟩, ⟨by (with_reducible repeat (first | apply Kd.R_alloc | apply Kd.R_drewN | apply Kd.R_drew)); exact HO_4.out⟩, ⟨by repeat (first | (with_reducible first | exact HB.out | apply below_alloc | apply pw_below_drewN | apply below_drew1) | exact HB.out)⟩⟩
                          · rw [if_neg c23] at H
                            have c23b0 : decide (x30_2 < (rd t200 x30_2)) = false := decide_eq_false c23
                            clear c23
                            by_cases c25 : 0 ≤ (rd t200 x30_2)
                            · rw [if_pos c25] at H
                              have c25b0 : decide (0 ≤ (rd t200 x30_2)) = true := decide_eq_true c25
                              clear c25
                              by_cases c26 : (rd t200 x30_2) < (t200.length : Int)
                              · rw [if_pos c26] at H
                                have c26b0 : decide ((rd t200 x30_2) < (t200.length : Int)) = true := decide_eq_true c26
                                clear c26
                                by_cases c27 : (rd t200 (rd t200 x30_2)) = (rd t200 x30_2)
                                · rw [if_pos c27] at H
                                  have c27b0 : ((rd t200 (rd t200 x30_2)) == (rd t200 x30_2)) = true := beq_iff_eq.mpr c27
                                  have c27b1 : ((rd t200 (rd t200 x30_2)) != (rd t200 x30_2)) = false := bne_eq_false_iff_eq.mpr c27
                                  clear c27
                                  by_cases c28 : (rd t200 x30_2) < (l0.length : Int)
                                  · rw [if_pos c28] at H
                                    have c28b0 : decide ((rd t200 x30_2) < (l0.length : Int)) = true := decide_eq_true c28
                                    clear c28
                                    by_cases c29 : x30_2 < (l0.length : Int)
                                    · rw [if_pos c29] at H
                                      have c29b0 : decide (x30_2 < (l0.length : Int)) = true := decide_eq_true c29
                                      clear c29
                                      by_cases c30 : (rdOf ByteArray.empty l0 (rd t200 x30_2)).toList = (rdOf ByteArray.empty l0 x30_2).toList
                                      · rw [if_pos c30] at H
                                        have c30b0 : ((rdOf ByteArray.empty l0 (rd t200 x30_2)).toList == (rdOf ByteArray.empty l0 x30_2).toList) = true := beq_iff_eq.mpr c30
                                        have c30b1 : ((rdOf ByteArray.empty l0 (rd t200 x30_2)).toList != (rdOf ByteArray.empty l0 x30_2).toList) = false := bne_eq_false_iff_eq.mpr c30
                                        clear c30
                                        by_cases c31 : (rd t200 x30_2) < (t203.length : Int)
                                        · rw [if_pos c31] at H
                                          have c31b0 : decide ((rd t200 x30_2) < (t203.length : Int)) = true := decide_eq_true c31
                                          clear c31
                                          by_cases c32 : x30_2 < (t203.length : Int)
                                          · rw [if_pos c32] at H
                                            have c32b0 : decide (x30_2 < (t203.length : Int)) = true := decide_eq_true c32
                                            clear c32
                                            have H' := Aside0.mk H
                                            clear H
                                            obtain ⟨Ao33, co33, eo33⟩ := Kd.R_slice HO_3.out
                                            subst eo33
                                            have p206 : 0 ≤ (x30_2 : Int) := of_decide_eq_true (by first | (with_reducible assumption) | assumption)
                                            have q206 : x30_2 < (t200.length : Int) := of_decide_eq_true (by first | (with_reducible assumption) | assumption)
                                            obtain ⟨ad206, e206, hx206_0⟩ := Kd.at_int (Kd.R_reads' HO_3.out).2.2 x30_2 p206 q206
                                            cases e206
                                            replace p206 := eq_true p206
                                            replace q206 := eq_true q206
                                            have p207 : 0 ≤ (x30_2 : Int) := of_decide_eq_true (by first | (with_reducible assumption) | assumption)
                                            have q207 : x30_2 < (t200.length : Int) := of_decide_eq_true (by first | (with_reducible assumption) | assumption)
                                            obtain ⟨ad207, e207, hx207_0⟩ := Kd.at_int (Kd.R_reads' HO_3.out).2.2 x30_2 p207 q207
                                            obtain rfl : ad206 = ad207 := (by injection e207)
                                            replace p207 := eq_true p207
                                            replace q207 := eq_true q207
                                            have p208 : 0 ≤ (x30_2 : Int) := of_decide_eq_true (by first | (with_reducible assumption) | assumption)
                                            have q208 : x30_2 < (t200.length : Int) := of_decide_eq_true (by first | (with_reducible assumption) | assumption)
                                            obtain ⟨ad208, e208, hx208_0⟩ := Kd.at_int (Kd.R_reads' HO_3.out).2.2 x30_2 p208 q208
                                            obtain rfl : ad206 = ad208 := (by injection e208)
                                            replace p208 := eq_true p208
                                            replace q208 := eq_true q208
                                            have p209 : 0 ≤ ((rd t200 x30_2) : Int) := of_decide_eq_true (by first | (with_reducible assumption) | assumption)
                                            have q209 : (rd t200 x30_2) < (t200.length : Int) := of_decide_eq_true (by first | (with_reducible assumption) | assumption)
                                            obtain ⟨ad209, e209, hx209_0⟩ := Kd.at_int (Kd.R_reads' HO_3.out).2.2 (rd t200 x30_2) p209 q209
                                            obtain rfl : ad206 = ad209 := (by injection e209)
                                            replace p209 := eq_true p209
                                            replace q209 := eq_true q209
                                            have p210 : 0 ≤ (x30_2 : Int) := of_decide_eq_true (by first | (with_reducible assumption) | assumption)
                                            have q210 : x30_2 < (t200.length : Int) := of_decide_eq_true (by first | (with_reducible assumption) | assumption)
                                            obtain ⟨ad210, e210, hx210_0⟩ := Kd.at_int (Kd.R_reads' HO_3.out).2.2 x30_2 p210 q210
                                            obtain rfl : ad206 = ad210 := (by injection e210)
                                            replace p210 := eq_true p210
                                            replace q210 := eq_true q210
                                            have p211 : 0 ≤ (x30_2 : Int) := of_decide_eq_true (by first | (with_reducible assumption) | assumption)
                                            have q211 : x30_2 < (t200.length : Int) := of_decide_eq_true (by first | (with_reducible assumption) | assumption)
                                            obtain ⟨ad211, e211, hx211_0⟩ := Kd.at_int (Kd.R_reads' HO_3.out).2.2 x30_2 p211 q211
                                            obtain rfl : ad206 = ad211 := (by injection e211)
                                            replace p211 := eq_true p211
                                            replace q211 := eq_true q211
                                            have p212 : 0 ≤ ((rd t200 x30_2) : Int) := of_decide_eq_true (by first | (with_reducible assumption) | assumption)
                                            have q212 : (rd t200 x30_2) < (l0.length : Int) := of_decide_eq_true (by first | (with_reducible assumption) | assumption)
                                            obtain ⟨ad212, e212, hx212_0⟩ := Kd.at_string HR0.out (rd t200 x30_2) p212 q212
                                            cases e212
                                            replace hx212_0 := (HB.out.cell (World.block_lt_of_cell? w _ hx212_0)).trans hx212_0
                                            replace p212 := eq_true p212
                                            replace q212 := eq_true q212
                                            have p213 : 0 ≤ (x30_2 : Int) := of_decide_eq_true (by first | (with_reducible assumption) | assumption)
                                            have q213 : x30_2 < (l0.length : Int) := of_decide_eq_true (by first | (with_reducible assumption) | assumption)
                                            obtain ⟨ad213, e213, hx213_0⟩ := Kd.at_string HR0.out x30_2 p213 q213
                                            obtain rfl : ad212 = ad213 := (by injection e213)
                                            replace hx213_0 := (HB.out.cell (World.block_lt_of_cell? w _ hx213_0)).trans hx213_0
                                            replace p213 := eq_true p213
                                            replace q213 := eq_true q213
                                            have p214 : 0 ≤ (x30_2 : Int) := of_decide_eq_true (by first | (with_reducible assumption) | assumption)
                                            have q214 : x30_2 < (t200.length : Int) := of_decide_eq_true (by first | (with_reducible assumption) | assumption)
                                            obtain ⟨ad214, e214, hx214_0⟩ := Kd.at_int (Kd.R_reads' HO_3.out).2.2 x30_2 p214 q214
                                            obtain rfl : ad206 = ad214 := (by injection e214)
                                            replace p214 := eq_true p214
                                            replace q214 := eq_true q214
                                            obtain ⟨Ao34, co34, eo34⟩ := Kd.R_slice HO_4.out
                                            subst eo34
                                            have p215 : 0 ≤ ((rd t200 x30_2) : Int) := of_decide_eq_true (by first | (with_reducible assumption) | assumption)
                                            have q215 : (rd t200 x30_2) < (t203.length : Int) := of_decide_eq_true (by first | (with_reducible assumption) | assumption)
                                            obtain ⟨ad215, e215, hx215_0⟩ := Kd.at_int (Kd.R_reads' HO_4.out).2.2 (rd t200 x30_2) p215 q215
                                            cases e215
                                            replace p215 := eq_true p215
                                            replace q215 := eq_true q215
                                            have p216 : 0 ≤ (x30_2 : Int) := of_decide_eq_true (by first | (with_reducible assumption) | assumption)
                                            have q216 : x30_2 < (t203.length : Int) := of_decide_eq_true (by first | (with_reducible assumption) | assumption)
                                            obtain ⟨ad216, e216, hx216_0⟩ := Kd.at_int (Kd.R_reads' HO_4.out).2.2 x30_2 p216 q216
                                            obtain rfl : ad215 = ad216 := (by injection e216)
                                            replace p216 := eq_true p216
                                            replace q216 := eq_true q216
                                            go_wp2
                                            repeat (go_quiet (fail); try go_wp2)
                                            go_meet
                                            case rel => exact ⟨_, (((rd t203 (rd t200 x30_2)) != (rd t203 x30_2))), (by first | rfl | (simp; done) | (simp [*]; done)), H', ⟨by have := HJ7.out; have := HK2.out; first | omega | exact Nat.le_refl _⟩, ⟨by (with_reducible repeat (first | apply Kd.R_alloc | apply Kd.R_drewN | apply Kd.R_drew)); exact HO_3.out⟩, ⟨by (with_reducible repeat (first | apply Kd.R_alloc | apply Kd.R_drewN | apply Kd.R_drew)); exact HO_4.out⟩, ⟨by repeat (first | (with_reducible first | exact HB.out | apply below_alloc | apply pw_below_drewN | apply below_drew1) | exact HB.out)⟩⟩
                                          · rw [if_neg c32] at H
                                            exact absurd H (by simp)
                                        · rw [if_neg c31] at H
                                          exact absurd H (by simp)
                                      · rw [if_neg c30] at H
                                        have c30b0 : ((rdOf ByteArray.empty l0 (rd t200 x30_2)).toList == (rdOf ByteArray.empty l0 x30_2).toList) = false := beq_eq_false_iff_ne.mpr c30
                                        have c30b1 : ((rdOf ByteArray.empty l0 (rd t200 x30_2)).toList != (rdOf ByteArray.empty l0 x30_2).toList) = true := bne_iff_ne.mpr c30
                                        have H' := Aside0.mk H
                                        clear H
                                        obtain ⟨Ao35, co35, eo35⟩ := Kd.R_slice HO_3.out
                                        subst eo35
                                        have p206 : 0 ≤ (x30_2 : Int) := of_decide_eq_true (by first | (with_reducible assumption) | assumption)
                                        have q206 : x30_2 < (t200.length : Int) := of_decide_eq_true (by first | (with_reducible assumption) | assumption)
                                        obtain ⟨ad206, e206, hx206_0⟩ := Kd.at_int (Kd.R_reads' HO_3.out).2.2 x30_2 p206 q206
                                        cases e206
                                        replace p206 := eq_true p206
                                        replace q206 := eq_true q206
                                        have p207 : 0 ≤ (x30_2 : Int) := of_decide_eq_true (by first | (with_reducible assumption) | assumption)
                                        have q207 : x30_2 < (t200.length : Int) := of_decide_eq_true (by first | (with_reducible assumption) | assumption)
                                        obtain ⟨ad207, e207, hx207_0⟩ := Kd.at_int (Kd.R_reads' HO_3.out).2.2 x30_2 p207 q207
                                        obtain rfl : ad206 = ad207 := (by injection e207)
                                        replace p207 := eq_true p207
                                        replace q207 := eq_true q207
                                        have p208 : 0 ≤ (x30_2 : Int) := of_decide_eq_true (by first | (with_reducible assumption) | assumption)
                                        have q208 : x30_2 < (t200.length : Int) := of_decide_eq_true (by first | (with_reducible assumption) | assumption)
                                        obtain ⟨ad208, e208, hx208_0⟩ := Kd.at_int (Kd.R_reads' HO_3.out).2.2 x30_2 p208 q208
                                        obtain rfl : ad206 = ad208 := (by injection e208)
                                        replace p208 := eq_true p208
                                        replace q208 := eq_true q208
                                        have p209 : 0 ≤ ((rd t200 x30_2) : Int) := of_decide_eq_true (by first | (with_reducible assumption) | assumption)
                                        have q209 : (rd t200 x30_2) < (t200.length : Int) := of_decide_eq_true (by first | (with_reducible assumption) | assumption)
                                        obtain ⟨ad209, e209, hx209_0⟩ := Kd.at_int (Kd.R_reads' HO_3.out).2.2 (rd t200 x30_2) p209 q209
                                        obtain rfl : ad206 = ad209 := (by injection e209)
                                        replace p209 := eq_true p209
                                        replace q209 := eq_true q209
                                        have p210 : 0 ≤ (x30_2 : Int) := of_decide_eq_true (by first | (with_reducible assumption) | assumption)
                                        have q210 : x30_2 < (t200.length : Int) := of_decide_eq_true (by first | (with_reducible assumption) | assumption)
                                        obtain ⟨ad210, e210, hx210_0⟩ := Kd.at_int (Kd.R_reads' HO_3.out).2.2 x30_2 p210 q210
                                        obtain rfl : ad206 = ad210 := (by injection e210)
                                        replace p210 := eq_true p210
                                        replace q210 := eq_true q210
                                        have p211 : 0 ≤ (x30_2 : Int) := of_decide_eq_true (by first | (with_reducible assumption) | assumption)
                                        have q211 : x30_2 < (t200.length : Int) := of_decide_eq_true (by first | (with_reducible assumption) | assumption)
                                        obtain ⟨ad211, e211, hx211_0⟩ := Kd.at_int (Kd.R_reads' HO_3.out).2.2 x30_2 p211 q211
                                        obtain rfl : ad206 = ad211 := (by injection e211)
                                        replace p211 := eq_true p211
                                        replace q211 := eq_true q211
                                        have p212 : 0 ≤ ((rd t200 x30_2) : Int) := of_decide_eq_true (by first | (with_reducible assumption) | assumption)
                                        have q212 : (rd t200 x30_2) < (l0.length : Int) := of_decide_eq_true (by first | (with_reducible assumption) | assumption)
                                        obtain ⟨ad212, e212, hx212_0⟩ := Kd.at_string HR0.out (rd t200 x30_2) p212 q212
                                        cases e212
                                        replace hx212_0 := (HB.out.cell (World.block_lt_of_cell? w _ hx212_0)).trans hx212_0
                                        replace p212 := eq_true p212
                                        replace q212 := eq_true q212
                                        have p213 : 0 ≤ (x30_2 : Int) := of_decide_eq_true (by first | (with_reducible assumption) | assumption)
                                        have q213 : x30_2 < (l0.length : Int) := of_decide_eq_true (by first | (with_reducible assumption) | assumption)
                                        obtain ⟨ad213, e213, hx213_0⟩ := Kd.at_string HR0.out x30_2 p213 q213
                                        obtain rfl : ad212 = ad213 := (by injection e213)
                                        replace hx213_0 := (HB.out.cell (World.block_lt_of_cell? w _ hx213_0)).trans hx213_0
                                        replace p213 := eq_true p213
                                        replace q213 := eq_true q213
                                        go_wp2
                                        repeat (go_quiet (fail); try go_wp2)
                                        go_meet
                                        case rel => exact ⟨_, (true), (by first | rfl | (simp; done) | (simp [*]; done)), H', ⟨by have := HJ7.out; have := HK2.out; first | omega | exact Nat.le_refl _⟩, ⟨by (with_reducible repeat (first | apply Kd.R_alloc | apply Kd.R_drewN | apply Kd.R_drew)); exact HO_3.out⟩, ⟨by (with_reducible repeat (first | apply Kd.R_alloc | apply Kd.R_drewN | apply Kd.R_drew)); exact HO_4.out⟩, ⟨by repeat (first | (with_reducible first | exact HB.out | apply below_alloc | apply pw_below_drewN | apply below_drew1) | exact HB.out)⟩⟩
                                    · rw [if_neg c29] at H
                                      exact absurd H (by simp)
                                  · rw [if_neg c28] at H
                                    exact absurd H (by simp)
                                · rw [if_neg c27] at H
                                  have c27b0 : ((rd t200 (rd t200 x30_2)) == (rd t200 x30_2)) = false := beq_eq_false_iff_ne.mpr c27
                                  have c27b1 : ((rd t200 (rd t200 x30_2)) != (rd t200 x30_2)) = true := bne_iff_ne.mpr c27
                                  have H' := Aside0.mk H
                                  clear H
                                  obtain ⟨Ao36, co36, eo36⟩ := Kd.R_slice HO_3.out
                                  subst eo36
                                  have p206 : 0 ≤ (x30_2 : Int) := of_decide_eq_true (by first | (with_reducible assumption) | assumption)
                                  have q206 : x30_2 < (t200.length : Int) := of_decide_eq_true (by first | (with_reducible assumption) | assumption)
                                  obtain ⟨ad206, e206, hx206_0⟩ := Kd.at_int (Kd.R_reads' HO_3.out).2.2 x30_2 p206 q206
                                  cases e206
                                  replace p206 := eq_true p206
                                  replace q206 := eq_true q206
                                  have p207 : 0 ≤ (x30_2 : Int) := of_decide_eq_true (by first | (with_reducible assumption) | assumption)
                                  have q207 : x30_2 < (t200.length : Int) := of_decide_eq_true (by first | (with_reducible assumption) | assumption)
                                  obtain ⟨ad207, e207, hx207_0⟩ := Kd.at_int (Kd.R_reads' HO_3.out).2.2 x30_2 p207 q207
                                  obtain rfl : ad206 = ad207 := (by injection e207)
                                  replace p207 := eq_true p207
                                  replace q207 := eq_true q207
                                  have p208 : 0 ≤ (x30_2 : Int) := of_decide_eq_true (by first | (with_reducible assumption) | assumption)
                                  have q208 : x30_2 < (t200.length : Int) := of_decide_eq_true (by first | (with_reducible assumption) | assumption)
                                  obtain ⟨ad208, e208, hx208_0⟩ := Kd.at_int (Kd.R_reads' HO_3.out).2.2 x30_2 p208 q208
                                  obtain rfl : ad206 = ad208 := (by injection e208)
                                  replace p208 := eq_true p208
                                  replace q208 := eq_true q208
                                  have p209 : 0 ≤ ((rd t200 x30_2) : Int) := of_decide_eq_true (by first | (with_reducible assumption) | assumption)
                                  have q209 : (rd t200 x30_2) < (t200.length : Int) := of_decide_eq_true (by first | (with_reducible assumption) | assumption)
                                  obtain ⟨ad209, e209, hx209_0⟩ := Kd.at_int (Kd.R_reads' HO_3.out).2.2 (rd t200 x30_2) p209 q209
                                  obtain rfl : ad206 = ad209 := (by injection e209)
                                  replace p209 := eq_true p209
                                  replace q209 := eq_true q209
                                  have p210 : 0 ≤ (x30_2 : Int) := of_decide_eq_true (by first | (with_reducible assumption) | assumption)
                                  have q210 : x30_2 < (t200.length : Int) := of_decide_eq_true (by first | (with_reducible assumption) | assumption)
                                  obtain ⟨ad210, e210, hx210_0⟩ := Kd.at_int (Kd.R_reads' HO_3.out).2.2 x30_2 p210 q210
                                  obtain rfl : ad206 = ad210 := (by injection e210)
                                  replace p210 := eq_true p210
                                  replace q210 := eq_true q210
                                  go_wp2
                                  repeat (go_quiet (fail); try go_wp2)
                                  go_meet
                                  case rel => exact ⟨_, (true), (by first | rfl | (simp; done) | (simp [*]; done)), H', ⟨by have := HJ7.out; have := HK2.out; first | omega | exact Nat.le_refl _⟩, ⟨by (with_reducible repeat (first | apply Kd.R_alloc | apply Kd.R_drewN | apply Kd.R_drew)); exact HO_3.out⟩, ⟨by (with_reducible repeat (first | apply Kd.R_alloc | apply Kd.R_drewN | apply Kd.R_drew)); exact HO_4.out⟩, ⟨by repeat (first | (with_reducible first | exact HB.out | apply below_alloc | apply pw_below_drewN | apply below_drew1) | exact HB.out)⟩⟩
                              · rw [if_neg c26] at H
                                exact absurd H (by simp)
                            · rw [if_neg c25] at H
                              exact absurd H (by simp)
                      · rw [if_neg c20] at H
                        exact absurd H (by simp)
                    · rw [if_neg c19] at H
                      exact absurd H (by simp)
                  case rest =>
                    clear HC18
                    try clear c1
                    try clear c2
                    try clear p2
                    try clear q2
                    try clear hx2
                    try clear c3
                    try clear c4
                    try clear c5
                    try clear c12
                    try clear c12b0
                    try clear c12b1
                    try clear c12b2
                    try clear c16
                    try clear c17
                    try clear c17b0
                    try clear c19
                    try clear c19b0
                    try clear c20
                    try clear c20b0
                    try clear p20
                    try clear q20
                    try clear hx20
                    try clear c21
                    try clear c21b0
                    try clear p21
                    try clear q21
                    try clear hx21
                    try clear c23
                    try clear c23b0
                    try clear c25
                    try clear c25b0
                    try clear c26
                    try clear c26b0
                    try clear c27
                    try clear c27b0
                    try clear c27b1
                    try clear c28
                    try clear c28b0
                    try clear c29
                    try clear c29b0
                    try clear c30
                    try clear c30b0
                    try clear c30b1
                    try clear c31
                    try clear c31b0
                    try clear c32
                    try clear c32b0
                    try clear hx206_0
                    try clear hx207_0
                    try clear hx208_0
                    try clear hx209_0
                    try clear hx210_0
                    try clear hx211_0
                    try clear hx212_0
                    try clear hx213_0
                    try clear hx214_0
                    try clear hx215_0
                    try clear hx216_0
                    try clear p2
                    try clear p206
                    try clear p207
                    try clear p208
                    try clear p209
                    try clear p210
                    try clear p211
                    try clear p212
                    try clear p213
                    try clear p214
                    try clear p215
                    try clear p216
                    try clear q206
                    try clear q207
                    try clear q208
                    try clear q209
                    try clear q210
                    try clear q211
                    try clear q212
                    try clear q213
                    try clear q214
                    try clear q215
                    try clear q216
                    obtain ⟨kq, x87_17, rfl, HA, HJ17, HO_3, HO_4, HB⟩ := hcut
                    cases kq with
                    | zero => exact absurd HA.out (by simp [caulklaw38_DedupeAlike.j2])
                    | succ kj17 =>
                      have H := HA.out
                      clear HA
                      simp only [caulklaw38_DedupeAlike.j2] at H
                      by_cases c37 : x87_17 = true
                      · subst c37
                        have H1 : (none) = some r := by rw [if_pos rfl] at H; exact H
                        clear H
                        have H := H1
                        clear H1
                        exact absurd H (by simp)
                      · replace c37 := Bool.eq_false_iff.mpr c37
                        subst c37
                        have H1 : (caulklaw38_DedupeAlike.l1 kj17 l0 t200 t203 x30_2 (l0.length : Int) x30_2 x30_2 0) = some r := by rw [if_neg (show ¬ (false = true) by decide)] at H; exact H
                        clear H
                        have H := H1
                        clear H1
                        have H' := Aside0.mk H
                        clear H
                        go_wp2
                        repeat (go_quiet (fail); try go_wp2)
                        go_loopg [89] kj17 (fun kq v89 w' => ∃ (x89_4 : Int), v89 = .int .i64 x89_4 ∧ Aside0 (caulklaw38_DedupeAlike.l1 kq l0 t200 t203 x30_2 (l0.length : Int) x30_2 x30_2 x89_4 = some r) ∧ Aside0 (kq ≤ kj17) ∧ Aside0 (Kd.R (Kd.int .i64) 3 w' w.heap.size (fun _ => True) v201 t200) ∧ Aside0 (Kd.R (Kd.int .u32) 27 w' w.heap.size (fun _ => True) v204 t203) ∧ Aside0 (Below w.heap.size w w'))
                        case atStart => exact ⟨(0), (by first | rfl | (simp; done) | (simp [*]; done)), H', ⟨Nat.le_refl _⟩, ⟨by (with_reducible repeat (first | apply Kd.R_alloc | apply Kd.R_drewN | apply Kd.R_drew)); exact HO_3.out⟩, ⟨by (with_reducible repeat (first | apply Kd.R_alloc | apply Kd.R_drewN | apply Kd.R_drew)); exact HO_4.out⟩, ⟨by repeat (first | (with_reducible first | exact HB.out | apply below_alloc | apply pw_below_drewN | apply below_drew1) | exact HB.out)⟩⟩
                        case round =>
                          clear H'
                          try clear c1
                          try clear c2
                          try clear p2
                          try clear q2
                          try clear hx2
                          try clear c3
                          try clear c4
                          try clear c5
                          try clear c12
                          try clear c12b0
                          try clear c12b1
                          try clear c12b2
                          try clear c16
                          try clear c17
                          try clear c17b0
                          try clear c19
                          try clear c19b0
                          try clear c20
                          try clear c20b0
                          try clear p20
                          try clear q20
                          try clear hx20
                          try clear c21
                          try clear c21b0
                          try clear p21
                          try clear q21
                          try clear hx21
                          try clear c23
                          try clear c23b0
                          try clear c25
                          try clear c25b0
                          try clear c26
                          try clear c26b0
                          try clear c27
                          try clear c27b0
                          try clear c27b1
                          try clear c28
                          try clear c28b0
                          try clear c29
                          try clear c29b0
                          try clear c30
                          try clear c30b0
                          try clear c30b1
                          try clear c31
                          try clear c31b0
                          try clear c32
                          try clear c32b0
                          try clear c37
                          try clear hx206_0
                          try clear hx207_0
                          try clear hx208_0
                          try clear hx209_0
                          try clear hx210_0
                          try clear hx211_0
                          try clear hx212_0
                          try clear hx213_0
                          try clear hx214_0
                          try clear hx215_0
                          try clear hx216_0
                          try clear p2
                          try clear p20
                          try clear p206
                          try clear p207
                          try clear p208
                          try clear p209
                          try clear p21
                          try clear p210
                          try clear p211
                          try clear p212
                          try clear p213
                          try clear p214
                          try clear p215
                          try clear p216
                          try clear q2
                          try clear q20
                          try clear q206
                          try clear q207
                          try clear q208
                          try clear q209
                          try clear q21
                          try clear q210
                          try clear q211
                          try clear q212
                          try clear q213
                          try clear q214
                          try clear q215
                          try clear q216
                          obtain ⟨x89_4, rfl, HA, HK4, HO_3, HO_4, HB⟩ := hrel
                          cases gk with
                          | zero => exact absurd HA.out (by simp [caulklaw38_DedupeAlike.l1])
                          | succ k4 =>
                            have H := HA.out
                            clear HA
                            simp only [caulklaw38_DedupeAlike.l1] at H
                            by_cases c38 : x89_4 < x30_2
                            · rw [if_pos c38] at H
                              have c38b0 : decide (x89_4 < x30_2) = true := decide_eq_true c38
                              clear c38
                              by_cases c39 : 0 ≤ x30_2
                              · rw [if_pos c39] at H
                                have c39b0 : decide (0 ≤ x30_2) = true := decide_eq_true c39
                                clear c39
                                by_cases c40 : x30_2 < (t200.length : Int)
                                · rw [if_pos c40] at H
                                  have c40b0 : decide (x30_2 < (t200.length : Int)) = true := decide_eq_true c40
                                  clear c40
                                  by_cases c41 : 0 ≤ x89_4
                                  · rw [if_pos c41] at H
                                    have c41b0 : decide (0 ≤ x89_4) = true := decide_eq_true c41
                                    clear c41
                                    by_cases c42 : x89_4 < (t200.length : Int)
                                    · rw [if_pos c42] at H
                                      have c42b0 : decide (x89_4 < (t200.length : Int)) = true := decide_eq_true c42
                                      clear c42
                                      by_cases c43 : x30_2 < (l0.length : Int)
                                      · rw [if_pos c43] at H
                                        have c43b0 : decide (x30_2 < (l0.length : Int)) = true := decide_eq_true c43
                                        clear c43
                                        by_cases c44 : x89_4 < (l0.length : Int)
                                        · rw [if_pos c44] at H
                                          have c44b0 : decide (x89_4 < (l0.length : Int)) = true := decide_eq_true c44
                                          clear c44
                                          by_cases c45 : (((rd t200 x30_2) == (rd t200 x89_4)) != ((rdOf ByteArray.empty l0 x30_2).toList == (rdOf ByteArray.empty l0 x89_4).toList)) = true
                                          · rw [if_pos c45] at H
                                            exact absurd H (by simp)
                                          · rw [if_neg c45] at H
                                            have c45b0 : (((rd t200 x30_2) == (rd t200 x89_4)) != ((rdOf ByteArray.empty l0 x30_2).toList == (rdOf ByteArray.empty l0 x89_4).toList)) = false := by simpa using c45
                                            (try (have c45b1 : decide (((rd t200 x30_2) == (rd t200 x89_4)) = ((rdOf ByteArray.empty l0 x30_2).toList == (rdOf ByteArray.empty l0 x89_4).toList)) = true := by simpa using c45))
                                            (try (have c45b2 : (((rd t200 x30_2) == (rd t200 x89_4)) == ((rdOf ByteArray.empty l0 x30_2).toList == (rdOf ByteArray.empty l0 x89_4).toList)) = true := by simpa using c45))
                                            clear c45
                                            have H' := Aside0.mk H
                                            clear H
                                            obtain ⟨Ao46, co46, eo46⟩ := Kd.R_slice HO_3.out
                                            subst eo46
                                            have p217 : 0 ≤ (x30_2 : Int) := of_decide_eq_true (by first | (with_reducible assumption) | assumption)
                                            have q217 : x30_2 < (t200.length : Int) := of_decide_eq_true (by first | (with_reducible assumption) | assumption)
                                            obtain ⟨ad217, e217, hx217_0⟩ := Kd.at_int (Kd.R_reads' HO_3.out).2.2 x30_2 p217 q217
                                            cases e217
                                            replace p217 := eq_true p217
                                            replace q217 := eq_true q217
                                            have p218 : 0 ≤ (x89_4 : Int) := of_decide_eq_true (by first | (with_reducible assumption) | assumption)
                                            have q218 : x89_4 < (t200.length : Int) := of_decide_eq_true (by first | (with_reducible assumption) | assumption)
                                            obtain ⟨ad218, e218, hx218_0⟩ := Kd.at_int (Kd.R_reads' HO_3.out).2.2 x89_4 p218 q218
                                            obtain rfl : ad217 = ad218 := (by injection e218)
                                            replace p218 := eq_true p218
                                            replace q218 := eq_true q218
                                            have p219 : 0 ≤ (x30_2 : Int) := of_decide_eq_true (by first | (with_reducible assumption) | assumption)
                                            have q219 : x30_2 < (l0.length : Int) := of_decide_eq_true (by first | (with_reducible assumption) | assumption)
                                            obtain ⟨ad219, e219, hx219_0⟩ := Kd.at_string HR0.out x30_2 p219 q219
                                            cases e219
                                            replace hx219_0 := (HB.out.cell (World.block_lt_of_cell? w _ hx219_0)).trans hx219_0
                                            replace p219 := eq_true p219
                                            replace q219 := eq_true q219
                                            have p220 : 0 ≤ (x89_4 : Int) := of_decide_eq_true (by first | (with_reducible assumption) | assumption)
                                            have q220 : x89_4 < (l0.length : Int) := of_decide_eq_true (by first | (with_reducible assumption) | assumption)
                                            obtain ⟨ad220, e220, hx220_0⟩ := Kd.at_string HR0.out x89_4 p220 q220
                                            obtain rfl : ad219 = ad220 := (by injection e220)
                                            replace hx220_0 := (HB.out.cell (World.block_lt_of_cell? w _ hx220_0)).trans hx220_0
                                            replace p220 := eq_true p220
                                            replace q220 := eq_true q220
                                            go_wp2
                                            repeat (go_quiet (fail); try go_wp2)
                                            go_roundg k4
                                            case measure => have := HJ7.out; have := HK2.out; have := HJ17.out; have := HK4.out; omega
                                            case rel => exact ⟨(wrap64 (x89_4 + 1)), (by first | rfl | (simp; done) | (simp [*]; done)), H', ⟨by have := HJ7.out; have := HK2.out; have := HJ17.out; have := HK4.out; omega⟩, ⟨by (with_reducible repeat (first | apply Kd.R_alloc | apply Kd.R_drewN | apply Kd.R_drew)); exact HO_3.out⟩, ⟨by (with_reducible repeat (first | apply Kd.R_alloc | apply Kd.R_drewN | apply Kd.R_drew)); exact HO_4.out⟩, ⟨by repeat (first | (with_reducible first | exact HB.out | apply below_alloc | apply pw_below_drewN | apply below_drew1) | exact HB.out)⟩⟩
                                        · rw [if_neg c44] at H
                                          exact absurd H (by simp)
                                      · rw [if_neg c43] at H
                                        exact absurd H (by simp)
                                    · rw [if_neg c42] at H
                                      exact absurd H (by simp)
                                  · rw [if_neg c41] at H
                                    exact absurd H (by simp)
                                · rw [if_neg c40] at H
                                  exact absurd H (by simp)
                              · rw [if_neg c39] at H
                                exact absurd H (by simp)
                            · rw [if_neg c38] at H
                              have c38b0 : decide (x89_4 < x30_2) = false := decide_eq_false c38
                              clear c38
                              have H' := Aside0.mk H
                              clear H
                              go_wp2
                              repeat (go_quiet (fail); try go_wp2)
                              go_roundg k4
                              case measure => have := HJ7.out; have := HK2.out; have := HJ17.out; have := HK4.out; omega
                              case rel => exact ⟨(wrap64 (x30_2 + 1)), (by first | rfl | (simp; done) | (simp [*]; done)), H', ⟨by have := HJ7.out; have := HK2.out; have := HJ17.out; have := HK4.out; omega⟩, ⟨by (with_reducible repeat (first | apply Kd.R_alloc | apply Kd.R_drewN | apply Kd.R_drew)); exact HO_3.out⟩, ⟨by (with_reducible repeat (first | apply Kd.R_alloc | apply Kd.R_drewN | apply Kd.R_drew)); exact HO_4.out⟩, ⟨by repeat (first | (with_reducible first | exact HB.out | apply below_alloc | apply pw_below_drewN | apply below_drew1) | exact HB.out)⟩⟩
                · rw [if_neg c17] at H
                  have c17b0 : decide (x30_2 < (l0.length : Int)) = false := decide_eq_false c17
                  clear c17
                  obtain rfl := Option.some.inj H
                  go_wp2
                  repeat (go_quiet (fail); try go_wp2)
                  go_ret
                  exact ⟨by first | rfl | (simp [errW_none, errW_some] <;> rfl) | (simp [*, errW_none, errW_some] <;> rfl), by repeat (first | (with_reducible first | exact HB.out | apply below_alloc | apply pw_below_drewN | apply below_drew1) | exact HB.out)⟩
    · replace c5 := Bool.eq_false_iff.mpr c5
      subst c5
      have H1 : (some true) = some r := by rw [if_neg (show ¬ (false = true) by decide)] at H; exact H
      clear H
      have H := H1
      clear H1
      obtain rfl := Option.some.inj H
      go_enter Tryd.func4, Tryd.ntmps4
      go_wp2_with (first | (go_at_call 7; (with_reducible refine (caulklaw38_lives.calls k  true _ ?side1 A2.out).mono ?_); (case side1 => first | exact HG.out | exact GT.below HG.out (by repeat (first | (with_reducible first | exact HB.out | apply below_alloc | apply pw_below_drewN | apply below_drew1) | exact HB.out))); rintro e w47 ⟨rfl, hb⟩; have n0_ := Aside0.mk (below_step (by repeat (first | (with_reducible first | exact HB.out | apply below_alloc | apply pw_below_drewN | apply below_drew1) | exact HB.out)) hb); clear HB; have HB := n0_; clear n0_; (try clear hb); (try clear hb2); (try clear hk); (try clear hi)) | (go_at_call 6; (with_reducible refine (caulklaw38_small.calls k _ _ l0 false _ ?side1 ?side2 A4.out).mono ?_); (case side1 => repeat (first | exact (Kd.C_below HR0.out HB.out) | (with_reducible refine Kd.C_alloc ?_ _) | (with_reducible refine Kd.C_drewN ?_ _) | (with_reducible refine Kd.C_drew ?_))); (case side2 => exact HC0.out); rintro e w' ⟨rfl, ⟨nd, rfl⟩⟩; (try first | exact ⟨rfl, _, World.drewN_drewN _ _ _⟩ | exact ⟨rfl, _, Eq.trans (World.drewN_drewN _ _ _) (congrArg (World.drewN _) (Nat.add_assoc _ _ _))⟩)))
      repeat (go_quiet (first | (go_at_call 7; (with_reducible refine (caulklaw38_lives.calls k  true _ ?side1 A2.out).mono ?_); (case side1 => first | exact HG.out | exact GT.below HG.out (by repeat (first | (with_reducible first | exact HB.out | apply below_alloc | apply pw_below_drewN | apply below_drew1) | exact HB.out))); rintro e w47 ⟨rfl, hb⟩; have n0_ := Aside0.mk (below_step (by repeat (first | (with_reducible first | exact HB.out | apply below_alloc | apply pw_below_drewN | apply below_drew1) | exact HB.out)) hb); clear HB; have HB := n0_; clear n0_; (try clear hb); (try clear hb2); (try clear hk); (try clear hi)) | (go_at_call 6; (with_reducible refine (caulklaw38_small.calls k _ _ l0 false _ ?side1 ?side2 A4.out).mono ?_); (case side1 => repeat (first | exact (Kd.C_below HR0.out HB.out) | (with_reducible refine Kd.C_alloc ?_ _) | (with_reducible refine Kd.C_drewN ?_ _) | (with_reducible refine Kd.C_drew ?_))); (case side2 => exact HC0.out); rintro e w' ⟨rfl, ⟨nd, rfl⟩⟩; (try first | exact ⟨rfl, _, World.drewN_drewN _ _ _⟩ | exact ⟨rfl, _, Eq.trans (World.drewN_drewN _ _ _) (congrArg (World.drewN _) (Nat.add_assoc _ _ _))⟩))); try go_wp2_with (first | (go_at_call 7; (with_reducible refine (caulklaw38_lives.calls k  true _ ?side1 A2.out).mono ?_); (case side1 => first | exact HG.out | exact GT.below HG.out (by repeat (first | (with_reducible first | exact HB.out | apply below_alloc | apply pw_below_drewN | apply below_drew1) | exact HB.out))); rintro e w47 ⟨rfl, hb⟩; have n0_ := Aside0.mk (below_step (by repeat (first | (with_reducible first | exact HB.out | apply below_alloc | apply pw_below_drewN | apply below_drew1) | exact HB.out)) hb); clear HB; have HB := n0_; clear n0_; (try clear hb); (try clear hb2); (try clear hk); (try clear hi)) | (go_at_call 6; (with_reducible refine (caulklaw38_small.calls k _ _ l0 false _ ?side1 ?side2 A4.out).mono ?_); (case side1 => repeat (first | exact (Kd.C_below HR0.out HB.out) | (with_reducible refine Kd.C_alloc ?_ _) | (with_reducible refine Kd.C_drewN ?_ _) | (with_reducible refine Kd.C_drew ?_))); (case side2 => exact HC0.out); rintro e w' ⟨rfl, ⟨nd, rfl⟩⟩; (try first | exact ⟨rfl, _, World.drewN_drewN _ _ _⟩ | exact ⟨rfl, _, Eq.trans (World.drewN_drewN _ _ _) (congrArg (World.drewN _) (Nat.add_assoc _ _ _))⟩))))
      go_ret
      exact ⟨by first | rfl | (simp [errW_none, errW_some] <;> rfl) | (simp [*, errW_none, errW_some] <;> rfl), by repeat (first | (with_reducible first | exact HB.out | apply below_alloc | apply pw_below_drewN | apply below_drew1) | exact HB.out)⟩
  · replace c3 := Bool.eq_false_iff.mpr c3
    subst c3
    have H1 : (none) = some r := by rw [if_neg (show ¬ (false = true) by decide)] at H; exact H
    clear H
    have H := H1
    clear H1
    exact absurd H (by simp)

def caulklaw38_DedupeAlike.Pure : Prop := ∀ (l0 : List ByteArray), (l0.length * 16 ≤ 140737488351232 ∧ ∀ x0_ ∈ l0, x0_.size ≤ 140737488351232) → ∃ k, caulklaw38_DedupeAlike.f k l0 = some true

end Go.Proofs.YtgiaopmakkdojaaDoor.G
