-- Written by a program of this session over the print of the translation (its own patch, foreign contracts, cut ways): not trusted: Lean checks it.
import Derived.Test.YtgiljibkjccgfaaGx0
import Derived.Test.YtgiljibkjccgfaaGx1
import Derived.Test.YtgiljibkjccgfaaGx2
import Derived.Test.YtgiljibkjccgfaaSpace
namespace Go.Proofs.Ytgiljibkjccgfaa.G
open Go.RowKit Go.Proofs.YtgiljibkjccgfaaW.PrintWords Go.Proofs.YtgiljibkjccgfaaW.PrintLast Go.Proofs.YtgiljibkjccgfaaW.PrintMore
attribute [local go_sem] max2_int min2_int max_two min_two max_three min_three max_four min_four   -- for this text's walks alone
set_option linter.unusedVariables false
set_option linter.unusedSimpArgs false

/-! ### caulklaw12_SpaceLowest: function 7 -/
mutual
def caulklaw12_SpaceLowest.j0 : Nat → List Bool → Int → List Bool → List Int → Bool → Option (Bool)
  | 0, _, _, _, _, _ => none
  | k + 1, x0, x1, x5, x6, x64 => if x64 = true then (none) else (caulklaw12_SpaceLowest.l0 k x0 x1 x5 x6 x6 (x6.length : Int) 0)
def caulklaw12_SpaceLowest.l0 : Nat → List Bool → Int → List Bool → List Int → List Int → Int → Int → Option (Bool)
  | 0, _, _, _, _, _, _, _ => none
  | k + 1, x0, x1, x5, x6, x65, x66, x67 => if x67 < x66 then (if 0 ≤ x67 then (if x67 < (x65.length : Int) then (if (rd x65 x67) < 0 then (none) else (if (rd x65 x67) ≥ (x0.length : Int) then (none) else (if 0 ≤ (rd x65 x67) then (if (rd x65 x67) < (x0.length : Int) then (if rdOf false x0 (rd x65 x67) = true then (none) else (if (rd x65 x67) < (x5.length : Int) then (if (rdOf false x5 (rd x65 x67) = true) then (if x67 > 0 then (if 0 ≤ (wrap64 (x67 - 1)) then (if (wrap64 (x67 - 1)) < (x6.length : Int) then (if (rd x6 (wrap64 (x67 - 1))) ≥ (rd x65 x67) then (none) else (caulklaw12_SpaceLowest.l0 k x0 x1 x5 x6 x65 x66 (wrap64 (x67 + 1)))) else (none)) else (none)) else (caulklaw12_SpaceLowest.l0 k x0 x1 x5 x6 x65 x66 (wrap64 (x67 + 1)))) else (none)) else (none))) else (none)) else (none)))) else (none)) else (none)) else (caulklaw12_SpaceLowest.l1 k x0 x1 x5 x6 (x5.length : Int) 0)
def caulklaw12_SpaceLowest.l1 : Nat → List Bool → Int → List Bool → List Int → Int → Int → Option (Bool)
  | 0, _, _, _, _, _, _ => none
  | k + 1, x0, x1, x5, x6, x108, x109 => if x109 < x108 then (if x1 > 0 then (if 0 ≤ (wrap64 (x1 - 1)) then (if (wrap64 (x1 - 1)) < (x6.length : Int) then (if x109 < (rd x6 (wrap64 (x1 - 1))) then (if 0 ≤ x109 then (if x109 < (x5.length : Int) then (if rdOf false x5 x109 = true then (caulklaw12_SpaceLowest.l1 k x0 x1 x5 x6 x108 (wrap64 (x109 + 1))) else (none)) else (none)) else (none)) else (caulklaw12_SpaceLowest.l1 k x0 x1 x5 x6 x108 (wrap64 (x109 + 1)))) else (none)) else (none)) else (caulklaw12_SpaceLowest.l1 k x0 x1 x5 x6 x108 (wrap64 (x109 + 1)))) else ((space_Give.f k x5 x6).bind fun bt317 => (if bt317.2 = 0 then ((caulkref12_Same.f k bt317.1 x0).bind fun t321 => (some t321)) else (none)))
end
def caulklaw12_SpaceLowest.f (k : Nat) (l0 : List Bool) (a1 : Int) : Option (Bool) := (caulklaw12_lives.f k).bind fun t299 => (if t299 = true then (if (l0.length : Int) > 5000 then (some true) else ((space_Take.f l0 a1).bind fun bt300 => (if bt300.2.2 = 0 then (if (bt300.2.1.length : Int) = a1 then (if (bt300.1.length : Int) = (l0.length : Int) then ((space_Free.f bt300.1).bind fun t309 => ((space_Free.f l0).bind fun t310 => (caulklaw12_SpaceLowest.j0 k l0 a1 bt300.1 bt300.2.1 (t309 != (wrap64 (t310 - a1)))))) else (caulklaw12_SpaceLowest.j0 k l0 a1 bt300.1 bt300.2.1 true)) else (caulklaw12_SpaceLowest.j0 k l0 a1 bt300.1 bt300.2.1 true)) else (if (bt300.2.1.length : Int) = 0 then ((caulkref12_Same.f k bt300.1 l0).bind fun t307 => (if t307 = true then (if a1 < 0 then (some true) else ((space_Free.f l0).bind fun t308 => (some (decide (t308 < a1))))) else (none))) else (none))))) else (none))
theorem caulklaw12_SpaceLowest.mono_l : ∀ k, (∀ y0 y1 y2 y3 y4, LeO (caulklaw12_SpaceLowest.j0 k y0 y1 y2 y3 y4) (caulklaw12_SpaceLowest.j0 (k + 1) y0 y1 y2 y3 y4)) ∧ (∀ y0 y1 y2 y3 y4 y5 y6, LeO (caulklaw12_SpaceLowest.l0 k y0 y1 y2 y3 y4 y5 y6) (caulklaw12_SpaceLowest.l0 (k + 1) y0 y1 y2 y3 y4 y5 y6)) ∧ (∀ y0 y1 y2 y3 y4 y5, LeO (caulklaw12_SpaceLowest.l1 k y0 y1 y2 y3 y4 y5) (caulklaw12_SpaceLowest.l1 (k + 1) y0 y1 y2 y3 y4 y5))
  | 0 => ⟨fun _ _ _ _ _ r h => by simp [caulklaw12_SpaceLowest.j0] at h, fun _ _ _ _ _ _ _ r h => by simp [caulklaw12_SpaceLowest.l0] at h, fun _ _ _ _ _ _ r h => by simp [caulklaw12_SpaceLowest.l1] at h⟩
  | k + 1 => by
    obtain ⟨ih0, ih1, ih2⟩ := caulklaw12_SpaceLowest.mono_l k
    refine ⟨?_, ?_, ?_⟩
    · intro y0 y1 y2 y3 y4
      unfold caulklaw12_SpaceLowest.j0
      repeat' first
      | (with_reducible exact ih0 _ _ _ _ _)
      | (with_reducible exact ih1 _ _ _ _ _ _ _)
      | (with_reducible exact ih2 _ _ _ _ _ _)
      | (with_reducible exact caulklaw12_lives.mono _)
      | (with_reducible exact caulkref12_Same.mono _ _ _)
      | (with_reducible exact space_Give.mono _ _ _)
      | (with_reducible exact LeO.refl _)
      | (with_reducible exact LeO.none _)
      | (with_reducible refine LeO.ite ?_ ?_)
      | (with_reducible refine LeO.bind ?_ (fun _ => ?_))
      | exact ih0 _ _ _ _ _
      | exact ih1 _ _ _ _ _ _ _
      | exact ih2 _ _ _ _ _ _
      | exact caulklaw12_lives.mono _
      | exact caulkref12_Same.mono _ _ _
      | exact space_Give.mono _ _ _
      | exact LeO.none _
      | refine LeO.ite ?_ ?_
      | refine LeO.bind ?_ (fun _ => ?_)
    · intro y0 y1 y2 y3 y4 y5 y6
      unfold caulklaw12_SpaceLowest.l0
      repeat' first
      | (with_reducible exact ih0 _ _ _ _ _)
      | (with_reducible exact ih1 _ _ _ _ _ _ _)
      | (with_reducible exact ih2 _ _ _ _ _ _)
      | (with_reducible exact caulklaw12_lives.mono _)
      | (with_reducible exact caulkref12_Same.mono _ _ _)
      | (with_reducible exact space_Give.mono _ _ _)
      | (with_reducible exact LeO.refl _)
      | (with_reducible exact LeO.none _)
      | (with_reducible refine LeO.ite ?_ ?_)
      | (with_reducible refine LeO.bind ?_ (fun _ => ?_))
      | exact ih0 _ _ _ _ _
      | exact ih1 _ _ _ _ _ _ _
      | exact ih2 _ _ _ _ _ _
      | exact caulklaw12_lives.mono _
      | exact caulkref12_Same.mono _ _ _
      | exact space_Give.mono _ _ _
      | exact LeO.none _
      | refine LeO.ite ?_ ?_
      | refine LeO.bind ?_ (fun _ => ?_)
    · intro y0 y1 y2 y3 y4 y5
      unfold caulklaw12_SpaceLowest.l1
      repeat' first
      | (with_reducible exact ih0 _ _ _ _ _)
      | (with_reducible exact ih1 _ _ _ _ _ _ _)
      | (with_reducible exact ih2 _ _ _ _ _ _)
      | (with_reducible exact caulklaw12_lives.mono _)
      | (with_reducible exact caulkref12_Same.mono _ _ _)
      | (with_reducible exact space_Give.mono _ _ _)
      | (with_reducible exact LeO.refl _)
      | (with_reducible exact LeO.none _)
      | (with_reducible refine LeO.ite ?_ ?_)
      | (with_reducible refine LeO.bind ?_ (fun _ => ?_))
      | exact ih0 _ _ _ _ _
      | exact ih1 _ _ _ _ _ _ _
      | exact ih2 _ _ _ _ _ _
      | exact caulklaw12_lives.mono _
      | exact caulkref12_Same.mono _ _ _
      | exact space_Give.mono _ _ _
      | exact LeO.none _
      | refine LeO.ite ?_ ?_
      | refine LeO.bind ?_ (fun _ => ?_)
theorem caulklaw12_SpaceLowest.mono : ∀ a0 a1 k, LeO (caulklaw12_SpaceLowest.f k a0 a1) (caulklaw12_SpaceLowest.f (k + 1) a0 a1) := by
  intro a0 a1 k
  obtain ⟨ih0, ih1, ih2⟩ := caulklaw12_SpaceLowest.mono_l k
  unfold caulklaw12_SpaceLowest.f
  repeat' first
      | (with_reducible exact ih0 _ _ _ _ _)
      | (with_reducible exact ih1 _ _ _ _ _ _ _)
      | (with_reducible exact ih2 _ _ _ _ _ _)
      | (with_reducible exact caulklaw12_lives.mono _)
      | (with_reducible exact caulkref12_Same.mono _ _ _)
      | (with_reducible exact space_Give.mono _ _ _)
      | (with_reducible exact LeO.refl _)
      | (with_reducible exact LeO.none _)
      | (with_reducible refine LeO.ite ?_ ?_)
      | (with_reducible refine LeO.bind ?_ (fun _ => ?_))
      | exact ih0 _ _ _ _ _
      | exact ih1 _ _ _ _ _ _ _
      | exact ih2 _ _ _ _ _ _
      | exact caulklaw12_lives.mono _
      | exact caulkref12_Same.mono _ _ _
      | exact space_Give.mono _ _ _
      | exact LeO.none _
      | refine LeO.ite ?_ ?_
      | refine LeO.bind ?_ (fun _ => ?_)
set_option maxHeartbeats 8000000 in
set_option maxRecDepth 100000 in
theorem caulklaw12_SpaceLowest.calls (k : Nat) (A0 : Option Addr) (c0 : Nat) (l0 : List Bool) (a1 : Int) (r : Bool) (w : World) (hr0 : Kd.C Kd.bool w A0 l0.length l0) (hc0 : l0.length ≤ c0) (h : caulklaw12_SpaceLowest.f k l0 a1 = some r) :
    Calls Try.prog 7 #[.slice A0 l0.length c0, .int .i64 a1] w fun e w' => e = .returned (.bool r) ∧ Below w.heap.size w w' := by
  have HR0 := Aside0.mk hr0
  have HC0 := Aside0.mk hc0
  clear hr0 hc0
  have HB := Aside0.mk (Below.refl w.heap.size w)
  have H : ((caulklaw12_lives.f k).bind fun t299 => (if t299 = true then (if (l0.length : Int) > 5000 then (some true) else ((space_Take.f l0 a1).bind fun bt300 => (if bt300.2.2 = 0 then (if (bt300.2.1.length : Int) = a1 then (if (bt300.1.length : Int) = (l0.length : Int) then ((space_Free.f bt300.1).bind fun t309 => ((space_Free.f l0).bind fun t310 => (caulklaw12_SpaceLowest.j0 k l0 a1 bt300.1 bt300.2.1 (t309 != (wrap64 (t310 - a1)))))) else (caulklaw12_SpaceLowest.j0 k l0 a1 bt300.1 bt300.2.1 true)) else (caulklaw12_SpaceLowest.j0 k l0 a1 bt300.1 bt300.2.1 true)) else (if (bt300.2.1.length : Int) = 0 then ((caulkref12_Same.f k bt300.1 l0).bind fun t307 => (if t307 = true then (if a1 < 0 then (some true) else ((space_Free.f l0).bind fun t308 => (some (decide (t308 < a1))))) else (none))) else (none))))) else (none))) = some r := h
  clear h
  replace H := Option.bind_eq_some_iff.mp H
  obtain ⟨t299, A30, H⟩ := H
  replace H : (if t299 = true then (if (l0.length : Int) > 5000 then (some true) else ((space_Take.f l0 a1).bind fun bt300 => (if bt300.2.2 = 0 then (if (bt300.2.1.length : Int) = a1 then (if (bt300.1.length : Int) = (l0.length : Int) then ((space_Free.f bt300.1).bind fun t309 => ((space_Free.f l0).bind fun t310 => (caulklaw12_SpaceLowest.j0 k l0 a1 bt300.1 bt300.2.1 (t309 != (wrap64 (t310 - a1)))))) else (caulklaw12_SpaceLowest.j0 k l0 a1 bt300.1 bt300.2.1 true)) else (caulklaw12_SpaceLowest.j0 k l0 a1 bt300.1 bt300.2.1 true)) else (if (bt300.2.1.length : Int) = 0 then ((caulkref12_Same.f k bt300.1 l0).bind fun t307 => (if t307 = true then (if a1 < 0 then (some true) else ((space_Free.f l0).bind fun t308 => (some (decide (t308 < a1))))) else (none))) else (none))))) else (none)) = some r := H
  have A3 := Aside0.mk A30
  clear A30
  by_cases c4 : t299 = true
  · subst c4
    have H1 : (if (l0.length : Int) > 5000 then (some true) else ((space_Take.f l0 a1).bind fun bt300 => (if bt300.2.2 = 0 then (if (bt300.2.1.length : Int) = a1 then (if (bt300.1.length : Int) = (l0.length : Int) then ((space_Free.f bt300.1).bind fun t309 => ((space_Free.f l0).bind fun t310 => (caulklaw12_SpaceLowest.j0 k l0 a1 bt300.1 bt300.2.1 (t309 != (wrap64 (t310 - a1)))))) else (caulklaw12_SpaceLowest.j0 k l0 a1 bt300.1 bt300.2.1 true)) else (caulklaw12_SpaceLowest.j0 k l0 a1 bt300.1 bt300.2.1 true)) else (if (bt300.2.1.length : Int) = 0 then ((caulkref12_Same.f k bt300.1 l0).bind fun t307 => (if t307 = true then (if a1 < 0 then (some true) else ((space_Free.f l0).bind fun t308 => (some (decide (t308 < a1))))) else (none))) else (none))))) = some r := by rw [if_pos rfl] at H; exact H
    clear H
    have H := H1
    clear H1
    by_cases c5 : (l0.length : Int) > 5000
    · rw [if_pos c5] at H
      have c5b0 : decide (5000 < (l0.length : Int)) = true := decide_eq_true c5
      have c5b1 : decide (5000 < l0.length) = true := decide_eq_true (by omega)
      clear c5
      obtain rfl := Option.some.inj H
      go_enter Try.func7, Try.ntmps7
      go_wp2_with (first | ((with_reducible refine gate_callee (f := 26) rfl ?_); refine goesL_ (some 13) rfl rfl Try.func26 (by kernel_rfl) rfl #[] rfl (by (try simp only [List.map_toArray, List.map_cons, List.map_nil]); first | done | rfl | (simp only [List.length_drop, List.length_take]; rfl)) ?_; (with_reducible refine (caulklaw12_lives.calls k  true _ A3.out).mono ?_); rintro e w6 ⟨rfl, hb⟩; refine ⟨_, rfl, ?_⟩; have n0_ := Aside0.mk (below_step (by repeat (first | (with_reducible first | exact HB.out | apply below_alloc | apply pw_below_drewN | apply below_drew1) | exact HB.out)) hb); clear HB; have HB := n0_; clear n0_; (try clear hb); (try clear hb2); (try clear hk); (try clear hi)))
      go_ret
      exact ⟨by first | rfl | (simp [errW_none, errW_some] <;> rfl) | (simp [*, errW_none, errW_some] <;> rfl), by repeat (first | (with_reducible first | exact HB.out | apply below_alloc | apply pw_below_drewN | apply below_drew1) | exact HB.out)⟩
    · rw [if_neg c5] at H
      have c5b0 : decide (5000 < (l0.length : Int)) = false := decide_eq_false c5
      have c5b1 : decide (5000 < l0.length) = false := decide_eq_false (by omega)
      clear c5
      replace H := Option.bind_eq_some_iff.mp H
      obtain ⟨⟨t300, t301, t302⟩, A70, H⟩ := H
      replace H : (if t302 = 0 then (if (t301.length : Int) = a1 then (if (t300.length : Int) = (l0.length : Int) then ((space_Free.f t300).bind fun t309 => ((space_Free.f l0).bind fun t310 => (caulklaw12_SpaceLowest.j0 k l0 a1 t300 t301 (t309 != (wrap64 (t310 - a1)))))) else (caulklaw12_SpaceLowest.j0 k l0 a1 t300 t301 true)) else (caulklaw12_SpaceLowest.j0 k l0 a1 t300 t301 true)) else (if (t301.length : Int) = 0 then ((caulkref12_Same.f k t300 l0).bind fun t307 => (if t307 = true then (if a1 < 0 then (some true) else ((space_Free.f l0).bind fun t308 => (some (decide (t308 < a1))))) else (none))) else (none))) = some r := H
      have A7 := Aside0.mk A70
      clear A70
      by_cases c8 : t302 = 0
      · rw [if_pos c8] at H
        have c8b0 : (t302 == 0) = true := beq_iff_eq.mpr c8
        have c8b1 : (t302 != 0) = false := bne_eq_false_iff_eq.mpr c8
        clear c8
        have HC9 := Aside0.mk H
        clear H
        go_enter Try.func7, Try.ntmps7
        go_upto_region 8 with (first | ((with_reducible refine gate_callee (f := 26) rfl ?_); refine goesL_ (some 13) rfl rfl Try.func26 (by kernel_rfl) rfl #[] rfl (by (try simp only [List.map_toArray, List.map_cons, List.map_nil]); first | done | rfl | (simp only [List.length_drop, List.length_take]; rfl)) ?_; (with_reducible refine (caulklaw12_lives.calls k  true _ A3.out).mono ?_); rintro e w10 ⟨rfl, hb⟩; refine ⟨_, rfl, ?_⟩; have n0_ := Aside0.mk (below_step (by repeat (first | (with_reducible first | exact HB.out | apply below_alloc | apply pw_below_drewN | apply below_drew1) | exact HB.out)) hb); clear HB; have HB := n0_; clear n0_; (try clear hb); (try clear hb2); (try clear hk); (try clear hi)) | ((with_reducible refine gate_callee (f := 31) rfl ?_); refine goesL_ (some 21) rfl rfl Try.func31 (by kernel_rfl) rfl #[.slice A0 l0.length c0, .int .i64 a1] rfl (by (try simp only [List.map_toArray, List.map_cons, List.map_nil]); first | done | rfl | (simp only [List.length_drop, List.length_take]; rfl)) ?_; (with_reducible refine (space_Take.calls _ _ l0 a1 t300 t301 t302 _ ?side1 ?side2 A7.out).mono ?_); (case side1 => repeat (first | exact (Kd.C_below HR0.out HB.out) | (with_reducible refine Kd.C_alloc ?_ _) | (with_reducible refine Kd.C_drewN ?_ _) | (with_reducible refine Kd.C_drew ?_))); (case side2 => exact HC0.out); rintro e w11 ⟨v303, v305, rfl, ho0, ho1, hb⟩; refine ⟨_, rfl, ?_⟩; have n0_ := Aside0.mk (Kd.R_lower ho0 (below_size (by repeat (first | (with_reducible first | exact HB.out | apply below_alloc | apply pw_below_drewN | apply below_drew1) | exact HB.out)))); have n1_ := Aside0.mk (Kd.R_lower ho1 (below_size (by repeat (first | (with_reducible first | exact HB.out | apply below_alloc | apply pw_below_drewN | apply below_drew1) | exact HB.out)))); have n2_ := Aside0.mk (below_step (by repeat (first | (with_reducible first | exact HB.out | apply below_alloc | apply pw_below_drewN | apply below_drew1) | exact HB.out)) hb); clear HB; have HO304 := n0_; have HO306 := n1_; have HB := n2_; clear n0_ n1_ n2_; (try clear hb); (try clear hb2); (try clear hk); (try clear hi); (try clear ho0); (try clear ho1)))
        (try simp only [Act.put, List.setIfInBounds_toArray, List.set_cons_zero, List.set_cons_succ])
        go_cut [64] (fun v64 wc => ∃ (kq : Nat) (x64_8 : Bool), v64 = .bool x64_8 ∧ Aside0 (caulklaw12_SpaceLowest.j0 kq l0 a1 t300 t301 x64_8 = some r) ∧ Aside0 (kq ≤ k) ∧ Aside0 (Kd.R Kd.bool 4 wc w.heap.size (fun _ => True) v303 t300) ∧ Aside0 (Kd.R (Kd.int .i64) 3 wc w.heap.size (fun _ => True) v305 t301) ∧ Aside0 (Below w.heap.size w wc))
        case first =>
          have H := HC9.out
          clear HC9
          by_cases c12 : (t301.length : Int) = a1
          · rw [if_pos c12] at H
            have c12b0 : ((t301.length : Int) == a1) = true := beq_iff_eq.mpr c12
            have c12b1 : ((t301.length : Int) != a1) = false := bne_eq_false_iff_eq.mpr c12
            clear c12
            (first | rw [c12b0] | (simp only [i64_w, i32_w]; rw [c12b0]) | skip)
            by_cases c13 : (t300.length : Int) = (l0.length : Int)
            · rw [if_pos c13] at H
              have c13b0 : ((t300.length : Int) == (l0.length : Int)) = true := beq_iff_eq.mpr c13
              have c13b1 : ((t300.length : Int) != (l0.length : Int)) = false := bne_eq_false_iff_eq.mpr c13
              have c13b2 : (t300.length == l0.length) = true := by first | simpa using c13 | (simp at c13 ⊢; omega)
              clear c13
              replace H := Option.bind_eq_some_iff.mp H
              obtain ⟨t309, A140, H⟩ := H
              replace H : ((space_Free.f l0).bind fun t310 => (caulklaw12_SpaceLowest.j0 k l0 a1 t300 t301 (t309 != (wrap64 (t310 - a1))))) = some r := H
              have A14 := Aside0.mk A140
              clear A140
              replace H := Option.bind_eq_some_iff.mp H
              obtain ⟨t310, A150, H⟩ := H
              replace H : (caulklaw12_SpaceLowest.j0 k l0 a1 t300 t301 (t309 != (wrap64 (t310 - a1)))) = some r := H
              have A15 := Aside0.mk A150
              clear A150
              have H' := Aside0.mk H
              clear H
              obtain ⟨Ao16, co16, eo16⟩ := Kd.R_slice HO306.out
              subst eo16
              obtain ⟨Ao17, co17, eo17⟩ := Kd.R_slice HO304.out
              subst eo17
              go_wp2_with (first | (go_at_call 37; (with_reducible refine (space_Free.calls _ _ t300 t309 _ ?side1 ?side2 A14.out).mono ?_); (case side1 => repeat (first | exact (Kd.R_reads' HO304.out).2.2 | (with_reducible refine Kd.C_alloc ?_ _) | (with_reducible refine Kd.C_drewN ?_ _) | (with_reducible refine Kd.C_drew ?_))); (case side2 => exact (Kd.R_reads' HO304.out).2.1); rintro e w18 ⟨rfl, hb⟩; have n0_ := Aside0.mk (Kd.R_below (by (with_reducible repeat (first | apply Kd.R_alloc | apply Kd.R_drewN | apply Kd.R_drew)); exact HO304.out) hb); have n1_ := Aside0.mk (Kd.R_below (by (with_reducible repeat (first | apply Kd.R_alloc | apply Kd.R_drewN | apply Kd.R_drew)); exact HO306.out) hb); have n2_ := Aside0.mk (below_step (by repeat (first | (with_reducible first | exact HB.out | apply below_alloc | apply pw_below_drewN | apply below_drew1) | exact HB.out)) hb); clear HO304; clear HO306; clear HB; have HO304 := n0_; have HO306 := n1_; have HB := n2_; clear n0_ n1_ n2_; (try clear hb); (try clear hb2); (try clear hk); (try clear hi)) | (go_at_call 37; (with_reducible refine (space_Free.calls _ _ l0 t310 _ ?side1 ?side2 A15.out).mono ?_); (case side1 => repeat (first | exact (Kd.C_below HR0.out HB.out) | (with_reducible refine Kd.C_alloc ?_ _) | (with_reducible refine Kd.C_drewN ?_ _) | (with_reducible refine Kd.C_drew ?_))); (case side2 => exact HC0.out); rintro e w19 ⟨rfl, hb⟩; have n0_ := Aside0.mk (Kd.R_below (by (with_reducible repeat (first | apply Kd.R_alloc | apply Kd.R_drewN | apply Kd.R_drew)); exact HO304.out) hb); have n1_ := Aside0.mk (Kd.R_below (by (with_reducible repeat (first | apply Kd.R_alloc | apply Kd.R_drewN | apply Kd.R_drew)); exact HO306.out) hb); have n2_ := Aside0.mk (below_step (by repeat (first | (with_reducible first | exact HB.out | apply below_alloc | apply pw_below_drewN | apply below_drew1) | exact HB.out)) hb); clear HO304; clear HO306; clear HB; have HO304 := n0_; have HO306 := n1_; have HB := n2_; clear n0_ n1_ n2_; (try clear hb); (try clear hb2); (try clear hk); (try clear hi)))
              go_meet
              case rel => exact ⟨_, ((t309 != (wrap64 (t310 - a1)))), (by first | rfl | (simp; done) | (simp [*]; done)), H', ⟨by first | omega | exact Nat.le_refl _⟩, ⟨by (with_reducible repeat (first | apply Kd.R_alloc | apply Kd.R_drewN | apply Kd.R_drew)); exact HO304.out⟩, ⟨by (with_reducible repeat (first | apply Kd.R_alloc | apply Kd.R_drewN | apply Kd.R_drew)); exact HO306.out⟩, ⟨by repeat (first | (with_reducible first | exact HB.out | apply below_alloc | apply pw_below_drewN | apply below_drew1) | exact HB.out)⟩⟩
            · rw [if_neg c13] at H
              have c13b0 : ((t300.length : Int) == (l0.length : Int)) = false := beq_eq_false_iff_ne.mpr c13
              have c13b1 : ((t300.length : Int) != (l0.length : Int)) = true := bne_iff_ne.mpr c13
              have c13b2 : (t300.length == l0.length) = false := by first | simpa using c13 | (simp at c13 ⊢; omega)
              have H' := Aside0.mk H
              clear H
              obtain ⟨Ao20, co20, eo20⟩ := Kd.R_slice HO306.out
              subst eo20
              obtain ⟨Ao21, co21, eo21⟩ := Kd.R_slice HO304.out
              subst eo21
              go_wp2
              go_meet
              case rel => exact ⟨_, (true), (by first | rfl | (simp; done) | (simp [*]; done)), H', ⟨by first | omega | exact Nat.le_refl _⟩, ⟨by (with_reducible repeat (first | apply Kd.R_alloc | apply Kd.R_drewN | apply Kd.R_drew)); exact HO304.out⟩, ⟨by (with_reducible repeat (first | apply Kd.R_alloc | apply Kd.R_drewN | apply Kd.R_drew)); exact HO306.out⟩, ⟨by repeat (first | (with_reducible first | exact HB.out | apply below_alloc | apply pw_below_drewN | apply below_drew1) | exact HB.out)⟩⟩
          · rw [if_neg c12] at H
            have c12b0 : ((t301.length : Int) == a1) = false := beq_eq_false_iff_ne.mpr c12
            have c12b1 : ((t301.length : Int) != a1) = true := bne_iff_ne.mpr c12
            (first | rw [c12b0] | (simp only [i64_w, i32_w]; rw [c12b0]) | skip)
            have H' := Aside0.mk H
            clear H
            obtain ⟨Ao22, co22, eo22⟩ := Kd.R_slice HO306.out
            subst eo22
            go_wp2
            go_meet
            case rel => exact ⟨_, (true), (by first | rfl | (simp; done) | (simp [*]; done)), H', ⟨by first | omega | exact Nat.le_refl _⟩, ⟨by (with_reducible repeat (first | apply Kd.R_alloc | apply Kd.R_drewN | apply Kd.R_drew)); exact HO304.out⟩, ⟨by (with_reducible repeat (first | apply Kd.R_alloc | apply Kd.R_drewN | apply Kd.R_drew)); exact HO306.out⟩, ⟨by repeat (first | (with_reducible first | exact HB.out | apply below_alloc | apply pw_below_drewN | apply below_drew1) | exact HB.out)⟩⟩
        case rest =>
          clear HC9
          try clear c1
          try clear c2
          try clear p2
          try clear c3
          try clear c4
          try clear c5
          try clear c5b0
          try clear c5b1
          try clear p6
          try clear c7
          try clear c8
          try clear c8b0
          try clear c8b1
          try clear c12
          try clear c12b0
          try clear c12b1
          try clear c13
          try clear c13b0
          try clear c13b1
          try clear c13b2
          obtain ⟨kq, x64_8, rfl, HA, HJ8, HO_5, HO_6, HB⟩ := hcut
          cases kq with
          | zero => exact absurd HA.out (by simp [caulklaw12_SpaceLowest.j0])
          | succ kj8 =>
            have H := HA.out
            clear HA
            simp only [caulklaw12_SpaceLowest.j0] at H
            by_cases c23 : x64_8 = true
            · subst c23
              have H1 : (none) = some r := by rw [if_pos rfl] at H; exact H
              clear H
              have H := H1
              clear H1
              exact absurd H (by simp)
            · replace c23 := Bool.eq_false_iff.mpr c23
              subst c23
              have H1 : (caulklaw12_SpaceLowest.l0 kj8 l0 a1 t300 t301 t301 (t301.length : Int) 0) = some r := by rw [if_neg (show ¬ (false = true) by decide)] at H; exact H
              clear H
              have H := H1
              clear H1
              have H' := Aside0.mk H
              clear H
              obtain ⟨Ao24, co24, eo24⟩ := Kd.R_slice HO_6.out
              subst eo24
              go_wp2
              go_loopg [67] kj8 (fun kq v67 w' => ∃ (x67_2 : Int), v67 = .int .i64 x67_2 ∧ Aside0 (caulklaw12_SpaceLowest.l0 kq l0 a1 t300 t301 t301 (t301.length : Int) x67_2 = some r) ∧ Aside0 (kq ≤ kj8) ∧ Aside0 (Kd.R Kd.bool 4 w' w.heap.size (fun _ => True) v303 t300) ∧ Aside0 (Kd.R (Kd.int .i64) 3 w' w.heap.size (fun _ => True) (.slice Ao24 t301.length co24) t301) ∧ Aside0 (Kd.R (Kd.int .i64) 3 w' w.heap.size (fun _ => True) (.slice Ao24 t301.length co24) t301) ∧ Aside0 (Below w.heap.size w w'))
              case atStart => exact ⟨(0), (by first | rfl | (simp; done) | (simp [*]; done)), H', ⟨Nat.le_refl _⟩, ⟨by (with_reducible repeat (first | apply Kd.R_alloc | apply Kd.R_drewN | apply Kd.R_drew)); exact HO_5.out⟩, ⟨by (with_reducible repeat (first | apply Kd.R_alloc | apply Kd.R_drewN | apply Kd.R_drew)); exact HO_6.out⟩, ⟨by (with_reducible repeat (first | apply Kd.R_alloc | apply Kd.R_drewN | apply Kd.R_drew)); exact HO_6.out⟩, ⟨by repeat (first | (with_reducible first | exact HB.out | apply below_alloc | apply pw_below_drewN | apply below_drew1) | exact HB.out)⟩⟩
              case round =>
                clear H'
                try clear c1
                try clear c2
                try clear p2
                try clear c3
                try clear c4
                try clear c5
                try clear c5b0
                try clear c5b1
                try clear p6
                try clear c7
                try clear c8
                try clear c8b0
                try clear c8b1
                try clear c12
                try clear c12b0
                try clear c12b1
                try clear c13
                try clear c13b0
                try clear c13b1
                try clear c13b2
                try clear c23
                try clear p2
                try clear p6
                obtain ⟨x67_2, rfl, HA, HK2, HO_5, HO_6, HO_65, HB⟩ := hrel
                cases gk with
                | zero => exact absurd HA.out (by simp [caulklaw12_SpaceLowest.l0])
                | succ k2 =>
                  have H := HA.out
                  clear HA
                  simp only [caulklaw12_SpaceLowest.l0] at H
                  by_cases c25 : x67_2 < (t301.length : Int)
                  · rw [if_pos c25] at H
                    have c25b0 : decide (x67_2 < (t301.length : Int)) = true := decide_eq_true c25
                    clear c25
                    by_cases c26 : 0 ≤ x67_2
                    · rw [if_pos c26] at H
                      have c26b0 : decide (0 ≤ x67_2) = true := decide_eq_true c26
                      clear c26
                      by_cases c27 : x67_2 < (t301.length : Int)
                      · rw [if_pos c27] at H
                        have c27b0 : decide (x67_2 < (t301.length : Int)) = true := decide_eq_true c27
                        clear c27
                        by_cases c28 : (rd t301 x67_2) < 0
                        · rw [if_pos c28] at H
                          exact absurd H (by simp)
                        · rw [if_neg c28] at H
                          have c28b0 : decide ((rd t301 x67_2) < 0) = false := decide_eq_false c28
                          clear c28
                          by_cases c29 : (rd t301 x67_2) ≥ (l0.length : Int)
                          · rw [if_pos c29] at H
                            exact absurd H (by simp)
                          · rw [if_neg c29] at H
                            have c29b0 : decide ((l0.length : Int) ≤ (rd t301 x67_2)) = false := decide_eq_false c29
                            clear c29
                            by_cases c30 : 0 ≤ (rd t301 x67_2)
                            · rw [if_pos c30] at H
                              have c30b0 : decide (0 ≤ (rd t301 x67_2)) = true := decide_eq_true c30
                              clear c30
                              by_cases c31 : (rd t301 x67_2) < (l0.length : Int)
                              · rw [if_pos c31] at H
                                have c31b0 : decide ((rd t301 x67_2) < (l0.length : Int)) = true := decide_eq_true c31
                                clear c31
                                obtain ⟨bq32, hbq32⟩ : ∃ b_ : Bool, b_ = (rdOf false l0 (rd t301 x67_2)) := ⟨_, rfl⟩
                                replace H : (if bq32 = true then (none) else (if (rd t301 x67_2) < (t300.length : Int) then (if (rdOf false t300 (rd t301 x67_2) = true) then (if x67_2 > 0 then (if 0 ≤ (wrap64 (x67_2 - 1)) then (if (wrap64 (x67_2 - 1)) < (t301.length : Int) then (if (rd t301 (wrap64 (x67_2 - 1))) ≥ (rd t301 x67_2) then (none) else (caulklaw12_SpaceLowest.l0 k2 l0 a1 t300 t301 t301 (t301.length : Int) (wrap64 (x67_2 + 1)))) else (none)) else (none)) else (caulklaw12_SpaceLowest.l0 k2 l0 a1 t300 t301 t301 (t301.length : Int) (wrap64 (x67_2 + 1)))) else (none)) else (none))) = some r := by rw [← hbq32] at H; exact H
                                have Nbq32 := Aside0.mk hbq32
                                clear hbq32
                                by_cases c33 : bq32 = true
                                · subst c33
                                  have H1 : (none) = some r := by rw [if_pos rfl] at H; exact H
                                  clear H
                                  have H := H1
                                  clear H1
                                  exact absurd H (by simp)
                                · replace c33 := Bool.eq_false_iff.mpr c33
                                  subst c33
                                  have H1 : (if (rd t301 x67_2) < (t300.length : Int) then (if (rdOf false t300 (rd t301 x67_2) = true) then (if x67_2 > 0 then (if 0 ≤ (wrap64 (x67_2 - 1)) then (if (wrap64 (x67_2 - 1)) < (t301.length : Int) then (if (rd t301 (wrap64 (x67_2 - 1))) ≥ (rd t301 x67_2) then (none) else (caulklaw12_SpaceLowest.l0 k2 l0 a1 t300 t301 t301 (t301.length : Int) (wrap64 (x67_2 + 1)))) else (none)) else (none)) else (caulklaw12_SpaceLowest.l0 k2 l0 a1 t300 t301 t301 (t301.length : Int) (wrap64 (x67_2 + 1)))) else (none)) else (none)) = some r := by rw [if_neg (show ¬ (false = true) by decide)] at H; exact H
                                  clear H
                                  have H := H1
                                  clear H1
                                  by_cases c34 : (rd t301 x67_2) < (t300.length : Int)
                                  · rw [if_pos c34] at H
                                    have c34b0 : decide ((rd t301 x67_2) < (t300.length : Int)) = true := decide_eq_true c34
                                    clear c34
                                    obtain ⟨bq35, hbq35⟩ : ∃ b_ : Bool, b_ = (rdOf false t300 (rd t301 x67_2)) := ⟨_, rfl⟩
                                    replace H : (if (bq35 = true) then (if x67_2 > 0 then (if 0 ≤ (wrap64 (x67_2 - 1)) then (if (wrap64 (x67_2 - 1)) < (t301.length : Int) then (if (rd t301 (wrap64 (x67_2 - 1))) ≥ (rd t301 x67_2) then (none) else (caulklaw12_SpaceLowest.l0 k2 l0 a1 t300 t301 t301 (t301.length : Int) (wrap64 (x67_2 + 1)))) else (none)) else (none)) else (caulklaw12_SpaceLowest.l0 k2 l0 a1 t300 t301 t301 (t301.length : Int) (wrap64 (x67_2 + 1)))) else (none)) = some r := by rw [← hbq35] at H; exact H
                                    have Nbq35 := Aside0.mk hbq35
                                    clear hbq35
                                    by_cases c36 : (bq35 = true)
                                    · subst c36
                                      have H1 : (if x67_2 > 0 then (if 0 ≤ (wrap64 (x67_2 - 1)) then (if (wrap64 (x67_2 - 1)) < (t301.length : Int) then (if (rd t301 (wrap64 (x67_2 - 1))) ≥ (rd t301 x67_2) then (none) else (caulklaw12_SpaceLowest.l0 k2 l0 a1 t300 t301 t301 (t301.length : Int) (wrap64 (x67_2 + 1)))) else (none)) else (none)) else (caulklaw12_SpaceLowest.l0 k2 l0 a1 t300 t301 t301 (t301.length : Int) (wrap64 (x67_2 + 1)))) = some r := by rw [if_pos rfl] at H; exact H
                                      clear H
                                      have H := H1
                                      clear H1
                                      by_cases c37 : x67_2 > 0
                                      · rw [if_pos c37] at H
                                        have c37b0 : decide (0 < x67_2) = true := decide_eq_true c37
                                        clear c37
                                        obtain ⟨ji38, hji38⟩ : ∃ j_ : Int, (wrap64 (x67_2 - 1)) = j_ := ⟨_, rfl⟩
                                        replace H : (if 0 ≤ (ji38) then (if (ji38) < (t301.length : Int) then (if (rd t301 (ji38)) ≥ (rd t301 x67_2) then (none) else (caulklaw12_SpaceLowest.l0 k2 l0 a1 t300 t301 t301 (t301.length : Int) (wrap64 (x67_2 + 1)))) else (none)) else (none)) = some r := by first | (rw [hji38] at H; exact H) | (simp only [hji38] at H ⊢; exact H)
                                        have hji38w : (IntKind.i64.wrap (x67_2 - 1)) = ji38 := (i64_w _).trans hji38
                                        by_cases c39 : 0 ≤ (ji38)
                                        · rw [if_pos c39] at H
                                          have c39b0 : decide (0 ≤ (ji38)) = true := decide_eq_true c39
                                          clear c39
                                          by_cases c40 : (ji38) < (t301.length : Int)
                                          · rw [if_pos c40] at H
                                            have c40b0 : decide ((ji38) < (t301.length : Int)) = true := decide_eq_true c40
                                            clear c40
                                            by_cases c41 : (rd t301 (ji38)) ≥ (rd t301 x67_2)
                                            · rw [if_pos c41] at H
                                              exact absurd H (by simp)
                                            · rw [if_neg c41] at H
                                              have c41b0 : decide ((rd t301 x67_2) ≤ (rd t301 (ji38))) = false := decide_eq_false c41
                                              clear c41
                                              have H' := Aside0.mk H
                                              clear H
                                              have p311 : 0 ≤ (x67_2 : Int) := of_decide_eq_true (by first | (with_reducible assumption) | assumption)
                                              have q311 : x67_2 < (t301.length : Int) := of_decide_eq_true (by first | (with_reducible assumption) | assumption)
                                              obtain ⟨ad311, e311, hx311_0⟩ := Kd.at_int (Kd.R_reads' HO_65.out).2.2 x67_2 p311 q311
                                              cases e311
                                              replace p311 := eq_true p311
                                              replace q311 := eq_true q311
                                              have p312 : 0 ≤ ((rd t301 x67_2) : Int) := of_decide_eq_true (by first | (with_reducible assumption) | assumption)
                                              have q312 : (rd t301 x67_2) < (l0.length : Int) := of_decide_eq_true (by first | (with_reducible assumption) | assumption)
                                              obtain ⟨ad312, e312, hx312_0⟩ := Kd.at_bool HR0.out (rd t301 x67_2) p312 q312
                                              (try rw [← Nbq32.out] at hx312_0)
                                              (try rw [← Nbq35.out] at hx312_0)
                                              cases e312
                                              replace hx312_0 := (HB.out.cell (World.block_lt_of_cell? w _ hx312_0)).trans hx312_0
                                              replace p312 := eq_true p312
                                              replace q312 := eq_true q312
                                              obtain ⟨Ao42, co42, eo42⟩ := Kd.R_slice HO_5.out
                                              subst eo42
                                              have p313 : 0 ≤ ((rd t301 x67_2) : Int) := of_decide_eq_true (by first | (with_reducible assumption) | assumption)
                                              have q313 : (rd t301 x67_2) < (t300.length : Int) := of_decide_eq_true (by first | (with_reducible assumption) | assumption)
                                              obtain ⟨ad313, e313, hx313_0⟩ := Kd.at_bool (Kd.R_reads' HO_5.out).2.2 (rd t301 x67_2) p313 q313
                                              (try rw [← Nbq32.out] at hx313_0)
                                              (try rw [← Nbq35.out] at hx313_0)
                                              cases e313
                                              replace p313 := eq_true p313
                                              replace q313 := eq_true q313
                                              have p314 : 0 ≤ ((ji38) : Int) := of_decide_eq_true (by first | (with_reducible assumption) | assumption)
                                              have q314 : (ji38) < (t301.length : Int) := of_decide_eq_true (by first | (with_reducible assumption) | assumption)
                                              obtain ⟨ad314, e314, hx314_0⟩ := Kd.at_int (Kd.R_reads' HO_6.out).2.2 (ji38) p314 q314
                                              obtain rfl : ad311 = ad314 := (by injection e314)
                                              replace p314 := eq_true p314
                                              replace q314 := eq_true q314
                                              go_wp2
                                              go_roundg k2
                                              case measure => have := HJ8.out; have := HK2.out; omega
                                              case rel => exact ⟨(wrap64 (x67_2 + 1)), (by first | rfl | (simp; done) | (simp [*]; done)), H', ⟨by have := HJ8.out; have := HK2.out; omega⟩, ⟨by (with_reducible repeat (first | apply Kd.R_alloc | apply Kd.R_drewN | apply Kd.R_drew)); exact HO_5.out⟩, ⟨by (with_reducible repeat (first | apply Kd.R_alloc | apply Kd.R_drewN | apply Kd.R_drew)); exact HO_6.out⟩, ⟨by (with_reducible repeat (first | apply Kd.R_alloc | apply Kd.R_drewN | apply Kd.R_drew)); exact HO_65.out⟩, ⟨by repeat (first | (with_reducible first | exact HB.out | apply below_alloc | apply pw_below_drewN | apply below_drew1) | exact HB.out)⟩⟩
                                          · rw [if_neg c40] at H
                                            exact absurd H (by simp)
                                        · rw [if_neg c39] at H
                                          exact absurd H (by simp)
                                      · rw [if_neg c37] at H
                                        have c37b0 : decide (0 < x67_2) = false := decide_eq_false c37
                                        clear c37
                                        have H' := Aside0.mk H
                                        clear H
                                        have p311 : 0 ≤ (x67_2 : Int) := of_decide_eq_true (by first | (with_reducible assumption) | assumption)
                                        have q311 : x67_2 < (t301.length : Int) := of_decide_eq_true (by first | (with_reducible assumption) | assumption)
                                        obtain ⟨ad311, e311, hx311_0⟩ := Kd.at_int (Kd.R_reads' HO_65.out).2.2 x67_2 p311 q311
                                        cases e311
                                        replace p311 := eq_true p311
                                        replace q311 := eq_true q311
                                        have p312 : 0 ≤ ((rd t301 x67_2) : Int) := of_decide_eq_true (by first | (with_reducible assumption) | assumption)
                                        have q312 : (rd t301 x67_2) < (l0.length : Int) := of_decide_eq_true (by first | (with_reducible assumption) | assumption)
                                        obtain ⟨ad312, e312, hx312_0⟩ := Kd.at_bool HR0.out (rd t301 x67_2) p312 q312
                                        (try rw [← Nbq32.out] at hx312_0)
                                        (try rw [← Nbq35.out] at hx312_0)
                                        cases e312
                                        replace hx312_0 := (HB.out.cell (World.block_lt_of_cell? w _ hx312_0)).trans hx312_0
                                        replace p312 := eq_true p312
                                        replace q312 := eq_true q312
                                        obtain ⟨Ao43, co43, eo43⟩ := Kd.R_slice HO_5.out
                                        subst eo43
                                        have p313 : 0 ≤ ((rd t301 x67_2) : Int) := of_decide_eq_true (by first | (with_reducible assumption) | assumption)
                                        have q313 : (rd t301 x67_2) < (t300.length : Int) := of_decide_eq_true (by first | (with_reducible assumption) | assumption)
                                        obtain ⟨ad313, e313, hx313_0⟩ := Kd.at_bool (Kd.R_reads' HO_5.out).2.2 (rd t301 x67_2) p313 q313
                                        (try rw [← Nbq32.out] at hx313_0)
                                        (try rw [← Nbq35.out] at hx313_0)
                                        cases e313
                                        replace p313 := eq_true p313
                                        replace q313 := eq_true q313
                                        go_wp2
                                        go_roundg k2
                                        case measure => have := HJ8.out; have := HK2.out; omega
                                        case rel => exact ⟨(wrap64 (x67_2 + 1)), (by first | rfl | (simp; done) | (simp [*]; done)), H', ⟨by have := HJ8.out; have := HK2.out; omega⟩, ⟨by (with_reducible repeat (first | apply Kd.R_alloc | apply Kd.R_drewN | apply Kd.R_drew)); exact HO_5.out⟩, ⟨by (with_reducible repeat (first | apply Kd.R_alloc | apply Kd.R_drewN | apply Kd.R_drew)); exact HO_6.out⟩, ⟨by (with_reducible repeat (first | apply Kd.R_alloc | apply Kd.R_drewN | apply Kd.R_drew)); exact HO_65.out⟩, ⟨by repeat (first | (with_reducible first | exact HB.out | apply below_alloc | apply pw_below_drewN | apply below_drew1) | exact HB.out)⟩⟩
                                    · replace c36 := Bool.eq_false_iff.mpr c36
                                      subst c36
                                      have H1 : (none) = some r := by rw [if_neg (show ¬ (false = true) by decide)] at H; exact H
                                      clear H
                                      have H := H1
                                      clear H1
                                      exact absurd H (by simp)
                                  · rw [if_neg c34] at H
                                    exact absurd H (by simp)
                              · rw [if_neg c31] at H
                                exact absurd H (by simp)
                            · rw [if_neg c30] at H
                              exact absurd H (by simp)
                      · rw [if_neg c27] at H
                        exact absurd H (by simp)
                    · rw [if_neg c26] at H
                      exact absurd H (by simp)
                  · rw [if_neg c25] at H
                    have c25b0 : decide (x67_2 < (t301.length : Int)) = false := decide_eq_false c25
                    clear c25
                    have H' := Aside0.mk H
                    clear H
                    obtain ⟨Ao44, co44, eo44⟩ := Kd.R_slice HO_5.out
                    subst eo44
                    go_wp2
                    go_loopg [109] k2 (fun kq v109 w' => ∃ (x109_3 : Int), v109 = .int .i64 x109_3 ∧ Aside0 (caulklaw12_SpaceLowest.l1 kq l0 a1 t300 t301 (t300.length : Int) x109_3 = some r) ∧ Aside0 (kq ≤ k2) ∧ Aside0 (Kd.R Kd.bool 4 w' w.heap.size (fun _ => True) (.slice Ao44 t300.length co44) t300) ∧ Aside0 (Kd.R (Kd.int .i64) 3 w' w.heap.size (fun _ => True) (.slice Ao24 t301.length co24) t301) ∧ Aside0 (Below w.heap.size w w'))
                    case atStart => exact ⟨(0), (by first | rfl | (simp; done) | (simp [*]; done)), H', ⟨Nat.le_refl _⟩, ⟨by (with_reducible repeat (first | apply Kd.R_alloc | apply Kd.R_drewN | apply Kd.R_drew)); exact HO_5.out⟩, ⟨by (with_reducible repeat (first | apply Kd.R_alloc | apply Kd.R_drewN | apply Kd.R_drew)); exact HO_6.out⟩, ⟨by repeat (first | (with_reducible first | exact HB.out | apply below_alloc | apply pw_below_drewN | apply below_drew1) | exact HB.out)⟩⟩
                    case round =>
                      clear H'
                      try clear c1
                      try clear c2
                      try clear p2
                      try clear c3
                      try clear p3
                      try clear q3
                      try clear hx3
                      try clear c4
                      try clear c5
                      try clear c5b0
                      try clear c5b1
                      try clear p6
                      try clear c7
                      try clear c8
                      try clear c8b0
                      try clear c8b1
                      try clear c12
                      try clear c12b0
                      try clear c12b1
                      try clear c13
                      try clear c13b0
                      try clear c13b1
                      try clear c13b2
                      try clear c23
                      try clear c25
                      try clear c25b0
                      try clear c26
                      try clear c26b0
                      try clear c27
                      try clear c27b0
                      try clear c28
                      try clear c28b0
                      try clear c29
                      try clear c29b0
                      try clear c30
                      try clear c30b0
                      try clear c31
                      try clear c31b0
                      try clear p31
                      try clear q31
                      try clear hx31
                      try clear q32
                      try clear c33
                      try clear c34
                      try clear c34b0
                      try clear q35
                      try clear c36
                      try clear c37
                      try clear c37b0
                      try clear c39
                      try clear c39b0
                      try clear c40
                      try clear c40b0
                      try clear c41
                      try clear c41b0
                      try clear hx311_0
                      try clear hx312_0
                      try clear hx313_0
                      try clear hx314_0
                      try clear p2
                      try clear p311
                      try clear p312
                      try clear p313
                      try clear p314
                      try clear p6
                      try clear q311
                      try clear q312
                      try clear q313
                      try clear q314
                      obtain ⟨x109_3, rfl, HA, HK3, HO_5, HO_6, HB⟩ := hrel
                      cases gk with
                      | zero => exact absurd HA.out (by simp [caulklaw12_SpaceLowest.l1])
                      | succ k3 =>
                        have H := HA.out
                        clear HA
                        simp only [caulklaw12_SpaceLowest.l1] at H
                        by_cases c45 : x109_3 < (t300.length : Int)
                        · rw [if_pos c45] at H
                          have c45b0 : decide (x109_3 < (t300.length : Int)) = true := decide_eq_true c45
                          clear c45
                          by_cases c46 : a1 > 0
                          · rw [if_pos c46] at H
                            have c46b0 : decide (0 < a1) = true := decide_eq_true c46
                            clear c46
                            obtain ⟨ji47, hji47⟩ : ∃ j_ : Int, (wrap64 (a1 - 1)) = j_ := ⟨_, rfl⟩
                            replace H : (if 0 ≤ (ji47) then (if (ji47) < (t301.length : Int) then (if x109_3 < (rd t301 (ji47)) then (if 0 ≤ x109_3 then (if x109_3 < (t300.length : Int) then (if rdOf false t300 x109_3 = true then (caulklaw12_SpaceLowest.l1 k3 l0 a1 t300 t301 (t300.length : Int) (wrap64 (x109_3 + 1))) else (none)) else (none)) else (none)) else (caulklaw12_SpaceLowest.l1 k3 l0 a1 t300 t301 (t300.length : Int) (wrap64 (x109_3 + 1)))) else (none)) else (none)) = some r := by first | (rw [hji47] at H; exact H) | (simp only [hji47] at H ⊢; exact H)
                            have hji47w : (IntKind.i64.wrap (a1 - 1)) = ji47 := (i64_w _).trans hji47
                            by_cases c48 : 0 ≤ (ji47)
                            · rw [if_pos c48] at H
                              have c48b0 : decide (0 ≤ (ji47)) = true := decide_eq_true c48
                              clear c48
                              by_cases c49 : (ji47) < (t301.length : Int)
                              · rw [if_pos c49] at H
                                have c49b0 : decide ((ji47) < (t301.length : Int)) = true := decide_eq_true c49
                                clear c49
                                by_cases c50 : x109_3 < (rd t301 (ji47))
                                · rw [if_pos c50] at H
                                  have c50b0 : decide (x109_3 < (rd t301 (ji47))) = true := decide_eq_true c50
                                  clear c50
                                  by_cases c51 : 0 ≤ x109_3
                                  · rw [if_pos c51] at H
                                    have c51b0 : decide (0 ≤ x109_3) = true := decide_eq_true c51
                                    clear c51
                                    by_cases c52 : x109_3 < (t300.length : Int)
                                    · rw [if_pos c52] at H
                                      have c52b0 : decide (x109_3 < (t300.length : Int)) = true := decide_eq_true c52
                                      clear c52
                                      obtain ⟨bq53, hbq53⟩ : ∃ b_ : Bool, b_ = (rdOf false t300 x109_3) := ⟨_, rfl⟩
                                      replace H : (if bq53 = true then (caulklaw12_SpaceLowest.l1 k3 l0 a1 t300 t301 (t300.length : Int) (wrap64 (x109_3 + 1))) else (none)) = some r := by rw [← hbq53] at H; exact H
                                      have Nbq53 := Aside0.mk hbq53
                                      clear hbq53
                                      by_cases c54 : bq53 = true
                                      · subst c54
                                        have H1 : (caulklaw12_SpaceLowest.l1 k3 l0 a1 t300 t301 (t300.length : Int) (wrap64 (x109_3 + 1))) = some r := by rw [if_pos rfl] at H; exact H
                                        clear H
                                        have H := H1
                                        clear H1
                                        have H' := Aside0.mk H
                                        clear H
                                        have p315 : 0 ≤ ((ji47) : Int) := of_decide_eq_true (by first | (with_reducible assumption) | assumption)
                                        have q315 : (ji47) < (t301.length : Int) := of_decide_eq_true (by first | (with_reducible assumption) | assumption)
                                        obtain ⟨ad315, e315, hx315_0⟩ := Kd.at_int (Kd.R_reads' HO_6.out).2.2 (ji47) p315 q315
                                        cases e315
                                        replace p315 := eq_true p315
                                        replace q315 := eq_true q315
                                        have p316 : 0 ≤ (x109_3 : Int) := of_decide_eq_true (by first | (with_reducible assumption) | assumption)
                                        have q316 : x109_3 < (t300.length : Int) := of_decide_eq_true (by first | (with_reducible assumption) | assumption)
                                        obtain ⟨ad316, e316, hx316_0⟩ := Kd.at_bool (Kd.R_reads' HO_5.out).2.2 x109_3 p316 q316
                                        (try rw [← Nbq53.out] at hx316_0)
                                        cases e316
                                        replace p316 := eq_true p316
                                        replace q316 := eq_true q316
                                        go_wp2
                                        go_roundg k3
                                        case measure => have := HJ8.out; have := HK2.out; have := HK3.out; omega
                                        case rel => exact ⟨(wrap64 (x109_3 + 1)), (by first | rfl | (simp; done) | (simp [*]; done)), H', ⟨by have := HJ8.out; have := HK2.out; have := HK3.out; omega⟩, ⟨by (with_reducible repeat (first | apply Kd.R_alloc | apply Kd.R_drewN | apply Kd.R_drew)); exact HO_5.out⟩, ⟨by (with_reducible repeat (first | apply Kd.R_alloc | apply Kd.R_drewN | apply Kd.R_drew)); exact HO_6.out⟩, ⟨by repeat (first | (with_reducible first | exact HB.out | apply below_alloc | apply pw_below_drewN | apply below_drew1) | exact HB.out)⟩⟩
                                      · replace c54 := Bool.eq_false_iff.mpr c54
                                        subst c54
                                        have H1 : (none) = some r := by rw [if_neg (show ¬ (false = true) by decide)] at H; exact H
                                        clear H
                                        have H := H1
                                        clear H1
                                        exact absurd H (by simp)
                                    · rw [if_neg c52] at H
                                      exact absurd H (by simp)
                                  · rw [if_neg c51] at H
                                    exact absurd H (by simp)
                                · rw [if_neg c50] at H
                                  have c50b0 : decide (x109_3 < (rd t301 (ji47))) = false := decide_eq_false c50
                                  clear c50
                                  have H' := Aside0.mk H
                                  clear H
                                  have p315 : 0 ≤ ((ji47) : Int) := of_decide_eq_true (by first | (with_reducible assumption) | assumption)
                                  have q315 : (ji47) < (t301.length : Int) := of_decide_eq_true (by first | (with_reducible assumption) | assumption)
                                  obtain ⟨ad315, e315, hx315_0⟩ := Kd.at_int (Kd.R_reads' HO_6.out).2.2 (ji47) p315 q315
                                  cases e315
                                  replace p315 := eq_true p315
                                  replace q315 := eq_true q315
                                  go_wp2
                                  go_roundg k3
                                  case measure => have := HJ8.out; have := HK2.out; have := HK3.out; omega
                                  case rel => exact ⟨(wrap64 (x109_3 + 1)), (by first | rfl | (simp; done) | (simp [*]; done)), H', ⟨by have := HJ8.out; have := HK2.out; have := HK3.out; omega⟩, ⟨by (with_reducible repeat (first | apply Kd.R_alloc | apply Kd.R_drewN | apply Kd.R_drew)); exact HO_5.out⟩, ⟨by (with_reducible repeat (first | apply Kd.R_alloc | apply Kd.R_drewN | apply Kd.R_drew)); exact HO_6.out⟩, ⟨by repeat (first | (with_reducible first | exact HB.out | apply below_alloc | apply pw_below_drewN | apply below_drew1) | exact HB.out)⟩⟩
                              · rw [if_neg c49] at H
                                exact absurd H (by simp)
                            · rw [if_neg c48] at H
                              exact absurd H (by simp)
                          · rw [if_neg c46] at H
                            have c46b0 : decide (0 < a1) = false := decide_eq_false c46
                            clear c46
                            have H' := Aside0.mk H
                            clear H
                            go_wp2
                            go_roundg k3
                            case measure => have := HJ8.out; have := HK2.out; have := HK3.out; omega
                            case rel => exact ⟨(wrap64 (x109_3 + 1)), (by first | rfl | (simp; done) | (simp [*]; done)), H', ⟨by have := HJ8.out; have := HK2.out; have := HK3.out; omega⟩, ⟨by (with_reducible repeat (first | apply Kd.R_alloc | apply Kd.R_drewN | apply Kd.R_drew)); exact HO_5.out⟩, ⟨by (with_reducible repeat (first | apply Kd.R_alloc | apply Kd.R_drewN | apply Kd.R_drew)); exact HO_6.out⟩, ⟨by repeat (first | (with_reducible first | exact HB.out | apply below_alloc | apply pw_below_drewN | apply below_drew1) | exact HB.out)⟩⟩
                        · rw [if_neg c45] at H
                          have c45b0 : decide (x109_3 < (t300.length : Int)) = false := decide_eq_false c45
                          clear c45
                          replace H := Option.bind_eq_some_iff.mp H
                          obtain ⟨⟨t317, t318⟩, A550, H⟩ := H
                          replace H : (if t318 = 0 then ((caulkref12_Same.f k3 t317 l0).bind fun t321 => (some t321)) else (none)) = some r := H
                          have A55 := Aside0.mk A550
                          clear A550
                          by_cases c56 : t318 = 0
                          · rw [if_pos c56] at H
                            have c56b0 : (t318 == 0) = true := beq_iff_eq.mpr c56
                            have c56b1 : (t318 != 0) = false := bne_eq_false_iff_eq.mpr c56
                            clear c56
                            replace H := Option.bind_eq_some_iff.mp H
                            obtain ⟨t321, A570, H⟩ := H
                            replace H : (some t321) = some r := H
                            have A57 := Aside0.mk A570
                            clear A570
                            obtain rfl := Option.some.inj H
                            go_wp2_with (first | ((with_reducible refine gate_callee (f := 29) rfl ?_); refine goesL_ (some 134) rfl rfl Try.func29 (by kernel_rfl) rfl #[.slice Ao44 t300.length co44, .slice Ao24 t301.length co24] rfl (by (try simp only [List.map_toArray, List.map_cons, List.map_nil]); first | done | rfl | (simp only [List.length_drop, List.length_take]; rfl)) ?_; (with_reducible refine (space_Give.calls k3 _ _ t300 _ _ t301 t317 t318 _ ?side1 ?side2 ?side3 ?side4 A55.out).mono ?_); (case side1 => repeat (first | exact (Kd.R_reads' HO_5.out).2.2 | (with_reducible refine Kd.C_alloc ?_ _) | (with_reducible refine Kd.C_drewN ?_ _) | (with_reducible refine Kd.C_drew ?_))); (case side2 => exact (Kd.R_reads' HO_5.out).2.1); (case side3 => repeat (first | exact (Kd.R_reads' HO_6.out).2.2 | (with_reducible refine Kd.C_alloc ?_ _) | (with_reducible refine Kd.C_drewN ?_ _) | (with_reducible refine Kd.C_drew ?_))); (case side4 => exact (Kd.R_reads' HO_6.out).2.1); rintro e w58 ⟨v319, rfl, ho0, hb⟩; refine ⟨_, rfl, ?_⟩; have n0_ := Aside0.mk (Kd.R_elder' (by (with_reducible repeat (first | apply Kd.R_alloc | apply Kd.R_drewN | apply Kd.R_drew)); exact HO_5.out) (Kd.R_base ho0) hb); have n1_ := Aside0.mk (Kd.R_below (by (with_reducible repeat (first | apply Kd.R_alloc | apply Kd.R_drewN | apply Kd.R_drew)); exact HO_6.out) hb); have n2_ := Aside0.mk (Kd.R_lower (Kd.R_new' ho0 (Kd.R_lt (by (with_reducible repeat (first | apply Kd.R_alloc | apply Kd.R_drewN | apply Kd.R_drew)); exact HO_5.out))) (below_size (by repeat (first | (with_reducible first | exact HB.out | apply below_alloc | apply pw_below_drewN | apply below_drew1) | exact HB.out)))); have n3_ := Aside0.mk (below_step (by repeat (first | (with_reducible first | exact HB.out | apply below_alloc | apply pw_below_drewN | apply below_drew1) | exact HB.out)) hb); clear HO_5; clear HO_6; clear HB; have HO_5 := n0_; have HO_6 := n1_; have HO320 := n2_; have HB := n3_; clear n0_ n1_ n2_ n3_; (try clear hb); (try clear hb2); (try clear hk); (try clear hi); (try clear ho0); obtain ⟨Ao59, co59, eo59⟩ := Kd.R_slice HO320.out; subst eo59) | (go_at_call 35; (with_reducible refine (caulkref12_Same.calls k3 _ _ t317 _ _ l0 t321 _ ?side1 ?side2 ?side3 ?side4 A57.out).mono ?_); (case side1 => repeat (first | exact (Kd.R_reads' HO320.out).2.2 | (with_reducible refine Kd.C_alloc ?_ _) | (with_reducible refine Kd.C_drewN ?_ _) | (with_reducible refine Kd.C_drew ?_))); (case side2 => exact (Kd.R_reads' HO320.out).2.1); (case side3 => repeat (first | exact (Kd.C_below HR0.out HB.out) | (with_reducible refine Kd.C_alloc ?_ _) | (with_reducible refine Kd.C_drewN ?_ _) | (with_reducible refine Kd.C_drew ?_))); (case side4 => exact HC0.out); rintro e w' ⟨rfl, ⟨nd, rfl⟩⟩))
                            go_ret
                            exact ⟨by first | rfl | (simp [errW_none, errW_some] <;> rfl) | (simp [*, errW_none, errW_some] <;> rfl), by repeat (first | (with_reducible first | exact HB.out | apply below_alloc | apply pw_below_drewN | apply below_drew1) | exact HB.out)⟩
                          · rw [if_neg c56] at H
                            exact absurd H (by simp)
      · rw [if_neg c8] at H
        have c8b0 : (t302 == 0) = false := beq_eq_false_iff_ne.mpr c8
        have c8b1 : (t302 != 0) = true := bne_iff_ne.mpr c8
        by_cases c60 : (t301.length : Int) = 0
        · rw [if_pos c60] at H
          have c60b0 : ((t301.length : Int) == 0) = true := beq_iff_eq.mpr c60
          have c60b1 : ((t301.length : Int) != 0) = false := bne_eq_false_iff_eq.mpr c60
          clear c60
          replace H := Option.bind_eq_some_iff.mp H
          obtain ⟨t307, A610, H⟩ := H
          replace H : (if t307 = true then (if a1 < 0 then (some true) else ((space_Free.f l0).bind fun t308 => (some (decide (t308 < a1))))) else (none)) = some r := H
          have A61 := Aside0.mk A610
          clear A610
          by_cases c62 : t307 = true
          · subst c62
            have H1 : (if a1 < 0 then (some true) else ((space_Free.f l0).bind fun t308 => (some (decide (t308 < a1))))) = some r := by rw [if_pos rfl] at H; exact H
            clear H
            have H := H1
            clear H1
            by_cases c63 : a1 < 0
            · rw [if_pos c63] at H
              have c63b0 : decide (a1 < 0) = true := decide_eq_true c63
              clear c63
              obtain rfl := Option.some.inj H
              go_enter Try.func7, Try.ntmps7
              go_wp2_with (first | ((with_reducible refine gate_callee (f := 26) rfl ?_); refine goesL_ (some 13) rfl rfl Try.func26 (by kernel_rfl) rfl #[] rfl (by (try simp only [List.map_toArray, List.map_cons, List.map_nil]); first | done | rfl | (simp only [List.length_drop, List.length_take]; rfl)) ?_; (with_reducible refine (caulklaw12_lives.calls k  true _ A3.out).mono ?_); rintro e w64 ⟨rfl, hb⟩; refine ⟨_, rfl, ?_⟩; have n0_ := Aside0.mk (below_step (by repeat (first | (with_reducible first | exact HB.out | apply below_alloc | apply pw_below_drewN | apply below_drew1) | exact HB.out)) hb); clear HB; have HB := n0_; clear n0_; (try clear hb); (try clear hb2); (try clear hk); (try clear hi)) | ((with_reducible refine gate_callee (f := 31) rfl ?_); refine goesL_ (some 21) rfl rfl Try.func31 (by kernel_rfl) rfl #[.slice A0 l0.length c0, .int .i64 a1] rfl (by (try simp only [List.map_toArray, List.map_cons, List.map_nil]); first | done | rfl | (simp only [List.length_drop, List.length_take]; rfl)) ?_; (with_reducible refine (space_Take.calls _ _ l0 a1 t300 t301 t302 _ ?side1 ?side2 A7.out).mono ?_); (case side1 => repeat (first | exact (Kd.C_below HR0.out HB.out) | (with_reducible refine Kd.C_alloc ?_ _) | (with_reducible refine Kd.C_drewN ?_ _) | (with_reducible refine Kd.C_drew ?_))); (case side2 => exact HC0.out); rintro e w65 ⟨v303, v305, rfl, ho0, ho1, hb⟩; refine ⟨_, rfl, ?_⟩; have n0_ := Aside0.mk (Kd.R_lower ho0 (below_size (by repeat (first | (with_reducible first | exact HB.out | apply below_alloc | apply pw_below_drewN | apply below_drew1) | exact HB.out)))); have n1_ := Aside0.mk (Kd.R_lower ho1 (below_size (by repeat (first | (with_reducible first | exact HB.out | apply below_alloc | apply pw_below_drewN | apply below_drew1) | exact HB.out)))); have n2_ := Aside0.mk (below_step (by repeat (first | (with_reducible first | exact HB.out | apply below_alloc | apply pw_below_drewN | apply below_drew1) | exact HB.out)) hb); clear HB; have HO304 := n0_; have HO306 := n1_; have HB := n2_; clear n0_ n1_ n2_; (try clear hb); (try clear hb2); (try clear hk); (try clear hi); (try clear ho0); (try clear ho1); obtain ⟨Ao66, co66, eo66⟩ := Kd.R_slice HO306.out; subst eo66; obtain ⟨Ao67, co67, eo67⟩ := Kd.R_slice HO304.out; subst eo67) | (go_at_call 35; (with_reducible refine (caulkref12_Same.calls k _ _ t300 _ _ l0 true _ ?side1 ?side2 ?side3 ?side4 A61.out).mono ?_); (case side1 => repeat (first | exact (Kd.R_reads' HO304.out).2.2 | (with_reducible refine Kd.C_alloc ?_ _) | (with_reducible refine Kd.C_drewN ?_ _) | (with_reducible refine Kd.C_drew ?_))); (case side2 => exact (Kd.R_reads' HO304.out).2.1); (case side3 => repeat (first | exact (Kd.C_below HR0.out HB.out) | (with_reducible refine Kd.C_alloc ?_ _) | (with_reducible refine Kd.C_drewN ?_ _) | (with_reducible refine Kd.C_drew ?_))); (case side4 => exact HC0.out); rintro e w' ⟨rfl, ⟨nd, rfl⟩⟩))
              go_ret
              exact ⟨by first | rfl | (simp [errW_none, errW_some] <;> rfl) | (simp [*, errW_none, errW_some] <;> rfl), by repeat (first | (with_reducible first | exact HB.out | apply below_alloc | apply pw_below_drewN | apply below_drew1) | exact HB.out)⟩
            · rw [if_neg c63] at H
              have c63b0 : decide (a1 < 0) = false := decide_eq_false c63
              clear c63
              replace H := Option.bind_eq_some_iff.mp H
              obtain ⟨t308, A680, H⟩ := H
              replace H : (some (decide (t308 < a1))) = some r := H
              have A68 := Aside0.mk A680
              clear A680
              obtain rfl := Option.some.inj H
              go_enter Try.func7, Try.ntmps7
              go_wp2_with (first | ((with_reducible refine gate_callee (f := 26) rfl ?_); refine goesL_ (some 13) rfl rfl Try.func26 (by kernel_rfl) rfl #[] rfl (by (try simp only [List.map_toArray, List.map_cons, List.map_nil]); first | done | rfl | (simp only [List.length_drop, List.length_take]; rfl)) ?_; (with_reducible refine (caulklaw12_lives.calls k  true _ A3.out).mono ?_); rintro e w69 ⟨rfl, hb⟩; refine ⟨_, rfl, ?_⟩; have n0_ := Aside0.mk (below_step (by repeat (first | (with_reducible first | exact HB.out | apply below_alloc | apply pw_below_drewN | apply below_drew1) | exact HB.out)) hb); clear HB; have HB := n0_; clear n0_; (try clear hb); (try clear hb2); (try clear hk); (try clear hi)) | ((with_reducible refine gate_callee (f := 31) rfl ?_); refine goesL_ (some 21) rfl rfl Try.func31 (by kernel_rfl) rfl #[.slice A0 l0.length c0, .int .i64 a1] rfl (by (try simp only [List.map_toArray, List.map_cons, List.map_nil]); first | done | rfl | (simp only [List.length_drop, List.length_take]; rfl)) ?_; (with_reducible refine (space_Take.calls _ _ l0 a1 t300 t301 t302 _ ?side1 ?side2 A7.out).mono ?_); (case side1 => repeat (first | exact (Kd.C_below HR0.out HB.out) | (with_reducible refine Kd.C_alloc ?_ _) | (with_reducible refine Kd.C_drewN ?_ _) | (with_reducible refine Kd.C_drew ?_))); (case side2 => exact HC0.out); rintro e w70 ⟨v303, v305, rfl, ho0, ho1, hb⟩; refine ⟨_, rfl, ?_⟩; have n0_ := Aside0.mk (Kd.R_lower ho0 (below_size (by repeat (first | (with_reducible first | exact HB.out | apply below_alloc | apply pw_below_drewN | apply below_drew1) | exact HB.out)))); have n1_ := Aside0.mk (Kd.R_lower ho1 (below_size (by repeat (first | (with_reducible first | exact HB.out | apply below_alloc | apply pw_below_drewN | apply below_drew1) | exact HB.out)))); have n2_ := Aside0.mk (below_step (by repeat (first | (with_reducible first | exact HB.out | apply below_alloc | apply pw_below_drewN | apply below_drew1) | exact HB.out)) hb); clear HB; have HO304 := n0_; have HO306 := n1_; have HB := n2_; clear n0_ n1_ n2_; (try clear hb); (try clear hb2); (try clear hk); (try clear hi); (try clear ho0); (try clear ho1); obtain ⟨Ao71, co71, eo71⟩ := Kd.R_slice HO306.out; subst eo71; obtain ⟨Ao72, co72, eo72⟩ := Kd.R_slice HO304.out; subst eo72) | (go_at_call 35; (with_reducible refine (caulkref12_Same.calls k _ _ t300 _ _ l0 true _ ?side1 ?side2 ?side3 ?side4 A61.out).mono ?_); (case side1 => repeat (first | exact (Kd.R_reads' HO304.out).2.2 | (with_reducible refine Kd.C_alloc ?_ _) | (with_reducible refine Kd.C_drewN ?_ _) | (with_reducible refine Kd.C_drew ?_))); (case side2 => exact (Kd.R_reads' HO304.out).2.1); (case side3 => repeat (first | exact (Kd.C_below HR0.out HB.out) | (with_reducible refine Kd.C_alloc ?_ _) | (with_reducible refine Kd.C_drewN ?_ _) | (with_reducible refine Kd.C_drew ?_))); (case side4 => exact HC0.out); rintro e w' ⟨rfl, ⟨nd, rfl⟩⟩) | (go_at_call 37; (with_reducible refine (space_Free.calls _ _ l0 t308 _ ?side1 ?side2 A68.out).mono ?_); (case side1 => repeat (first | exact (Kd.C_below HR0.out (by repeat (first | (with_reducible first | exact HB.out | apply below_alloc | apply pw_below_drewN | apply below_drew1) | exact HB.out))) | (with_reducible refine Kd.C_alloc ?_ _) | (with_reducible refine Kd.C_drewN ?_ _) | (with_reducible refine Kd.C_drew ?_))); (case side2 => exact HC0.out); rintro e w73 ⟨rfl, hb⟩; have n0_ := Aside0.mk (Kd.R_below (by (with_reducible repeat (first | apply Kd.R_alloc | apply Kd.R_drewN | apply Kd.R_drew)); exact HO304.out) hb); have n1_ := Aside0.mk (Kd.R_below (by (with_reducible repeat (first | apply Kd.R_alloc | apply Kd.R_drewN | apply Kd.R_drew)); exact HO306.out) hb); have n2_ := Aside0.mk (below_step (by repeat (first | (with_reducible first | exact HB.out | apply below_alloc | apply pw_below_drewN | apply below_drew1) | exact HB.out)) hb); clear HO304; clear HO306; clear HB; have HO304 := n0_; have HO306 := n1_; have HB := n2_; clear n0_ n1_ n2_; (try clear hb); (try clear hb2); (try clear hk); (try clear hi)))
              go_ret
              exact ⟨by first | rfl | (simp [errW_none, errW_some] <;> rfl) | (simp [*, errW_none, errW_some] <;> rfl), by repeat (first | (with_reducible first | exact HB.out | apply below_alloc | apply pw_below_drewN | apply below_drew1) | exact HB.out)⟩
          · replace c62 := Bool.eq_false_iff.mpr c62
            subst c62
            have H1 : (none) = some r := by rw [if_neg (show ¬ (false = true) by decide)] at H; exact H
            clear H
            have H := H1
            clear H1
            exact absurd H (by simp)
        · rw [if_neg c60] at H
          exact absurd H (by simp)
  · replace c4 := Bool.eq_false_iff.mpr c4
    subst c4
    have H1 : (none) = some r := by rw [if_neg (show ¬ (false = true) by decide)] at H; exact H
    clear H
    have H := H1
    clear H1
    exact absurd H (by simp)

def caulklaw12_SpaceLowest.Pure : Prop := ∀ (l0 : List Bool) (a1 : Int), l0.length * 1 ≤ 140737488351232 → (Lit.int .i64 a1).wf = true → ∃ k, caulklaw12_SpaceLowest.f k l0 a1 = some true

end Go.Proofs.Ytgiljibkjccgfaa.G
