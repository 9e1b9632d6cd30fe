-- Written by a program of this session over the print of the translation (its own patch, foreign contracts, cut ways): not trusted: Lean checks it.
import Derived.Test.YtlobaomleocpjaaGx0
import Derived.Test.YtlobaomleocpjaaGx1
import Derived.Test.YtlobaomleocpjaaGx2
import Derived.Test.YtlobaomleocpjaaGx3
import Derived.Test.YtlobaomleocpjaaGx4
import Derived.Test.YtlobaomleocpjaaGx5
import Derived.Test.YtlobaomleocpjaaMatCau
import Derived.Test.YtlobaomleocpjaaMatFn
import Derived.Test.YtlobaomleocpjaaMatMul
import Derived.Test.YtlobaomleocpjaaMatRows
import Derived.Test.YtlobaomleocpjaaMatSame
namespace Go.Proofs.Ytlobaomleocpjaa.G
open Go.RowKit Go.Proofs.YtlobaomleocpjaaW.PrintWords Go.Proofs.YtlobaomleocpjaaW.PrintLast Go.Proofs.YtlobaomleocpjaaW.PrintMore
attribute [local go_sem] max2_int min2_int max_two min_two max_three min_three max_four min_four   -- for this text's walks alone
set_option linter.unusedVariables false
set_option linter.unusedSimpArgs false

/-! ### caulklaw03_MatrixTells: function 3 -/
def caulklaw03_MatrixTells.j0 : Nat → List (List Int) → List (List Int) → List Int → Int → Int → Bool → Option (Bool)
  | 0, _, _, _, _, _, _ => none
  | k + 1, x0, x1, x2, x3, x4, x50 => if x50 = true then ((caulklaw03_lives.f k).bind fun t264 => (some t264)) else ((matrix_Mul.f x0 x1).bind fun bt265 => ((caulkref03_Mul.f k x0 x1).bind fun bt269 => ((matrix_Rows.f x0 x2).bind fun bt273 => ((caulkref03_Rows.f k x0 x2).bind fun bt277 => ((matrix_Unit.f x3).bind fun bt281 => ((caulkref03_Unit.f k x3).bind fun bt285 => ((matrix_Cauchy.f x3 x4).bind fun bt289 => ((caulkref03_Cauchy.f k x3 x4).bind fun bt293 => ((caulklaw03_lives.f k).bind fun t297 => (if t297 = true then ((matrix_Check.f k x0).bind fun t298 => ((caulkref03_Check.f k x0).bind fun t299 => (if t298 = t299 then ((caulkref03_Same.f bt265.1 bt269.1).bind fun t300 => (if t300 = true then (if bt265.2 = bt269.2 then ((caulkref03_Same.f bt273.1 bt277.1).bind fun t301 => (if t301 = true then (if bt273.2 = bt277.2 then ((caulkref03_Same.f bt281.1 bt285.1).bind fun t302 => (if t302 = true then (if bt281.2 = bt285.2 then ((caulkref03_Same.f bt289.1 bt293.1).bind fun t303 => (if t303 = true then (some (bt289.2 == bt293.2)) else (none))) else (none)) else (none))) else (none)) else (none))) else (none)) else (none))) else (none)))) else (none)))))))))))
def caulklaw03_MatrixTells.f (k : Nat) (l0 : List (List Int)) (l1 : List (List Int)) (l2 : List Int) (a3 : Int) (a4 : Int) : Option (Bool) := (caulklaw03_small.f k l0).bind fun t262 => (if t262 = true then ((caulklaw03_small.f k l1).bind fun t263 => (if t263 = true then (if a3 > 20 then (if a3 ≤ 255 then (caulklaw03_MatrixTells.j0 k l0 l1 l2 a3 a4 true) else (if a4 > 20 then (caulklaw03_MatrixTells.j0 k l0 l1 l2 a3 a4 (decide (a4 ≤ 255))) else (caulklaw03_MatrixTells.j0 k l0 l1 l2 a3 a4 false))) else (if a4 > 20 then (caulklaw03_MatrixTells.j0 k l0 l1 l2 a3 a4 (decide (a4 ≤ 255))) else (caulklaw03_MatrixTells.j0 k l0 l1 l2 a3 a4 false))) else (caulklaw03_MatrixTells.j0 k l0 l1 l2 a3 a4 true))) else (caulklaw03_MatrixTells.j0 k l0 l1 l2 a3 a4 true))
theorem caulklaw03_MatrixTells.mono_l : ∀ k, (∀ y0 y1 y2 y3 y4 y5, LeO (caulklaw03_MatrixTells.j0 k y0 y1 y2 y3 y4 y5) (caulklaw03_MatrixTells.j0 (k + 1) y0 y1 y2 y3 y4 y5))
  | 0 => fun _ _ _ _ _ _ r h => by simp [caulklaw03_MatrixTells.j0] at h
  | k + 1 => by
    have ih0 := caulklaw03_MatrixTells.mono_l k
    · intro y0 y1 y2 y3 y4 y5
      unfold caulklaw03_MatrixTells.j0
      repeat' first
      | (with_reducible exact ih0 _ _ _ _ _ _)
      | (with_reducible exact caulklaw03_lives.mono _)
      | (with_reducible exact caulklaw03_small.mono _ _)
      | (with_reducible exact caulkref03_Cauchy.mono _ _ _)
      | (with_reducible exact caulkref03_Check.mono _ _)
      | (with_reducible exact caulkref03_Mul.mono _ _ _)
      | (with_reducible exact caulkref03_Rows.mono _ _ _)
      | (with_reducible exact caulkref03_Unit.mono _ _)
      | (with_reducible exact matrix_Check.mono _ _)
      | (with_reducible exact LeO.refl _)
      | (with_reducible exact LeO.none _)
      | (with_reducible refine LeO.ite ?_ ?_)
      | (with_reducible refine LeO.bind ?_ (fun _ => ?_))
      | exact ih0 _ _ _ _ _ _
      | exact caulklaw03_lives.mono _
      | exact caulklaw03_small.mono _ _
      | exact caulkref03_Cauchy.mono _ _ _
      | exact caulkref03_Check.mono _ _
      | exact caulkref03_Mul.mono _ _ _
      | exact caulkref03_Rows.mono _ _ _
      | exact caulkref03_Unit.mono _ _
      | exact matrix_Check.mono _ _
      | exact LeO.none _
      | refine LeO.ite ?_ ?_
      | refine LeO.bind ?_ (fun _ => ?_)
theorem caulklaw03_MatrixTells.mono : ∀ a0 a1 a2 a3 a4 k, LeO (caulklaw03_MatrixTells.f k a0 a1 a2 a3 a4) (caulklaw03_MatrixTells.f (k + 1) a0 a1 a2 a3 a4) := by
  intro a0 a1 a2 a3 a4 k
  have ih0 := caulklaw03_MatrixTells.mono_l k
  unfold caulklaw03_MatrixTells.f
  repeat' first
      | (with_reducible exact ih0 _ _ _ _ _ _)
      | (with_reducible exact caulklaw03_lives.mono _)
      | (with_reducible exact caulklaw03_small.mono _ _)
      | (with_reducible exact caulkref03_Cauchy.mono _ _ _)
      | (with_reducible exact caulkref03_Check.mono _ _)
      | (with_reducible exact caulkref03_Mul.mono _ _ _)
      | (with_reducible exact caulkref03_Rows.mono _ _ _)
      | (with_reducible exact caulkref03_Unit.mono _ _)
      | (with_reducible exact matrix_Check.mono _ _)
      | (with_reducible exact LeO.refl _)
      | (with_reducible exact LeO.none _)
      | (with_reducible refine LeO.ite ?_ ?_)
      | (with_reducible refine LeO.bind ?_ (fun _ => ?_))
      | exact ih0 _ _ _ _ _ _
      | exact caulklaw03_lives.mono _
      | exact caulklaw03_small.mono _ _
      | exact caulkref03_Cauchy.mono _ _ _
      | exact caulkref03_Check.mono _ _
      | exact caulkref03_Mul.mono _ _ _
      | exact caulkref03_Rows.mono _ _ _
      | exact caulkref03_Unit.mono _ _
      | exact matrix_Check.mono _ _
      | exact LeO.none _
      | refine LeO.ite ?_ ?_
      | refine LeO.bind ?_ (fun _ => ?_)
set_option maxHeartbeats 8000000 in
set_option maxRecDepth 100000 in
theorem caulklaw03_MatrixTells.calls (k : Nat) (A0 : Option Addr) (c0 : Nat) (l0 : List (List Int)) (A1 : Option Addr) (c1 : Nat) (l1 : List (List Int)) (A2 : Option Addr) (c2 : Nat) (l2 : List Int) (a3 : Int) (a4 : Int) (r : Bool) (w : World) (hr0 : Kd.C (Kd.slice 5 (Kd.int .u8)) w A0 l0.length l0) (hc0 : l0.length ≤ c0) (hr1 : Kd.C (Kd.slice 5 (Kd.int .u8)) w A1 l1.length l1) (hc1 : l1.length ≤ c1) (hr2 : Kd.C (Kd.int .i64) w A2 l2.length l2) (hc2 : l2.length ≤ c2) (h : caulklaw03_MatrixTells.f k l0 l1 l2 a3 a4 = some r) :
    Calls Try.prog 3 #[.slice A0 l0.length c0, .slice A1 l1.length c1, .slice A2 l2.length c2, .int .i64 a3, .int .i64 a4] w fun e w' => e = .returned (.bool r) ∧ Below w.heap.size w w' := by
  have HR0 := Aside0.mk hr0
  have HC0 := Aside0.mk hc0
  clear hr0 hc0
  have HR1 := Aside0.mk hr1
  have HC1 := Aside0.mk hc1
  clear hr1 hc1
  have HR2 := Aside0.mk hr2
  have HC2 := Aside0.mk hc2
  clear hr2 hc2
  have HB := Aside0.mk (Below.refl w.heap.size w)
  have H : ((caulklaw03_small.f k l0).bind fun t262 => (if t262 = true then ((caulklaw03_small.f k l1).bind fun t263 => (if t263 = true then (if a3 > 20 then (if a3 ≤ 255 then (caulklaw03_MatrixTells.j0 k l0 l1 l2 a3 a4 true) else (if a4 > 20 then (caulklaw03_MatrixTells.j0 k l0 l1 l2 a3 a4 (decide (a4 ≤ 255))) else (caulklaw03_MatrixTells.j0 k l0 l1 l2 a3 a4 false))) else (if a4 > 20 then (caulklaw03_MatrixTells.j0 k l0 l1 l2 a3 a4 (decide (a4 ≤ 255))) else (caulklaw03_MatrixTells.j0 k l0 l1 l2 a3 a4 false))) else (caulklaw03_MatrixTells.j0 k l0 l1 l2 a3 a4 true))) else (caulklaw03_MatrixTells.j0 k l0 l1 l2 a3 a4 true))) = some r := h
  clear h
  have HC6 := Aside0.mk H
  clear H
  go_enter Try.func3, Try.ntmps3
  go_upto_region 1 with (fail)
  go_cut [50] (fun v50 wc => ∃ (kq : Nat) (x50_5 : Bool), v50 = .bool x50_5 ∧ Aside0 (caulklaw03_MatrixTells.j0 kq l0 l1 l2 a3 a4 x50_5 = some r) ∧ Aside0 (kq ≤ k) ∧ Aside0 (Below w.heap.size w wc))
  case first =>
    have H := HC6.out
    clear HC6
    replace H := Option.bind_eq_some_iff.mp H
    obtain ⟨t262, A70, H⟩ := H
    replace H : (if t262 = true then ((caulklaw03_small.f k l1).bind fun t263 => (if t263 = true then (if a3 > 20 then (if a3 ≤ 255 then (caulklaw03_MatrixTells.j0 k l0 l1 l2 a3 a4 true) else (if a4 > 20 then (caulklaw03_MatrixTells.j0 k l0 l1 l2 a3 a4 (decide (a4 ≤ 255))) else (caulklaw03_MatrixTells.j0 k l0 l1 l2 a3 a4 false))) else (if a4 > 20 then (caulklaw03_MatrixTells.j0 k l0 l1 l2 a3 a4 (decide (a4 ≤ 255))) else (caulklaw03_MatrixTells.j0 k l0 l1 l2 a3 a4 false))) else (caulklaw03_MatrixTells.j0 k l0 l1 l2 a3 a4 true))) else (caulklaw03_MatrixTells.j0 k l0 l1 l2 a3 a4 true)) = some r := H
    have A7 := Aside0.mk A70
    clear A70
    by_cases c8 : t262 = true
    · subst c8
      have H1 : ((caulklaw03_small.f k l1).bind fun t263 => (if t263 = true then (if a3 > 20 then (if a3 ≤ 255 then (caulklaw03_MatrixTells.j0 k l0 l1 l2 a3 a4 true) else (if a4 > 20 then (caulklaw03_MatrixTells.j0 k l0 l1 l2 a3 a4 (decide (a4 ≤ 255))) else (caulklaw03_MatrixTells.j0 k l0 l1 l2 a3 a4 false))) else (if a4 > 20 then (caulklaw03_MatrixTells.j0 k l0 l1 l2 a3 a4 (decide (a4 ≤ 255))) else (caulklaw03_MatrixTells.j0 k l0 l1 l2 a3 a4 false))) else (caulklaw03_MatrixTells.j0 k l0 l1 l2 a3 a4 true))) = some r := by rw [if_pos rfl] at H; exact H
      clear H
      have H := H1
      clear H1
      replace H := Option.bind_eq_some_iff.mp H
      obtain ⟨t263, A90, H⟩ := H
      replace H : (if t263 = true then (if a3 > 20 then (if a3 ≤ 255 then (caulklaw03_MatrixTells.j0 k l0 l1 l2 a3 a4 true) else (if a4 > 20 then (caulklaw03_MatrixTells.j0 k l0 l1 l2 a3 a4 (decide (a4 ≤ 255))) else (caulklaw03_MatrixTells.j0 k l0 l1 l2 a3 a4 false))) else (if a4 > 20 then (caulklaw03_MatrixTells.j0 k l0 l1 l2 a3 a4 (decide (a4 ≤ 255))) else (caulklaw03_MatrixTells.j0 k l0 l1 l2 a3 a4 false))) else (caulklaw03_MatrixTells.j0 k l0 l1 l2 a3 a4 true)) = some r := H
      have A9 := Aside0.mk A90
      clear A90
      by_cases c10 : t263 = true
      · subst c10
        have H1 : (if a3 > 20 then (if a3 ≤ 255 then (caulklaw03_MatrixTells.j0 k l0 l1 l2 a3 a4 true) else (if a4 > 20 then (caulklaw03_MatrixTells.j0 k l0 l1 l2 a3 a4 (decide (a4 ≤ 255))) else (caulklaw03_MatrixTells.j0 k l0 l1 l2 a3 a4 false))) else (if a4 > 20 then (caulklaw03_MatrixTells.j0 k l0 l1 l2 a3 a4 (decide (a4 ≤ 255))) else (caulklaw03_MatrixTells.j0 k l0 l1 l2 a3 a4 false))) = some r := by rw [if_pos rfl] at H; exact H
        clear H
        have H := H1
        clear H1
        by_cases c11 : a3 > 20
        · rw [if_pos c11] at H
          have c11b0 : decide (20 < a3) = true := decide_eq_true c11
          clear c11
          (first | rw [c11b0] | (simp only [i64_w, i32_w]; rw [c11b0]) | skip)
          by_cases c12 : a3 ≤ 255
          · rw [if_pos c12] at H
            have c12b0 : decide (a3 ≤ 255) = true := decide_eq_true c12
            clear c12
            have H' := Aside0.mk H
            clear H
            go_wp2_with (first | ((with_reducible refine gate_callee (f := 12) rfl ?_); refine goesL_ (some 28) rfl rfl Try.func12 (by kernel_rfl) rfl #[.slice A0 l0.length c0] rfl (by (try simp only [List.map_toArray, List.map_cons, List.map_nil]); first | done | rfl | (simp only [List.length_drop, List.length_take]; rfl)) ?_; (with_reducible refine (caulklaw03_small.calls k _ _ l0 true _ ?side1 ?side2 A7.out).mono ?_); (case side1 => repeat (first | exact (Kd.C_below HR0.out HB.out) | (with_reducible refine Kd.C_alloc ?_ _) | (with_reducible refine Kd.C_drewN ?_ _) | (with_reducible refine Kd.C_drew ?_))); (case side2 => exact HC0.out); rintro e w' ⟨rfl, ⟨nd, rfl⟩⟩; refine ⟨_, rfl, ?_⟩) | (go_at_call 12; (with_reducible refine (caulklaw03_small.calls k _ _ l1 true _ ?side1 ?side2 A9.out).mono ?_); (case side1 => repeat (first | exact (Kd.C_below HR1.out (by repeat (first | (with_reducible first | exact HB.out | apply below_alloc | apply pw_below_drewN | apply below_drew1) | exact HB.out))) | (with_reducible refine Kd.C_alloc ?_ _) | (with_reducible refine Kd.C_drewN ?_ _) | (with_reducible refine Kd.C_drew ?_))); (case side2 => exact HC1.out); rintro e w' ⟨rfl, ⟨nd, rfl⟩⟩))
            go_meet
            case rel => exact ⟨_, (true), (by first | rfl | (simp; done) | (simp [*]; done)), H', ⟨by first | omega | exact Nat.le_refl _⟩, ⟨by repeat (first | (with_reducible first | exact HB.out | apply below_alloc | apply pw_below_drewN | apply below_drew1) | exact HB.out)⟩⟩
          · rw [if_neg c12] at H
            have c12b0 : decide (a3 ≤ 255) = false := decide_eq_false c12
            clear c12
            by_cases c13 : a4 > 20
            · rw [if_pos c13] at H
              have c13b0 : decide (20 < a4) = true := decide_eq_true c13
              clear c13
              have H' := Aside0.mk H
              clear H
              go_wp2_with (first | ((with_reducible refine gate_callee (f := 12) rfl ?_); refine goesL_ (some 28) rfl rfl Try.func12 (by kernel_rfl) rfl #[.slice A0 l0.length c0] rfl (by (try simp only [List.map_toArray, List.map_cons, List.map_nil]); first | done | rfl | (simp only [List.length_drop, List.length_take]; rfl)) ?_; (with_reducible refine (caulklaw03_small.calls k _ _ l0 true _ ?side1 ?side2 A7.out).mono ?_); (case side1 => repeat (first | exact (Kd.C_below HR0.out HB.out) | (with_reducible refine Kd.C_alloc ?_ _) | (with_reducible refine Kd.C_drewN ?_ _) | (with_reducible refine Kd.C_drew ?_))); (case side2 => exact HC0.out); rintro e w' ⟨rfl, ⟨nd, rfl⟩⟩; refine ⟨_, rfl, ?_⟩) | (go_at_call 12; (with_reducible refine (caulklaw03_small.calls k _ _ l1 true _ ?side1 ?side2 A9.out).mono ?_); (case side1 => repeat (first | exact (Kd.C_below HR1.out (by repeat (first | (with_reducible first | exact HB.out | apply below_alloc | apply pw_below_drewN | apply below_drew1) | exact HB.out))) | (with_reducible refine Kd.C_alloc ?_ _) | (with_reducible refine Kd.C_drewN ?_ _) | (with_reducible refine Kd.C_drew ?_))); (case side2 => exact HC1.out); rintro e w' ⟨rfl, ⟨nd, rfl⟩⟩))
              go_meet
              case rel => exact ⟨_, (decide (a4 ≤ 255)), (by first | rfl | (simp; done) | (simp [*]; done)), H', ⟨by first | omega | exact Nat.le_refl _⟩, ⟨by repeat (first | (with_reducible first | exact HB.out | apply below_alloc | apply pw_below_drewN | apply below_drew1) | exact HB.out)⟩⟩
            · rw [if_neg c13] at H
              have c13b0 : decide (20 < a4) = false := decide_eq_false c13
              clear c13
              have H' := Aside0.mk H
              clear H
              go_wp2_with (first | ((with_reducible refine gate_callee (f := 12) rfl ?_); refine goesL_ (some 28) rfl rfl Try.func12 (by kernel_rfl) rfl #[.slice A0 l0.length c0] rfl (by (try simp only [List.map_toArray, List.map_cons, List.map_nil]); first | done | rfl | (simp only [List.length_drop, List.length_take]; rfl)) ?_; (with_reducible refine (caulklaw03_small.calls k _ _ l0 true _ ?side1 ?side2 A7.out).mono ?_); (case side1 => repeat (first | exact (Kd.C_below HR0.out HB.out) | (with_reducible refine Kd.C_alloc ?_ _) | (with_reducible refine Kd.C_drewN ?_ _) | (with_reducible refine Kd.C_drew ?_))); (case side2 => exact HC0.out); rintro e w' ⟨rfl, ⟨nd, rfl⟩⟩; refine ⟨_, rfl, ?_⟩) | (go_at_call 12; (with_reducible refine (caulklaw03_small.calls k _ _ l1 true _ ?side1 ?side2 A9.out).mono ?_); (case side1 => repeat (first | exact (Kd.C_below HR1.out (by repeat (first | (with_reducible first | exact HB.out | apply below_alloc | apply pw_below_drewN | apply below_drew1) | exact HB.out))) | (with_reducible refine Kd.C_alloc ?_ _) | (with_reducible refine Kd.C_drewN ?_ _) | (with_reducible refine Kd.C_drew ?_))); (case side2 => exact HC1.out); rintro e w' ⟨rfl, ⟨nd, rfl⟩⟩))
              go_meet
              case rel => exact ⟨_, (false), (by first | rfl | (simp; done) | (simp [*]; done)), H', ⟨by first | omega | exact Nat.le_refl _⟩, ⟨by repeat (first | (with_reducible first | exact HB.out | apply below_alloc | apply pw_below_drewN | apply below_drew1) | exact HB.out)⟩⟩
        · rw [if_neg c11] at H
          have c11b0 : decide (20 < a3) = false := decide_eq_false c11
          clear c11
          (first | rw [c11b0] | (simp only [i64_w, i32_w]; rw [c11b0]) | skip)
          by_cases c14 : a4 > 20
          · rw [if_pos c14] at H
            have c14b0 : decide (20 < a4) = true := decide_eq_true c14
            clear c14
            have H' := Aside0.mk H
            clear H
            go_wp2_with (first | ((with_reducible refine gate_callee (f := 12) rfl ?_); refine goesL_ (some 28) rfl rfl Try.func12 (by kernel_rfl) rfl #[.slice A0 l0.length c0] rfl (by (try simp only [List.map_toArray, List.map_cons, List.map_nil]); first | done | rfl | (simp only [List.length_drop, List.length_take]; rfl)) ?_; (with_reducible refine (caulklaw03_small.calls k _ _ l0 true _ ?side1 ?side2 A7.out).mono ?_); (case side1 => repeat (first | exact (Kd.C_below HR0.out HB.out) | (with_reducible refine Kd.C_alloc ?_ _) | (with_reducible refine Kd.C_drewN ?_ _) | (with_reducible refine Kd.C_drew ?_))); (case side2 => exact HC0.out); rintro e w' ⟨rfl, ⟨nd, rfl⟩⟩; refine ⟨_, rfl, ?_⟩) | (go_at_call 12; (with_reducible refine (caulklaw03_small.calls k _ _ l1 true _ ?side1 ?side2 A9.out).mono ?_); (case side1 => repeat (first | exact (Kd.C_below HR1.out (by repeat (first | (with_reducible first | exact HB.out | apply below_alloc | apply pw_below_drewN | apply below_drew1) | exact HB.out))) | (with_reducible refine Kd.C_alloc ?_ _) | (with_reducible refine Kd.C_drewN ?_ _) | (with_reducible refine Kd.C_drew ?_))); (case side2 => exact HC1.out); rintro e w' ⟨rfl, ⟨nd, rfl⟩⟩))
            go_meet
            case rel => exact ⟨_, (decide (a4 ≤ 255)), (by first | rfl | (simp; done) | (simp [*]; done)), H', ⟨by first | omega | exact Nat.le_refl _⟩, ⟨by repeat (first | (with_reducible first | exact HB.out | apply below_alloc | apply pw_below_drewN | apply below_drew1) | exact HB.out)⟩⟩
          · rw [if_neg c14] at H
            have c14b0 : decide (20 < a4) = false := decide_eq_false c14
            clear c14
            have H' := Aside0.mk H
            clear H
            go_wp2_with (first | ((with_reducible refine gate_callee (f := 12) rfl ?_); refine goesL_ (some 28) rfl rfl Try.func12 (by kernel_rfl) rfl #[.slice A0 l0.length c0] rfl (by (try simp only [List.map_toArray, List.map_cons, List.map_nil]); first | done | rfl | (simp only [List.length_drop, List.length_take]; rfl)) ?_; (with_reducible refine (caulklaw03_small.calls k _ _ l0 true _ ?side1 ?side2 A7.out).mono ?_); (case side1 => repeat (first | exact (Kd.C_below HR0.out HB.out) | (with_reducible refine Kd.C_alloc ?_ _) | (with_reducible refine Kd.C_drewN ?_ _) | (with_reducible refine Kd.C_drew ?_))); (case side2 => exact HC0.out); rintro e w' ⟨rfl, ⟨nd, rfl⟩⟩; refine ⟨_, rfl, ?_⟩) | (go_at_call 12; (with_reducible refine (caulklaw03_small.calls k _ _ l1 true _ ?side1 ?side2 A9.out).mono ?_); (case side1 => repeat (first | exact (Kd.C_below HR1.out (by repeat (first | (with_reducible first | exact HB.out | apply below_alloc | apply pw_below_drewN | apply below_drew1) | exact HB.out))) | (with_reducible refine Kd.C_alloc ?_ _) | (with_reducible refine Kd.C_drewN ?_ _) | (with_reducible refine Kd.C_drew ?_))); (case side2 => exact HC1.out); rintro e w' ⟨rfl, ⟨nd, rfl⟩⟩))
            go_meet
            case rel => exact ⟨_, (false), (by first | rfl | (simp; done) | (simp [*]; done)), H', ⟨by first | omega | exact Nat.le_refl _⟩, ⟨by repeat (first | (with_reducible first | exact HB.out | apply below_alloc | apply pw_below_drewN | apply below_drew1) | exact HB.out)⟩⟩
      · replace c10 := Bool.eq_false_iff.mpr c10
        subst c10
        have H1 : (caulklaw03_MatrixTells.j0 k l0 l1 l2 a3 a4 true) = some r := by rw [if_neg (show ¬ (false = true) by decide)] at H; exact H
        clear H
        have H := H1
        clear H1
        have H' := Aside0.mk H
        clear H
        go_wp2_with (first | ((with_reducible refine gate_callee (f := 12) rfl ?_); refine goesL_ (some 28) rfl rfl Try.func12 (by kernel_rfl) rfl #[.slice A0 l0.length c0] rfl (by (try simp only [List.map_toArray, List.map_cons, List.map_nil]); first | done | rfl | (simp only [List.length_drop, List.length_take]; rfl)) ?_; (with_reducible refine (caulklaw03_small.calls k _ _ l0 true _ ?side1 ?side2 A7.out).mono ?_); (case side1 => repeat (first | exact (Kd.C_below HR0.out HB.out) | (with_reducible refine Kd.C_alloc ?_ _) | (with_reducible refine Kd.C_drewN ?_ _) | (with_reducible refine Kd.C_drew ?_))); (case side2 => exact HC0.out); rintro e w' ⟨rfl, ⟨nd, rfl⟩⟩; refine ⟨_, rfl, ?_⟩) | (go_at_call 12; (with_reducible refine (caulklaw03_small.calls k _ _ l1 false _ ?side1 ?side2 A9.out).mono ?_); (case side1 => repeat (first | exact (Kd.C_below HR1.out (by repeat (first | (with_reducible first | exact HB.out | apply below_alloc | apply pw_below_drewN | apply below_drew1) | exact HB.out))) | (with_reducible refine Kd.C_alloc ?_ _) | (with_reducible refine Kd.C_drewN ?_ _) | (with_reducible refine Kd.C_drew ?_))); (case side2 => exact HC1.out); rintro e w' ⟨rfl, ⟨nd, rfl⟩⟩))
        go_meet
        case rel => exact ⟨_, (true), (by first | rfl | (simp; done) | (simp [*]; done)), H', ⟨by first | omega | exact Nat.le_refl _⟩, ⟨by repeat (first | (with_reducible first | exact HB.out | apply below_alloc | apply pw_below_drewN | apply below_drew1) | exact HB.out)⟩⟩
    · replace c8 := Bool.eq_false_iff.mpr c8
      subst c8
      have H1 : (caulklaw03_MatrixTells.j0 k l0 l1 l2 a3 a4 true) = some r := by rw [if_neg (show ¬ (false = true) by decide)] at H; exact H
      clear H
      have H := H1
      clear H1
      have H' := Aside0.mk H
      clear H
      go_wp2_with (first | ((with_reducible refine gate_callee (f := 12) rfl ?_); refine goesL_ (some 28) rfl rfl Try.func12 (by kernel_rfl) rfl #[.slice A0 l0.length c0] rfl (by (try simp only [List.map_toArray, List.map_cons, List.map_nil]); first | done | rfl | (simp only [List.length_drop, List.length_take]; rfl)) ?_; (with_reducible refine (caulklaw03_small.calls k _ _ l0 false _ ?side1 ?side2 A7.out).mono ?_); (case side1 => repeat (first | exact (Kd.C_below HR0.out HB.out) | (with_reducible refine Kd.C_alloc ?_ _) | (with_reducible refine Kd.C_drewN ?_ _) | (with_reducible refine Kd.C_drew ?_))); (case side2 => exact HC0.out); rintro e w' ⟨rfl, ⟨nd, rfl⟩⟩; refine ⟨_, rfl, ?_⟩))
      go_meet
      case rel => exact ⟨_, (true), (by first | rfl | (simp; done) | (simp [*]; done)), H', ⟨by first | omega | exact Nat.le_refl _⟩, ⟨by repeat (first | (with_reducible first | exact HB.out | apply below_alloc | apply pw_below_drewN | apply below_drew1) | exact HB.out)⟩⟩
  case rest =>
    clear HC6
    try clear c1
    try clear c2
    try clear p2
    try clear c3
    try clear c8
    try clear c10
    try clear c11
    try clear c11b0
    try clear c12
    try clear c12b0
    try clear c13
    try clear c13b0
    try clear c14
    try clear c14b0
    obtain ⟨kq, x50_5, rfl, HA, HJ5, HB⟩ := hcut
    cases kq with
    | zero => exact absurd HA.out (by simp [caulklaw03_MatrixTells.j0])
    | succ kj5 =>
      have H := HA.out
      clear HA
      simp only [caulklaw03_MatrixTells.j0] at H
      by_cases c15 : x50_5 = true
      · subst c15
        have H1 : ((caulklaw03_lives.f kj5).bind fun t264 => (some t264)) = some r := by rw [if_pos rfl] at H; exact H
        clear H
        have H := H1
        clear H1
        replace H := Option.bind_eq_some_iff.mp H
        obtain ⟨t264, A160, H⟩ := H
        replace H : (some t264) = some r := H
        have A16 := Aside0.mk A160
        clear A160
        obtain rfl := Option.some.inj H
        go_wp2_with (first | ((with_reducible refine gate_callee (f := 13) rfl ?_); refine goesL_ (some 51) rfl rfl Try.func13 (by kernel_rfl) rfl #[] rfl (by (try simp only [List.map_toArray, List.map_cons, List.map_nil]); first | done | rfl | (simp only [List.length_drop, List.length_take]; rfl)) ?_; (with_reducible refine (caulklaw03_lives.calls kj5  t264 _ A16.out).mono ?_); rintro e w17 ⟨rfl, hb⟩; refine ⟨_, rfl, ?_⟩; have n0_ := Aside0.mk (below_step (by repeat (first | (with_reducible first | exact HB.out | apply below_alloc | apply pw_below_drewN | apply below_drew1) | exact HB.out)) hb); clear HB; have HB := n0_; clear n0_; (try clear hb); (try clear hb2); (try clear hk); (try clear hi)))
        go_ret
        exact ⟨by first | rfl | (simp [errW_none, errW_some] <;> rfl) | (simp [*, errW_none, errW_some] <;> rfl), by repeat (first | (with_reducible first | exact HB.out | apply below_alloc | apply pw_below_drewN | apply below_drew1) | exact HB.out)⟩
      · replace c15 := Bool.eq_false_iff.mpr c15
        subst c15
        have H1 : ((matrix_Mul.f l0 l1).bind fun bt265 => ((caulkref03_Mul.f kj5 l0 l1).bind fun bt269 => ((matrix_Rows.f l0 l2).bind fun bt273 => ((caulkref03_Rows.f kj5 l0 l2).bind fun bt277 => ((matrix_Unit.f a3).bind fun bt281 => ((caulkref03_Unit.f kj5 a3).bind fun bt285 => ((matrix_Cauchy.f a3 a4).bind fun bt289 => ((caulkref03_Cauchy.f kj5 a3 a4).bind fun bt293 => ((caulklaw03_lives.f kj5).bind fun t297 => (if t297 = true then ((matrix_Check.f kj5 l0).bind fun t298 => ((caulkref03_Check.f kj5 l0).bind fun t299 => (if t298 = t299 then ((caulkref03_Same.f bt265.1 bt269.1).bind fun t300 => (if t300 = true then (if bt265.2 = bt269.2 then ((caulkref03_Same.f bt273.1 bt277.1).bind fun t301 => (if t301 = true then (if bt273.2 = bt277.2 then ((caulkref03_Same.f bt281.1 bt285.1).bind fun t302 => (if t302 = true then (if bt281.2 = bt285.2 then ((caulkref03_Same.f bt289.1 bt293.1).bind fun t303 => (if t303 = true then (some (bt289.2 == bt293.2)) else (none))) else (none)) else (none))) else (none)) else (none))) else (none)) else (none))) else (none)))) else (none))))))))))) = some r := by rw [if_neg (show ¬ (false = true) by decide)] at H; exact H
        clear H
        have H := H1
        clear H1
        replace H := Option.bind_eq_some_iff.mp H
        obtain ⟨⟨t265, t268⟩, A180, H⟩ := H
        replace H : ((caulkref03_Mul.f kj5 l0 l1).bind fun bt269 => ((matrix_Rows.f l0 l2).bind fun bt273 => ((caulkref03_Rows.f kj5 l0 l2).bind fun bt277 => ((matrix_Unit.f a3).bind fun bt281 => ((caulkref03_Unit.f kj5 a3).bind fun bt285 => ((matrix_Cauchy.f a3 a4).bind fun bt289 => ((caulkref03_Cauchy.f kj5 a3 a4).bind fun bt293 => ((caulklaw03_lives.f kj5).bind fun t297 => (if t297 = true then ((matrix_Check.f kj5 l0).bind fun t298 => ((caulkref03_Check.f kj5 l0).bind fun t299 => (if t298 = t299 then ((caulkref03_Same.f t265 bt269.1).bind fun t300 => (if t300 = true then (if t268 = bt269.2 then ((caulkref03_Same.f bt273.1 bt277.1).bind fun t301 => (if t301 = true then (if bt273.2 = bt277.2 then ((caulkref03_Same.f bt281.1 bt285.1).bind fun t302 => (if t302 = true then (if bt281.2 = bt285.2 then ((caulkref03_Same.f bt289.1 bt293.1).bind fun t303 => (if t303 = true then (some (bt289.2 == bt293.2)) else (none))) else (none)) else (none))) else (none)) else (none))) else (none)) else (none))) else (none)))) else (none)))))))))) = some r := H
        have A18 := Aside0.mk A180
        clear A180
        replace H := Option.bind_eq_some_iff.mp H
        obtain ⟨⟨t269, t270⟩, A190, H⟩ := H
        replace H : ((matrix_Rows.f l0 l2).bind fun bt273 => ((caulkref03_Rows.f kj5 l0 l2).bind fun bt277 => ((matrix_Unit.f a3).bind fun bt281 => ((caulkref03_Unit.f kj5 a3).bind fun bt285 => ((matrix_Cauchy.f a3 a4).bind fun bt289 => ((caulkref03_Cauchy.f kj5 a3 a4).bind fun bt293 => ((caulklaw03_lives.f kj5).bind fun t297 => (if t297 = true then ((matrix_Check.f kj5 l0).bind fun t298 => ((caulkref03_Check.f kj5 l0).bind fun t299 => (if t298 = t299 then ((caulkref03_Same.f t265 t269).bind fun t300 => (if t300 = true then (if t268 = t270 then ((caulkref03_Same.f bt273.1 bt277.1).bind fun t301 => (if t301 = true then (if bt273.2 = bt277.2 then ((caulkref03_Same.f bt281.1 bt285.1).bind fun t302 => (if t302 = true then (if bt281.2 = bt285.2 then ((caulkref03_Same.f bt289.1 bt293.1).bind fun t303 => (if t303 = true then (some (bt289.2 == bt293.2)) else (none))) else (none)) else (none))) else (none)) else (none))) else (none)) else (none))) else (none)))) else (none))))))))) = some r := H
        have A19 := Aside0.mk A190
        clear A190
        replace H := Option.bind_eq_some_iff.mp H
        obtain ⟨⟨t273, t276⟩, A200, H⟩ := H
        replace H : ((caulkref03_Rows.f kj5 l0 l2).bind fun bt277 => ((matrix_Unit.f a3).bind fun bt281 => ((caulkref03_Unit.f kj5 a3).bind fun bt285 => ((matrix_Cauchy.f a3 a4).bind fun bt289 => ((caulkref03_Cauchy.f kj5 a3 a4).bind fun bt293 => ((caulklaw03_lives.f kj5).bind fun t297 => (if t297 = true then ((matrix_Check.f kj5 l0).bind fun t298 => ((caulkref03_Check.f kj5 l0).bind fun t299 => (if t298 = t299 then ((caulkref03_Same.f t265 t269).bind fun t300 => (if t300 = true then (if t268 = t270 then ((caulkref03_Same.f t273 bt277.1).bind fun t301 => (if t301 = true then (if t276 = bt277.2 then ((caulkref03_Same.f bt281.1 bt285.1).bind fun t302 => (if t302 = true then (if bt281.2 = bt285.2 then ((caulkref03_Same.f bt289.1 bt293.1).bind fun t303 => (if t303 = true then (some (bt289.2 == bt293.2)) else (none))) else (none)) else (none))) else (none)) else (none))) else (none)) else (none))) else (none)))) else (none)))))))) = some r := H
        have A20 := Aside0.mk A200
        clear A200
        replace H := Option.bind_eq_some_iff.mp H
        obtain ⟨⟨t277, t278⟩, A210, H⟩ := H
        replace H : ((matrix_Unit.f a3).bind fun bt281 => ((caulkref03_Unit.f kj5 a3).bind fun bt285 => ((matrix_Cauchy.f a3 a4).bind fun bt289 => ((caulkref03_Cauchy.f kj5 a3 a4).bind fun bt293 => ((caulklaw03_lives.f kj5).bind fun t297 => (if t297 = true then ((matrix_Check.f kj5 l0).bind fun t298 => ((caulkref03_Check.f kj5 l0).bind fun t299 => (if t298 = t299 then ((caulkref03_Same.f t265 t269).bind fun t300 => (if t300 = true then (if t268 = t270 then ((caulkref03_Same.f t273 t277).bind fun t301 => (if t301 = true then (if t276 = t278 then ((caulkref03_Same.f bt281.1 bt285.1).bind fun t302 => (if t302 = true then (if bt281.2 = bt285.2 then ((caulkref03_Same.f bt289.1 bt293.1).bind fun t303 => (if t303 = true then (some (bt289.2 == bt293.2)) else (none))) else (none)) else (none))) else (none)) else (none))) else (none)) else (none))) else (none)))) else (none))))))) = some r := H
        have A21 := Aside0.mk A210
        clear A210
        replace H := Option.bind_eq_some_iff.mp H
        obtain ⟨⟨t281, t284⟩, A220, H⟩ := H
        replace H : ((caulkref03_Unit.f kj5 a3).bind fun bt285 => ((matrix_Cauchy.f a3 a4).bind fun bt289 => ((caulkref03_Cauchy.f kj5 a3 a4).bind fun bt293 => ((caulklaw03_lives.f kj5).bind fun t297 => (if t297 = true then ((matrix_Check.f kj5 l0).bind fun t298 => ((caulkref03_Check.f kj5 l0).bind fun t299 => (if t298 = t299 then ((caulkref03_Same.f t265 t269).bind fun t300 => (if t300 = true then (if t268 = t270 then ((caulkref03_Same.f t273 t277).bind fun t301 => (if t301 = true then (if t276 = t278 then ((caulkref03_Same.f t281 bt285.1).bind fun t302 => (if t302 = true then (if t284 = bt285.2 then ((caulkref03_Same.f bt289.1 bt293.1).bind fun t303 => (if t303 = true then (some (bt289.2 == bt293.2)) else (none))) else (none)) else (none))) else (none)) else (none))) else (none)) else (none))) else (none)))) else (none)))))) = some r := H
        have A22 := Aside0.mk A220
        clear A220
        replace H := Option.bind_eq_some_iff.mp H
        obtain ⟨⟨t285, t286⟩, A230, H⟩ := H
        replace H : ((matrix_Cauchy.f a3 a4).bind fun bt289 => ((caulkref03_Cauchy.f kj5 a3 a4).bind fun bt293 => ((caulklaw03_lives.f kj5).bind fun t297 => (if t297 = true then ((matrix_Check.f kj5 l0).bind fun t298 => ((caulkref03_Check.f kj5 l0).bind fun t299 => (if t298 = t299 then ((caulkref03_Same.f t265 t269).bind fun t300 => (if t300 = true then (if t268 = t270 then ((caulkref03_Same.f t273 t277).bind fun t301 => (if t301 = true then (if t276 = t278 then ((caulkref03_Same.f t281 t285).bind fun t302 => (if t302 = true then (if t284 = t286 then ((caulkref03_Same.f bt289.1 bt293.1).bind fun t303 => (if t303 = true then (some (bt289.2 == bt293.2)) else (none))) else (none)) else (none))) else (none)) else (none))) else (none)) else (none))) else (none)))) else (none))))) = some r := H
        have A23 := Aside0.mk A230
        clear A230
        replace H := Option.bind_eq_some_iff.mp H
        obtain ⟨⟨t289, t292⟩, A240, H⟩ := H
        replace H : ((caulkref03_Cauchy.f kj5 a3 a4).bind fun bt293 => ((caulklaw03_lives.f kj5).bind fun t297 => (if t297 = true then ((matrix_Check.f kj5 l0).bind fun t298 => ((caulkref03_Check.f kj5 l0).bind fun t299 => (if t298 = t299 then ((caulkref03_Same.f t265 t269).bind fun t300 => (if t300 = true then (if t268 = t270 then ((caulkref03_Same.f t273 t277).bind fun t301 => (if t301 = true then (if t276 = t278 then ((caulkref03_Same.f t281 t285).bind fun t302 => (if t302 = true then (if t284 = t286 then ((caulkref03_Same.f t289 bt293.1).bind fun t303 => (if t303 = true then (some (t292 == bt293.2)) else (none))) else (none)) else (none))) else (none)) else (none))) else (none)) else (none))) else (none)))) else (none)))) = some r := H
        have A24 := Aside0.mk A240
        clear A240
        replace H := Option.bind_eq_some_iff.mp H
        obtain ⟨⟨t293, t294⟩, A250, H⟩ := H
        replace H : ((caulklaw03_lives.f kj5).bind fun t297 => (if t297 = true then ((matrix_Check.f kj5 l0).bind fun t298 => ((caulkref03_Check.f kj5 l0).bind fun t299 => (if t298 = t299 then ((caulkref03_Same.f t265 t269).bind fun t300 => (if t300 = true then (if t268 = t270 then ((caulkref03_Same.f t273 t277).bind fun t301 => (if t301 = true then (if t276 = t278 then ((caulkref03_Same.f t281 t285).bind fun t302 => (if t302 = true then (if t284 = t286 then ((caulkref03_Same.f t289 t293).bind fun t303 => (if t303 = true then (some (t292 == t294)) else (none))) else (none)) else (none))) else (none)) else (none))) else (none)) else (none))) else (none)))) else (none))) = some r := H
        have A25 := Aside0.mk A250
        clear A250
        replace H := Option.bind_eq_some_iff.mp H
        obtain ⟨t297, A260, H⟩ := H
        replace H : (if t297 = true then ((matrix_Check.f kj5 l0).bind fun t298 => ((caulkref03_Check.f kj5 l0).bind fun t299 => (if t298 = t299 then ((caulkref03_Same.f t265 t269).bind fun t300 => (if t300 = true then (if t268 = t270 then ((caulkref03_Same.f t273 t277).bind fun t301 => (if t301 = true then (if t276 = t278 then ((caulkref03_Same.f t281 t285).bind fun t302 => (if t302 = true then (if t284 = t286 then ((caulkref03_Same.f t289 t293).bind fun t303 => (if t303 = true then (some (t292 == t294)) else (none))) else (none)) else (none))) else (none)) else (none))) else (none)) else (none))) else (none)))) else (none)) = some r := H
        have A26 := Aside0.mk A260
        clear A260
        by_cases c27 : t297 = true
        · subst c27
          have H1 : ((matrix_Check.f kj5 l0).bind fun t298 => ((caulkref03_Check.f kj5 l0).bind fun t299 => (if t298 = t299 then ((caulkref03_Same.f t265 t269).bind fun t300 => (if t300 = true then (if t268 = t270 then ((caulkref03_Same.f t273 t277).bind fun t301 => (if t301 = true then (if t276 = t278 then ((caulkref03_Same.f t281 t285).bind fun t302 => (if t302 = true then (if t284 = t286 then ((caulkref03_Same.f t289 t293).bind fun t303 => (if t303 = true then (some (t292 == t294)) else (none))) else (none)) else (none))) else (none)) else (none))) else (none)) else (none))) else (none)))) = some r := by rw [if_pos rfl] at H; exact H
          clear H
          have H := H1
          clear H1
          replace H := Option.bind_eq_some_iff.mp H
          obtain ⟨t298, A280, H⟩ := H
          replace H : ((caulkref03_Check.f kj5 l0).bind fun t299 => (if t298 = t299 then ((caulkref03_Same.f t265 t269).bind fun t300 => (if t300 = true then (if t268 = t270 then ((caulkref03_Same.f t273 t277).bind fun t301 => (if t301 = true then (if t276 = t278 then ((caulkref03_Same.f t281 t285).bind fun t302 => (if t302 = true then (if t284 = t286 then ((caulkref03_Same.f t289 t293).bind fun t303 => (if t303 = true then (some (t292 == t294)) else (none))) else (none)) else (none))) else (none)) else (none))) else (none)) else (none))) else (none))) = some r := H
          have A28 := Aside0.mk A280
          clear A280
          replace H := Option.bind_eq_some_iff.mp H
          obtain ⟨t299, A290, H⟩ := H
          replace H : (if t298 = t299 then ((caulkref03_Same.f t265 t269).bind fun t300 => (if t300 = true then (if t268 = t270 then ((caulkref03_Same.f t273 t277).bind fun t301 => (if t301 = true then (if t276 = t278 then ((caulkref03_Same.f t281 t285).bind fun t302 => (if t302 = true then (if t284 = t286 then ((caulkref03_Same.f t289 t293).bind fun t303 => (if t303 = true then (some (t292 == t294)) else (none))) else (none)) else (none))) else (none)) else (none))) else (none)) else (none))) else (none)) = some r := H
          have A29 := Aside0.mk A290
          clear A290
          by_cases c30 : t298 = t299
          · rw [if_pos c30] at H
            have c30b0 : (t298 == t299) = true := beq_iff_eq.mpr c30
            have c30b1 : (t298 != t299) = false := bne_eq_false_iff_eq.mpr c30
            clear c30
            replace H := Option.bind_eq_some_iff.mp H
            obtain ⟨t300, A310, H⟩ := H
            replace H : (if t300 = true then (if t268 = t270 then ((caulkref03_Same.f t273 t277).bind fun t301 => (if t301 = true then (if t276 = t278 then ((caulkref03_Same.f t281 t285).bind fun t302 => (if t302 = true then (if t284 = t286 then ((caulkref03_Same.f t289 t293).bind fun t303 => (if t303 = true then (some (t292 == t294)) else (none))) else (none)) else (none))) else (none)) else (none))) else (none)) else (none)) = some r := H
            have A31 := Aside0.mk A310
            clear A310
            by_cases c32 : t300 = true
            · subst c32
              have H1 : (if t268 = t270 then ((caulkref03_Same.f t273 t277).bind fun t301 => (if t301 = true then (if t276 = t278 then ((caulkref03_Same.f t281 t285).bind fun t302 => (if t302 = true then (if t284 = t286 then ((caulkref03_Same.f t289 t293).bind fun t303 => (if t303 = true then (some (t292 == t294)) else (none))) else (none)) else (none))) else (none)) else (none))) else (none)) = some r := by rw [if_pos rfl] at H; exact H
              clear H
              have H := H1
              clear H1
              by_cases c33 : t268 = t270
              · rw [if_pos c33] at H
                have c33b0 : (t268 == t270) = true := beq_iff_eq.mpr c33
                have c33b1 : (t268 != t270) = false := bne_eq_false_iff_eq.mpr c33
                clear c33
                replace H := Option.bind_eq_some_iff.mp H
                obtain ⟨t301, A340, H⟩ := H
                replace H : (if t301 = true then (if t276 = t278 then ((caulkref03_Same.f t281 t285).bind fun t302 => (if t302 = true then (if t284 = t286 then ((caulkref03_Same.f t289 t293).bind fun t303 => (if t303 = true then (some (t292 == t294)) else (none))) else (none)) else (none))) else (none)) else (none)) = some r := H
                have A34 := Aside0.mk A340
                clear A340
                by_cases c35 : t301 = true
                · subst c35
                  have H1 : (if t276 = t278 then ((caulkref03_Same.f t281 t285).bind fun t302 => (if t302 = true then (if t284 = t286 then ((caulkref03_Same.f t289 t293).bind fun t303 => (if t303 = true then (some (t292 == t294)) else (none))) else (none)) else (none))) else (none)) = some r := by rw [if_pos rfl] at H; exact H
                  clear H
                  have H := H1
                  clear H1
                  by_cases c36 : t276 = t278
                  · rw [if_pos c36] at H
                    have c36b0 : (t276 == t278) = true := beq_iff_eq.mpr c36
                    have c36b1 : (t276 != t278) = false := bne_eq_false_iff_eq.mpr c36
                    clear c36
                    replace H := Option.bind_eq_some_iff.mp H
                    obtain ⟨t302, A370, H⟩ := H
                    replace H : (if t302 = true then (if t284 = t286 then ((caulkref03_Same.f t289 t293).bind fun t303 => (if t303 = true then (some (t292 == t294)) else (none))) else (none)) else (none)) = some r := H
                    have A37 := Aside0.mk A370
                    clear A370
                    by_cases c38 : t302 = true
                    · subst c38
                      have H1 : (if t284 = t286 then ((caulkref03_Same.f t289 t293).bind fun t303 => (if t303 = true then (some (t292 == t294)) else (none))) else (none)) = some r := by rw [if_pos rfl] at H; exact H
                      clear H
                      have H := H1
                      clear H1
                      by_cases c39 : t284 = t286
                      · rw [if_pos c39] at H
                        have c39b0 : (t284 == t286) = true := beq_iff_eq.mpr c39
                        have c39b1 : (t284 != t286) = false := bne_eq_false_iff_eq.mpr c39
                        clear c39
                        replace H := Option.bind_eq_some_iff.mp H
                        obtain ⟨t303, A400, H⟩ := H
                        replace H : (if t303 = true then (some (t292 == t294)) else (none)) = some r := H
                        have A40 := Aside0.mk A400
                        clear A400
                        by_cases c41 : t303 = true
                        · subst c41
                          have H1 : (some (t292 == t294)) = some r := by rw [if_pos rfl] at H; exact H
                          clear H
                          have H := H1
                          clear H1
                          obtain rfl := Option.some.inj H
                          go_wp2_with (first | ((with_reducible refine gate_callee (f := 14) rfl ?_); refine goesL_ (some 55) rfl rfl Try.func14 (by kernel_rfl) rfl #[.slice A0 l0.length c0, .slice A1 l1.length c1] rfl (by (try simp only [List.map_toArray, List.map_cons, List.map_nil]); first | done | rfl | (simp only [List.length_drop, List.length_take]; rfl)) ?_; (with_reducible refine (matrix_Mul.calls _ _ l0 _ _ l1 t265 t268 _ ?side1 ?side2 ?side3 ?side4 A18.out).mono ?_); (case side1 => repeat (first | exact (Kd.C_below HR0.out HB.out) | (with_reducible refine Kd.C_alloc ?_ _) | (with_reducible refine Kd.C_drewN ?_ _) | (with_reducible refine Kd.C_drew ?_))); (case side2 => exact HC0.out); (case side3 => repeat (first | exact (Kd.C_below HR1.out HB.out) | (with_reducible refine Kd.C_alloc ?_ _) | (with_reducible refine Kd.C_drewN ?_ _) | (with_reducible refine Kd.C_drew ?_))); (case side4 => exact HC1.out); rintro e w42 ⟨v266, rfl, ho0, hb⟩; refine ⟨_, rfl, ?_⟩; have n0_ := Aside0.mk (Kd.N_lower (Kd.N_mono (ok' := fun k_ => True) ho0 (fun k_ hk_ => trivial)) (below_size (by repeat (first | (with_reducible first | exact HB.out | apply below_alloc | apply pw_below_drewN | apply below_drew1) | exact HB.out)))); have n1_ := Aside0.mk (below_step (by repeat (first | (with_reducible first | exact HB.out | apply below_alloc | apply pw_below_drewN | apply below_drew1) | exact HB.out)) hb); clear HB; have HO267 := n0_; have HB := n1_; clear n0_ n1_; (try clear hb); (try clear hb2); (try clear hk); (try clear hi); (try clear ho0)) | ((with_reducible refine gate_callee (f := 15) rfl ?_); refine goesL_ (some 61) rfl rfl Try.func15 (by kernel_rfl) rfl #[.slice A0 l0.length c0, .slice A1 l1.length c1] rfl (by (try simp only [List.map_toArray, List.map_cons, List.map_nil]); first | done | rfl | (simp only [List.length_drop, List.length_take]; rfl)) ?_; (with_reducible refine (caulkref03_Mul.calls kj5 _ _ l0 _ _ l1 t269 t270 _ ?side1 ?side2 ?side3 ?side4 A19.out).mono ?_); (case side1 => repeat (first | exact (Kd.C_below HR0.out HB.out) | (with_reducible refine Kd.C_alloc ?_ _) | (with_reducible refine Kd.C_drewN ?_ _) | (with_reducible refine Kd.C_drew ?_))); (case side2 => exact HC0.out); (case side3 => repeat (first | exact (Kd.C_below HR1.out HB.out) | (with_reducible refine Kd.C_alloc ?_ _) | (with_reducible refine Kd.C_drewN ?_ _) | (with_reducible refine Kd.C_drew ?_))); (case side4 => exact HC1.out); rintro e w43 ⟨v271, rfl, ho0, hb⟩; refine ⟨_, rfl, ?_⟩; have n0_ := Aside0.mk (Kd.N_elder' (by (with_reducible repeat (first | apply Kd.N_alloc | apply Kd.N_drewN | apply Kd.N_drew)); exact HO267.out) (Kd.N_base (Kd.S_N ho0)) hb); have n1_ := Aside0.mk (Kd.N_lower (Kd.N_mono (ok' := fun k_ => some k_ ≠ (v266 : Value).ownBlock) (Kd.S_N (Kd.S_bound ho0)) (fun k_ hk_ => (Kd.fresh' (Kd.N_lt (by (with_reducible repeat (first | apply Kd.N_alloc | apply Kd.N_drewN | apply Kd.N_drew)); exact HO267.out)) k_ hk_.2.1))) (below_size (by repeat (first | (with_reducible first | exact HB.out | apply below_alloc | apply pw_below_drewN | apply below_drew1) | exact HB.out)))); have n2_ := Aside0.mk (below_step (by repeat (first | (with_reducible first | exact HB.out | apply below_alloc | apply pw_below_drewN | apply below_drew1) | exact HB.out)) hb); clear HO267; clear HB; have HO267 := n0_; have HO272 := n1_; have HB := n2_; clear n0_ n1_ n2_; (try clear hb); (try clear hb2); (try clear hk); (try clear hi); (try clear ho0)) | ((with_reducible refine gate_callee (f := 16) rfl ?_); refine goesL_ (some 67) rfl rfl Try.func16 (by kernel_rfl) rfl #[.slice A0 l0.length c0, .slice A2 l2.length c2] rfl (by (try simp only [List.map_toArray, List.map_cons, List.map_nil]); first | done | rfl | (simp only [List.length_drop, List.length_take]; rfl)) ?_; (with_reducible refine (matrix_Rows.calls _ _ l0 _ _ l2 t273 t276 _ ?side1 ?side2 ?side3 ?side4 A20.out).mono ?_); (case side1 => repeat (first | exact (Kd.C_below HR0.out HB.out) | (with_reducible refine Kd.C_alloc ?_ _) | (with_reducible refine Kd.C_drewN ?_ _) | (with_reducible refine Kd.C_drew ?_))); (case side2 => exact HC0.out); (case side3 => repeat (first | exact (Kd.C_below HR2.out HB.out) | (with_reducible refine Kd.C_alloc ?_ _) | (with_reducible refine Kd.C_drewN ?_ _) | (with_reducible refine Kd.C_drew ?_))); (case side4 => exact HC2.out); rintro e w44 ⟨v274, rfl, ho0, hb⟩; refine ⟨_, rfl, ?_⟩; have n0_ := Aside0.mk (Kd.N_elder' (by (with_reducible repeat (first | apply Kd.N_alloc | apply Kd.N_drewN | apply Kd.N_drew)); exact HO267.out) (Kd.N_base ho0) hb); have n1_ := Aside0.mk (Kd.N_elder' (by (with_reducible repeat (first | apply Kd.N_alloc | apply Kd.N_drewN | apply Kd.N_drew)); exact HO272.out) (Kd.N_base ho0) hb); have n2_ := Aside0.mk (Kd.N_lower (Kd.N_mono (ok' := fun k_ => some k_ ≠ (v266 : Value).ownBlock ∧ some k_ ≠ (v271 : Value).ownBlock) ho0 (fun k_ hk_ => ⟨(Kd.fresh' (Kd.N_lt (by (with_reducible repeat (first | apply Kd.N_alloc | apply Kd.N_drewN | apply Kd.N_drew)); exact HO267.out)) k_ hk_), (Kd.fresh' (Kd.N_lt (by (with_reducible repeat (first | apply Kd.N_alloc | apply Kd.N_drewN | apply Kd.N_drew)); exact HO272.out)) k_ hk_)⟩)) (below_size (by repeat (first | (with_reducible first | exact HB.out | apply below_alloc | apply pw_below_drewN | apply below_drew1) | exact HB.out)))); have n3_ := Aside0.mk (below_step (by repeat (first | (with_reducible first | exact HB.out | apply below_alloc | apply pw_below_drewN | apply below_drew1) | exact HB.out)) hb); clear HO267; clear HO272; clear HB; have HO267 := n0_; have HO272 := n1_; have HO275 := n2_; have HB := n3_; clear n0_ n1_ n2_ n3_; (try clear hb); (try clear hb2); (try clear hk); (try clear hi); (try clear ho0)) | ((with_reducible refine gate_callee (f := 17) rfl ?_); refine goesL_ (some 73) rfl rfl Try.func17 (by kernel_rfl) rfl #[.slice A0 l0.length c0, .slice A2 l2.length c2] rfl (by (try simp only [List.map_toArray, List.map_cons, List.map_nil]); first | done | rfl | (simp only [List.length_drop, List.length_take]; rfl)) ?_; (with_reducible refine (caulkref03_Rows.calls kj5 _ _ l0 _ _ l2 t277 t278 _ ?side1 ?side2 ?side3 ?side4 A21.out).mono ?_); (case side1 => repeat (first | exact (Kd.C_below HR0.out HB.out) | (with_reducible refine Kd.C_alloc ?_ _) | (with_reducible refine Kd.C_drewN ?_ _) | (with_reducible refine Kd.C_drew ?_))); (case side2 => exact HC0.out); (case side3 => repeat (first | exact (Kd.C_below HR2.out HB.out) | (with_reducible refine Kd.C_alloc ?_ _) | (with_reducible refine Kd.C_drewN ?_ _) | (with_reducible refine Kd.C_drew ?_))); (case side4 => exact HC2.out); rintro e w45 ⟨v279, rfl, ho0, hb⟩; refine ⟨_, rfl, ?_⟩; have n0_ := Aside0.mk (Kd.N_elder' (by (with_reducible repeat (first | apply Kd.N_alloc | apply Kd.N_drewN | apply Kd.N_drew)); exact HO267.out) (Kd.N_base (Kd.S_N ho0)) hb); have n1_ := Aside0.mk (Kd.N_elder' (by (with_reducible repeat (first | apply Kd.N_alloc | apply Kd.N_drewN | apply Kd.N_drew)); exact HO272.out) (Kd.N_base (Kd.S_N ho0)) hb); have n2_ := Aside0.mk (Kd.N_elder' (by (with_reducible repeat (first | apply Kd.N_alloc | apply Kd.N_drewN | apply Kd.N_drew)); exact HO275.out) (Kd.N_base (Kd.S_N ho0)) hb); have n3_ := Aside0.mk (Kd.N_lower (Kd.N_mono (ok' := fun k_ => some k_ ≠ (v266 : Value).ownBlock ∧ some k_ ≠ (v271 : Value).ownBlock ∧ some k_ ≠ (v274 : Value).ownBlock) (Kd.S_N (Kd.S_bound ho0)) (fun k_ hk_ => ⟨(Kd.fresh' (Kd.N_lt (by (with_reducible repeat (first | apply Kd.N_alloc | apply Kd.N_drewN | apply Kd.N_drew)); exact HO267.out)) k_ hk_.2.1), (Kd.fresh' (Kd.N_lt (by (with_reducible repeat (first | apply Kd.N_alloc | apply Kd.N_drewN | apply Kd.N_drew)); exact HO272.out)) k_ hk_.2.1), (Kd.fresh' (Kd.N_lt (by (with_reducible repeat (first | apply Kd.N_alloc | apply Kd.N_drewN | apply Kd.N_drew)); exact HO275.out)) k_ hk_.2.1)⟩)) (below_size (by repeat (first | (with_reducible first | exact HB.out | apply below_alloc | apply pw_below_drewN | apply below_drew1) | exact HB.out)))); have n4_ := Aside0.mk (below_step (by repeat (first | (with_reducible first | exact HB.out | apply below_alloc | apply pw_below_drewN | apply below_drew1) | exact HB.out)) hb); clear HO267; clear HO272; clear HO275; clear HB; have HO267 := n0_; have HO272 := n1_; have HO275 := n2_; have HO280 := n3_; have HB := n4_; clear n0_ n1_ n2_ n3_ n4_; (try clear hb); (try clear hb2); (try clear hk); (try clear hi); (try clear ho0)) | ((with_reducible refine gate_callee (f := 18) rfl ?_); refine goesL_ (some 78) rfl rfl Try.func18 (by kernel_rfl) rfl #[.int .i64 a3] rfl (by (try simp only [List.map_toArray, List.map_cons, List.map_nil]); first | done | rfl | (simp only [List.length_drop, List.length_take]; rfl)) ?_; (with_reducible refine (matrix_Unit.calls a3 t281 t284 _ A22.out).mono ?_); rintro e w46 ⟨v282, rfl, ho0, hb⟩; refine ⟨_, rfl, ?_⟩; have n0_ := Aside0.mk (Kd.N_elder' (by (with_reducible repeat (first | apply Kd.N_alloc | apply Kd.N_drewN | apply Kd.N_drew)); exact HO267.out) (Kd.N_base ho0) hb); have n1_ := Aside0.mk (Kd.N_elder' (by (with_reducible repeat (first | apply Kd.N_alloc | apply Kd.N_drewN | apply Kd.N_drew)); exact HO272.out) (Kd.N_base ho0) hb); have n2_ := Aside0.mk (Kd.N_elder' (by (with_reducible repeat (first | apply Kd.N_alloc | apply Kd.N_drewN | apply Kd.N_drew)); exact HO275.out) (Kd.N_base ho0) hb); have n3_ := Aside0.mk (Kd.N_elder' (by (with_reducible repeat (first | apply Kd.N_alloc | apply Kd.N_drewN | apply Kd.N_drew)); exact HO280.out) (Kd.N_base ho0) hb); have n4_ := Aside0.mk (Kd.N_lower (Kd.N_mono (ok' := fun k_ => some k_ ≠ (v266 : Value).ownBlock ∧ some k_ ≠ (v271 : Value).ownBlock ∧ some k_ ≠ (v274 : Value).ownBlock ∧ some k_ ≠ (v279 : Value).ownBlock) ho0 (fun k_ hk_ => ⟨(Kd.fresh' (Kd.N_lt (by (with_reducible repeat (first | apply Kd.N_alloc | apply Kd.N_drewN | apply Kd.N_drew)); exact HO267.out)) k_ hk_), (Kd.fresh' (Kd.N_lt (by (with_reducible repeat (first | apply Kd.N_alloc | apply Kd.N_drewN | apply Kd.N_drew)); exact HO272.out)) k_ hk_), (Kd.fresh' (Kd.N_lt (by (with_reducible repeat (first | apply Kd.N_alloc | apply Kd.N_drewN | apply Kd.N_drew)); exact HO275.out)) k_ hk_), (Kd.fresh' (Kd.N_lt (by (with_reducible repeat (first | apply Kd.N_alloc | apply Kd.N_drewN | apply Kd.N_drew)); exact HO280.out)) k_ hk_)⟩)) (below_size (by repeat (first | (with_reducible first | exact HB.out | apply below_alloc | apply pw_below_drewN | apply below_drew1) | exact HB.out)))); have n5_ := Aside0.mk (below_step (by repeat (first | (with_reducible first | exact HB.out | apply below_alloc | apply pw_below_drewN | apply below_drew1) | exact HB.out)) hb); clear HO267; clear HO272; clear HO275; clear HO280; clear HB; have HO267 := n0_; have HO272 := n1_; have HO275 := n2_; have HO280 := n3_; have HO283 := n4_; have HB := n5_; clear n0_ n1_ n2_ n3_ n4_ n5_; (try clear hb); (try clear hb2); (try clear hk); (try clear hi); (try clear ho0)) | ((with_reducible refine gate_callee (f := 19) rfl ?_); refine goesL_ (some 83) rfl rfl Try.func19 (by kernel_rfl) rfl #[.int .i64 a3] rfl (by (try simp only [List.map_toArray, List.map_cons, List.map_nil]); first | done | rfl | (simp only [List.length_drop, List.length_take]; rfl)) ?_; (with_reducible refine (caulkref03_Unit.calls kj5 a3 t285 t286 _ A23.out).mono ?_); rintro e w47 ⟨v287, rfl, ho0, hb⟩; refine ⟨_, rfl, ?_⟩; have n0_ := Aside0.mk (Kd.N_elder' (by (with_reducible repeat (first | apply Kd.N_alloc | apply Kd.N_drewN | apply Kd.N_drew)); exact HO267.out) (Kd.N_base (Kd.S_N ho0)) hb); have n1_ := Aside0.mk (Kd.N_elder' (by (with_reducible repeat (first | apply Kd.N_alloc | apply Kd.N_drewN | apply Kd.N_drew)); exact HO272.out) (Kd.N_base (Kd.S_N ho0)) hb); have n2_ := Aside0.mk (Kd.N_elder' (by (with_reducible repeat (first | apply Kd.N_alloc | apply Kd.N_drewN | apply Kd.N_drew)); exact HO275.out) (Kd.N_base (Kd.S_N ho0)) hb); have n3_ := Aside0.mk (Kd.N_elder' (by (with_reducible repeat (first | apply Kd.N_alloc | apply Kd.N_drewN | apply Kd.N_drew)); exact HO280.out) (Kd.N_base (Kd.S_N ho0)) hb); have n4_ := Aside0.mk (Kd.N_elder' (by (with_reducible repeat (first | apply Kd.N_alloc | apply Kd.N_drewN | apply Kd.N_drew)); exact HO283.out) (Kd.N_base (Kd.S_N ho0)) hb); have n5_ := Aside0.mk (Kd.N_lower (Kd.N_mono (ok' := fun k_ => some k_ ≠ (v266 : Value).ownBlock ∧ some k_ ≠ (v271 : Value).ownBlock ∧ some k_ ≠ (v274 : Value).ownBlock ∧ some k_ ≠ (v279 : Value).ownBlock ∧ some k_ ≠ (v282 : Value).ownBlock) (Kd.S_N (Kd.S_bound ho0)) (fun k_ hk_ => ⟨(Kd.fresh' (Kd.N_lt (by (with_reducible repeat (first | apply Kd.N_alloc | apply Kd.N_drewN | apply Kd.N_drew)); exact HO267.out)) k_ hk_.2.1), (Kd.fresh' (Kd.N_lt (by (with_reducible repeat (first | apply Kd.N_alloc | apply Kd.N_drewN | apply Kd.N_drew)); exact HO272.out)) k_ hk_.2.1), (Kd.fresh' (Kd.N_lt (by (with_reducible repeat (first | apply Kd.N_alloc | apply Kd.N_drewN | apply Kd.N_drew)); exact HO275.out)) k_ hk_.2.1), (Kd.fresh' (Kd.N_lt (by (with_reducible repeat (first | apply Kd.N_alloc | apply Kd.N_drewN | apply Kd.N_drew)); exact HO280.out)) k_ hk_.2.1), (Kd.fresh' (Kd.N_lt (by (with_reducible repeat (first | apply Kd.N_alloc | apply Kd.N_drewN | apply Kd.N_drew)); exact HO283.out)) k_ hk_.2.1)⟩)) (below_size (by repeat (first | (with_reducible first | exact HB.out | apply below_alloc | apply pw_below_drewN | apply below_drew1) | exact HB.out)))); have n6_ := Aside0.mk (below_step (by repeat (first | (with_reducible first | exact HB.out | apply below_alloc | apply pw_below_drewN | apply below_drew1) | exact HB.out)) hb); clear HO267; clear HO272; clear HO275; clear HO280; clear HO283; clear HB; have HO267 := n0_; have HO272 := n1_; have HO275 := n2_; have HO280 := n3_; have HO283 := n4_; have HO288 := n5_; have HB := n6_; clear n0_ n1_ n2_ n3_ n4_ n5_ n6_; (try clear hb); (try clear hb2); (try clear hk); (try clear hi); (try clear ho0)) | ((with_reducible refine gate_callee (f := 20) rfl ?_); refine goesL_ (some 89) rfl rfl Try.func20 (by kernel_rfl) rfl #[.int .i64 a3, .int .i64 a4] rfl (by (try simp only [List.map_toArray, List.map_cons, List.map_nil]); first | done | rfl | (simp only [List.length_drop, List.length_take]; rfl)) ?_; (with_reducible refine (matrix_Cauchy.calls a3 a4 t289 t292 _ A24.out).mono ?_); rintro e w48 ⟨v290, rfl, ho0, hb⟩; refine ⟨_, rfl, ?_⟩; have n0_ := Aside0.mk (Kd.N_elder' (by (with_reducible repeat (first | apply Kd.N_alloc | apply Kd.N_drewN | apply Kd.N_drew)); exact HO267.out) (Kd.N_base ho0) hb); have n1_ := Aside0.mk (Kd.N_elder' (by (with_reducible repeat (first | apply Kd.N_alloc | apply Kd.N_drewN | apply Kd.N_drew)); exact HO272.out) (Kd.N_base ho0) hb); have n2_ := Aside0.mk (Kd.N_elder' (by (with_reducible repeat (first | apply Kd.N_alloc | apply Kd.N_drewN | apply Kd.N_drew)); exact HO275.out) (Kd.N_base ho0) hb); have n3_ := Aside0.mk (Kd.N_elder' (by (with_reducible repeat (first | apply Kd.N_alloc | apply Kd.N_drewN | apply Kd.N_drew)); exact HO280.out) (Kd.N_base ho0) hb); have n4_ := Aside0.mk (Kd.N_elder' (by (with_reducible repeat (first | apply Kd.N_alloc | apply Kd.N_drewN | apply Kd.N_drew)); exact HO283.out) (Kd.N_base ho0) hb); have n5_ := Aside0.mk (Kd.N_elder' (by (with_reducible repeat (first | apply Kd.N_alloc | apply Kd.N_drewN | apply Kd.N_drew)); exact HO288.out) (Kd.N_base ho0) hb); have n6_ := Aside0.mk (Kd.N_lower (Kd.N_mono (ok' := fun k_ => some k_ ≠ (v266 : Value).ownBlock ∧ some k_ ≠ (v271 : Value).ownBlock ∧ some k_ ≠ (v274 : Value).ownBlock ∧ some k_ ≠ (v279 : Value).ownBlock ∧ some k_ ≠ (v282 : Value).ownBlock ∧ some k_ ≠ (v287 : Value).ownBlock) ho0 (fun k_ hk_ => ⟨(Kd.fresh' (Kd.N_lt (by (with_reducible repeat (first | apply Kd.N_alloc | apply Kd.N_drewN | apply Kd.N_drew)); exact HO267.out)) k_ hk_), (Kd.fresh' (Kd.N_lt (by (with_reducible repeat (first | apply Kd.N_alloc | apply Kd.N_drewN | apply Kd.N_drew)); exact HO272.out)) k_ hk_), (Kd.fresh' (Kd.N_lt (by (with_reducible repeat (first | apply Kd.N_alloc | apply Kd.N_drewN | apply Kd.N_drew)); exact HO275.out)) k_ hk_), (Kd.fresh' (Kd.N_lt (by (with_reducible repeat (first | apply Kd.N_alloc | apply Kd.N_drewN | apply Kd.N_drew)); exact HO280.out)) k_ hk_), (Kd.fresh' (Kd.N_lt (by (with_reducible repeat (first | apply Kd.N_alloc | apply Kd.N_drewN | apply Kd.N_drew)); exact HO283.out)) k_ hk_), (Kd.fresh' (Kd.N_lt (by (with_reducible repeat (first | apply Kd.N_alloc | apply Kd.N_drewN | apply Kd.N_drew)); exact HO288.out)) k_ hk_)⟩)) (below_size (by repeat (first | (with_reducible first | exact HB.out | apply below_alloc | apply pw_below_drewN | apply below_drew1) | exact HB.out)))); have n7_ := Aside0.mk (below_step (by repeat (first | (with_reducible first | exact HB.out | apply below_alloc | apply pw_below_drewN | apply below_drew1) | exact HB.out)) hb); clear HO267; clear HO272; clear HO275; clear HO280; clear HO283; clear HO288; clear HB; have HO267 := n0_; have HO272 := n1_; have HO275 := n2_; have HO280 := n3_; have HO283 := n4_; have HO288 := n5_; have HO291 := n6_; have HB := n7_; clear n0_ n1_ n2_ n3_ n4_ n5_ n6_ n7_; (try clear hb); (try clear hb2); (try clear hk); (try clear hi); (try clear ho0)) | ((with_reducible refine gate_callee (f := 21) rfl ?_); refine goesL_ (some 95) rfl rfl Try.func21 (by kernel_rfl) rfl #[.int .i64 a3, .int .i64 a4] rfl (by (try simp only [List.map_toArray, List.map_cons, List.map_nil]); first | done | rfl | (simp only [List.length_drop, List.length_take]; rfl)) ?_; (with_reducible refine (caulkref03_Cauchy.calls kj5 a3 a4 t293 t294 _ A25.out).mono ?_); rintro e w49 ⟨v295, rfl, ho0, hb⟩; refine ⟨_, rfl, ?_⟩; have n0_ := Aside0.mk (Kd.N_elder' (by (with_reducible repeat (first | apply Kd.N_alloc | apply Kd.N_drewN | apply Kd.N_drew)); exact HO267.out) (Kd.N_base (Kd.S_N ho0)) hb); have n1_ := Aside0.mk (Kd.N_elder' (by (with_reducible repeat (first | apply Kd.N_alloc | apply Kd.N_drewN | apply Kd.N_drew)); exact HO272.out) (Kd.N_base (Kd.S_N ho0)) hb); have n2_ := Aside0.mk (Kd.N_elder' (by (with_reducible repeat (first | apply Kd.N_alloc | apply Kd.N_drewN | apply Kd.N_drew)); exact HO275.out) (Kd.N_base (Kd.S_N ho0)) hb); have n3_ := Aside0.mk (Kd.N_elder' (by (with_reducible repeat (first | apply Kd.N_alloc | apply Kd.N_drewN | apply Kd.N_drew)); exact HO280.out) (Kd.N_base (Kd.S_N ho0)) hb); have n4_ := Aside0.mk (Kd.N_elder' (by (with_reducible repeat (first | apply Kd.N_alloc | apply Kd.N_drewN | apply Kd.N_drew)); exact HO283.out) (Kd.N_base (Kd.S_N ho0)) hb); have n5_ := Aside0.mk (Kd.N_elder' (by (with_reducible repeat (first | apply Kd.N_alloc | apply Kd.N_drewN | apply Kd.N_drew)); exact HO288.out) (Kd.N_base (Kd.S_N ho0)) hb); have n6_ := Aside0.mk (Kd.N_elder' (by (with_reducible repeat (first | apply Kd.N_alloc | apply Kd.N_drewN | apply Kd.N_drew)); exact HO291.out) (Kd.N_base (Kd.S_N ho0)) hb); have n7_ := Aside0.mk (Kd.N_lower (Kd.N_mono (ok' := fun k_ => some k_ ≠ (v266 : Value).ownBlock ∧ some k_ ≠ (v271 : Value).ownBlock ∧ some k_ ≠ (v274 : Value).ownBlock ∧ some k_ ≠ (v279 : Value).ownBlock ∧ some k_ ≠ (v282 : Value).ownBlock ∧ some k_ ≠ (v287 : Value).ownBlock ∧ some k_ ≠ (v290 : Value).ownBlock) (Kd.S_N (Kd.S_bound ho0)) (fun k_ hk_ => ⟨(Kd.fresh' (Kd.N_lt (by (with_reducible repeat (first | apply Kd.N_alloc | apply Kd.N_drewN | apply Kd.N_drew)); exact HO267.out)) k_ hk_.2.1), (Kd.fresh' (Kd.N_lt (by (with_reducible repeat (first | apply Kd.N_alloc | apply Kd.N_drewN | apply Kd.N_drew)); exact HO272.out)) k_ hk_.2.1), (Kd.fresh' (Kd.N_lt (by (with_reducible repeat (first | apply Kd.N_alloc | apply Kd.N_drewN | apply Kd.N_drew)); exact HO275.out)) k_ hk_.2.1), (Kd.fresh' (Kd.N_lt (by (with_reducible repeat (first | apply Kd.N_alloc | apply Kd.N_drewN | apply Kd.N_drew)); exact HO280.out)) k_ hk_.2.1), (Kd.fresh' (Kd.N_lt (by (with_reducible repeat (first | apply Kd.N_alloc | apply Kd.N_drewN | apply Kd.N_drew)); exact HO283.out)) k_ hk_.2.1), (Kd.fresh' (Kd.N_lt (by (with_reducible repeat (first | apply Kd.N_alloc | apply Kd.N_drewN | apply Kd.N_drew)); exact HO288.out)) k_ hk_.2.1), (Kd.fresh' (Kd.N_lt (by (with_reducible repeat (first | apply Kd.N_alloc | apply Kd.N_drewN | apply Kd.N_drew)); exact HO291.out)) k_ hk_.2.1)⟩)) (below_size (by repeat (first | (with_reducible first | exact HB.out | apply below_alloc | apply pw_below_drewN | apply below_drew1) | exact HB.out)))); have n8_ := Aside0.mk (below_step (by repeat (first | (with_reducible first | exact HB.out | apply below_alloc | apply pw_below_drewN | apply below_drew1) | exact HB.out)) hb); clear HO267; clear HO272; clear HO275; clear HO280; clear HO283; clear HO288; clear HO291; clear HB; have HO267 := n0_; have HO272 := n1_; have HO275 := n2_; have HO280 := n3_; have HO283 := n4_; have HO288 := n5_; have HO291 := n6_; have HO296 := n7_; have HB := n8_; clear n0_ n1_ n2_ n3_ n4_ n5_ n6_ n7_ n8_; (try clear hb); (try clear hb2); (try clear hk); (try clear hi); (try clear ho0)) | ((with_reducible refine gate_callee (f := 13) rfl ?_); refine goesL_ (some 98) rfl rfl Try.func13 (by kernel_rfl) rfl #[] rfl (by (try simp only [List.map_toArray, List.map_cons, List.map_nil]); first | done | rfl | (simp only [List.length_drop, List.length_take]; rfl)) ?_; (with_reducible refine (caulklaw03_lives.calls kj5  true _ A26.out).mono ?_); rintro e w50 ⟨rfl, hb⟩; refine ⟨_, rfl, ?_⟩; have n0_ := Aside0.mk (Kd.N_below (by (with_reducible repeat (first | apply Kd.N_alloc | apply Kd.N_drewN | apply Kd.N_drew)); exact HO267.out) hb); have n1_ := Aside0.mk (Kd.N_below (by (with_reducible repeat (first | apply Kd.N_alloc | apply Kd.N_drewN | apply Kd.N_drew)); exact HO272.out) hb); have n2_ := Aside0.mk (Kd.N_below (by (with_reducible repeat (first | apply Kd.N_alloc | apply Kd.N_drewN | apply Kd.N_drew)); exact HO275.out) hb); have n3_ := Aside0.mk (Kd.N_below (by (with_reducible repeat (first | apply Kd.N_alloc | apply Kd.N_drewN | apply Kd.N_drew)); exact HO280.out) hb); have n4_ := Aside0.mk (Kd.N_below (by (with_reducible repeat (first | apply Kd.N_alloc | apply Kd.N_drewN | apply Kd.N_drew)); exact HO283.out) hb); have n5_ := Aside0.mk (Kd.N_below (by (with_reducible repeat (first | apply Kd.N_alloc | apply Kd.N_drewN | apply Kd.N_drew)); exact HO288.out) hb); have n6_ := Aside0.mk (Kd.N_below (by (with_reducible repeat (first | apply Kd.N_alloc | apply Kd.N_drewN | apply Kd.N_drew)); exact HO291.out) hb); have n7_ := Aside0.mk (Kd.N_below (by (with_reducible repeat (first | apply Kd.N_alloc | apply Kd.N_drewN | apply Kd.N_drew)); exact HO296.out) hb); have n8_ := Aside0.mk (below_step (by repeat (first | (with_reducible first | exact HB.out | apply below_alloc | apply pw_below_drewN | apply below_drew1) | exact HB.out)) hb); clear HO267; clear HO272; clear HO275; clear HO280; clear HO283; clear HO288; clear HO291; clear HO296; clear HB; have HO267 := n0_; have HO272 := n1_; have HO275 := n2_; have HO280 := n3_; have HO283 := n4_; have HO288 := n5_; have HO291 := n6_; have HO296 := n7_; have HB := n8_; clear n0_ n1_ n2_ n3_ n4_ n5_ n6_ n7_ n8_; (try clear hb); (try clear hb2); (try clear hk); (try clear hi)) | (go_at_call 22; (with_reducible refine (matrix_Check.calls kj5 _ _ l0 t298 _ ?side1 ?side2 A28.out).mono ?_); (case side1 => repeat (first | exact (Kd.C_below HR0.out HB.out) | (with_reducible refine Kd.C_alloc ?_ _) | (with_reducible refine Kd.C_drewN ?_ _) | (with_reducible refine Kd.C_drew ?_))); (case side2 => exact HC0.out); rintro e w' ⟨rfl, ⟨nd, rfl⟩⟩) | (go_at_call 23; (with_reducible refine (caulkref03_Check.calls kj5 _ _ l0 t299 _ ?side1 ?side2 A29.out).mono ?_); (case side1 => repeat (first | exact (Kd.C_below HR0.out (by repeat (first | (with_reducible first | exact HB.out | apply below_alloc | apply pw_below_drewN | apply below_drew1) | exact HB.out))) | (with_reducible refine Kd.C_alloc ?_ _) | (with_reducible refine Kd.C_drewN ?_ _) | (with_reducible refine Kd.C_drew ?_))); (case side2 => exact HC0.out); rintro e w' ⟨rfl, ⟨nd, rfl⟩⟩; obtain ⟨Ao51, co51, eo51⟩ := Kd.N_slice HO267.out; subst eo51; obtain ⟨Ao52, co52, eo52⟩ := Kd.N_slice HO272.out; subst eo52) | (go_at_call 24; (with_reducible refine (caulkref03_Same.calls _ _ t265 _ _ t269 true _ ?side1 ?side2 ?side3 ?side4 A31.out).mono ?_); (case side1 => repeat (first | exact (Kd.N_reads' HO267.out).2.2 | (with_reducible refine Kd.C_alloc ?_ _) | (with_reducible refine Kd.C_drewN ?_ _) | (with_reducible refine Kd.C_drew ?_))); (case side2 => exact (Kd.N_reads' HO267.out).2.1); (case side3 => repeat (first | exact (Kd.N_reads' HO272.out).2.2 | (with_reducible refine Kd.C_alloc ?_ _) | (with_reducible refine Kd.C_drewN ?_ _) | (with_reducible refine Kd.C_drew ?_))); (case side4 => exact (Kd.N_reads' HO272.out).2.1); rintro e w' ⟨rfl, ⟨nd, rfl⟩⟩; obtain ⟨Ao53, co53, eo53⟩ := Kd.N_slice HO275.out; subst eo53; obtain ⟨Ao54, co54, eo54⟩ := Kd.N_slice HO280.out; subst eo54) | (go_at_call 24; (with_reducible refine (caulkref03_Same.calls _ _ t273 _ _ t277 true _ ?side1 ?side2 ?side3 ?side4 A34.out).mono ?_); (case side1 => repeat (first | exact (Kd.N_reads' HO275.out).2.2 | (with_reducible refine Kd.C_alloc ?_ _) | (with_reducible refine Kd.C_drewN ?_ _) | (with_reducible refine Kd.C_drew ?_))); (case side2 => exact (Kd.N_reads' HO275.out).2.1); (case side3 => repeat (first | exact (Kd.N_reads' HO280.out).2.2 | (with_reducible refine Kd.C_alloc ?_ _) | (with_reducible refine Kd.C_drewN ?_ _) | (with_reducible refine Kd.C_drew ?_))); (case side4 => exact (Kd.N_reads' HO280.out).2.1); rintro e w' ⟨rfl, ⟨nd, rfl⟩⟩; obtain ⟨Ao55, co55, eo55⟩ := Kd.N_slice HO283.out; subst eo55; obtain ⟨Ao56, co56, eo56⟩ := Kd.N_slice HO288.out; subst eo56) | (go_at_call 24; (with_reducible refine (caulkref03_Same.calls _ _ t281 _ _ t285 true _ ?side1 ?side2 ?side3 ?side4 A37.out).mono ?_); (case side1 => repeat (first | exact (Kd.N_reads' HO283.out).2.2 | (with_reducible refine Kd.C_alloc ?_ _) | (with_reducible refine Kd.C_drewN ?_ _) | (with_reducible refine Kd.C_drew ?_))); (case side2 => exact (Kd.N_reads' HO283.out).2.1); (case side3 => repeat (first | exact (Kd.N_reads' HO288.out).2.2 | (with_reducible refine Kd.C_alloc ?_ _) | (with_reducible refine Kd.C_drewN ?_ _) | (with_reducible refine Kd.C_drew ?_))); (case side4 => exact (Kd.N_reads' HO288.out).2.1); rintro e w' ⟨rfl, ⟨nd, rfl⟩⟩; obtain ⟨Ao57, co57, eo57⟩ := Kd.N_slice HO291.out; subst eo57; obtain ⟨Ao58, co58, eo58⟩ := Kd.N_slice HO296.out; subst eo58) | (go_at_call 24; (with_reducible refine (caulkref03_Same.calls _ _ t289 _ _ t293 true _ ?side1 ?side2 ?side3 ?side4 A40.out).mono ?_); (case side1 => repeat (first | exact (Kd.N_reads' HO291.out).2.2 | (with_reducible refine Kd.C_alloc ?_ _) | (with_reducible refine Kd.C_drewN ?_ _) | (with_reducible refine Kd.C_drew ?_))); (case side2 => exact (Kd.N_reads' HO291.out).2.1); (case side3 => repeat (first | exact (Kd.N_reads' HO296.out).2.2 | (with_reducible refine Kd.C_alloc ?_ _) | (with_reducible refine Kd.C_drewN ?_ _) | (with_reducible refine Kd.C_drew ?_))); (case side4 => exact (Kd.N_reads' HO296.out).2.1); rintro e w' ⟨rfl, ⟨nd, rfl⟩⟩))
                          go_ret
                          exact ⟨by first | rfl | (simp [errW_none, errW_some] <;> rfl) | (simp [*, errW_none, errW_some] <;> rfl), by repeat (first | (with_reducible first | exact HB.out | apply below_alloc | apply pw_below_drewN | apply below_drew1) | exact HB.out)⟩
                        · replace c41 := Bool.eq_false_iff.mpr c41
                          subst c41
                          have H1 : (none) = some r := by rw [if_neg (show ¬ (false = true) by decide)] at H; exact H
                          clear H
                          have H := H1
                          clear H1
                          exact absurd H (by simp)
                      · rw [if_neg c39] at H
                        exact absurd H (by simp)
                    · replace c38 := Bool.eq_false_iff.mpr c38
                      subst c38
                      have H1 : (none) = some r := by rw [if_neg (show ¬ (false = true) by decide)] at H; exact H
                      clear H
                      have H := H1
                      clear H1
                      exact absurd H (by simp)
                  · rw [if_neg c36] at H
                    exact absurd H (by simp)
                · replace c35 := Bool.eq_false_iff.mpr c35
                  subst c35
                  have H1 : (none) = some r := by rw [if_neg (show ¬ (false = true) by decide)] at H; exact H
                  clear H
                  have H := H1
                  clear H1
                  exact absurd H (by simp)
              · rw [if_neg c33] at H
                exact absurd H (by simp)
            · replace c32 := Bool.eq_false_iff.mpr c32
              subst c32
              have H1 : (none) = some r := by rw [if_neg (show ¬ (false = true) by decide)] at H; exact H
              clear H
              have H := H1
              clear H1
              exact absurd H (by simp)
          · rw [if_neg c30] at H
            exact absurd H (by simp)
        · replace c27 := Bool.eq_false_iff.mpr c27
          subst c27
          have H1 : (none) = some r := by rw [if_neg (show ¬ (false = true) by decide)] at H; exact H
          clear H
          have H := H1
          clear H1
          exact absurd H (by simp)

def caulklaw03_MatrixTells.Pure : Prop := ∀ (l0 : List (List Int)) (l1 : List (List Int)) (l2 : List Int) (a3 : Int) (a4 : Int), (l0.length * 24 ≤ 140737488351232 ∧ ∀ x0_ ∈ l0, (x0_.length * 1 ≤ 140737488351232 ∧ ∀ x1_ ∈ x0_, (Lit.int .u8 x1_).wf = true)) → (l1.length * 24 ≤ 140737488351232 ∧ ∀ x0_ ∈ l1, (x0_.length * 1 ≤ 140737488351232 ∧ ∀ x1_ ∈ x0_, (Lit.int .u8 x1_).wf = true)) → (l2.length * 8 ≤ 140737488351232 ∧ ∀ x0_ ∈ l2, (Lit.int .i64 x0_).wf = true) → (Lit.int .i64 a3).wf = true → (Lit.int .i64 a4).wf = true → ∃ k, caulklaw03_MatrixTells.f k l0 l1 l2 a3 a4 = some true

end Go.Proofs.Ytlobaomleocpjaa.G
