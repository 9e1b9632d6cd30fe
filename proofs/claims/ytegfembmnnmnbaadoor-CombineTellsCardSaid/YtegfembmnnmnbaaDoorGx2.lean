-- Written by a program of this session over the print of the translation (its own patch, foreign contracts, cut ways): not trusted: Lean checks it.
import Derived.Test.YtegfembmnnmnbaaDoorGx0
import Derived.Test.YtegfembmnnmnbaaDoorGx1
namespace Go.Proofs.YtegfembmnnmnbaaDoor.G
open Go.RowKit Go.Proofs.YtegfembmnnmnbaaDoorW.PrintWords Go.Proofs.YtegfembmnnmnbaaDoorW.PrintLast Go.Proofs.YtegfembmnnmnbaaDoorW.PrintMore
attribute [local go_sem] max2_int min2_int max_two min_two max_three min_three max_four min_four   -- for this text's walks alone
set_option linter.unusedVariables false
set_option linter.unusedSimpArgs false

/-! ### combine_by: function 32 -/
def combine_by.j0 : Nat → Int → Int → Int → Bool → Option (Int × Int)
  | 0, _, _, _, _ => none
  | k + 1, x0, x1, x2, x13 => if x13 = true then (some (0, 1)) else ((combine_power.f k x1 x2).bind fun t116 => ((combine_mul.f k x0 t116).bind fun t117 => (some (t117, 0))))
def combine_by.f (k : Nat) (a0 : Int) (a1 : Int) (a2 : Int) : Option (Int × Int) := if a2 < 0 then (combine_by.j0 k a0 a1 a2 true) else (combine_by.j0 k a0 a1 a2 (decide (a2 > 1099511627776)))
theorem combine_by.mono_l : ∀ k, (∀ y0 y1 y2 y3, LeO (combine_by.j0 k y0 y1 y2 y3) (combine_by.j0 (k + 1) y0 y1 y2 y3))
  | 0 => fun _ _ _ _ r h => by simp [combine_by.j0] at h
  | k + 1 => by
    have ih0 := combine_by.mono_l k
    · intro y0 y1 y2 y3
      unfold combine_by.j0
      repeat' first
      | (with_reducible exact ih0 _ _ _ _)
      | (with_reducible exact combine_mul.mono _ _ _)
      | (with_reducible exact combine_power.mono _ _ _)
      | (with_reducible exact LeO.refl _)
      | (with_reducible exact LeO.none _)
      | (with_reducible refine LeO.ite ?_ ?_)
      | (with_reducible refine LeO.bind ?_ (fun _ => ?_))
      | exact ih0 _ _ _ _
      | exact combine_mul.mono _ _ _
      | exact combine_power.mono _ _ _
      | exact LeO.none _
      | refine LeO.ite ?_ ?_
      | refine LeO.bind ?_ (fun _ => ?_)
theorem combine_by.mono : ∀ a0 a1 a2 k, LeO (combine_by.f k a0 a1 a2) (combine_by.f (k + 1) a0 a1 a2) := by
  intro a0 a1 a2 k
  have ih0 := combine_by.mono_l k
  unfold combine_by.f
  repeat' first
      | (with_reducible exact ih0 _ _ _ _)
      | (with_reducible exact combine_mul.mono _ _ _)
      | (with_reducible exact combine_power.mono _ _ _)
      | (with_reducible exact LeO.refl _)
      | (with_reducible exact LeO.none _)
      | (with_reducible refine LeO.ite ?_ ?_)
      | (with_reducible refine LeO.bind ?_ (fun _ => ?_))
      | exact ih0 _ _ _ _
      | exact combine_mul.mono _ _ _
      | exact combine_power.mono _ _ _
      | exact LeO.none _
      | refine LeO.ite ?_ ?_
      | refine LeO.bind ?_ (fun _ => ?_)
set_option maxHeartbeats 8000000 in
set_option maxRecDepth 100000 in
theorem combine_by.calls (k : Nat) (a0 : Int) (a1 : Int) (a2 : Int) (r1 : Int) (r2 : Int) (w : World) (h : combine_by.f k a0 a1 a2 = some (r1, r2)) :
    Calls Tryd.prog 32 #[.int .u32 a0, .int .u32 a1, .int .i64 a2] w fun e w' => e = .returned (.tuple #[.int .u32 r1, .int .i64 r2]) ∧ Drawn0 w w' := by
  have H : (if a2 < 0 then (combine_by.j0 k a0 a1 a2 true) else (combine_by.j0 k a0 a1 a2 (decide (a2 > 1099511627776)))) = some (r1, r2) := h
  clear h
  have HC4 := Aside0.mk H
  clear H
  go_enter Tryd.func32, Tryd.ntmps32
  go_upto_region 1 with (fail)
  go_cut [13] (fun v13 wc => ∃ (kq : Nat) (x13_3 : Bool), v13 = .bool x13_3 ∧ Aside0 (combine_by.j0 kq a0 a1 a2 x13_3 = some (r1, r2)) ∧ Aside0 (kq ≤ k) ∧ Drawn0 w wc)
  case first =>
    have H := HC4.out
    clear HC4
    by_cases c5 : a2 < 0
    · rw [if_pos c5] at H
      have c5b0 : decide (a2 < 0) = true := decide_eq_true c5
      clear c5
      (first | rw [c5b0] | (simp only [i64_w, i32_w]; rw [c5b0]) | skip)
      have H' := Aside0.mk H
      clear H
      go_wp2
      go_meet
      case rel => exact ⟨_, (true), (by first | rfl | (simp; done) | (simp [*]; done)), H', ⟨by first | omega | exact Nat.le_refl _⟩, by repeat (first | exact Drawn0.refl _ | apply Drawn0.step)⟩
    · rw [if_neg c5] at H
      have c5b0 : decide (a2 < 0) = false := decide_eq_false c5
      clear c5
      (first | rw [c5b0] | (simp only [i64_w, i32_w]; rw [c5b0]) | skip)
      have H' := Aside0.mk H
      clear H
      go_wp2
      go_meet
      case rel => exact ⟨_, (decide (a2 > 1099511627776)), (by first | rfl | (simp; done) | (simp [*]; done)), H', ⟨by first | omega | exact Nat.le_refl _⟩, by repeat (first | exact Drawn0.refl _ | apply Drawn0.step)⟩
  case rest =>
    clear HC4
    try clear p2
    try clear c3
    try clear c5
    try clear c5b0
    obtain ⟨kq, x13_3, rfl, HA, HJ3, ⟨mc3, rfl⟩⟩ := hcut
    cases kq with
    | zero => exact absurd HA.out (by simp [combine_by.j0])
    | succ kj3 =>
      have H := HA.out
      clear HA
      simp only [combine_by.j0] at H
      by_cases c6 : x13_3 = true
      · subst c6
        have H1 : (some (0, 1)) = some (r1, r2) := by rw [if_pos rfl] at H; exact H
        clear H
        have H := H1
        clear H1
        simp only [Option.some.injEq, Prod.mk.injEq] at H
        obtain ⟨rfl, rfl⟩ := H
        go_wp2
        go_ret2
        exact ⟨by first | rfl | (simp; done) | (simp [*]; done), by repeat (first | exact Drawn0.refl _ | apply Drawn0.step)⟩
      · replace c6 := Bool.eq_false_iff.mpr c6
        subst c6
        have H1 : ((combine_power.f kj3 a1 a2).bind fun t116 => ((combine_mul.f kj3 a0 t116).bind fun t117 => (some (t117, 0)))) = some (r1, r2) := by rw [if_neg (show ¬ (false = true) by decide)] at H; exact H
        clear H
        have H := H1
        clear H1
        replace H := Option.bind_eq_some_iff.mp H
        obtain ⟨t116, A70, H⟩ := H
        replace H : ((combine_mul.f kj3 a0 t116).bind fun t117 => (some (t117, 0))) = some (r1, r2) := H
        have A7 := Aside0.mk A70
        clear A70
        replace H := Option.bind_eq_some_iff.mp H
        obtain ⟨t117, A80, H⟩ := H
        replace H : (some (t117, 0)) = some (r1, r2) := H
        have A8 := Aside0.mk A80
        clear A80
        simp only [Option.some.injEq, Prod.mk.injEq] at H
        obtain ⟨rfl, rfl⟩ := H
        go_wp2_with (first | ((with_reducible refine gate_callee (f := 34) rfl ?_); refine goesL_ (some 17) rfl rfl Tryd.func34 (by kernel_rfl) rfl #[.int .u32 a1, .int .i64 a2] rfl (by (try simp only [List.map_toArray, List.map_cons, List.map_nil]); first | done | rfl | (simp only [List.length_drop, List.length_take]; rfl)) ?_; (with_reducible refine (combine_power.calls kj3 a1 a2 t116 _ A7.out).mono ?_); rintro e w' ⟨rfl, ⟨nd, rfl⟩⟩; refine ⟨_, rfl, ?_⟩) | ((with_reducible refine gate_callee (f := 36) rfl ?_); refine goesL_ (some 18) rfl rfl Tryd.func36 (by kernel_rfl) rfl #[.int .u32 a0, .int .u32 t116] rfl (by (try simp only [List.map_toArray, List.map_cons, List.map_nil]); first | done | rfl | (simp only [List.length_drop, List.length_take]; rfl)) ?_; (with_reducible refine (combine_mul.calls kj3 a0 t116 t117 _ A8.out).mono ?_); rintro e w' ⟨rfl, ⟨nd, rfl⟩⟩; refine ⟨_, rfl, ?_⟩))
        go_ret2
        exact ⟨by first | rfl | (simp; done) | (simp [*]; done), by repeat (first | exact Drawn0.refl _ | apply Drawn0.step)⟩

/-! ### combine_Shift: function 22 -/
def combine_Shift.f (k : Nat) (a0 : Int) (a1 : Int) : Option (Int × Int) := (combine_by.f k a0 8388608 a1).bind fun bt118 => (some (bt118.1, bt118.2))
theorem combine_Shift.mono : ∀ a0 a1 k, LeO (combine_Shift.f k a0 a1) (combine_Shift.f (k + 1) a0 a1) := by
  intro a0 a1 k
  unfold combine_Shift.f
  repeat' first
      | (with_reducible exact combine_by.mono _ _ _ _)
      | (with_reducible exact LeO.refl _)
      | (with_reducible exact LeO.none _)
      | (with_reducible refine LeO.ite ?_ ?_)
      | (with_reducible refine LeO.bind ?_ (fun _ => ?_))
      | exact combine_by.mono _ _ _ _
      | exact LeO.none _
      | refine LeO.ite ?_ ?_
      | refine LeO.bind ?_ (fun _ => ?_)
set_option maxHeartbeats 8000000 in
set_option maxRecDepth 100000 in
theorem combine_Shift.calls (k : Nat) (a0 : Int) (a1 : Int) (r1 : Int) (r2 : Int) (w : World) (h : combine_Shift.f k a0 a1 = some (r1, r2)) :
    Calls Tryd.prog 22 #[.int .u32 a0, .int .i64 a1] w fun e w' => e = .returned (.tuple #[.int .u32 r1, .int .i64 r2]) ∧ Drawn0 w w' := by
  have H : ((combine_by.f k a0 8388608 a1).bind fun bt118 => (some (bt118.1, bt118.2))) = some (r1, r2) := h
  clear h
  replace H := Option.bind_eq_some_iff.mp H
  obtain ⟨⟨t118, t119⟩, A30, H⟩ := H
  replace H : (some (t118, t119)) = some (r1, r2) := H
  have A3 := Aside0.mk A30
  clear A30
  simp only [Option.some.injEq, Prod.mk.injEq] at H
  obtain ⟨rfl, rfl⟩ := H
  go_enter Tryd.func22, Tryd.ntmps22
  go_wp2_with (first | ((with_reducible refine gate_callee (f := 32) rfl ?_); refine goesL_ (some 8) rfl rfl Tryd.func32 (by kernel_rfl) rfl #[.int .u32 a0, .int .u32 8388608, .int .i64 a1] rfl (by (try simp only [List.map_toArray, List.map_cons, List.map_nil]); first | done | rfl | (simp only [List.length_drop, List.length_take]; rfl)) ?_; (with_reducible refine (combine_by.calls k a0 8388608 a1 t118 t119 _ A3.out).mono ?_); rintro e w' ⟨rfl, ⟨nd, rfl⟩⟩; refine ⟨_, rfl, ?_⟩))
  go_ret2
  exact ⟨by first | rfl | (simp; done) | (simp [*]; done), by repeat (first | exact Drawn0.refl _ | apply Drawn0.step)⟩

/-! ### combine_Join: function 26 -/
def combine_Join.f (k : Nat) (a0 : Int) (a1 : Int) (a2 : Int) : Option (Int × Int) := (combine_Shift.f k a0 a2).bind fun bt120 => (if bt120.2 = 0 then (some (Go.bits .xor .u32 bt120.1 a1, 0)) else (some (0, bt120.2)))
theorem combine_Join.mono : ∀ a0 a1 a2 k, LeO (combine_Join.f k a0 a1 a2) (combine_Join.f (k + 1) a0 a1 a2) := by
  intro a0 a1 a2 k
  unfold combine_Join.f
  repeat' first
      | (with_reducible exact combine_Shift.mono _ _ _)
      | (with_reducible exact LeO.refl _)
      | (with_reducible exact LeO.none _)
      | (with_reducible refine LeO.ite ?_ ?_)
      | (with_reducible refine LeO.bind ?_ (fun _ => ?_))
      | exact combine_Shift.mono _ _ _
      | exact LeO.none _
      | refine LeO.ite ?_ ?_
      | refine LeO.bind ?_ (fun _ => ?_)
set_option maxHeartbeats 8000000 in
set_option maxRecDepth 100000 in
theorem combine_Join.calls (k : Nat) (a0 : Int) (a1 : Int) (a2 : Int) (r1 : Int) (r2 : Int) (w : World) (h : combine_Join.f k a0 a1 a2 = some (r1, r2)) :
    Calls Tryd.prog 26 #[.int .u32 a0, .int .u32 a1, .int .i64 a2] w fun e w' => e = .returned (.tuple #[.int .u32 r1, .int .i64 r2]) ∧ Drawn0 w w' := by
  have H : ((combine_Shift.f k a0 a2).bind fun bt120 => (if bt120.2 = 0 then (some (Go.bits .xor .u32 bt120.1 a1, 0)) else (some (0, bt120.2)))) = some (r1, r2) := h
  clear h
  replace H := Option.bind_eq_some_iff.mp H
  obtain ⟨⟨t120, t121⟩, A40, H⟩ := H
  replace H : (if t121 = 0 then (some (Go.bits .xor .u32 t120 a1, 0)) else (some (0, t121))) = some (r1, r2) := H
  have A4 := Aside0.mk A40
  clear A40
  by_cases c5 : t121 = 0
  · rw [if_pos c5] at H
    have c5b0 : (t121 == 0) = true := beq_iff_eq.mpr c5
    have c5b1 : (t121 != 0) = false := bne_eq_false_iff_eq.mpr c5
    clear c5
    simp only [Option.some.injEq, Prod.mk.injEq] at H
    obtain ⟨rfl, rfl⟩ := H
    go_enter Tryd.func26, Tryd.ntmps26
    go_wp2_with (first | ((with_reducible refine gate_callee (f := 22) rfl ?_); refine goesL_ (some 13) rfl rfl Tryd.func22 (by kernel_rfl) rfl #[.int .u32 a0, .int .i64 a2] rfl (by (try simp only [List.map_toArray, List.map_cons, List.map_nil]); first | done | rfl | (simp only [List.length_drop, List.length_take]; rfl)) ?_; (with_reducible refine (combine_Shift.calls k a0 a2 t120 t121 _ A4.out).mono ?_); rintro e w' ⟨rfl, ⟨nd, rfl⟩⟩; refine ⟨_, rfl, ?_⟩))
    go_ret2
    exact ⟨by first | rfl | (simp; done) | (simp [*]; done), by repeat (first | exact Drawn0.refl _ | apply Drawn0.step)⟩
  · rw [if_neg c5] at H
    have c5b0 : (t121 == 0) = false := beq_eq_false_iff_ne.mpr c5
    have c5b1 : (t121 != 0) = true := bne_iff_ne.mpr c5
    simp only [Option.some.injEq, Prod.mk.injEq] at H
    obtain ⟨rfl, rfl⟩ := H
    go_enter Tryd.func26, Tryd.ntmps26
    go_wp2_with (first | ((with_reducible refine gate_callee (f := 22) rfl ?_); refine goesL_ (some 13) rfl rfl Tryd.func22 (by kernel_rfl) rfl #[.int .u32 a0, .int .i64 a2] rfl (by (try simp only [List.map_toArray, List.map_cons, List.map_nil]); first | done | rfl | (simp only [List.length_drop, List.length_take]; rfl)) ?_; (with_reducible refine (combine_Shift.calls k a0 a2 t120 t121 _ A4.out).mono ?_); rintro e w' ⟨rfl, ⟨nd, rfl⟩⟩; refine ⟨_, rfl, ?_⟩))
    go_ret2
    exact ⟨by first | rfl | (simp; done) | (simp [*]; done), by repeat (first | exact Drawn0.refl _ | apply Drawn0.step)⟩

/-! ### combine_Back: function 24 -/
def combine_Back.f (k : Nat) (a0 : Int) (a1 : Int) : Option (Int × Int) := (combine_power.f k 99383025 8).bind fun t122 => ((combine_by.f k a0 t122 a1).bind fun bt123 => (some (bt123.1, bt123.2)))
theorem combine_Back.mono : ∀ a0 a1 k, LeO (combine_Back.f k a0 a1) (combine_Back.f (k + 1) a0 a1) := by
  intro a0 a1 k
  unfold combine_Back.f
  repeat' first
      | (with_reducible exact combine_by.mono _ _ _ _)
      | (with_reducible exact combine_power.mono _ _ _)
      | (with_reducible exact LeO.refl _)
      | (with_reducible exact LeO.none _)
      | (with_reducible refine LeO.ite ?_ ?_)
      | (with_reducible refine LeO.bind ?_ (fun _ => ?_))
      | exact combine_by.mono _ _ _ _
      | exact combine_power.mono _ _ _
      | exact LeO.none _
      | refine LeO.ite ?_ ?_
      | refine LeO.bind ?_ (fun _ => ?_)
set_option maxHeartbeats 8000000 in
set_option maxRecDepth 100000 in
theorem combine_Back.calls (k : Nat) (a0 : Int) (a1 : Int) (r1 : Int) (r2 : Int) (w : World) (h : combine_Back.f k a0 a1 = some (r1, r2)) :
    Calls Tryd.prog 24 #[.int .u32 a0, .int .i64 a1] w fun e w' => e = .returned (.tuple #[.int .u32 r1, .int .i64 r2]) ∧ Drawn0 w w' := by
  have H : ((combine_power.f k 99383025 8).bind fun t122 => ((combine_by.f k a0 t122 a1).bind fun bt123 => (some (bt123.1, bt123.2)))) = some (r1, r2) := h
  clear h
  replace H := Option.bind_eq_some_iff.mp H
  obtain ⟨t122, A30, H⟩ := H
  replace H : ((combine_by.f k a0 t122 a1).bind fun bt123 => (some (bt123.1, bt123.2))) = some (r1, r2) := H
  have A3 := Aside0.mk A30
  clear A30
  replace H := Option.bind_eq_some_iff.mp H
  obtain ⟨⟨t123, t124⟩, A40, H⟩ := H
  replace H : (some (t123, t124)) = some (r1, r2) := H
  have A4 := Aside0.mk A40
  clear A40
  simp only [Option.some.injEq, Prod.mk.injEq] at H
  obtain ⟨rfl, rfl⟩ := H
  go_enter Tryd.func24, Tryd.ntmps24
  go_wp2_with (first | ((with_reducible refine gate_callee (f := 34) rfl ?_); refine goesL_ (some 7) rfl rfl Tryd.func34 (by kernel_rfl) rfl #[.int .u32 99383025, .int .i64 8] rfl (by (try simp only [List.map_toArray, List.map_cons, List.map_nil]); first | done | rfl | (simp only [List.length_drop, List.length_take]; rfl)) ?_; (with_reducible refine (combine_power.calls k 99383025 8 t122 _ A3.out).mono ?_); rintro e w' ⟨rfl, ⟨nd, rfl⟩⟩; refine ⟨_, rfl, ?_⟩) | ((with_reducible refine gate_callee (f := 32) rfl ?_); refine goesL_ (some 9) rfl rfl Tryd.func32 (by kernel_rfl) rfl #[.int .u32 a0, .int .u32 t122, .int .i64 a1] rfl (by (try simp only [List.map_toArray, List.map_cons, List.map_nil]); first | done | rfl | (simp only [List.length_drop, List.length_take]; rfl)) ?_; (with_reducible refine (combine_by.calls k a0 t122 a1 t123 t124 _ A4.out).mono ?_); rintro e w' ⟨rfl, ⟨nd, rfl⟩⟩; refine ⟨_, rfl, ?_⟩))
  go_ret2
  exact ⟨by first | rfl | (simp; done) | (simp [*]; done), by repeat (first | exact Drawn0.refl _ | apply Drawn0.step)⟩

/-! ### combine_Head: function 28 -/
def combine_Head.f (k : Nat) (a0 : Int) (a1 : Int) (a2 : Int) : Option (Int × Int) := (combine_Back.f k (Go.bits .xor .u32 a0 a1) a2).bind fun bt125 => (some (bt125.1, bt125.2))
theorem combine_Head.mono : ∀ a0 a1 a2 k, LeO (combine_Head.f k a0 a1 a2) (combine_Head.f (k + 1) a0 a1 a2) := by
  intro a0 a1 a2 k
  unfold combine_Head.f
  repeat' first
      | (with_reducible exact combine_Back.mono _ _ _)
      | (with_reducible exact LeO.refl _)
      | (with_reducible exact LeO.none _)
      | (with_reducible refine LeO.ite ?_ ?_)
      | (with_reducible refine LeO.bind ?_ (fun _ => ?_))
      | exact combine_Back.mono _ _ _
      | exact LeO.none _
      | refine LeO.ite ?_ ?_
      | refine LeO.bind ?_ (fun _ => ?_)
set_option maxHeartbeats 8000000 in
set_option maxRecDepth 100000 in
theorem combine_Head.calls (k : Nat) (a0 : Int) (a1 : Int) (a2 : Int) (r1 : Int) (r2 : Int) (w : World) (h : combine_Head.f k a0 a1 a2 = some (r1, r2)) :
    Calls Tryd.prog 28 #[.int .u32 a0, .int .u32 a1, .int .i64 a2] w fun e w' => e = .returned (.tuple #[.int .u32 r1, .int .i64 r2]) ∧ Drawn0 w w' := by
  have H : ((combine_Back.f k (Go.bits .xor .u32 a0 a1) a2).bind fun bt125 => (some (bt125.1, bt125.2))) = some (r1, r2) := h
  clear h
  replace H := Option.bind_eq_some_iff.mp H
  obtain ⟨⟨t125, t126⟩, A40, H⟩ := H
  replace H : (some (t125, t126)) = some (r1, r2) := H
  have A4 := Aside0.mk A40
  clear A40
  simp only [Option.some.injEq, Prod.mk.injEq] at H
  obtain ⟨rfl, rfl⟩ := H
  go_enter Tryd.func28, Tryd.ntmps28
  go_wp2_with (first | ((with_reducible refine gate_callee (f := 24) rfl ?_); refine goesL_ (some 12) rfl rfl Tryd.func24 (by kernel_rfl) rfl #[.int .u32 (Go.bits .xor .u32 a0 a1), .int .i64 a2] rfl (by (try simp only [List.map_toArray, List.map_cons, List.map_nil]); first | done | rfl | (simp only [List.length_drop, List.length_take]; rfl)) ?_; (with_reducible refine (combine_Back.calls k (Go.bits .xor .u32 a0 a1) a2 t125 t126 _ A4.out).mono ?_); rintro e w' ⟨rfl, ⟨nd, rfl⟩⟩; refine ⟨_, rfl, ?_⟩))
  go_ret2
  exact ⟨by first | rfl | (simp; done) | (simp [*]; done), by repeat (first | exact Drawn0.refl _ | apply Drawn0.step)⟩

/-! ### combine_Blank: function 30 -/
def combine_Blank.f (k : Nat) (a0 : Int) : Option (Int × Int) := (combine_Shift.f k 4294967295 a0).bind fun bt127 => (if bt127.2 = 0 then (some (Go.bits .xor .u32 4294967295 bt127.1, 0)) else (some (0, bt127.2)))
theorem combine_Blank.mono : ∀ a0 k, LeO (combine_Blank.f k a0) (combine_Blank.f (k + 1) a0) := by
  intro a0 k
  unfold combine_Blank.f
  repeat' first
      | (with_reducible exact combine_Shift.mono _ _ _)
      | (with_reducible exact LeO.refl _)
      | (with_reducible exact LeO.none _)
      | (with_reducible refine LeO.ite ?_ ?_)
      | (with_reducible refine LeO.bind ?_ (fun _ => ?_))
      | exact combine_Shift.mono _ _ _
      | exact LeO.none _
      | refine LeO.ite ?_ ?_
      | refine LeO.bind ?_ (fun _ => ?_)
set_option maxHeartbeats 8000000 in
set_option maxRecDepth 100000 in
theorem combine_Blank.calls (k : Nat) (a0 : Int) (r1 : Int) (r2 : Int) (w : World) (h : combine_Blank.f k a0 = some (r1, r2)) :
    Calls Tryd.prog 30 #[.int .i64 a0] w fun e w' => e = .returned (.tuple #[.int .u32 r1, .int .i64 r2]) ∧ Drawn0 w w' := by
  have H : ((combine_Shift.f k 4294967295 a0).bind fun bt127 => (if bt127.2 = 0 then (some (Go.bits .xor .u32 4294967295 bt127.1, 0)) else (some (0, bt127.2)))) = some (r1, r2) := h
  clear h
  replace H := Option.bind_eq_some_iff.mp H
  obtain ⟨⟨t127, t128⟩, A20, H⟩ := H
  replace H : (if t128 = 0 then (some (Go.bits .xor .u32 4294967295 t127, 0)) else (some (0, t128))) = some (r1, r2) := H
  have A2 := Aside0.mk A20
  clear A20
  by_cases c3 : t128 = 0
  · rw [if_pos c3] at H
    have c3b0 : (t128 == 0) = true := beq_iff_eq.mpr c3
    have c3b1 : (t128 != 0) = false := bne_eq_false_iff_eq.mpr c3
    clear c3
    simp only [Option.some.injEq, Prod.mk.injEq] at H
    obtain ⟨rfl, rfl⟩ := H
    go_enter Tryd.func30, Tryd.ntmps30
    go_wp2_with (first | ((with_reducible refine gate_callee (f := 22) rfl ?_); refine goesL_ (some 8) rfl rfl Tryd.func22 (by kernel_rfl) rfl #[.int .u32 4294967295, .int .i64 a0] rfl (by (try simp only [List.map_toArray, List.map_cons, List.map_nil]); first | done | rfl | (simp only [List.length_drop, List.length_take]; rfl)) ?_; (with_reducible refine (combine_Shift.calls k 4294967295 a0 t127 t128 _ A2.out).mono ?_); rintro e w' ⟨rfl, ⟨nd, rfl⟩⟩; refine ⟨_, rfl, ?_⟩))
    go_ret2
    exact ⟨by first | rfl | (simp; done) | (simp [*]; done), by repeat (first | exact Drawn0.refl _ | apply Drawn0.step)⟩
  · rw [if_neg c3] at H
    have c3b0 : (t128 == 0) = false := beq_eq_false_iff_ne.mpr c3
    have c3b1 : (t128 != 0) = true := bne_iff_ne.mpr c3
    simp only [Option.some.injEq, Prod.mk.injEq] at H
    obtain ⟨rfl, rfl⟩ := H
    go_enter Tryd.func30, Tryd.ntmps30
    go_wp2_with (first | ((with_reducible refine gate_callee (f := 22) rfl ?_); refine goesL_ (some 8) rfl rfl Tryd.func22 (by kernel_rfl) rfl #[.int .u32 4294967295, .int .i64 a0] rfl (by (try simp only [List.map_toArray, List.map_cons, List.map_nil]); first | done | rfl | (simp only [List.length_drop, List.length_take]; rfl)) ?_; (with_reducible refine (combine_Shift.calls k 4294967295 a0 t127 t128 _ A2.out).mono ?_); rintro e w' ⟨rfl, ⟨nd, rfl⟩⟩; refine ⟨_, rfl, ?_⟩))
    go_ret2
    exact ⟨by first | rfl | (simp; done) | (simp [*]; done), by repeat (first | exact Drawn0.refl _ | apply Drawn0.step)⟩

/-! ### caulklaw33_lives: function 21 -/
def caulklaw33_lives.f (k : Nat)  : Option (Bool) := (crc_Sum.f (⟨#[49, 50, 51, 52]⟩ : ByteArray)).bind fun t129 => ((crc_Sum.f (⟨#[53, 54, 55, 56, 57]⟩ : ByteArray)).bind fun t130 => ((combine_Join.f k t129 t130 5).bind fun bt131 => ((crc_Sum.f (⟨#[49, 50, 51, 52, 53, 54, 55, 56, 57]⟩ : ByteArray)).bind fun t133 => ((crc_Sum.f (⟨#[53, 54, 55, 56, 57]⟩ : ByteArray)).bind fun t134 => ((combine_Head.f k t133 t134 5).bind fun bt135 => ((combine_Blank.f k 1).bind fun bt137 => ((combine_Shift.f k 1 (-1)).bind fun bt139 => ((combine_Shift.f k 77 0).bind fun bt141 => (if bt131.1 = 3808858755 then (if bt131.2 = 0 then ((crc_Sum.f (⟨#[49, 50, 51, 52]⟩ : ByteArray)).bind fun t143 => (if bt135.1 = t143 then (if bt135.2 = 0 then (if bt137.1 = 1383945041 then (if bt137.2 = 0 then (if bt139.2 = 1 then (if bt141.1 = 77 then (some (bt141.2 == 0)) else (none)) else (none)) else (none)) else (none)) else (none)) else (none))) else (none)) else (none))))))))))
theorem caulklaw33_lives.mono : ∀ k, LeO (caulklaw33_lives.f k ) (caulklaw33_lives.f (k + 1) ) := by
  intro  k
  unfold caulklaw33_lives.f
  repeat' first
      | (with_reducible exact combine_Blank.mono _ _)
      | (with_reducible exact combine_Head.mono _ _ _ _)
      | (with_reducible exact combine_Join.mono _ _ _ _)
      | (with_reducible exact combine_Shift.mono _ _ _)
      | (with_reducible exact LeO.refl _)
      | (with_reducible exact LeO.none _)
      | (with_reducible refine LeO.ite ?_ ?_)
      | (with_reducible refine LeO.bind ?_ (fun _ => ?_))
      | exact combine_Blank.mono _ _
      | exact combine_Head.mono _ _ _ _
      | exact combine_Join.mono _ _ _ _
      | exact combine_Shift.mono _ _ _
      | exact LeO.none _
      | refine LeO.ite ?_ ?_
      | refine LeO.bind ?_ (fun _ => ?_)
set_option maxHeartbeats 8000000 in
set_option maxRecDepth 100000 in
theorem caulklaw33_lives.calls (k : Nat)  (r : Bool) (w : World) (hG : GT w) (h : caulklaw33_lives.f k  = some r) :
    Calls Tryd.prog 21 #[] w fun e w' => e = .returned (.bool r) ∧ Drawn0 w w' := by
  have HG := Aside0.mk hG
  clear hG
  have H : ((crc_Sum.f (⟨#[49, 50, 51, 52]⟩ : ByteArray)).bind fun t129 => ((crc_Sum.f (⟨#[53, 54, 55, 56, 57]⟩ : ByteArray)).bind fun t130 => ((combine_Join.f k t129 t130 5).bind fun bt131 => ((crc_Sum.f (⟨#[49, 50, 51, 52, 53, 54, 55, 56, 57]⟩ : ByteArray)).bind fun t133 => ((crc_Sum.f (⟨#[53, 54, 55, 56, 57]⟩ : ByteArray)).bind fun t134 => ((combine_Head.f k t133 t134 5).bind fun bt135 => ((combine_Blank.f k 1).bind fun bt137 => ((combine_Shift.f k 1 (-1)).bind fun bt139 => ((combine_Shift.f k 77 0).bind fun bt141 => (if bt131.1 = 3808858755 then (if bt131.2 = 0 then ((crc_Sum.f (⟨#[49, 50, 51, 52]⟩ : ByteArray)).bind fun t143 => (if bt135.1 = t143 then (if bt135.2 = 0 then (if bt137.1 = 1383945041 then (if bt137.2 = 0 then (if bt139.2 = 1 then (if bt141.1 = 77 then (some (bt141.2 == 0)) else (none)) else (none)) else (none)) else (none)) else (none)) else (none))) else (none)) else (none))))))))))) = some r := h
  clear h
  replace H := Option.bind_eq_some_iff.mp H
  obtain ⟨t129, A10, H⟩ := H
  replace H : ((crc_Sum.f (⟨#[53, 54, 55, 56, 57]⟩ : ByteArray)).bind fun t130 => ((combine_Join.f k t129 t130 5).bind fun bt131 => ((crc_Sum.f (⟨#[49, 50, 51, 52, 53, 54, 55, 56, 57]⟩ : ByteArray)).bind fun t133 => ((crc_Sum.f (⟨#[53, 54, 55, 56, 57]⟩ : ByteArray)).bind fun t134 => ((combine_Head.f k t133 t134 5).bind fun bt135 => ((combine_Blank.f k 1).bind fun bt137 => ((combine_Shift.f k 1 (-1)).bind fun bt139 => ((combine_Shift.f k 77 0).bind fun bt141 => (if bt131.1 = 3808858755 then (if bt131.2 = 0 then ((crc_Sum.f (⟨#[49, 50, 51, 52]⟩ : ByteArray)).bind fun t143 => (if bt135.1 = t143 then (if bt135.2 = 0 then (if bt137.1 = 1383945041 then (if bt137.2 = 0 then (if bt139.2 = 1 then (if bt141.1 = 77 then (some (bt141.2 == 0)) else (none)) else (none)) else (none)) else (none)) else (none)) else (none))) else (none)) else (none)))))))))) = some r := H
  have A1 := Aside0.mk A10
  clear A10
  replace H := Option.bind_eq_some_iff.mp H
  obtain ⟨t130, A20, H⟩ := H
  replace H : ((combine_Join.f k t129 t130 5).bind fun bt131 => ((crc_Sum.f (⟨#[49, 50, 51, 52, 53, 54, 55, 56, 57]⟩ : ByteArray)).bind fun t133 => ((crc_Sum.f (⟨#[53, 54, 55, 56, 57]⟩ : ByteArray)).bind fun t134 => ((combine_Head.f k t133 t134 5).bind fun bt135 => ((combine_Blank.f k 1).bind fun bt137 => ((combine_Shift.f k 1 (-1)).bind fun bt139 => ((combine_Shift.f k 77 0).bind fun bt141 => (if bt131.1 = 3808858755 then (if bt131.2 = 0 then ((crc_Sum.f (⟨#[49, 50, 51, 52]⟩ : ByteArray)).bind fun t143 => (if bt135.1 = t143 then (if bt135.2 = 0 then (if bt137.1 = 1383945041 then (if bt137.2 = 0 then (if bt139.2 = 1 then (if bt141.1 = 77 then (some (bt141.2 == 0)) else (none)) else (none)) else (none)) else (none)) else (none)) else (none))) else (none)) else (none))))))))) = some r := H
  have A2 := Aside0.mk A20
  clear A20
  replace H := Option.bind_eq_some_iff.mp H
  obtain ⟨⟨t131, t132⟩, A30, H⟩ := H
  replace H : ((crc_Sum.f (⟨#[49, 50, 51, 52, 53, 54, 55, 56, 57]⟩ : ByteArray)).bind fun t133 => ((crc_Sum.f (⟨#[53, 54, 55, 56, 57]⟩ : ByteArray)).bind fun t134 => ((combine_Head.f k t133 t134 5).bind fun bt135 => ((combine_Blank.f k 1).bind fun bt137 => ((combine_Shift.f k 1 (-1)).bind fun bt139 => ((combine_Shift.f k 77 0).bind fun bt141 => (if t131 = 3808858755 then (if t132 = 0 then ((crc_Sum.f (⟨#[49, 50, 51, 52]⟩ : ByteArray)).bind fun t143 => (if bt135.1 = t143 then (if bt135.2 = 0 then (if bt137.1 = 1383945041 then (if bt137.2 = 0 then (if bt139.2 = 1 then (if bt141.1 = 77 then (some (bt141.2 == 0)) else (none)) else (none)) else (none)) else (none)) else (none)) else (none))) else (none)) else (none)))))))) = some r := H
  have A3 := Aside0.mk A30
  clear A30
  replace H := Option.bind_eq_some_iff.mp H
  obtain ⟨t133, A40, H⟩ := H
  replace H : ((crc_Sum.f (⟨#[53, 54, 55, 56, 57]⟩ : ByteArray)).bind fun t134 => ((combine_Head.f k t133 t134 5).bind fun bt135 => ((combine_Blank.f k 1).bind fun bt137 => ((combine_Shift.f k 1 (-1)).bind fun bt139 => ((combine_Shift.f k 77 0).bind fun bt141 => (if t131 = 3808858755 then (if t132 = 0 then ((crc_Sum.f (⟨#[49, 50, 51, 52]⟩ : ByteArray)).bind fun t143 => (if bt135.1 = t143 then (if bt135.2 = 0 then (if bt137.1 = 1383945041 then (if bt137.2 = 0 then (if bt139.2 = 1 then (if bt141.1 = 77 then (some (bt141.2 == 0)) else (none)) else (none)) else (none)) else (none)) else (none)) else (none))) else (none)) else (none))))))) = some r := H
  have A4 := Aside0.mk A40
  clear A40
  replace H := Option.bind_eq_some_iff.mp H
  obtain ⟨t134, A50, H⟩ := H
  replace H : ((combine_Head.f k t133 t134 5).bind fun bt135 => ((combine_Blank.f k 1).bind fun bt137 => ((combine_Shift.f k 1 (-1)).bind fun bt139 => ((combine_Shift.f k 77 0).bind fun bt141 => (if t131 = 3808858755 then (if t132 = 0 then ((crc_Sum.f (⟨#[49, 50, 51, 52]⟩ : ByteArray)).bind fun t143 => (if bt135.1 = t143 then (if bt135.2 = 0 then (if bt137.1 = 1383945041 then (if bt137.2 = 0 then (if bt139.2 = 1 then (if bt141.1 = 77 then (some (bt141.2 == 0)) else (none)) else (none)) else (none)) else (none)) else (none)) else (none))) else (none)) else (none)))))) = some r := H
  have A5 := Aside0.mk A50
  clear A50
  replace H := Option.bind_eq_some_iff.mp H
  obtain ⟨⟨t135, t136⟩, A60, H⟩ := H
  replace H : ((combine_Blank.f k 1).bind fun bt137 => ((combine_Shift.f k 1 (-1)).bind fun bt139 => ((combine_Shift.f k 77 0).bind fun bt141 => (if t131 = 3808858755 then (if t132 = 0 then ((crc_Sum.f (⟨#[49, 50, 51, 52]⟩ : ByteArray)).bind fun t143 => (if t135 = t143 then (if t136 = 0 then (if bt137.1 = 1383945041 then (if bt137.2 = 0 then (if bt139.2 = 1 then (if bt141.1 = 77 then (some (bt141.2 == 0)) else (none)) else (none)) else (none)) else (none)) else (none)) else (none))) else (none)) else (none))))) = some r := H
  have A6 := Aside0.mk A60
  clear A60
  replace H := Option.bind_eq_some_iff.mp H
  obtain ⟨⟨t137, t138⟩, A70, H⟩ := H
  replace H : ((combine_Shift.f k 1 (-1)).bind fun bt139 => ((combine_Shift.f k 77 0).bind fun bt141 => (if t131 = 3808858755 then (if t132 = 0 then ((crc_Sum.f (⟨#[49, 50, 51, 52]⟩ : ByteArray)).bind fun t143 => (if t135 = t143 then (if t136 = 0 then (if t137 = 1383945041 then (if t138 = 0 then (if bt139.2 = 1 then (if bt141.1 = 77 then (some (bt141.2 == 0)) else (none)) else (none)) else (none)) else (none)) else (none)) else (none))) else (none)) else (none)))) = some r := H
  have A7 := Aside0.mk A70
  clear A70
  replace H := Option.bind_eq_some_iff.mp H
  obtain ⟨⟨t139, t140⟩, A80, H⟩ := H
  replace H : ((combine_Shift.f k 77 0).bind fun bt141 => (if t131 = 3808858755 then (if t132 = 0 then ((crc_Sum.f (⟨#[49, 50, 51, 52]⟩ : ByteArray)).bind fun t143 => (if t135 = t143 then (if t136 = 0 then (if t137 = 1383945041 then (if t138 = 0 then (if t140 = 1 then (if bt141.1 = 77 then (some (bt141.2 == 0)) else (none)) else (none)) else (none)) else (none)) else (none)) else (none))) else (none)) else (none))) = some r := H
  have A8 := Aside0.mk A80
  clear A80
  replace H := Option.bind_eq_some_iff.mp H
  obtain ⟨⟨t141, t142⟩, A90, H⟩ := H
  replace H : (if t131 = 3808858755 then (if t132 = 0 then ((crc_Sum.f (⟨#[49, 50, 51, 52]⟩ : ByteArray)).bind fun t143 => (if t135 = t143 then (if t136 = 0 then (if t137 = 1383945041 then (if t138 = 0 then (if t140 = 1 then (if t141 = 77 then (some (t142 == 0)) else (none)) else (none)) else (none)) else (none)) else (none)) else (none))) else (none)) else (none)) = some r := H
  have A9 := Aside0.mk A90
  clear A90
  by_cases c10 : t131 = 3808858755
  · rw [if_pos c10] at H
    have c10b0 : (t131 == 3808858755) = true := beq_iff_eq.mpr c10
    have c10b1 : (t131 != 3808858755) = false := bne_eq_false_iff_eq.mpr c10
    clear c10
    by_cases c11 : t132 = 0
    · rw [if_pos c11] at H
      have c11b0 : (t132 == 0) = true := beq_iff_eq.mpr c11
      have c11b1 : (t132 != 0) = false := bne_eq_false_iff_eq.mpr c11
      clear c11
      replace H := Option.bind_eq_some_iff.mp H
      obtain ⟨t143, A120, H⟩ := H
      replace H : (if t135 = t143 then (if t136 = 0 then (if t137 = 1383945041 then (if t138 = 0 then (if t140 = 1 then (if t141 = 77 then (some (t142 == 0)) else (none)) else (none)) else (none)) else (none)) else (none)) else (none)) = some r := H
      have A12 := Aside0.mk A120
      clear A120
      by_cases c13 : t135 = t143
      · rw [if_pos c13] at H
        have c13b0 : (t135 == t143) = true := beq_iff_eq.mpr c13
        have c13b1 : (t135 != t143) = false := bne_eq_false_iff_eq.mpr c13
        clear c13
        by_cases c14 : t136 = 0
        · rw [if_pos c14] at H
          have c14b0 : (t136 == 0) = true := beq_iff_eq.mpr c14
          have c14b1 : (t136 != 0) = false := bne_eq_false_iff_eq.mpr c14
          clear c14
          by_cases c15 : t137 = 1383945041
          · rw [if_pos c15] at H
            have c15b0 : (t137 == 1383945041) = true := beq_iff_eq.mpr c15
            have c15b1 : (t137 != 1383945041) = false := bne_eq_false_iff_eq.mpr c15
            clear c15
            by_cases c16 : t138 = 0
            · rw [if_pos c16] at H
              have c16b0 : (t138 == 0) = true := beq_iff_eq.mpr c16
              have c16b1 : (t138 != 0) = false := bne_eq_false_iff_eq.mpr c16
              clear c16
              by_cases c17 : t140 = 1
              · rw [if_pos c17] at H
                have c17b0 : (t140 == 1) = true := beq_iff_eq.mpr c17
                have c17b1 : (t140 != 1) = false := bne_eq_false_iff_eq.mpr c17
                clear c17
                by_cases c18 : t141 = 77
                · rw [if_pos c18] at H
                  have c18b0 : (t141 == 77) = true := beq_iff_eq.mpr c18
                  have c18b1 : (t141 != 77) = false := bne_eq_false_iff_eq.mpr c18
                  clear c18
                  obtain rfl := Option.some.inj H
                  go_enter Tryd.func21, Tryd.ntmps21
                  go_wp2_with (first | ((with_reducible refine gate_callee (f := 10) rfl ?_); refine goesL_ (some 12) rfl rfl Tryd.func10 (by kernel_rfl) rfl #[.string (⟨#[49, 50, 51, 52]⟩ : ByteArray)] rfl (by (try simp only [List.map_toArray, List.map_cons, List.map_nil]); first | done | rfl | (simp only [List.length_drop, List.length_take]; rfl)) ?_; (with_reducible refine (crc_Sum.calls (⟨#[49, 50, 51, 52]⟩ : ByteArray) t129 _ ?side1 A1.out).mono ?_); (case side1 => repeat (first | exact HG.out | apply GT.drewN | apply GT.drew)); rintro e w' ⟨rfl, ⟨nd, rfl⟩⟩; refine ⟨_, rfl, ?_⟩) | ((with_reducible refine gate_callee (f := 10) rfl ?_); refine goesL_ (some 13) rfl rfl Tryd.func10 (by kernel_rfl) rfl #[.string (⟨#[53, 54, 55, 56, 57]⟩ : ByteArray)] rfl (by (try simp only [List.map_toArray, List.map_cons, List.map_nil]); first | done | rfl | (simp only [List.length_drop, List.length_take]; rfl)) ?_; (with_reducible refine (crc_Sum.calls (⟨#[53, 54, 55, 56, 57]⟩ : ByteArray) t130 _ ?side1 A2.out).mono ?_); (case side1 => repeat (first | exact HG.out | apply GT.drewN | apply GT.drew)); rintro e w' ⟨rfl, ⟨nd, rfl⟩⟩; refine ⟨_, rfl, ?_⟩) | ((with_reducible refine gate_callee (f := 26) rfl ?_); refine goesL_ (some 14) rfl rfl Tryd.func26 (by kernel_rfl) rfl #[.int .u32 t129, .int .u32 t130, .int .i64 5] rfl (by (try simp only [List.map_toArray, List.map_cons, List.map_nil]); first | done | rfl | (simp only [List.length_drop, List.length_take]; rfl)) ?_; (with_reducible refine (combine_Join.calls k t129 t130 5 t131 t132 _ A3.out).mono ?_); rintro e w' ⟨rfl, ⟨nd, rfl⟩⟩; refine ⟨_, rfl, ?_⟩) | ((with_reducible refine gate_callee (f := 10) rfl ?_); refine goesL_ (some 18) rfl rfl Tryd.func10 (by kernel_rfl) rfl #[.string (⟨#[49, 50, 51, 52, 53, 54, 55, 56, 57]⟩ : ByteArray)] rfl (by (try simp only [List.map_toArray, List.map_cons, List.map_nil]); first | done | rfl | (simp only [List.length_drop, List.length_take]; rfl)) ?_; (with_reducible refine (crc_Sum.calls (⟨#[49, 50, 51, 52, 53, 54, 55, 56, 57]⟩ : ByteArray) t133 _ ?side1 A4.out).mono ?_); (case side1 => repeat (first | exact HG.out | apply GT.drewN | apply GT.drew)); rintro e w' ⟨rfl, ⟨nd, rfl⟩⟩; refine ⟨_, rfl, ?_⟩) | ((with_reducible refine gate_callee (f := 10) rfl ?_); refine goesL_ (some 19) rfl rfl Tryd.func10 (by kernel_rfl) rfl #[.string (⟨#[53, 54, 55, 56, 57]⟩ : ByteArray)] rfl (by (try simp only [List.map_toArray, List.map_cons, List.map_nil]); first | done | rfl | (simp only [List.length_drop, List.length_take]; rfl)) ?_; (with_reducible refine (crc_Sum.calls (⟨#[53, 54, 55, 56, 57]⟩ : ByteArray) t134 _ ?side1 A5.out).mono ?_); (case side1 => repeat (first | exact HG.out | apply GT.drewN | apply GT.drew)); rintro e w' ⟨rfl, ⟨nd, rfl⟩⟩; refine ⟨_, rfl, ?_⟩) | ((with_reducible refine gate_callee (f := 28) rfl ?_); refine goesL_ (some 20) rfl rfl Tryd.func28 (by kernel_rfl) rfl #[.int .u32 t133, .int .u32 t134, .int .i64 5] rfl (by (try simp only [List.map_toArray, List.map_cons, List.map_nil]); first | done | rfl | (simp only [List.length_drop, List.length_take]; rfl)) ?_; (with_reducible refine (combine_Head.calls k t133 t134 5 t135 t136 _ A6.out).mono ?_); rintro e w' ⟨rfl, ⟨nd, rfl⟩⟩; refine ⟨_, rfl, ?_⟩) | ((with_reducible refine gate_callee (f := 30) rfl ?_); refine goesL_ (some 24) rfl rfl Tryd.func30 (by kernel_rfl) rfl #[.int .i64 1] rfl (by (try simp only [List.map_toArray, List.map_cons, List.map_nil]); first | done | rfl | (simp only [List.length_drop, List.length_take]; rfl)) ?_; (with_reducible refine (combine_Blank.calls k 1 t137 t138 _ A7.out).mono ?_); rintro e w' ⟨rfl, ⟨nd, rfl⟩⟩; refine ⟨_, rfl, ?_⟩) | ((with_reducible refine gate_callee (f := 22) rfl ?_); refine goesL_ (some 28) rfl rfl Tryd.func22 (by kernel_rfl) rfl #[.int .u32 1, .int .i64 (-1)] rfl (by (try simp only [List.map_toArray, List.map_cons, List.map_nil]); first | done | rfl | (simp only [List.length_drop, List.length_take]; rfl)) ?_; (with_reducible refine (combine_Shift.calls k 1 (-1) t139 t140 _ A8.out).mono ?_); rintro e w' ⟨rfl, ⟨nd, rfl⟩⟩; refine ⟨_, rfl, ?_⟩) | ((with_reducible refine gate_callee (f := 22) rfl ?_); refine goesL_ (some 32) rfl rfl Tryd.func22 (by kernel_rfl) rfl #[.int .u32 77, .int .i64 0] rfl (by (try simp only [List.map_toArray, List.map_cons, List.map_nil]); first | done | rfl | (simp only [List.length_drop, List.length_take]; rfl)) ?_; (with_reducible refine (combine_Shift.calls k 77 0 t141 t142 _ A9.out).mono ?_); rintro e w' ⟨rfl, ⟨nd, rfl⟩⟩; refine ⟨_, rfl, ?_⟩) | (go_at_call 10; (with_reducible refine (crc_Sum.calls (⟨#[49, 50, 51, 52]⟩ : ByteArray) t143 _ ?side1 A12.out).mono ?_); (case side1 => repeat (first | exact HG.out | apply GT.drewN | apply GT.drew)); rintro e w' ⟨rfl, ⟨nd, rfl⟩⟩))
                  go_ret
                  exact ⟨by first | rfl | (simp; done) | (simp [*]; done), by repeat (first | exact Drawn0.refl _ | apply Drawn0.step)⟩
                · rw [if_neg c18] at H
                  exact absurd H (by simp)
              · rw [if_neg c17] at H
                exact absurd H (by simp)
            · rw [if_neg c16] at H
              exact absurd H (by simp)
          · rw [if_neg c15] at H
            exact absurd H (by simp)
        · rw [if_neg c14] at H
          exact absurd H (by simp)
      · rw [if_neg c13] at H
        exact absurd H (by simp)
    · rw [if_neg c11] at H
      exact absurd H (by simp)
  · rw [if_neg c10] at H
    exact absurd H (by simp)

/-! ### caulkref33_right: function 33 -/
def caulkref33_right.f (a0 : Int) : Option (Bool) := if a0 ≥ 0 then (some (decide (a0 ≤ 1099511627776))) else (some false)
set_option maxHeartbeats 8000000 in
set_option maxRecDepth 100000 in
theorem caulkref33_right.calls (a0 : Int) (r : Bool) (w : World) (h : caulkref33_right.f a0 = some r) :
    Calls Tryd.prog 33 #[.int .i64 a0] w fun e w' => e = .returned (.bool r) ∧ Drawn0 w w' := by
  have H : (if a0 ≥ 0 then (some (decide (a0 ≤ 1099511627776))) else (some false)) = some r := h
  clear h
  by_cases c2 : a0 ≥ 0
  · rw [if_pos c2] at H
    have c2b0 : decide (0 ≤ a0) = true := decide_eq_true c2
    clear c2
    obtain rfl := Option.some.inj H
    go_enter Tryd.func33, Tryd.ntmps33
    go_wp2
    go_ret
    exact ⟨by first | rfl | (simp; done) | (simp [*]; done), by repeat (first | exact Drawn0.refl _ | apply Drawn0.step)⟩
  · rw [if_neg c2] at H
    have c2b0 : decide (0 ≤ a0) = false := decide_eq_false c2
    clear c2
    obtain rfl := Option.some.inj H
    go_enter Tryd.func33, Tryd.ntmps33
    go_wp2
    go_ret
    exact ⟨by first | rfl | (simp; done) | (simp [*]; done), by repeat (first | exact Drawn0.refl _ | apply Drawn0.step)⟩

/-! ### caulkref33_Shift: function 23 -/
def caulkref33_Shift.l0 : Nat → Int → Int → Option (Int × Int)
  | 0, _, _ => none
  | k + 1, x0, x1 => if x1 > 0 then ((caulkref01_Add.f k x0 (⟨#[0]⟩ : ByteArray)).bind fun t145 => (caulkref33_Shift.l0 k t145 (wrap64 (x1 - 1)))) else (some (x0, 0))
def caulkref33_Shift.f (k : Nat) (a0 : Int) (a1 : Int) : Option (Int × Int) := (caulkref33_right.f a1).bind fun t144 => (if t144 = true then (caulkref33_Shift.l0 k a0 a1) else (some (0, 1)))
theorem caulkref33_Shift.mono_l : ∀ k, (∀ y0 y1, LeO (caulkref33_Shift.l0 k y0 y1) (caulkref33_Shift.l0 (k + 1) y0 y1))
  | 0 => fun _ _ r h => by simp [caulkref33_Shift.l0] at h
  | k + 1 => by
    have ih0 := caulkref33_Shift.mono_l k
    · intro y0 y1
      unfold caulkref33_Shift.l0
      repeat' first
      | (with_reducible exact ih0 _ _)
      | (with_reducible exact caulkref01_Add.mono _ _ _)
      | (with_reducible exact LeO.refl _)
      | (with_reducible exact LeO.none _)
      | (with_reducible refine LeO.ite ?_ ?_)
      | (with_reducible refine LeO.bind ?_ (fun _ => ?_))
      | exact ih0 _ _
      | exact caulkref01_Add.mono _ _ _
      | exact LeO.none _
      | refine LeO.ite ?_ ?_
      | refine LeO.bind ?_ (fun _ => ?_)
theorem caulkref33_Shift.mono : ∀ a0 a1 k, LeO (caulkref33_Shift.f k a0 a1) (caulkref33_Shift.f (k + 1) a0 a1) := by
  intro a0 a1 k
  have ih0 := caulkref33_Shift.mono_l k
  unfold caulkref33_Shift.f
  repeat' first
      | (with_reducible exact ih0 _ _)
      | (with_reducible exact caulkref01_Add.mono _ _ _)
      | (with_reducible exact LeO.refl _)
      | (with_reducible exact LeO.none _)
      | (with_reducible refine LeO.ite ?_ ?_)
      | (with_reducible refine LeO.bind ?_ (fun _ => ?_))
      | exact ih0 _ _
      | exact caulkref01_Add.mono _ _ _
      | exact LeO.none _
      | refine LeO.ite ?_ ?_
      | refine LeO.bind ?_ (fun _ => ?_)
set_option maxHeartbeats 8000000 in
set_option maxRecDepth 100000 in
theorem caulkref33_Shift.calls (k : Nat) (a0 : Int) (a1 : Int) (r1 : Int) (r2 : Int) (w : World) (h : caulkref33_Shift.f k a0 a1 = some (r1, r2)) :
    Calls Tryd.prog 23 #[.int .u32 a0, .int .i64 a1] w fun e w' => e = .returned (.tuple #[.int .u32 r1, .int .i64 r2]) ∧ Drawn0 w w' := by
  have H : ((caulkref33_right.f a1).bind fun t144 => (if t144 = true then (caulkref33_Shift.l0 k a0 a1) else (some (0, 1)))) = some (r1, r2) := h
  clear h
  replace H := Option.bind_eq_some_iff.mp H
  obtain ⟨t144, A30, H⟩ := H
  replace H : (if t144 = true then (caulkref33_Shift.l0 k a0 a1) else (some (0, 1))) = some (r1, r2) := H
  have A3 := Aside0.mk A30
  clear A30
  by_cases c4 : t144 = true
  · subst c4
    have H1 : (caulkref33_Shift.l0 k a0 a1) = some (r1, r2) := by rw [if_pos rfl] at H; exact H
    clear H
    have H := H1
    clear H1
    have H' := Aside0.mk H
    clear H
    go_enter Tryd.func23, Tryd.ntmps23
    go_wp2_with (first | ((with_reducible refine gate_callee (f := 33) rfl ?_); refine goesL_ (some 7) rfl rfl Tryd.func33 (by kernel_rfl) rfl #[.int .i64 a1] rfl (by (try simp only [List.map_toArray, List.map_cons, List.map_nil]); first | done | rfl | (simp only [List.length_drop, List.length_take]; rfl)) ?_; (with_reducible refine (caulkref33_right.calls a1 true _ A3.out).mono ?_); rintro e w' ⟨rfl, ⟨nd, rfl⟩⟩; refine ⟨_, rfl, ?_⟩))
    go_loopg [0, 1] k (fun kq v0 v1 w' => ∃ (x0_1 : Int) (x1_1 : Int), v0 = .int .u32 x0_1 ∧ v1 = .int .i64 x1_1 ∧ Aside0 (caulkref33_Shift.l0 kq x0_1 x1_1 = some (r1, r2)) ∧ Aside0 (kq ≤ k) ∧ Drawn0 w w')
    case atStart => exact ⟨(a0), (a1), (by first | rfl | (simp; done) | (simp [*]; done)), (by first | rfl | (simp; done) | (simp [*]; done)), H', ⟨Nat.le_refl _⟩, by repeat (first | exact Drawn0.refl _ | apply Drawn0.step)⟩
    case round =>
      clear H'
      try clear c2
      try clear p2
      try clear c3
      try clear c4
      obtain ⟨x0_1, x1_1, rfl, rfl, HA, HK1, ⟨m1, rfl⟩⟩ := hrel
      cases gk with
      | zero => exact absurd HA.out (by simp [caulkref33_Shift.l0])
      | succ k1 =>
        have H := HA.out
        clear HA
        simp only [caulkref33_Shift.l0] at H
        by_cases c5 : x1_1 > 0
        · rw [if_pos c5] at H
          have c5b0 : decide (0 < x1_1) = true := decide_eq_true c5
          clear c5
          replace H := Option.bind_eq_some_iff.mp H
          obtain ⟨t145, A60, H⟩ := H
          replace H : (caulkref33_Shift.l0 k1 t145 (wrap64 (x1_1 - 1))) = some (r1, r2) := H
          have A6 := Aside0.mk A60
          clear A60
          have H' := Aside0.mk H
          clear H
          go_wp2_with (first | ((with_reducible refine gate_callee (f := 17) rfl ?_); refine goesL_ (some 14) rfl rfl Tryd.func17 (by kernel_rfl) rfl #[.int .u32 x0_1, .string (⟨#[0]⟩ : ByteArray)] rfl (by (try simp only [List.map_toArray, List.map_cons, List.map_nil]); first | done | rfl | (simp only [List.length_drop, List.length_take]; rfl)) ?_; (with_reducible refine (caulkref01_Add.calls k1 x0_1 (⟨#[0]⟩ : ByteArray) t145 _ A6.out).mono ?_); rintro e w' ⟨rfl, ⟨nd, rfl⟩⟩; refine ⟨_, rfl, ?_⟩))
          go_roundg k1
          case measure => have := HK1.out; omega
          case rel => exact ⟨(t145), (wrap64 (x1_1 - 1)), (by first | rfl | (simp; done) | (simp [*]; done)), (by first | rfl | (simp; done) | (simp [*]; done)), H', ⟨by have := HK1.out; omega⟩, by repeat (first | exact Drawn0.refl _ | apply Drawn0.step)⟩
        · rw [if_neg c5] at H
          have c5b0 : decide (0 < x1_1) = false := decide_eq_false c5
          clear c5
          simp only [Option.some.injEq, Prod.mk.injEq] at H
          obtain ⟨rfl, rfl⟩ := H
          go_wp2
          go_ret2
          exact ⟨by first | rfl | (simp; done) | (simp [*]; done), by repeat (first | exact Drawn0.refl _ | apply Drawn0.step)⟩
  · replace c4 := Bool.eq_false_iff.mpr c4
    subst c4
    have H1 : (some (0, 1)) = some (r1, r2) := by rw [if_neg (show ¬ (false = true) by decide)] at H; exact H
    clear H
    have H := H1
    clear H1
    simp only [Option.some.injEq, Prod.mk.injEq] at H
    obtain ⟨rfl, rfl⟩ := H
    go_enter Tryd.func23, Tryd.ntmps23
    go_wp2_with (first | ((with_reducible refine gate_callee (f := 33) rfl ?_); refine goesL_ (some 7) rfl rfl Tryd.func33 (by kernel_rfl) rfl #[.int .i64 a1] rfl (by (try simp only [List.map_toArray, List.map_cons, List.map_nil]); first | done | rfl | (simp only [List.length_drop, List.length_take]; rfl)) ?_; (with_reducible refine (caulkref33_right.calls a1 false _ A3.out).mono ?_); rintro e w' ⟨rfl, ⟨nd, rfl⟩⟩; refine ⟨_, rfl, ?_⟩))
    go_ret2
    exact ⟨by first | rfl | (simp; done) | (simp [*]; done), by repeat (first | exact Drawn0.refl _ | apply Drawn0.step)⟩

/-! ### caulkref33_unbit: function 35 -/
def caulkref33_unbit.f (a0 : Int) : Option (Int) := if (a0 / 2147483648) = 1 then (some (Go.bits .or .u32 (((Go.bits .xor .u32 a0 2197175160) * 2) % 4294967296) 1)) else (some ((a0 * 2) % 4294967296))
set_option maxHeartbeats 8000000 in
set_option maxRecDepth 100000 in
theorem caulkref33_unbit.calls (a0 : Int) (r : Int) (w : World) (h : caulkref33_unbit.f a0 = some r) :
    Calls Tryd.prog 35 #[.int .u32 a0] w fun e w' => e = .returned (.int .u32 r) ∧ Drawn0 w w' := by
  have H : (if (a0 / 2147483648) = 1 then (some (Go.bits .or .u32 (((Go.bits .xor .u32 a0 2197175160) * 2) % 4294967296) 1)) else (some ((a0 * 2) % 4294967296))) = some r := h
  clear h
  by_cases c2 : (a0 / 2147483648) = 1
  · rw [if_pos c2] at H
    have c2b0 : ((a0 / 2147483648) == 1) = true := beq_iff_eq.mpr c2
    have c2b1 : ((a0 / 2147483648) != 1) = false := bne_eq_false_iff_eq.mpr c2
    clear c2
    obtain rfl := Option.some.inj H
    go_enter Tryd.func35, Tryd.ntmps35
    go_wp2
    go_ret
    exact ⟨by first | rfl | (simp; done) | (simp [*]; done), by repeat (first | exact Drawn0.refl _ | apply Drawn0.step)⟩
  · rw [if_neg c2] at H
    have c2b0 : ((a0 / 2147483648) == 1) = false := beq_eq_false_iff_ne.mpr c2
    have c2b1 : ((a0 / 2147483648) != 1) = true := bne_iff_ne.mpr c2
    obtain rfl := Option.some.inj H
    go_enter Tryd.func35, Tryd.ntmps35
    go_wp2
    go_ret
    exact ⟨by first | rfl | (simp; done) | (simp [*]; done), by repeat (first | exact Drawn0.refl _ | apply Drawn0.step)⟩

/-! ### caulkref33_Back: function 25 -/
mutual
def caulkref33_Back.l0 : Nat → Int → Int → Option (Int × Int)
  | 0, _, _ => none
  | k + 1, x0, x1 => if x1 > 0 then (caulkref33_Back.l1 k x0 x1 0) else (some (x0, 0))
def caulkref33_Back.l1 : Nat → Int → Int → Int → Option (Int × Int)
  | 0, _, _, _ => none
  | k + 1, x0, x1, x6 => if x6 < 8 then ((caulkref33_unbit.f x0).bind fun t147 => (caulkref33_Back.l1 k t147 x1 (wrap64 (x6 + 1)))) else (caulkref33_Back.l0 k x0 (wrap64 (x1 - 1)))
end
def caulkref33_Back.f (k : Nat) (a0 : Int) (a1 : Int) : Option (Int × Int) := (caulkref33_right.f a1).bind fun t146 => (if t146 = true then (caulkref33_Back.l0 k a0 a1) else (some (0, 1)))
theorem caulkref33_Back.mono_l : ∀ k, (∀ y0 y1, LeO (caulkref33_Back.l0 k y0 y1) (caulkref33_Back.l0 (k + 1) y0 y1)) ∧ (∀ y0 y1 y2, LeO (caulkref33_Back.l1 k y0 y1 y2) (caulkref33_Back.l1 (k + 1) y0 y1 y2))
  | 0 => ⟨fun _ _ r h => by simp [caulkref33_Back.l0] at h, fun _ _ _ r h => by simp [caulkref33_Back.l1] at h⟩
  | k + 1 => by
    obtain ⟨ih0, ih1⟩ := caulkref33_Back.mono_l k
    refine ⟨?_, ?_⟩
    · intro y0 y1
      unfold caulkref33_Back.l0
      repeat' first
      | (with_reducible exact ih0 _ _)
      | (with_reducible exact ih1 _ _ _)
      | (with_reducible exact LeO.refl _)
      | (with_reducible exact LeO.none _)
      | (with_reducible refine LeO.ite ?_ ?_)
      | (with_reducible refine LeO.bind ?_ (fun _ => ?_))
      | exact ih0 _ _
      | exact ih1 _ _ _
      | exact LeO.none _
      | refine LeO.ite ?_ ?_
      | refine LeO.bind ?_ (fun _ => ?_)
    · intro y0 y1 y2
      unfold caulkref33_Back.l1
      repeat' first
      | (with_reducible exact ih0 _ _)
      | (with_reducible exact ih1 _ _ _)
      | (with_reducible exact LeO.refl _)
      | (with_reducible exact LeO.none _)
      | (with_reducible refine LeO.ite ?_ ?_)
      | (with_reducible refine LeO.bind ?_ (fun _ => ?_))
      | exact ih0 _ _
      | exact ih1 _ _ _
      | exact LeO.none _
      | refine LeO.ite ?_ ?_
      | refine LeO.bind ?_ (fun _ => ?_)
theorem caulkref33_Back.mono : ∀ a0 a1 k, LeO (caulkref33_Back.f k a0 a1) (caulkref33_Back.f (k + 1) a0 a1) := by
  intro a0 a1 k
  obtain ⟨ih0, ih1⟩ := caulkref33_Back.mono_l k
  unfold caulkref33_Back.f
  repeat' first
      | (with_reducible exact ih0 _ _)
      | (with_reducible exact ih1 _ _ _)
      | (with_reducible exact LeO.refl _)
      | (with_reducible exact LeO.none _)
      | (with_reducible refine LeO.ite ?_ ?_)
      | (with_reducible refine LeO.bind ?_ (fun _ => ?_))
      | exact ih0 _ _
      | exact ih1 _ _ _
      | exact LeO.none _
      | refine LeO.ite ?_ ?_
      | refine LeO.bind ?_ (fun _ => ?_)
set_option maxHeartbeats 8000000 in
set_option maxRecDepth 100000 in
theorem caulkref33_Back.calls (k : Nat) (a0 : Int) (a1 : Int) (r1 : Int) (r2 : Int) (w : World) (h : caulkref33_Back.f k a0 a1 = some (r1, r2)) :
    Calls Tryd.prog 25 #[.int .u32 a0, .int .i64 a1] w fun e w' => e = .returned (.tuple #[.int .u32 r1, .int .i64 r2]) ∧ Drawn0 w w' := by
  have H : ((caulkref33_right.f a1).bind fun t146 => (if t146 = true then (caulkref33_Back.l0 k a0 a1) else (some (0, 1)))) = some (r1, r2) := h
  clear h
  replace H := Option.bind_eq_some_iff.mp H
  obtain ⟨t146, A30, H⟩ := H
  replace H : (if t146 = true then (caulkref33_Back.l0 k a0 a1) else (some (0, 1))) = some (r1, r2) := H
  have A3 := Aside0.mk A30
  clear A30
  by_cases c4 : t146 = true
  · subst c4
    have H1 : (caulkref33_Back.l0 k a0 a1) = some (r1, r2) := by rw [if_pos rfl] at H; exact H
    clear H
    have H := H1
    clear H1
    have H' := Aside0.mk H
    clear H
    go_enter Tryd.func25, Tryd.ntmps25
    go_wp2_with (first | ((with_reducible refine gate_callee (f := 33) rfl ?_); refine goesL_ (some 8) rfl rfl Tryd.func33 (by kernel_rfl) rfl #[.int .i64 a1] rfl (by (try simp only [List.map_toArray, List.map_cons, List.map_nil]); first | done | rfl | (simp only [List.length_drop, List.length_take]; rfl)) ?_; (with_reducible refine (caulkref33_right.calls a1 true _ A3.out).mono ?_); rintro e w' ⟨rfl, ⟨nd, rfl⟩⟩; refine ⟨_, rfl, ?_⟩))
    go_loopg [0, 1] k (fun kq v0 v1 w' => ∃ (x0_1 : Int) (x1_1 : Int), v0 = .int .u32 x0_1 ∧ v1 = .int .i64 x1_1 ∧ Aside0 (caulkref33_Back.l0 kq x0_1 x1_1 = some (r1, r2)) ∧ Aside0 (kq ≤ k) ∧ Drawn0 w w')
    case atStart => exact ⟨(a0), (a1), (by first | rfl | (simp; done) | (simp [*]; done)), (by first | rfl | (simp; done) | (simp [*]; done)), H', ⟨Nat.le_refl _⟩, by repeat (first | exact Drawn0.refl _ | apply Drawn0.step)⟩
    case round =>
      clear H'
      try clear c2
      try clear p2
      try clear c3
      try clear c4
      obtain ⟨x0_1, x1_1, rfl, rfl, HA, HK1, ⟨m1, rfl⟩⟩ := hrel
      cases gk with
      | zero => exact absurd HA.out (by simp [caulkref33_Back.l0])
      | succ k1 =>
        have H := HA.out
        clear HA
        simp only [caulkref33_Back.l0] at H
        by_cases c5 : x1_1 > 0
        · rw [if_pos c5] at H
          have c5b0 : decide (0 < x1_1) = true := decide_eq_true c5
          clear c5
          have H' := Aside0.mk H
          clear H
          go_wp2
          go_loopg [0, 6] k1 (fun kq v0 v6 w' => ∃ (x0_2 : Int) (x6_2 : Int), v0 = .int .u32 x0_2 ∧ v6 = .int .i64 x6_2 ∧ Aside0 (caulkref33_Back.l1 kq x0_2 x1_1 x6_2 = some (r1, r2)) ∧ Aside0 (kq ≤ k1) ∧ Drawn0 w w')
          case atStart => exact ⟨(x0_1), (0), (by first | rfl | (simp; done) | (simp [*]; done)), (by first | rfl | (simp; done) | (simp [*]; done)), H', ⟨Nat.le_refl _⟩, by repeat (first | exact Drawn0.refl _ | apply Drawn0.step)⟩
          case round =>
            clear H'
            try clear c2
            try clear p2
            try clear c3
            try clear c4
            try clear c5
            try clear c5b0
            try clear p2
            obtain ⟨x0_2, x6_2, rfl, rfl, HA, HK2, ⟨m2, rfl⟩⟩ := hrel
            cases gk with
            | zero => exact absurd HA.out (by simp [caulkref33_Back.l1])
            | succ k2 =>
              have H := HA.out
              clear HA
              simp only [caulkref33_Back.l1] at H
              by_cases c6 : x6_2 < 8
              · rw [if_pos c6] at H
                have c6b0 : decide (x6_2 < 8) = true := decide_eq_true c6
                clear c6
                replace H := Option.bind_eq_some_iff.mp H
                obtain ⟨t147, A70, H⟩ := H
                replace H : (caulkref33_Back.l1 k2 t147 x1_1 (wrap64 (x6_2 + 1))) = some (r1, r2) := H
                have A7 := Aside0.mk A70
                clear A70
                have H' := Aside0.mk H
                clear H
                go_wp2_with (first | ((with_reducible refine gate_callee (f := 35) rfl ?_); refine goesL_ (some 19) rfl rfl Tryd.func35 (by kernel_rfl) rfl #[.int .u32 x0_2] rfl (by (try simp only [List.map_toArray, List.map_cons, List.map_nil]); first | done | rfl | (simp only [List.length_drop, List.length_take]; rfl)) ?_; (with_reducible refine (caulkref33_unbit.calls x0_2 t147 _ A7.out).mono ?_); rintro e w' ⟨rfl, ⟨nd, rfl⟩⟩; refine ⟨_, rfl, ?_⟩))
                go_roundg k2
                case measure => have := HK1.out; have := HK2.out; omega
                case rel => exact ⟨(t147), (wrap64 (x6_2 + 1)), (by first | rfl | (simp; done) | (simp [*]; done)), (by first | rfl | (simp; done) | (simp [*]; done)), H', ⟨by have := HK1.out; have := HK2.out; omega⟩, by repeat (first | exact Drawn0.refl _ | apply Drawn0.step)⟩
              · rw [if_neg c6] at H
                have c6b0 : decide (x6_2 < 8) = false := decide_eq_false c6
                clear c6
                have H' := Aside0.mk H
                clear H
                go_wp2
                go_roundg k2
                case measure => have := HK1.out; have := HK2.out; omega
                case rel => exact ⟨(x0_2), (wrap64 (x1_1 - 1)), (by first | rfl | (simp; done) | (simp [*]; done)), (by first | rfl | (simp; done) | (simp [*]; done)), H', ⟨by have := HK1.out; have := HK2.out; omega⟩, by repeat (first | exact Drawn0.refl _ | apply Drawn0.step)⟩
        · rw [if_neg c5] at H
          have c5b0 : decide (0 < x1_1) = false := decide_eq_false c5
          clear c5
          simp only [Option.some.injEq, Prod.mk.injEq] at H
          obtain ⟨rfl, rfl⟩ := H
          go_wp2
          go_ret2
          exact ⟨by first | rfl | (simp; done) | (simp [*]; done), by repeat (first | exact Drawn0.refl _ | apply Drawn0.step)⟩
  · replace c4 := Bool.eq_false_iff.mpr c4
    subst c4
    have H1 : (some (0, 1)) = some (r1, r2) := by rw [if_neg (show ¬ (false = true) by decide)] at H; exact H
    clear H
    have H := H1
    clear H1
    simp only [Option.some.injEq, Prod.mk.injEq] at H
    obtain ⟨rfl, rfl⟩ := H
    go_enter Tryd.func25, Tryd.ntmps25
    go_wp2_with (first | ((with_reducible refine gate_callee (f := 33) rfl ?_); refine goesL_ (some 8) rfl rfl Tryd.func33 (by kernel_rfl) rfl #[.int .i64 a1] rfl (by (try simp only [List.map_toArray, List.map_cons, List.map_nil]); first | done | rfl | (simp only [List.length_drop, List.length_take]; rfl)) ?_; (with_reducible refine (caulkref33_right.calls a1 false _ A3.out).mono ?_); rintro e w' ⟨rfl, ⟨nd, rfl⟩⟩; refine ⟨_, rfl, ?_⟩))
    go_ret2
    exact ⟨by first | rfl | (simp; done) | (simp [*]; done), by repeat (first | exact Drawn0.refl _ | apply Drawn0.step)⟩

/-! ### caulkref33_Join: function 27 -/
def caulkref33_Join.f (k : Nat) (a0 : Int) (a1 : Int) (a2 : Int) : Option (Int × Int) := (caulkref33_Shift.f k a0 a2).bind fun bt148 => (if bt148.2 = 0 then (some (Go.bits .xor .u32 bt148.1 a1, 0)) else (some (0, bt148.2)))
theorem caulkref33_Join.mono : ∀ a0 a1 a2 k, LeO (caulkref33_Join.f k a0 a1 a2) (caulkref33_Join.f (k + 1) a0 a1 a2) := by
  intro a0 a1 a2 k
  unfold caulkref33_Join.f
  repeat' first
      | (with_reducible exact caulkref33_Shift.mono _ _ _)
      | (with_reducible exact LeO.refl _)
      | (with_reducible exact LeO.none _)
      | (with_reducible refine LeO.ite ?_ ?_)
      | (with_reducible refine LeO.bind ?_ (fun _ => ?_))
      | exact caulkref33_Shift.mono _ _ _
      | exact LeO.none _
      | refine LeO.ite ?_ ?_
      | refine LeO.bind ?_ (fun _ => ?_)
set_option maxHeartbeats 8000000 in
set_option maxRecDepth 100000 in
theorem caulkref33_Join.calls (k : Nat) (a0 : Int) (a1 : Int) (a2 : Int) (r1 : Int) (r2 : Int) (w : World) (h : caulkref33_Join.f k a0 a1 a2 = some (r1, r2)) :
    Calls Tryd.prog 27 #[.int .u32 a0, .int .u32 a1, .int .i64 a2] w fun e w' => e = .returned (.tuple #[.int .u32 r1, .int .i64 r2]) ∧ Drawn0 w w' := by
  have H : ((caulkref33_Shift.f k a0 a2).bind fun bt148 => (if bt148.2 = 0 then (some (Go.bits .xor .u32 bt148.1 a1, 0)) else (some (0, bt148.2)))) = some (r1, r2) := h
  clear h
  replace H := Option.bind_eq_some_iff.mp H
  obtain ⟨⟨t148, t149⟩, A40, H⟩ := H
  replace H : (if t149 = 0 then (some (Go.bits .xor .u32 t148 a1, 0)) else (some (0, t149))) = some (r1, r2) := H
  have A4 := Aside0.mk A40
  clear A40
  by_cases c5 : t149 = 0
  · rw [if_pos c5] at H
    have c5b0 : (t149 == 0) = true := beq_iff_eq.mpr c5
    have c5b1 : (t149 != 0) = false := bne_eq_false_iff_eq.mpr c5
    clear c5
    simp only [Option.some.injEq, Prod.mk.injEq] at H
    obtain ⟨rfl, rfl⟩ := H
    go_enter Tryd.func27, Tryd.ntmps27
    go_wp2_with (first | ((with_reducible refine gate_callee (f := 23) rfl ?_); refine goesL_ (some 13) rfl rfl Tryd.func23 (by kernel_rfl) rfl #[.int .u32 a0, .int .i64 a2] rfl (by (try simp only [List.map_toArray, List.map_cons, List.map_nil]); first | done | rfl | (simp only [List.length_drop, List.length_take]; rfl)) ?_; (with_reducible refine (caulkref33_Shift.calls k a0 a2 t148 t149 _ A4.out).mono ?_); rintro e w' ⟨rfl, ⟨nd, rfl⟩⟩; refine ⟨_, rfl, ?_⟩))
    go_ret2
    exact ⟨by first | rfl | (simp; done) | (simp [*]; done), by repeat (first | exact Drawn0.refl _ | apply Drawn0.step)⟩
  · rw [if_neg c5] at H
    have c5b0 : (t149 == 0) = false := beq_eq_false_iff_ne.mpr c5
    have c5b1 : (t149 != 0) = true := bne_iff_ne.mpr c5
    simp only [Option.some.injEq, Prod.mk.injEq] at H
    obtain ⟨rfl, rfl⟩ := H
    go_enter Tryd.func27, Tryd.ntmps27
    go_wp2_with (first | ((with_reducible refine gate_callee (f := 23) rfl ?_); refine goesL_ (some 13) rfl rfl Tryd.func23 (by kernel_rfl) rfl #[.int .u32 a0, .int .i64 a2] rfl (by (try simp only [List.map_toArray, List.map_cons, List.map_nil]); first | done | rfl | (simp only [List.length_drop, List.length_take]; rfl)) ?_; (with_reducible refine (caulkref33_Shift.calls k a0 a2 t148 t149 _ A4.out).mono ?_); rintro e w' ⟨rfl, ⟨nd, rfl⟩⟩; refine ⟨_, rfl, ?_⟩))
    go_ret2
    exact ⟨by first | rfl | (simp; done) | (simp [*]; done), by repeat (first | exact Drawn0.refl _ | apply Drawn0.step)⟩

/-! ### caulkref33_Head: function 29 -/
def caulkref33_Head.f (k : Nat) (a0 : Int) (a1 : Int) (a2 : Int) : Option (Int × Int) := (caulkref33_Back.f k (Go.bits .xor .u32 a0 a1) a2).bind fun bt150 => (some (bt150.1, bt150.2))
theorem caulkref33_Head.mono : ∀ a0 a1 a2 k, LeO (caulkref33_Head.f k a0 a1 a2) (caulkref33_Head.f (k + 1) a0 a1 a2) := by
  intro a0 a1 a2 k
  unfold caulkref33_Head.f
  repeat' first
      | (with_reducible exact caulkref33_Back.mono _ _ _)
      | (with_reducible exact LeO.refl _)
      | (with_reducible exact LeO.none _)
      | (with_reducible refine LeO.ite ?_ ?_)
      | (with_reducible refine LeO.bind ?_ (fun _ => ?_))
      | exact caulkref33_Back.mono _ _ _
      | exact LeO.none _
      | refine LeO.ite ?_ ?_
      | refine LeO.bind ?_ (fun _ => ?_)
set_option maxHeartbeats 8000000 in
set_option maxRecDepth 100000 in
theorem caulkref33_Head.calls (k : Nat) (a0 : Int) (a1 : Int) (a2 : Int) (r1 : Int) (r2 : Int) (w : World) (h : caulkref33_Head.f k a0 a1 a2 = some (r1, r2)) :
    Calls Tryd.prog 29 #[.int .u32 a0, .int .u32 a1, .int .i64 a2] w fun e w' => e = .returned (.tuple #[.int .u32 r1, .int .i64 r2]) ∧ Drawn0 w w' := by
  have H : ((caulkref33_Back.f k (Go.bits .xor .u32 a0 a1) a2).bind fun bt150 => (some (bt150.1, bt150.2))) = some (r1, r2) := h
  clear h
  replace H := Option.bind_eq_some_iff.mp H
  obtain ⟨⟨t150, t151⟩, A40, H⟩ := H
  replace H : (some (t150, t151)) = some (r1, r2) := H
  have A4 := Aside0.mk A40
  clear A40
  simp only [Option.some.injEq, Prod.mk.injEq] at H
  obtain ⟨rfl, rfl⟩ := H
  go_enter Tryd.func29, Tryd.ntmps29
  go_wp2_with (first | ((with_reducible refine gate_callee (f := 25) rfl ?_); refine goesL_ (some 12) rfl rfl Tryd.func25 (by kernel_rfl) rfl #[.int .u32 (Go.bits .xor .u32 a0 a1), .int .i64 a2] rfl (by (try simp only [List.map_toArray, List.map_cons, List.map_nil]); first | done | rfl | (simp only [List.length_drop, List.length_take]; rfl)) ?_; (with_reducible refine (caulkref33_Back.calls k (Go.bits .xor .u32 a0 a1) a2 t150 t151 _ A4.out).mono ?_); rintro e w' ⟨rfl, ⟨nd, rfl⟩⟩; refine ⟨_, rfl, ?_⟩))
  go_ret2
  exact ⟨by first | rfl | (simp; done) | (simp [*]; done), by repeat (first | exact Drawn0.refl _ | apply Drawn0.step)⟩

end Go.Proofs.YtegfembmnnmnbaaDoor.G
