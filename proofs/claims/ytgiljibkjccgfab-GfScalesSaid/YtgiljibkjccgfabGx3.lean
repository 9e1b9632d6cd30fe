-- Written by a program of this session over the print of the translation (its own patch, foreign contracts, cut ways): not trusted: Lean checks it.
import Derived.Test.YtgiljibkjccgfabGx0
import Derived.Test.YtgiljibkjccgfabGfArr
import Derived.Test.YtgiljibkjccgfabGfLog
import Derived.Test.YtgiljibkjccgfabGfMul
import Derived.Test.YtgiljibkjccgfabGfRef
namespace Go.Proofs.Ytgiljibkjccgfab.G
open Go.RowKit Go.Proofs.YtgiljibkjccgfabW.PrintWords Go.Proofs.YtgiljibkjccgfabW.PrintLast Go.Proofs.YtgiljibkjccgfabW.PrintMore
attribute [local go_sem] max2_int min2_int max_two min_two max_three min_three max_four min_four   -- for this text's walks alone
set_option linter.unusedVariables false
set_option linter.unusedSimpArgs false

/-! ### gf_double: function 40 -/
def gf_double.f (a0 : Int) : Option (Int) := some (Go.bits .xor .u8 ((a0 * 2) % 256) (Go.bits .and .u8 29 (((IntKind.i8.wrap (a0)) / 128) % 256)))
set_option maxHeartbeats 8000000 in
set_option maxRecDepth 100000 in
theorem gf_double.calls (a0 : Int) (r : Int) (w : World) (h : gf_double.f a0 = some r) :
    Calls Try.prog 40 #[.int .u8 a0] w fun e w' => e = .returned (.int .u8 r) ∧ Drawn0 w w' := by
  have H : (some (Go.bits .xor .u8 ((a0 * 2) % 256) (Go.bits .and .u8 29 (((IntKind.i8.wrap (a0)) / 128) % 256)))) = some r := h
  clear h
  obtain rfl := Option.some.inj H
  go_enter Try.func40, Try.ntmps40
  go_wp2
  go_ret
  exact ⟨by first | rfl | (simp; done) | (simp [*]; done), by repeat (first | exact Drawn0.refl _ | apply Drawn0.step)⟩

-- gf_Mul (function 17): its contract stands in Derived.Test.YtgiljibkjccgfabGfMul

-- gf_power (function 38): its contract stands in Derived.Test.YtgiljibkjccgfabGfMul

/-! ### gf_Inv: function 10 -/
def gf_Inv.f (a0 : Int) : Option (Int × Int) := if a0 = 0 then (some (0, 13)) else ((gf_power.f a0 254).bind fun t101 => (some (t101, 0)))
set_option maxHeartbeats 8000000 in
set_option maxRecDepth 100000 in
theorem gf_Inv.calls (a0 : Int) (r1 : Int) (r2 : Int) (w : World) (h : gf_Inv.f a0 = some (r1, r2)) :
    Calls Try.prog 10 #[.int .u8 a0] w fun e w' => e = .returned (.tuple #[.int .u8 r1, .int .i64 r2]) ∧ Drawn0 w w' := by
  have H : (if a0 = 0 then (some (0, 13)) else ((gf_power.f a0 254).bind fun t101 => (some (t101, 0)))) = some (r1, r2) := h
  clear h
  by_cases c2 : a0 = 0
  · rw [if_pos c2] at H
    have c2b0 : (a0 == 0) = true := beq_iff_eq.mpr c2
    have c2b1 : (a0 != 0) = false := bne_eq_false_iff_eq.mpr c2
    clear c2
    simp only [Option.some.injEq, Prod.mk.injEq] at H
    obtain ⟨rfl, rfl⟩ := H
    go_enter Try.func10, Try.ntmps10
    go_wp2
    go_ret2
    exact ⟨by first | rfl | (simp; done) | (simp [*]; done), by repeat (first | exact Drawn0.refl _ | apply Drawn0.step)⟩
  · rw [if_neg c2] at H
    have c2b0 : (a0 == 0) = false := beq_eq_false_iff_ne.mpr c2
    have c2b1 : (a0 != 0) = true := bne_iff_ne.mpr c2
    replace H := Option.bind_eq_some_iff.mp H
    obtain ⟨t101, A30, H⟩ := H
    replace H : (some (t101, 0)) = some (r1, r2) := H
    have A3 := Aside0.mk A30
    clear A30
    simp only [Option.some.injEq, Prod.mk.injEq] at H
    obtain ⟨rfl, rfl⟩ := H
    go_enter Try.func10, Try.ntmps10
    go_wp2_with (first | ((with_reducible refine gate_callee (f := 38) rfl ?_); refine goesL_ (some 7) rfl rfl Try.func38 (by kernel_rfl) rfl #[.int .u8 a0, .int .u64 254] rfl (by (try simp only [List.map_toArray, List.map_cons, List.map_nil]); first | done | rfl | (simp only [List.length_drop, List.length_take]; rfl)) ?_; (with_reducible refine (gf_power.calls a0 254 t101 _ A3.out).mono ?_); rintro e w' ⟨rfl, ⟨nd, rfl⟩⟩; refine ⟨_, rfl, ?_⟩))
    go_ret2
    exact ⟨by first | rfl | (simp; done) | (simp [*]; done), by repeat (first | exact Drawn0.refl _ | apply Drawn0.step)⟩

-- caulkref02_Mul (function 18): its contract stands in Derived.Test.YtgiljibkjccgfabGfRef

/-! ### caulkref02_Inv: function 11 -/
def caulkref02_Inv.l0 : Nat → Int → Int → Option (Int × Int)
  | 0, _, _ => none
  | k + 1, x0, x4 => if x4 < 256 then ((caulkref02_Mul.f x0 ((x4) % 256)).bind fun t102 => (if t102 = 1 then (some ((x4) % 256, 0)) else (caulkref02_Inv.l0 k x0 (wrap64 (x4 + 1))))) else (some (0, 13))
def caulkref02_Inv.f (k : Nat) (a0 : Int) : Option (Int × Int) := caulkref02_Inv.l0 k a0 1
theorem caulkref02_Inv.mono_l : ∀ k, (∀ y0 y1, LeO (caulkref02_Inv.l0 k y0 y1) (caulkref02_Inv.l0 (k + 1) y0 y1))
  | 0 => fun _ _ r h => by simp [caulkref02_Inv.l0] at h
  | k + 1 => by
    have ih0 := caulkref02_Inv.mono_l k
    · intro y0 y1
      unfold caulkref02_Inv.l0
      repeat' first
      | (with_reducible exact ih0 _ _)
      | (with_reducible exact LeO.refl _)
      | (with_reducible exact LeO.none _)
      | (with_reducible refine LeO.ite ?_ ?_)
      | (with_reducible refine LeO.bind ?_ (fun _ => ?_))
      | exact ih0 _ _
      | exact LeO.none _
      | refine LeO.ite ?_ ?_
      | refine LeO.bind ?_ (fun _ => ?_)
theorem caulkref02_Inv.mono : ∀ a0 k, LeO (caulkref02_Inv.f k a0) (caulkref02_Inv.f (k + 1) a0) := by
  intro a0 k
  have ih0 := caulkref02_Inv.mono_l k
  unfold caulkref02_Inv.f
  repeat' first
      | (with_reducible exact ih0 _ _)
      | (with_reducible exact LeO.refl _)
      | (with_reducible exact LeO.none _)
      | (with_reducible refine LeO.ite ?_ ?_)
      | (with_reducible refine LeO.bind ?_ (fun _ => ?_))
      | exact ih0 _ _
      | exact LeO.none _
      | refine LeO.ite ?_ ?_
      | refine LeO.bind ?_ (fun _ => ?_)
set_option maxHeartbeats 8000000 in
set_option maxRecDepth 100000 in
theorem caulkref02_Inv.calls (k : Nat) (a0 : Int) (r1 : Int) (r2 : Int) (w : World) (h : caulkref02_Inv.f k a0 = some (r1, r2)) :
    Calls Try.prog 11 #[.int .u8 a0] w fun e w' => e = .returned (.tuple #[.int .u8 r1, .int .i64 r2]) ∧ Drawn0 w w' := by
  have H : (caulkref02_Inv.l0 k a0 1) = some (r1, r2) := h
  clear h
  have H' := Aside0.mk H
  clear H
  go_enter Try.func11, Try.ntmps11
  go_wp2
  go_loopg [4] k (fun kq v4 w' => ∃ (x4_1 : Int), v4 = .int .i64 x4_1 ∧ Aside0 (caulkref02_Inv.l0 kq a0 x4_1 = some (r1, r2)) ∧ Aside0 (kq ≤ k) ∧ Drawn0 w w')
  case atStart => exact ⟨(1), (by first | rfl | (simp; done) | (simp [*]; done)), H', ⟨Nat.le_refl _⟩, by repeat (first | exact Drawn0.refl _ | apply Drawn0.step)⟩
  case round =>
    clear H'
    try clear c1
    obtain ⟨x4_1, rfl, HA, HK1, ⟨m1, rfl⟩⟩ := hrel
    cases gk with
    | zero => exact absurd HA.out (by simp [caulkref02_Inv.l0])
    | succ k1 =>
      have H := HA.out
      clear HA
      simp only [caulkref02_Inv.l0] at H
      by_cases c2 : x4_1 < 256
      · rw [if_pos c2] at H
        have c2b0 : decide (x4_1 < 256) = true := decide_eq_true c2
        clear c2
        replace H := Option.bind_eq_some_iff.mp H
        obtain ⟨t102, A30, H⟩ := H
        replace H : (if t102 = 1 then (some ((x4_1) % 256, 0)) else (caulkref02_Inv.l0 k1 a0 (wrap64 (x4_1 + 1)))) = some (r1, r2) := H
        have A3 := Aside0.mk A30
        clear A30
        by_cases c4 : t102 = 1
        · rw [if_pos c4] at H
          have c4b0 : (t102 == 1) = true := beq_iff_eq.mpr c4
          have c4b1 : (t102 != 1) = false := bne_eq_false_iff_eq.mpr c4
          clear c4
          simp only [Option.some.injEq, Prod.mk.injEq] at H
          obtain ⟨rfl, rfl⟩ := H
          go_wp2_with (first | ((with_reducible refine gate_callee (f := 18) rfl ?_); refine goesL_ (some 12) rfl rfl Try.func18 (by kernel_rfl) rfl #[.int .u8 a0, .int .u8 ((x4_1) % 256)] rfl (by (try simp only [List.map_toArray, List.map_cons, List.map_nil]); first | done | rfl | (simp only [List.length_drop, List.length_take]; rfl)) ?_; (with_reducible refine (caulkref02_Mul.calls a0 ((x4_1) % 256) t102 _ A3.out).mono ?_); rintro e w' ⟨rfl, ⟨nd, rfl⟩⟩; refine ⟨_, rfl, ?_⟩))
          go_ret2
          exact ⟨by first | rfl | (simp; done) | (simp [*]; done), by repeat (first | exact Drawn0.refl _ | apply Drawn0.step)⟩
        · rw [if_neg c4] at H
          have c4b0 : (t102 == 1) = false := beq_eq_false_iff_ne.mpr c4
          have c4b1 : (t102 != 1) = true := bne_iff_ne.mpr c4
          have H' := Aside0.mk H
          clear H
          go_wp2_with (first | ((with_reducible refine gate_callee (f := 18) rfl ?_); refine goesL_ (some 12) rfl rfl Try.func18 (by kernel_rfl) rfl #[.int .u8 a0, .int .u8 ((x4_1) % 256)] rfl (by (try simp only [List.map_toArray, List.map_cons, List.map_nil]); first | done | rfl | (simp only [List.length_drop, List.length_take]; rfl)) ?_; (with_reducible refine (caulkref02_Mul.calls a0 ((x4_1) % 256) t102 _ A3.out).mono ?_); rintro e w' ⟨rfl, ⟨nd, rfl⟩⟩; refine ⟨_, rfl, ?_⟩))
          go_roundg k1
          case measure => have := HK1.out; omega
          case rel => exact ⟨(wrap64 (x4_1 + 1)), (by first | rfl | (simp; done) | (simp [*]; done)), H', ⟨by have := HK1.out; omega⟩, by repeat (first | exact Drawn0.refl _ | apply Drawn0.step)⟩
      · rw [if_neg c2] at H
        have c2b0 : decide (x4_1 < 256) = false := decide_eq_false c2
        clear c2
        simp only [Option.some.injEq, Prod.mk.injEq] at H
        obtain ⟨rfl, rfl⟩ := H
        go_wp2
        go_ret2
        exact ⟨by first | rfl | (simp; done) | (simp [*]; done), by repeat (first | exact Drawn0.refl _ | apply Drawn0.step)⟩

/-! ### gf_Div: function 12 -/
def gf_Div.f (a0 : Int) (a1 : Int) : Option (Int × Int) := (gf_Inv.f a1).bind fun bt103 => (if bt103.2 = 0 then ((gf_Mul.f a0 bt103.1).bind fun t105 => (some (t105, 0))) else (some (0, bt103.2)))
set_option maxHeartbeats 8000000 in
set_option maxRecDepth 100000 in
theorem gf_Div.calls (a0 : Int) (a1 : Int) (r1 : Int) (r2 : Int) (w : World) (h : gf_Div.f a0 a1 = some (r1, r2)) :
    Calls Try.prog 12 #[.int .u8 a0, .int .u8 a1] w fun e w' => e = .returned (.tuple #[.int .u8 r1, .int .i64 r2]) ∧ Drawn0 w w' := by
  have H : ((gf_Inv.f a1).bind fun bt103 => (if bt103.2 = 0 then ((gf_Mul.f a0 bt103.1).bind fun t105 => (some (t105, 0))) else (some (0, bt103.2)))) = some (r1, r2) := h
  clear h
  replace H := Option.bind_eq_some_iff.mp H
  obtain ⟨⟨t103, t104⟩, A30, H⟩ := H
  replace H : (if t104 = 0 then ((gf_Mul.f a0 t103).bind fun t105 => (some (t105, 0))) else (some (0, t104))) = some (r1, r2) := H
  have A3 := Aside0.mk A30
  clear A30
  by_cases c4 : t104 = 0
  · rw [if_pos c4] at H
    have c4b0 : (t104 == 0) = true := beq_iff_eq.mpr c4
    have c4b1 : (t104 != 0) = false := bne_eq_false_iff_eq.mpr c4
    clear c4
    replace H := Option.bind_eq_some_iff.mp H
    obtain ⟨t105, A50, H⟩ := H
    replace H : (some (t105, 0)) = some (r1, r2) := H
    have A5 := Aside0.mk A50
    clear A50
    simp only [Option.some.injEq, Prod.mk.injEq] at H
    obtain ⟨rfl, rfl⟩ := H
    go_enter Try.func12, Try.ntmps12
    go_wp2_with (first | ((with_reducible refine gate_callee (f := 10) rfl ?_); refine goesL_ (some 10) rfl rfl Try.func10 (by kernel_rfl) rfl #[.int .u8 a1] rfl (by (try simp only [List.map_toArray, List.map_cons, List.map_nil]); first | done | rfl | (simp only [List.length_drop, List.length_take]; rfl)) ?_; (with_reducible refine (gf_Inv.calls a1 t103 t104 _ A3.out).mono ?_); rintro e w' ⟨rfl, ⟨nd, rfl⟩⟩; refine ⟨_, rfl, ?_⟩) | ((with_reducible refine gate_callee (f := 17) rfl ?_); refine goesL_ (some 18) rfl rfl Try.func17 (by kernel_rfl) rfl #[.int .u8 a0, .int .u8 t103] rfl (by (try simp only [List.map_toArray, List.map_cons, List.map_nil]); first | done | rfl | (simp only [List.length_drop, List.length_take]; rfl)) ?_; (with_reducible refine (gf_Mul.calls a0 t103 t105 _ A5.out).mono ?_); rintro e w' ⟨rfl, ⟨nd, rfl⟩⟩; refine ⟨_, rfl, ?_⟩))
    go_ret2
    exact ⟨by first | rfl | (simp; done) | (simp [*]; done), by repeat (first | exact Drawn0.refl _ | apply Drawn0.step)⟩
  · rw [if_neg c4] at H
    have c4b0 : (t104 == 0) = false := beq_eq_false_iff_ne.mpr c4
    have c4b1 : (t104 != 0) = true := bne_iff_ne.mpr c4
    simp only [Option.some.injEq, Prod.mk.injEq] at H
    obtain ⟨rfl, rfl⟩ := H
    go_enter Try.func12, Try.ntmps12
    go_wp2_with (first | ((with_reducible refine gate_callee (f := 10) rfl ?_); refine goesL_ (some 10) rfl rfl Try.func10 (by kernel_rfl) rfl #[.int .u8 a1] rfl (by (try simp only [List.map_toArray, List.map_cons, List.map_nil]); first | done | rfl | (simp only [List.length_drop, List.length_take]; rfl)) ?_; (with_reducible refine (gf_Inv.calls a1 t103 t104 _ A3.out).mono ?_); rintro e w' ⟨rfl, ⟨nd, rfl⟩⟩; refine ⟨_, rfl, ?_⟩))
    go_ret2
    exact ⟨by first | rfl | (simp; done) | (simp [*]; done), by repeat (first | exact Drawn0.refl _ | apply Drawn0.step)⟩

/-! ### caulkref02_Div: function 13 -/
def caulkref02_Div.f (k : Nat) (a0 : Int) (a1 : Int) : Option (Int × Int) := (caulkref02_Inv.f k a1).bind fun bt106 => (if bt106.2 = 0 then ((caulkref02_Mul.f a0 bt106.1).bind fun t108 => (some (t108, 0))) else (some (0, bt106.2)))
theorem caulkref02_Div.mono : ∀ a0 a1 k, LeO (caulkref02_Div.f k a0 a1) (caulkref02_Div.f (k + 1) a0 a1) := by
  intro a0 a1 k
  unfold caulkref02_Div.f
  repeat' first
      | (with_reducible exact caulkref02_Inv.mono _ _)
      | (with_reducible exact LeO.refl _)
      | (with_reducible exact LeO.none _)
      | (with_reducible refine LeO.ite ?_ ?_)
      | (with_reducible refine LeO.bind ?_ (fun _ => ?_))
      | exact caulkref02_Inv.mono _ _
      | exact LeO.none _
      | refine LeO.ite ?_ ?_
      | refine LeO.bind ?_ (fun _ => ?_)
set_option maxHeartbeats 8000000 in
set_option maxRecDepth 100000 in
theorem caulkref02_Div.calls (k : Nat) (a0 : Int) (a1 : Int) (r1 : Int) (r2 : Int) (w : World) (h : caulkref02_Div.f k a0 a1 = some (r1, r2)) :
    Calls Try.prog 13 #[.int .u8 a0, .int .u8 a1] w fun e w' => e = .returned (.tuple #[.int .u8 r1, .int .i64 r2]) ∧ Drawn0 w w' := by
  have H : ((caulkref02_Inv.f k a1).bind fun bt106 => (if bt106.2 = 0 then ((caulkref02_Mul.f a0 bt106.1).bind fun t108 => (some (t108, 0))) else (some (0, bt106.2)))) = some (r1, r2) := h
  clear h
  replace H := Option.bind_eq_some_iff.mp H
  obtain ⟨⟨t106, t107⟩, A30, H⟩ := H
  replace H : (if t107 = 0 then ((caulkref02_Mul.f a0 t106).bind fun t108 => (some (t108, 0))) else (some (0, t107))) = some (r1, r2) := H
  have A3 := Aside0.mk A30
  clear A30
  by_cases c4 : t107 = 0
  · rw [if_pos c4] at H
    have c4b0 : (t107 == 0) = true := beq_iff_eq.mpr c4
    have c4b1 : (t107 != 0) = false := bne_eq_false_iff_eq.mpr c4
    clear c4
    replace H := Option.bind_eq_some_iff.mp H
    obtain ⟨t108, A50, H⟩ := H
    replace H : (some (t108, 0)) = some (r1, r2) := H
    have A5 := Aside0.mk A50
    clear A50
    simp only [Option.some.injEq, Prod.mk.injEq] at H
    obtain ⟨rfl, rfl⟩ := H
    go_enter Try.func13, Try.ntmps13
    go_wp2_with (first | ((with_reducible refine gate_callee (f := 11) rfl ?_); refine goesL_ (some 10) rfl rfl Try.func11 (by kernel_rfl) rfl #[.int .u8 a1] rfl (by (try simp only [List.map_toArray, List.map_cons, List.map_nil]); first | done | rfl | (simp only [List.length_drop, List.length_take]; rfl)) ?_; (with_reducible refine (caulkref02_Inv.calls k a1 t106 t107 _ A3.out).mono ?_); rintro e w' ⟨rfl, ⟨nd, rfl⟩⟩; refine ⟨_, rfl, ?_⟩) | ((with_reducible refine gate_callee (f := 18) rfl ?_); refine goesL_ (some 18) rfl rfl Try.func18 (by kernel_rfl) rfl #[.int .u8 a0, .int .u8 t106] rfl (by (try simp only [List.map_toArray, List.map_cons, List.map_nil]); first | done | rfl | (simp only [List.length_drop, List.length_take]; rfl)) ?_; (with_reducible refine (caulkref02_Mul.calls a0 t106 t108 _ A5.out).mono ?_); rintro e w' ⟨rfl, ⟨nd, rfl⟩⟩; refine ⟨_, rfl, ?_⟩))
    go_ret2
    exact ⟨by first | rfl | (simp; done) | (simp [*]; done), by repeat (first | exact Drawn0.refl _ | apply Drawn0.step)⟩
  · rw [if_neg c4] at H
    have c4b0 : (t107 == 0) = false := beq_eq_false_iff_ne.mpr c4
    have c4b1 : (t107 != 0) = true := bne_iff_ne.mpr c4
    simp only [Option.some.injEq, Prod.mk.injEq] at H
    obtain ⟨rfl, rfl⟩ := H
    go_enter Try.func13, Try.ntmps13
    go_wp2_with (first | ((with_reducible refine gate_callee (f := 11) rfl ?_); refine goesL_ (some 10) rfl rfl Try.func11 (by kernel_rfl) rfl #[.int .u8 a1] rfl (by (try simp only [List.map_toArray, List.map_cons, List.map_nil]); first | done | rfl | (simp only [List.length_drop, List.length_take]; rfl)) ?_; (with_reducible refine (caulkref02_Inv.calls k a1 t106 t107 _ A3.out).mono ?_); rintro e w' ⟨rfl, ⟨nd, rfl⟩⟩; refine ⟨_, rfl, ?_⟩))
    go_ret2
    exact ⟨by first | rfl | (simp; done) | (simp [*]; done), by repeat (first | exact Drawn0.refl _ | apply Drawn0.step)⟩

-- NOT PRINTED: function 39 (gf_powers)

-- gf_Log (function 14): its contract stands in Derived.Test.YtgiljibkjccgfabGfLog

/-! ### caulkref02_Log: function 15 -/
def caulkref02_Log.l0 : Nat → Int → Int → Int → Option (Int × Int)
  | 0, _, _, _ => none
  | k + 1, x0, x4, x5 => if x5 < 255 then (if x4 = x0 then (some (x5, 0)) else ((caulkref02_Mul.f x4 2).bind fun t109 => (caulkref02_Log.l0 k x0 t109 (wrap64 (x5 + 1))))) else (some (0, 13))
def caulkref02_Log.f (k : Nat) (a0 : Int) : Option (Int × Int) := caulkref02_Log.l0 k a0 1 0
theorem caulkref02_Log.mono_l : ∀ k, (∀ y0 y1 y2, LeO (caulkref02_Log.l0 k y0 y1 y2) (caulkref02_Log.l0 (k + 1) y0 y1 y2))
  | 0 => fun _ _ _ r h => by simp [caulkref02_Log.l0] at h
  | k + 1 => by
    have ih0 := caulkref02_Log.mono_l k
    · intro y0 y1 y2
      unfold caulkref02_Log.l0
      repeat' first
      | (with_reducible exact ih0 _ _ _)
      | (with_reducible exact LeO.refl _)
      | (with_reducible exact LeO.none _)
      | (with_reducible refine LeO.ite ?_ ?_)
      | (with_reducible refine LeO.bind ?_ (fun _ => ?_))
      | exact ih0 _ _ _
      | exact LeO.none _
      | refine LeO.ite ?_ ?_
      | refine LeO.bind ?_ (fun _ => ?_)
theorem caulkref02_Log.mono : ∀ a0 k, LeO (caulkref02_Log.f k a0) (caulkref02_Log.f (k + 1) a0) := by
  intro a0 k
  have ih0 := caulkref02_Log.mono_l k
  unfold caulkref02_Log.f
  repeat' first
      | (with_reducible exact ih0 _ _ _)
      | (with_reducible exact LeO.refl _)
      | (with_reducible exact LeO.none _)
      | (with_reducible refine LeO.ite ?_ ?_)
      | (with_reducible refine LeO.bind ?_ (fun _ => ?_))
      | exact ih0 _ _ _
      | exact LeO.none _
      | refine LeO.ite ?_ ?_
      | refine LeO.bind ?_ (fun _ => ?_)
set_option maxHeartbeats 8000000 in
set_option maxRecDepth 100000 in
theorem caulkref02_Log.calls (k : Nat) (a0 : Int) (r1 : Int) (r2 : Int) (w : World) (h : caulkref02_Log.f k a0 = some (r1, r2)) :
    Calls Try.prog 15 #[.int .u8 a0] w fun e w' => e = .returned (.tuple #[.int .i64 r1, .int .i64 r2]) ∧ Drawn0 w w' := by
  have H : (caulkref02_Log.l0 k a0 1 0) = some (r1, r2) := h
  clear h
  have H' := Aside0.mk H
  clear H
  go_enter Try.func15, Try.ntmps15
  go_wp2
  go_loopg [4, 5] k (fun kq v4 v5 w' => ∃ (x4_1 : Int) (x5_1 : Int), v4 = .int .u8 x4_1 ∧ v5 = .int .i64 x5_1 ∧ Aside0 (caulkref02_Log.l0 kq a0 x4_1 x5_1 = some (r1, r2)) ∧ Aside0 (kq ≤ k) ∧ Drawn0 w w')
  case atStart => exact ⟨(1), (0), (by first | rfl | (simp; done) | (simp [*]; done)), (by first | rfl | (simp; done) | (simp [*]; done)), H', ⟨Nat.le_refl _⟩, by repeat (first | exact Drawn0.refl _ | apply Drawn0.step)⟩
  case round =>
    clear H'
    try clear c1
    obtain ⟨x4_1, x5_1, rfl, rfl, HA, HK1, ⟨m1, rfl⟩⟩ := hrel
    cases gk with
    | zero => exact absurd HA.out (by simp [caulkref02_Log.l0])
    | succ k1 =>
      have H := HA.out
      clear HA
      simp only [caulkref02_Log.l0] at H
      by_cases c2 : x5_1 < 255
      · rw [if_pos c2] at H
        have c2b0 : decide (x5_1 < 255) = true := decide_eq_true c2
        clear c2
        by_cases c3 : x4_1 = a0
        · rw [if_pos c3] at H
          have c3b0 : (x4_1 == a0) = true := beq_iff_eq.mpr c3
          have c3b1 : (x4_1 != a0) = false := bne_eq_false_iff_eq.mpr c3
          clear c3
          simp only [Option.some.injEq, Prod.mk.injEq] at H
          obtain ⟨rfl, rfl⟩ := H
          go_wp2
          go_ret2
          exact ⟨by first | rfl | (simp; done) | (simp [*]; done), by repeat (first | exact Drawn0.refl _ | apply Drawn0.step)⟩
        · rw [if_neg c3] at H
          have c3b0 : (x4_1 == a0) = false := beq_eq_false_iff_ne.mpr c3
          have c3b1 : (x4_1 != a0) = true := bne_iff_ne.mpr c3
          replace H := Option.bind_eq_some_iff.mp H
          obtain ⟨t109, A40, H⟩ := H
          replace H : (caulkref02_Log.l0 k1 a0 t109 (wrap64 (x5_1 + 1))) = some (r1, r2) := H
          have A4 := Aside0.mk A40
          clear A40
          have H' := Aside0.mk H
          clear H
          go_wp2_with (first | ((with_reducible refine gate_callee (f := 18) rfl ?_); refine goesL_ (some 15) rfl rfl Try.func18 (by kernel_rfl) rfl #[.int .u8 x4_1, .int .u8 2] rfl (by (try simp only [List.map_toArray, List.map_cons, List.map_nil]); first | done | rfl | (simp only [List.length_drop, List.length_take]; rfl)) ?_; (with_reducible refine (caulkref02_Mul.calls x4_1 2 t109 _ A4.out).mono ?_); rintro e w' ⟨rfl, ⟨nd, rfl⟩⟩; refine ⟨_, rfl, ?_⟩))
          go_roundg k1
          case measure => have := HK1.out; omega
          case rel => exact ⟨(t109), (wrap64 (x5_1 + 1)), (by first | rfl | (simp; done) | (simp [*]; done)), (by first | rfl | (simp; done) | (simp [*]; done)), H', ⟨by have := HK1.out; omega⟩, by repeat (first | exact Drawn0.refl _ | apply Drawn0.step)⟩
      · rw [if_neg c2] at H
        have c2b0 : decide (x5_1 < 255) = false := decide_eq_false c2
        clear c2
        simp only [Option.some.injEq, Prod.mk.injEq] at H
        obtain ⟨rfl, rfl⟩ := H
        go_wp2
        go_ret2
        exact ⟨by first | rfl | (simp; done) | (simp [*]; done), by repeat (first | exact Drawn0.refl _ | apply Drawn0.step)⟩

/-! ### gf_Exp: function 19 -/
def gf_Exp.f (a0 : Int) : Option (Int) := if (Int.tmod a0 255) < 0 then ((gf_power.f 2 (IntKind.u64.wrap (wrap64 ((Int.tmod a0 255) + 255)))).bind fun t110 => (some t110)) else ((gf_power.f 2 (IntKind.u64.wrap (Int.tmod a0 255))).bind fun t111 => (some t111))
set_option maxHeartbeats 8000000 in
set_option maxRecDepth 100000 in
theorem gf_Exp.calls (a0 : Int) (r : Int) (w : World) (h : gf_Exp.f a0 = some r) :
    Calls Try.prog 19 #[.int .i64 a0] w fun e w' => e = .returned (.int .u8 r) ∧ Drawn0 w w' := by
  have H : (if (Int.tmod a0 255) < 0 then ((gf_power.f 2 (IntKind.u64.wrap (wrap64 ((Int.tmod a0 255) + 255)))).bind fun t110 => (some t110)) else ((gf_power.f 2 (IntKind.u64.wrap (Int.tmod a0 255))).bind fun t111 => (some t111))) = some r := h
  clear h
  by_cases c2 : (Int.tmod a0 255) < 0
  · rw [if_pos c2] at H
    have c2b0 : decide ((Int.tmod a0 255) < 0) = true := decide_eq_true c2
    clear c2
    replace H := Option.bind_eq_some_iff.mp H
    obtain ⟨t110, A30, H⟩ := H
    replace H : (some t110) = some r := H
    have A3 := Aside0.mk A30
    clear A30
    obtain rfl := Option.some.inj H
    go_enter Try.func19, Try.ntmps19
    go_wp2_with (first | ((with_reducible refine gate_callee (f := 38) rfl ?_); refine goesL_ (some 11) rfl rfl Try.func38 (by kernel_rfl) rfl #[.int .u8 2, .int .u64 (IntKind.u64.wrap (wrap64 ((Int.tmod a0 255) + 255)))] rfl (by (try simp only [List.map_toArray, List.map_cons, List.map_nil]); first | done | rfl | (simp only [List.length_drop, List.length_take]; rfl)) ?_; (with_reducible refine (gf_power.calls 2 (IntKind.u64.wrap (wrap64 ((Int.tmod a0 255) + 255))) t110 _ A3.out).mono ?_); rintro e w' ⟨rfl, ⟨nd, rfl⟩⟩; refine ⟨_, rfl, ?_⟩))
    go_ret
    exact ⟨by first | rfl | (simp; done) | (simp [*]; done), by repeat (first | exact Drawn0.refl _ | apply Drawn0.step)⟩
  · rw [if_neg c2] at H
    have c2b0 : decide ((Int.tmod a0 255) < 0) = false := decide_eq_false c2
    clear c2
    replace H := Option.bind_eq_some_iff.mp H
    obtain ⟨t111, A40, H⟩ := H
    replace H : (some t111) = some r := H
    have A4 := Aside0.mk A40
    clear A40
    obtain rfl := Option.some.inj H
    go_enter Try.func19, Try.ntmps19
    go_wp2_with (first | ((with_reducible refine gate_callee (f := 38) rfl ?_); refine goesL_ (some 11) rfl rfl Try.func38 (by kernel_rfl) rfl #[.int .u8 2, .int .u64 (IntKind.u64.wrap (Int.tmod a0 255))] rfl (by (try simp only [List.map_toArray, List.map_cons, List.map_nil]); first | done | rfl | (simp only [List.length_drop, List.length_take]; rfl)) ?_; (with_reducible refine (gf_power.calls 2 (IntKind.u64.wrap (Int.tmod a0 255)) t111 _ A4.out).mono ?_); rintro e w' ⟨rfl, ⟨nd, rfl⟩⟩; refine ⟨_, rfl, ?_⟩))
    go_ret
    exact ⟨by first | rfl | (simp; done) | (simp [*]; done), by repeat (first | exact Drawn0.refl _ | apply Drawn0.step)⟩

-- NOT PRINTED: function 41 (gf_of)

-- NOT PRINTED: function 42 (gf_times_mul)

-- gf_Put (function 21): its contract stands in Derived.Test.YtgiljibkjccgfabGfArr

-- gf_Scale (function 23): its contract stands in Derived.Test.YtgiljibkjccgfabGfArr

/-! ### caulklaw02_lives: function 16 -/
def caulklaw02_lives.f  : Option (Bool) := (gf_Log.f 3).bind fun bt112 => ((gf_Inv.f 0).bind fun bt114 => ((gf_Div.f 29 2).bind fun bt116 => ((gf_Put.f (([1, 2] : List Int)) 2 (⟨#[128]⟩ : ByteArray)).bind fun t121 => ((gf_Mul.f 2 128).bind fun t122 => (if t122 = 29 then (if bt112.1 = 25 then (if bt112.2 = 0 then (if bt114.2 = 13 then (if bt116.1 = 128 then (if bt116.2 = 0 then ((gf_Exp.f 25).bind fun t123 => (if t123 = 3 then ((gf_Exp.f (-230)).bind fun t124 => (if t124 = 3 then ((gf_Scale.f 2 (⟨#[128, 1]⟩ : ByteArray)).bind fun t125 => (if t125.toList = ([29, 2] : List UInt8) then (some ((strOfNums t121).toList == ([28, 2] : List UInt8))) else (none))) else (none))) else (none))) else (none)) else (none)) else (none)) else (none)) else (none)) else (none))))))
set_option maxHeartbeats 8000000 in
set_option maxRecDepth 100000 in
theorem caulklaw02_lives.calls  (r : Bool) (w : World) (h : caulklaw02_lives.f  = some r) :
    Calls Try.prog 16 #[] w fun e w' => e = .returned (.bool r) ∧ Below w.heap.size w w' := by
  have HB := Aside0.mk (Below.refl w.heap.size w)
  have H : ((gf_Log.f 3).bind fun bt112 => ((gf_Inv.f 0).bind fun bt114 => ((gf_Div.f 29 2).bind fun bt116 => ((gf_Put.f (([1, 2] : List Int)) 2 (⟨#[128]⟩ : ByteArray)).bind fun t121 => ((gf_Mul.f 2 128).bind fun t122 => (if t122 = 29 then (if bt112.1 = 25 then (if bt112.2 = 0 then (if bt114.2 = 13 then (if bt116.1 = 128 then (if bt116.2 = 0 then ((gf_Exp.f 25).bind fun t123 => (if t123 = 3 then ((gf_Exp.f (-230)).bind fun t124 => (if t124 = 3 then ((gf_Scale.f 2 (⟨#[128, 1]⟩ : ByteArray)).bind fun t125 => (if t125.toList = ([29, 2] : List UInt8) then (some ((strOfNums t121).toList == ([28, 2] : List UInt8))) else (none))) else (none))) else (none))) else (none)) else (none)) else (none)) else (none)) else (none)) else (none))))))) = some r := h
  clear h
  replace H := Option.bind_eq_some_iff.mp H
  obtain ⟨⟨t112, t113⟩, A10, H⟩ := H
  replace H : ((gf_Inv.f 0).bind fun bt114 => ((gf_Div.f 29 2).bind fun bt116 => ((gf_Put.f (([1, 2] : List Int)) 2 (⟨#[128]⟩ : ByteArray)).bind fun t121 => ((gf_Mul.f 2 128).bind fun t122 => (if t122 = 29 then (if t112 = 25 then (if t113 = 0 then (if bt114.2 = 13 then (if bt116.1 = 128 then (if bt116.2 = 0 then ((gf_Exp.f 25).bind fun t123 => (if t123 = 3 then ((gf_Exp.f (-230)).bind fun t124 => (if t124 = 3 then ((gf_Scale.f 2 (⟨#[128, 1]⟩ : ByteArray)).bind fun t125 => (if t125.toList = ([29, 2] : List UInt8) then (some ((strOfNums t121).toList == ([28, 2] : List UInt8))) else (none))) else (none))) else (none))) else (none)) else (none)) else (none)) else (none)) else (none)) else (none)))))) = some r := H
  have A1 := Aside0.mk A10
  clear A10
  replace H := Option.bind_eq_some_iff.mp H
  obtain ⟨⟨t114, t115⟩, A20, H⟩ := H
  replace H : ((gf_Div.f 29 2).bind fun bt116 => ((gf_Put.f (([1, 2] : List Int)) 2 (⟨#[128]⟩ : ByteArray)).bind fun t121 => ((gf_Mul.f 2 128).bind fun t122 => (if t122 = 29 then (if t112 = 25 then (if t113 = 0 then (if t115 = 13 then (if bt116.1 = 128 then (if bt116.2 = 0 then ((gf_Exp.f 25).bind fun t123 => (if t123 = 3 then ((gf_Exp.f (-230)).bind fun t124 => (if t124 = 3 then ((gf_Scale.f 2 (⟨#[128, 1]⟩ : ByteArray)).bind fun t125 => (if t125.toList = ([29, 2] : List UInt8) then (some ((strOfNums t121).toList == ([28, 2] : List UInt8))) else (none))) else (none))) else (none))) else (none)) else (none)) else (none)) else (none)) else (none)) else (none))))) = some r := H
  have A2 := Aside0.mk A20
  clear A20
  replace H := Option.bind_eq_some_iff.mp H
  obtain ⟨⟨t116, t117⟩, A30, H⟩ := H
  replace H : ((gf_Put.f (([1, 2] : List Int)) 2 (⟨#[128]⟩ : ByteArray)).bind fun t121 => ((gf_Mul.f 2 128).bind fun t122 => (if t122 = 29 then (if t112 = 25 then (if t113 = 0 then (if t115 = 13 then (if t116 = 128 then (if t117 = 0 then ((gf_Exp.f 25).bind fun t123 => (if t123 = 3 then ((gf_Exp.f (-230)).bind fun t124 => (if t124 = 3 then ((gf_Scale.f 2 (⟨#[128, 1]⟩ : ByteArray)).bind fun t125 => (if t125.toList = ([29, 2] : List UInt8) then (some ((strOfNums t121).toList == ([28, 2] : List UInt8))) else (none))) else (none))) else (none))) else (none)) else (none)) else (none)) else (none)) else (none)) else (none)))) = some r := H
  have A3 := Aside0.mk A30
  clear A30
  obtain ⟨y118, hy118⟩ : ∃ y_ : List Int, y_ = (([1, 2] : List Int)) := ⟨_, rfl⟩
  replace H : ((gf_Put.f y118 2 (⟨#[128]⟩ : ByteArray)).bind fun t121 => ((gf_Mul.f 2 128).bind fun t122 => (if t122 = 29 then (if t112 = 25 then (if t113 = 0 then (if t115 = 13 then (if t116 = 128 then (if t117 = 0 then ((gf_Exp.f 25).bind fun t123 => (if t123 = 3 then ((gf_Exp.f (-230)).bind fun t124 => (if t124 = 3 then ((gf_Scale.f 2 (⟨#[128, 1]⟩ : ByteArray)).bind fun t125 => (if t125.toList = ([29, 2] : List UInt8) then (some ((strOfNums t121).toList == ([28, 2] : List UInt8))) else (none))) else (none))) else (none))) else (none)) else (none)) else (none)) else (none)) else (none)) else (none)))) = some r := by first | (rw [hy118]; with_reducible exact H) | (have H2_ := (Option.bind_some _ _).symm.trans H; rw [hy118]; with_reducible exact H2_) | (have H2_ := (Option.bind_some _ _).symm.trans H; with_reducible exact H2_) | with_reducible exact H | (rw [hy118]; exact H) | exact H
  have Ny118 := Aside0.mk hy118
  clear hy118
  replace H := Option.bind_eq_some_iff.mp H
  obtain ⟨t121, A40, H⟩ := H
  replace H : ((gf_Mul.f 2 128).bind fun t122 => (if t122 = 29 then (if t112 = 25 then (if t113 = 0 then (if t115 = 13 then (if t116 = 128 then (if t117 = 0 then ((gf_Exp.f 25).bind fun t123 => (if t123 = 3 then ((gf_Exp.f (-230)).bind fun t124 => (if t124 = 3 then ((gf_Scale.f 2 (⟨#[128, 1]⟩ : ByteArray)).bind fun t125 => (if t125.toList = ([29, 2] : List UInt8) then (some ((strOfNums t121).toList == ([28, 2] : List UInt8))) else (none))) else (none))) else (none))) else (none)) else (none)) else (none)) else (none)) else (none)) else (none))) = some r := H
  have A4 := Aside0.mk A40
  clear A40
  replace H := Option.bind_eq_some_iff.mp H
  obtain ⟨t122, A50, H⟩ := H
  replace H : (if t122 = 29 then (if t112 = 25 then (if t113 = 0 then (if t115 = 13 then (if t116 = 128 then (if t117 = 0 then ((gf_Exp.f 25).bind fun t123 => (if t123 = 3 then ((gf_Exp.f (-230)).bind fun t124 => (if t124 = 3 then ((gf_Scale.f 2 (⟨#[128, 1]⟩ : ByteArray)).bind fun t125 => (if t125.toList = ([29, 2] : List UInt8) then (some ((strOfNums t121).toList == ([28, 2] : List UInt8))) else (none))) else (none))) else (none))) else (none)) else (none)) else (none)) else (none)) else (none)) else (none)) = some r := H
  have A5 := Aside0.mk A50
  clear A50
  by_cases c6 : t122 = 29
  · rw [if_pos c6] at H
    have c6b0 : (t122 == 29) = true := beq_iff_eq.mpr c6
    have c6b1 : (t122 != 29) = false := bne_eq_false_iff_eq.mpr c6
    clear c6
    by_cases c7 : t112 = 25
    · rw [if_pos c7] at H
      have c7b0 : (t112 == 25) = true := beq_iff_eq.mpr c7
      have c7b1 : (t112 != 25) = false := bne_eq_false_iff_eq.mpr c7
      clear c7
      by_cases c8 : t113 = 0
      · rw [if_pos c8] at H
        have c8b0 : (t113 == 0) = true := beq_iff_eq.mpr c8
        have c8b1 : (t113 != 0) = false := bne_eq_false_iff_eq.mpr c8
        clear c8
        by_cases c9 : t115 = 13
        · rw [if_pos c9] at H
          have c9b0 : (t115 == 13) = true := beq_iff_eq.mpr c9
          have c9b1 : (t115 != 13) = false := bne_eq_false_iff_eq.mpr c9
          clear c9
          by_cases c10 : t116 = 128
          · rw [if_pos c10] at H
            have c10b0 : (t116 == 128) = true := beq_iff_eq.mpr c10
            have c10b1 : (t116 != 128) = false := bne_eq_false_iff_eq.mpr c10
            clear c10
            by_cases c11 : t117 = 0
            · rw [if_pos c11] at H
              have c11b0 : (t117 == 0) = true := beq_iff_eq.mpr c11
              have c11b1 : (t117 != 0) = false := bne_eq_false_iff_eq.mpr c11
              clear c11
              replace H := Option.bind_eq_some_iff.mp H
              obtain ⟨t123, A120, H⟩ := H
              replace H : (if t123 = 3 then ((gf_Exp.f (-230)).bind fun t124 => (if t124 = 3 then ((gf_Scale.f 2 (⟨#[128, 1]⟩ : ByteArray)).bind fun t125 => (if t125.toList = ([29, 2] : List UInt8) then (some ((strOfNums t121).toList == ([28, 2] : List UInt8))) else (none))) else (none))) else (none)) = some r := H
              have A12 := Aside0.mk A120
              clear A120
              by_cases c13 : t123 = 3
              · rw [if_pos c13] at H
                have c13b0 : (t123 == 3) = true := beq_iff_eq.mpr c13
                have c13b1 : (t123 != 3) = false := bne_eq_false_iff_eq.mpr c13
                clear c13
                replace H := Option.bind_eq_some_iff.mp H
                obtain ⟨t124, A140, H⟩ := H
                replace H : (if t124 = 3 then ((gf_Scale.f 2 (⟨#[128, 1]⟩ : ByteArray)).bind fun t125 => (if t125.toList = ([29, 2] : List UInt8) then (some ((strOfNums t121).toList == ([28, 2] : List UInt8))) else (none))) else (none)) = some r := H
                have A14 := Aside0.mk A140
                clear A140
                by_cases c15 : t124 = 3
                · rw [if_pos c15] at H
                  have c15b0 : (t124 == 3) = true := beq_iff_eq.mpr c15
                  have c15b1 : (t124 != 3) = false := bne_eq_false_iff_eq.mpr c15
                  clear c15
                  replace H := Option.bind_eq_some_iff.mp H
                  obtain ⟨t125, A160, H⟩ := H
                  replace H : (if t125.toList = ([29, 2] : List UInt8) then (some ((strOfNums t121).toList == ([28, 2] : List UInt8))) else (none)) = some r := H
                  have A16 := Aside0.mk A160
                  clear A160
                  by_cases c17 : t125.toList = ([29, 2] : List UInt8)
                  · rw [if_pos c17] at H
                    have c17b0 : (t125.toList == ([29, 2] : List UInt8)) = true := beq_iff_eq.mpr c17
                    have c17b1 : (t125.toList != ([29, 2] : List UInt8)) = false := bne_eq_false_iff_eq.mpr c17
                    clear c17
                    obtain rfl := Option.some.inj H
                    go_enter Try.func16, Try.ntmps16
                    go_wp2_with (first | ((with_reducible refine gate_callee (f := 14) rfl ?_); refine goesL_ (some 9) rfl rfl Try.func14 (by kernel_rfl) rfl #[.int .u8 3] rfl (by (try simp only [List.map_toArray, List.map_cons, List.map_nil]); first | done | rfl | (simp only [List.length_drop, List.length_take]; rfl)) ?_; (with_reducible refine (gf_Log.calls 3 t112 t113 _ A1.out).mono ?_); rintro e w18 ⟨rfl, hb⟩; refine ⟨_, rfl, ?_⟩; have n0_ := Aside0.mk (below_step (by repeat (first | (with_reducible first | exact HB.out | apply below_alloc | apply pw_below_drewN | apply below_drew1) | exact HB.out)) hb); clear HB; have HB := n0_; clear n0_; (try clear hb); (try clear hb2); (try clear hk); (try clear hi)) | ((with_reducible refine gate_callee (f := 10) rfl ?_); refine goesL_ (some 13) rfl rfl Try.func10 (by kernel_rfl) rfl #[.int .u8 0] rfl (by (try simp only [List.map_toArray, List.map_cons, List.map_nil]); first | done | rfl | (simp only [List.length_drop, List.length_take]; rfl)) ?_; (with_reducible refine (gf_Inv.calls 0 t114 t115 _ A2.out).mono ?_); rintro e w' ⟨rfl, ⟨nd, rfl⟩⟩; refine ⟨_, rfl, ?_⟩) | ((with_reducible refine gate_callee (f := 12) rfl ?_); refine goesL_ (some 17) rfl rfl Try.func12 (by kernel_rfl) rfl #[.int .u8 29, .int .u8 2] rfl (by (try simp only [List.map_toArray, List.map_cons, List.map_nil]); first | done | rfl | (simp only [List.length_drop, List.length_take]; rfl)) ?_; (with_reducible refine (gf_Div.calls 29 2 t116 t117 _ A3.out).mono ?_); rintro e w' ⟨rfl, ⟨nd, rfl⟩⟩; refine ⟨_, rfl, ?_⟩) | ((with_reducible refine gate_dst (N := 20) rfl ?_); refine Kd.R_lit (Kd.int .u8) _ 5 ?hg (N := 20) ?hd (xs := ([1, 2] : List Int)) (inner := [.int .u8 1, .int .u8 2]) (ok := fun _ => True) (okp := fun _ => True) ?hr ?hp (fun _ hk => hk) trivial (Below.refl _ _) (Nat.le_refl _) (by simp) ?_; (case hd => rfl); (case hg => rfl); (case hr => first | (go_simp; done) | (go_simp; rfl)); (case hp => exact (Reps.one (show Kd.M (Kd.int .u8) _ _ _ 1 [.int .u8 1] from rfl) (Reps.one (show Kd.M (Kd.int .u8) _ _ _ 2 [.int .u8 2] from rfl) (Reps.none _ _)))); intro v119 w19 ho20 hb hg_ hnew_; clear hg_ hnew_; (first | rw [← Ny118.out] at ho20 | (simp only [Int.reduceToNat] at ho20; rw [← Ny118.out] at ho20)); have n0_ := Aside0.mk (Kd.R_lower ho20 (below_size (by repeat (first | (with_reducible first | exact HB.out | apply below_alloc | apply pw_below_drewN | apply below_drew1) | exact HB.out)))); have n1_ := Aside0.mk (below_step (by repeat (first | (with_reducible first | exact HB.out | apply below_alloc | apply pw_below_drewN | apply below_drew1) | exact HB.out)) hb); clear HB; have HO120 := n0_; have HB := n1_; clear n0_ n1_; clear hb ho20; obtain ⟨Ao21, co21, eo21⟩ := Kd.R_slice HO120.out; subst eo21) | ((with_reducible refine gate_callee (f := 21) rfl ?_); refine goesL_ (some 22) rfl rfl Try.func21 (by kernel_rfl) rfl #[.slice Ao21 y118.length co21, .int .u8 2, .string (⟨#[128]⟩ : ByteArray)] rfl (by (try simp only [List.map_toArray, List.map_cons, List.map_nil]); first | done | rfl | (simp only [List.length_drop, List.length_take]; rfl)) ?_; (with_reducible refine (gf_Put.calls (fun k_ => some k_ = (.slice Ao21 y118.length co21 : Value).ownBlock) (.slice Ao21 y118.length co21) y118 2 (⟨#[128]⟩ : ByteArray) t121 w _ ?side1 ?side2 A4.out).mono ?_); (case side1 => repeat (first | (with_reducible first | exact HB.out | apply below_alloc | apply pw_below_drewN | apply below_drew1) | exact HB.out)); (case side2 => exact Kd.R_tight rfl HO120.out); rintro e w22 ⟨rfl, hy0, hb, hkp⟩; refine ⟨_, rfl, ?_⟩; have n0_ := Aside0.mk (Kd.R_reok rfl hy0 (fun k_ e_ => HO120.out.1 k_ e_)); have n1_ := Aside0.mk (hb); clear HO120; clear HB; have HO120 := n0_; have HB := n1_; clear n0_ n1_; (try clear hb); (try clear hkp); (try clear hy0)) | ((with_reducible refine gate_callee (f := 17) rfl ?_); refine goesL_ (some 23) rfl rfl Try.func17 (by kernel_rfl) rfl #[.int .u8 2, .int .u8 128] rfl (by (try simp only [List.map_toArray, List.map_cons, List.map_nil]); first | done | rfl | (simp only [List.length_drop, List.length_take]; rfl)) ?_; (with_reducible refine (gf_Mul.calls 2 128 t122 _ A5.out).mono ?_); rintro e w' ⟨rfl, ⟨nd, rfl⟩⟩; refine ⟨_, rfl, ?_⟩) | (go_at_call 19; (with_reducible refine (gf_Exp.calls 25 t123 _ A12.out).mono ?_); rintro e w' ⟨rfl, ⟨nd, rfl⟩⟩) | (go_at_call 19; (with_reducible refine (gf_Exp.calls (-230) t124 _ A14.out).mono ?_); rintro e w' ⟨rfl, ⟨nd, rfl⟩⟩) | (go_at_call 23; (with_reducible refine (gf_Scale.calls 2 (⟨#[128, 1]⟩ : ByteArray) t125 _ A16.out).mono ?_); rintro e w23 ⟨rfl, hb⟩; have n0_ := Aside0.mk (Kd.R_below (by (with_reducible repeat (first | apply Kd.R_alloc | apply Kd.R_drewN | apply Kd.R_drew)); exact HO120.out) hb); have n1_ := Aside0.mk (below_step (by repeat (first | (with_reducible first | exact HB.out | apply below_alloc | apply pw_below_drewN | apply below_drew1) | exact HB.out)) hb); clear HO120; clear HB; have HO120 := n0_; have HB := n1_; clear n0_ n1_; (try clear hb); (try clear hb2); (try clear hk); (try clear hi); have hcv24 := own_string (P := Try.prog) Try.underlying32 Try.underlying5 Try.underlying9 (Kd.own_of_R HO120.out)))
                    go_ret
                    exact ⟨by first | rfl | (simp [errW_none, errW_some] <;> rfl) | (simp [*, errW_none, errW_some] <;> rfl), by repeat (first | (with_reducible first | exact HB.out | apply below_alloc | apply pw_below_drewN | apply below_drew1) | exact HB.out)⟩
                  · rw [if_neg c17] at H
                    exact absurd H (by simp)
                · rw [if_neg c15] at H
                  exact absurd H (by simp)
              · rw [if_neg c13] at H
                exact absurd H (by simp)
            · rw [if_neg c11] at H
              exact absurd H (by simp)
          · rw [if_neg c10] at H
            exact absurd H (by simp)
        · rw [if_neg c9] at H
          exact absurd H (by simp)
      · rw [if_neg c8] at H
        exact absurd H (by simp)
    · rw [if_neg c7] at H
      exact absurd H (by simp)
  · rw [if_neg c6] at H
    exact absurd H (by simp)

/-! ### caulkref02_Exp: function 20 -/
mutual
def caulkref02_Exp.j0 : Nat → Int → Option (Int)
  | 0, _ => none
  | k + 1, x0 => caulkref02_Exp.l0 k x0 1 0
def caulkref02_Exp.l0 : Nat → Int → Int → Int → Option (Int)
  | 0, _, _, _ => none
  | k + 1, x0, x3, x4 => if x4 < x0 then ((caulkref02_Mul.f x3 2).bind fun t126 => (caulkref02_Exp.l0 k x0 t126 (wrap64 (x4 + 1)))) else (some x3)
end
def caulkref02_Exp.f (k : Nat) (a0 : Int) : Option (Int) := if (Int.tmod a0 255) < 0 then (caulkref02_Exp.j0 k (wrap64 ((Int.tmod a0 255) + 255))) else (caulkref02_Exp.j0 k (Int.tmod a0 255))
theorem caulkref02_Exp.mono_l : ∀ k, (∀ y0, LeO (caulkref02_Exp.j0 k y0) (caulkref02_Exp.j0 (k + 1) y0)) ∧ (∀ y0 y1 y2, LeO (caulkref02_Exp.l0 k y0 y1 y2) (caulkref02_Exp.l0 (k + 1) y0 y1 y2))
  | 0 => ⟨fun _ r h => by simp [caulkref02_Exp.j0] at h, fun _ _ _ r h => by simp [caulkref02_Exp.l0] at h⟩
  | k + 1 => by
    obtain ⟨ih0, ih1⟩ := caulkref02_Exp.mono_l k
    refine ⟨?_, ?_⟩
    · intro y0
      unfold caulkref02_Exp.j0
      repeat' first
      | (with_reducible exact ih0 _)
      | (with_reducible exact ih1 _ _ _)
      | (with_reducible exact LeO.refl _)
      | (with_reducible exact LeO.none _)
      | (with_reducible refine LeO.ite ?_ ?_)
      | (with_reducible refine LeO.bind ?_ (fun _ => ?_))
      | exact ih0 _
      | exact ih1 _ _ _
      | exact LeO.none _
      | refine LeO.ite ?_ ?_
      | refine LeO.bind ?_ (fun _ => ?_)
    · intro y0 y1 y2
      unfold caulkref02_Exp.l0
      repeat' first
      | (with_reducible exact ih0 _)
      | (with_reducible exact ih1 _ _ _)
      | (with_reducible exact LeO.refl _)
      | (with_reducible exact LeO.none _)
      | (with_reducible refine LeO.ite ?_ ?_)
      | (with_reducible refine LeO.bind ?_ (fun _ => ?_))
      | exact ih0 _
      | exact ih1 _ _ _
      | exact LeO.none _
      | refine LeO.ite ?_ ?_
      | refine LeO.bind ?_ (fun _ => ?_)
theorem caulkref02_Exp.mono : ∀ a0 k, LeO (caulkref02_Exp.f k a0) (caulkref02_Exp.f (k + 1) a0) := by
  intro a0 k
  obtain ⟨ih0, ih1⟩ := caulkref02_Exp.mono_l k
  unfold caulkref02_Exp.f
  repeat' first
      | (with_reducible exact ih0 _)
      | (with_reducible exact ih1 _ _ _)
      | (with_reducible exact LeO.refl _)
      | (with_reducible exact LeO.none _)
      | (with_reducible refine LeO.ite ?_ ?_)
      | (with_reducible refine LeO.bind ?_ (fun _ => ?_))
      | exact ih0 _
      | exact ih1 _ _ _
      | exact LeO.none _
      | refine LeO.ite ?_ ?_
      | refine LeO.bind ?_ (fun _ => ?_)
set_option maxHeartbeats 8000000 in
set_option maxRecDepth 100000 in
theorem caulkref02_Exp.calls (k : Nat) (a0 : Int) (r : Int) (w : World) (h : caulkref02_Exp.f k a0 = some r) :
    Calls Try.prog 20 #[.int .i64 a0] w fun e w' => e = .returned (.int .u8 r) ∧ Drawn0 w w' := by
  have H : (if (Int.tmod a0 255) < 0 then (caulkref02_Exp.j0 k (wrap64 ((Int.tmod a0 255) + 255))) else (caulkref02_Exp.j0 k (Int.tmod a0 255))) = some r := h
  clear h
  have HC2 := Aside0.mk H
  clear H
  go_enter Try.func20, Try.ntmps20
  go_upto_if 8 with (fail)
  go_cut [0] (fun v0 wc => ∃ (kq : Nat) (x0_1 : Int), v0 = .int .i64 x0_1 ∧ Aside0 (caulkref02_Exp.j0 kq x0_1 = some r) ∧ Aside0 (kq ≤ k) ∧ Drawn0 w wc)
  case first =>
    have H := HC2.out
    clear HC2
    by_cases c3 : (Int.tmod a0 255) < 0
    · rw [if_pos c3] at H
      have c3b0 : decide ((Int.tmod a0 255) < 0) = true := decide_eq_true c3
      clear c3
      (first | rw [c3b0] | (simp only [i64_w, i32_w]; rw [c3b0]) | skip)
      have H' := Aside0.mk H
      clear H
      go_wp2
      go_meet
      case rel => exact ⟨_, (wrap64 ((Int.tmod a0 255) + 255)), (by first | rfl | (simp; done) | (simp [*]; done)), H', ⟨by first | omega | exact Nat.le_refl _⟩, by repeat (first | exact Drawn0.refl _ | apply Drawn0.step)⟩
    · rw [if_neg c3] at H
      have c3b0 : decide ((Int.tmod a0 255) < 0) = false := decide_eq_false c3
      clear c3
      (first | rw [c3b0] | (simp only [i64_w, i32_w]; rw [c3b0]) | skip)
      have H' := Aside0.mk H
      clear H
      go_wp2
      go_meet
      case rel => exact ⟨_, (Int.tmod a0 255), (by first | rfl | (simp; done) | (simp [*]; done)), H', ⟨by first | omega | exact Nat.le_refl _⟩, by repeat (first | exact Drawn0.refl _ | apply Drawn0.step)⟩
  case rest =>
    clear HC2
    try clear c2
    try clear p2
    try clear c3
    try clear c3b0
    obtain ⟨kq, x0_1, rfl, HA, HJ1, ⟨mc1, rfl⟩⟩ := hcut
    cases kq with
    | zero => exact absurd HA.out (by simp [caulkref02_Exp.j0])
    | succ kj1 =>
      have H := HA.out
      clear HA
      simp only [caulkref02_Exp.j0] at H
      have H' := Aside0.mk H
      clear H
      go_wp2
      go_loopg [3, 4] kj1 (fun kq v3 v4 w' => ∃ (x3_2 : Int) (x4_2 : Int), v3 = .int .u8 x3_2 ∧ v4 = .int .i64 x4_2 ∧ Aside0 (caulkref02_Exp.l0 kq x0_1 x3_2 x4_2 = some r) ∧ Aside0 (kq ≤ kj1) ∧ Drawn0 w w')
      case atStart => exact ⟨(1), (0), (by first | rfl | (simp; done) | (simp [*]; done)), (by first | rfl | (simp; done) | (simp [*]; done)), H', ⟨Nat.le_refl _⟩, by repeat (first | exact Drawn0.refl _ | apply Drawn0.step)⟩
      case round =>
        clear H'
        try clear c1
        try clear c2
        try clear p2
        try clear c3
        try clear c3b0
        try clear p2
        obtain ⟨x3_2, x4_2, rfl, rfl, HA, HK2, ⟨m2, rfl⟩⟩ := hrel
        cases gk with
        | zero => exact absurd HA.out (by simp [caulkref02_Exp.l0])
        | succ k2 =>
          have H := HA.out
          clear HA
          simp only [caulkref02_Exp.l0] at H
          by_cases c4 : x4_2 < x0_1
          · rw [if_pos c4] at H
            have c4b0 : decide (x4_2 < x0_1) = true := decide_eq_true c4
            clear c4
            replace H := Option.bind_eq_some_iff.mp H
            obtain ⟨t126, A50, H⟩ := H
            replace H : (caulkref02_Exp.l0 k2 x0_1 t126 (wrap64 (x4_2 + 1))) = some r := H
            have A5 := Aside0.mk A50
            clear A50
            have H' := Aside0.mk H
            clear H
            go_wp2_with (first | ((with_reducible refine gate_callee (f := 18) rfl ?_); refine goesL_ (some 17) rfl rfl Try.func18 (by kernel_rfl) rfl #[.int .u8 x3_2, .int .u8 2] rfl (by (try simp only [List.map_toArray, List.map_cons, List.map_nil]); first | done | rfl | (simp only [List.length_drop, List.length_take]; rfl)) ?_; (with_reducible refine (caulkref02_Mul.calls x3_2 2 t126 _ A5.out).mono ?_); rintro e w' ⟨rfl, ⟨nd, rfl⟩⟩; refine ⟨_, rfl, ?_⟩))
            go_roundg k2
            case measure => have := HJ1.out; have := HK2.out; omega
            case rel => exact ⟨(t126), (wrap64 (x4_2 + 1)), (by first | rfl | (simp; done) | (simp [*]; done)), (by first | rfl | (simp; done) | (simp [*]; done)), H', ⟨by have := HJ1.out; have := HK2.out; omega⟩, by repeat (first | exact Drawn0.refl _ | apply Drawn0.step)⟩
          · rw [if_neg c4] at H
            have c4b0 : decide (x4_2 < x0_1) = false := decide_eq_false c4
            clear c4
            obtain rfl := Option.some.inj H
            go_wp2
            go_ret
            exact ⟨by first | rfl | (simp; done) | (simp [*]; done), by repeat (first | exact Drawn0.refl _ | apply Drawn0.step)⟩

/-! ### caulklaw02_GfTells: function 3 -/
def caulklaw02_GfTells.f (k : Nat) (a0 : Int) (a1 : Int) (a2 : Int) : Option (Bool) := (gf_Inv.f a0).bind fun bt127 => ((caulkref02_Inv.f k a0).bind fun bt129 => ((gf_Div.f a0 a1).bind fun bt131 => ((caulkref02_Div.f k a0 a1).bind fun bt133 => ((gf_Log.f a0).bind fun bt135 => ((caulkref02_Log.f k a0).bind fun bt137 => ((caulklaw02_lives.f).bind fun t139 => (if t139 = true then ((gf_Mul.f a0 a1).bind fun t140 => ((caulkref02_Mul.f a0 a1).bind fun t141 => (if t140 = t141 then (if bt127.1 = bt129.1 then (if bt127.2 = bt129.2 then (if bt131.1 = bt133.1 then (if bt131.2 = bt133.2 then ((gf_Exp.f a2).bind fun t142 => ((caulkref02_Exp.f k a2).bind fun t143 => (if t142 = t143 then (if bt135.1 = bt137.1 then (some (bt135.2 == bt137.2)) else (none)) else (none)))) else (none)) else (none)) else (none)) else (none)) else (none)))) else (none))))))))
theorem caulklaw02_GfTells.mono : ∀ a0 a1 a2 k, LeO (caulklaw02_GfTells.f k a0 a1 a2) (caulklaw02_GfTells.f (k + 1) a0 a1 a2) := by
  intro a0 a1 a2 k
  unfold caulklaw02_GfTells.f
  repeat' first
      | (with_reducible exact caulkref02_Div.mono _ _ _)
      | (with_reducible exact caulkref02_Exp.mono _ _)
      | (with_reducible exact caulkref02_Inv.mono _ _)
      | (with_reducible exact caulkref02_Log.mono _ _)
      | (with_reducible exact LeO.refl _)
      | (with_reducible exact LeO.none _)
      | (with_reducible refine LeO.ite ?_ ?_)
      | (with_reducible refine LeO.bind ?_ (fun _ => ?_))
      | exact caulkref02_Div.mono _ _ _
      | exact caulkref02_Exp.mono _ _
      | exact caulkref02_Inv.mono _ _
      | exact caulkref02_Log.mono _ _
      | exact LeO.none _
      | refine LeO.ite ?_ ?_
      | refine LeO.bind ?_ (fun _ => ?_)
set_option maxHeartbeats 8000000 in
set_option maxRecDepth 100000 in
theorem caulklaw02_GfTells.calls (k : Nat) (a0 : Int) (a1 : Int) (a2 : Int) (r : Bool) (w : World) (h : caulklaw02_GfTells.f k a0 a1 a2 = some r) :
    Calls Try.prog 3 #[.int .u8 a0, .int .u8 a1, .int .i64 a2] w fun e w' => e = .returned (.bool r) ∧ Below w.heap.size w w' := by
  have HB := Aside0.mk (Below.refl w.heap.size w)
  have H : ((gf_Inv.f a0).bind fun bt127 => ((caulkref02_Inv.f k a0).bind fun bt129 => ((gf_Div.f a0 a1).bind fun bt131 => ((caulkref02_Div.f k a0 a1).bind fun bt133 => ((gf_Log.f a0).bind fun bt135 => ((caulkref02_Log.f k a0).bind fun bt137 => ((caulklaw02_lives.f).bind fun t139 => (if t139 = true then ((gf_Mul.f a0 a1).bind fun t140 => ((caulkref02_Mul.f a0 a1).bind fun t141 => (if t140 = t141 then (if bt127.1 = bt129.1 then (if bt127.2 = bt129.2 then (if bt131.1 = bt133.1 then (if bt131.2 = bt133.2 then ((gf_Exp.f a2).bind fun t142 => ((caulkref02_Exp.f k a2).bind fun t143 => (if t142 = t143 then (if bt135.1 = bt137.1 then (some (bt135.2 == bt137.2)) else (none)) else (none)))) else (none)) else (none)) else (none)) else (none)) else (none)))) else (none))))))))) = some r := h
  clear h
  replace H := Option.bind_eq_some_iff.mp H
  obtain ⟨⟨t127, t128⟩, A40, H⟩ := H
  replace H : ((caulkref02_Inv.f k a0).bind fun bt129 => ((gf_Div.f a0 a1).bind fun bt131 => ((caulkref02_Div.f k a0 a1).bind fun bt133 => ((gf_Log.f a0).bind fun bt135 => ((caulkref02_Log.f k a0).bind fun bt137 => ((caulklaw02_lives.f).bind fun t139 => (if t139 = true then ((gf_Mul.f a0 a1).bind fun t140 => ((caulkref02_Mul.f a0 a1).bind fun t141 => (if t140 = t141 then (if t127 = bt129.1 then (if t128 = bt129.2 then (if bt131.1 = bt133.1 then (if bt131.2 = bt133.2 then ((gf_Exp.f a2).bind fun t142 => ((caulkref02_Exp.f k a2).bind fun t143 => (if t142 = t143 then (if bt135.1 = bt137.1 then (some (bt135.2 == bt137.2)) else (none)) else (none)))) else (none)) else (none)) else (none)) else (none)) else (none)))) else (none)))))))) = some r := H
  have A4 := Aside0.mk A40
  clear A40
  replace H := Option.bind_eq_some_iff.mp H
  obtain ⟨⟨t129, t130⟩, A50, H⟩ := H
  replace H : ((gf_Div.f a0 a1).bind fun bt131 => ((caulkref02_Div.f k a0 a1).bind fun bt133 => ((gf_Log.f a0).bind fun bt135 => ((caulkref02_Log.f k a0).bind fun bt137 => ((caulklaw02_lives.f).bind fun t139 => (if t139 = true then ((gf_Mul.f a0 a1).bind fun t140 => ((caulkref02_Mul.f a0 a1).bind fun t141 => (if t140 = t141 then (if t127 = t129 then (if t128 = t130 then (if bt131.1 = bt133.1 then (if bt131.2 = bt133.2 then ((gf_Exp.f a2).bind fun t142 => ((caulkref02_Exp.f k a2).bind fun t143 => (if t142 = t143 then (if bt135.1 = bt137.1 then (some (bt135.2 == bt137.2)) else (none)) else (none)))) else (none)) else (none)) else (none)) else (none)) else (none)))) else (none))))))) = some r := H
  have A5 := Aside0.mk A50
  clear A50
  replace H := Option.bind_eq_some_iff.mp H
  obtain ⟨⟨t131, t132⟩, A60, H⟩ := H
  replace H : ((caulkref02_Div.f k a0 a1).bind fun bt133 => ((gf_Log.f a0).bind fun bt135 => ((caulkref02_Log.f k a0).bind fun bt137 => ((caulklaw02_lives.f).bind fun t139 => (if t139 = true then ((gf_Mul.f a0 a1).bind fun t140 => ((caulkref02_Mul.f a0 a1).bind fun t141 => (if t140 = t141 then (if t127 = t129 then (if t128 = t130 then (if t131 = bt133.1 then (if t132 = bt133.2 then ((gf_Exp.f a2).bind fun t142 => ((caulkref02_Exp.f k a2).bind fun t143 => (if t142 = t143 then (if bt135.1 = bt137.1 then (some (bt135.2 == bt137.2)) else (none)) else (none)))) else (none)) else (none)) else (none)) else (none)) else (none)))) else (none)))))) = some r := H
  have A6 := Aside0.mk A60
  clear A60
  replace H := Option.bind_eq_some_iff.mp H
  obtain ⟨⟨t133, t134⟩, A70, H⟩ := H
  replace H : ((gf_Log.f a0).bind fun bt135 => ((caulkref02_Log.f k a0).bind fun bt137 => ((caulklaw02_lives.f).bind fun t139 => (if t139 = true then ((gf_Mul.f a0 a1).bind fun t140 => ((caulkref02_Mul.f a0 a1).bind fun t141 => (if t140 = t141 then (if t127 = t129 then (if t128 = t130 then (if t131 = t133 then (if t132 = t134 then ((gf_Exp.f a2).bind fun t142 => ((caulkref02_Exp.f k a2).bind fun t143 => (if t142 = t143 then (if bt135.1 = bt137.1 then (some (bt135.2 == bt137.2)) else (none)) else (none)))) else (none)) else (none)) else (none)) else (none)) else (none)))) else (none))))) = some r := H
  have A7 := Aside0.mk A70
  clear A70
  replace H := Option.bind_eq_some_iff.mp H
  obtain ⟨⟨t135, t136⟩, A80, H⟩ := H
  replace H : ((caulkref02_Log.f k a0).bind fun bt137 => ((caulklaw02_lives.f).bind fun t139 => (if t139 = true then ((gf_Mul.f a0 a1).bind fun t140 => ((caulkref02_Mul.f a0 a1).bind fun t141 => (if t140 = t141 then (if t127 = t129 then (if t128 = t130 then (if t131 = t133 then (if t132 = t134 then ((gf_Exp.f a2).bind fun t142 => ((caulkref02_Exp.f k a2).bind fun t143 => (if t142 = t143 then (if t135 = bt137.1 then (some (t136 == bt137.2)) else (none)) else (none)))) else (none)) else (none)) else (none)) else (none)) else (none)))) else (none)))) = some r := H
  have A8 := Aside0.mk A80
  clear A80
  replace H := Option.bind_eq_some_iff.mp H
  obtain ⟨⟨t137, t138⟩, A90, H⟩ := H
  replace H : ((caulklaw02_lives.f).bind fun t139 => (if t139 = true then ((gf_Mul.f a0 a1).bind fun t140 => ((caulkref02_Mul.f a0 a1).bind fun t141 => (if t140 = t141 then (if t127 = t129 then (if t128 = t130 then (if t131 = t133 then (if t132 = t134 then ((gf_Exp.f a2).bind fun t142 => ((caulkref02_Exp.f k a2).bind fun t143 => (if t142 = t143 then (if t135 = t137 then (some (t136 == t138)) else (none)) else (none)))) else (none)) else (none)) else (none)) else (none)) else (none)))) else (none))) = some r := H
  have A9 := Aside0.mk A90
  clear A90
  replace H := Option.bind_eq_some_iff.mp H
  obtain ⟨t139, A100, H⟩ := H
  replace H : (if t139 = true then ((gf_Mul.f a0 a1).bind fun t140 => ((caulkref02_Mul.f a0 a1).bind fun t141 => (if t140 = t141 then (if t127 = t129 then (if t128 = t130 then (if t131 = t133 then (if t132 = t134 then ((gf_Exp.f a2).bind fun t142 => ((caulkref02_Exp.f k a2).bind fun t143 => (if t142 = t143 then (if t135 = t137 then (some (t136 == t138)) else (none)) else (none)))) else (none)) else (none)) else (none)) else (none)) else (none)))) else (none)) = some r := H
  have A10 := Aside0.mk A100
  clear A100
  by_cases c11 : t139 = true
  · subst c11
    have H1 : ((gf_Mul.f a0 a1).bind fun t140 => ((caulkref02_Mul.f a0 a1).bind fun t141 => (if t140 = t141 then (if t127 = t129 then (if t128 = t130 then (if t131 = t133 then (if t132 = t134 then ((gf_Exp.f a2).bind fun t142 => ((caulkref02_Exp.f k a2).bind fun t143 => (if t142 = t143 then (if t135 = t137 then (some (t136 == t138)) else (none)) else (none)))) else (none)) else (none)) else (none)) else (none)) else (none)))) = some r := by rw [if_pos rfl] at H; exact H
    clear H
    have H := H1
    clear H1
    replace H := Option.bind_eq_some_iff.mp H
    obtain ⟨t140, A120, H⟩ := H
    replace H : ((caulkref02_Mul.f a0 a1).bind fun t141 => (if t140 = t141 then (if t127 = t129 then (if t128 = t130 then (if t131 = t133 then (if t132 = t134 then ((gf_Exp.f a2).bind fun t142 => ((caulkref02_Exp.f k a2).bind fun t143 => (if t142 = t143 then (if t135 = t137 then (some (t136 == t138)) else (none)) else (none)))) else (none)) else (none)) else (none)) else (none)) else (none))) = some r := H
    have A12 := Aside0.mk A120
    clear A120
    replace H := Option.bind_eq_some_iff.mp H
    obtain ⟨t141, A130, H⟩ := H
    replace H : (if t140 = t141 then (if t127 = t129 then (if t128 = t130 then (if t131 = t133 then (if t132 = t134 then ((gf_Exp.f a2).bind fun t142 => ((caulkref02_Exp.f k a2).bind fun t143 => (if t142 = t143 then (if t135 = t137 then (some (t136 == t138)) else (none)) else (none)))) else (none)) else (none)) else (none)) else (none)) else (none)) = some r := H
    have A13 := Aside0.mk A130
    clear A130
    by_cases c14 : t140 = t141
    · rw [if_pos c14] at H
      have c14b0 : (t140 == t141) = true := beq_iff_eq.mpr c14
      have c14b1 : (t140 != t141) = false := bne_eq_false_iff_eq.mpr c14
      clear c14
      by_cases c15 : t127 = t129
      · rw [if_pos c15] at H
        have c15b0 : (t127 == t129) = true := beq_iff_eq.mpr c15
        have c15b1 : (t127 != t129) = false := bne_eq_false_iff_eq.mpr c15
        clear c15
        by_cases c16 : t128 = t130
        · rw [if_pos c16] at H
          have c16b0 : (t128 == t130) = true := beq_iff_eq.mpr c16
          have c16b1 : (t128 != t130) = false := bne_eq_false_iff_eq.mpr c16
          clear c16
          by_cases c17 : t131 = t133
          · rw [if_pos c17] at H
            have c17b0 : (t131 == t133) = true := beq_iff_eq.mpr c17
            have c17b1 : (t131 != t133) = false := bne_eq_false_iff_eq.mpr c17
            clear c17
            by_cases c18 : t132 = t134
            · rw [if_pos c18] at H
              have c18b0 : (t132 == t134) = true := beq_iff_eq.mpr c18
              have c18b1 : (t132 != t134) = false := bne_eq_false_iff_eq.mpr c18
              clear c18
              replace H := Option.bind_eq_some_iff.mp H
              obtain ⟨t142, A190, H⟩ := H
              replace H : ((caulkref02_Exp.f k a2).bind fun t143 => (if t142 = t143 then (if t135 = t137 then (some (t136 == t138)) else (none)) else (none))) = some r := H
              have A19 := Aside0.mk A190
              clear A190
              replace H := Option.bind_eq_some_iff.mp H
              obtain ⟨t143, A200, H⟩ := H
              replace H : (if t142 = t143 then (if t135 = t137 then (some (t136 == t138)) else (none)) else (none)) = some r := H
              have A20 := Aside0.mk A200
              clear A200
              by_cases c21 : t142 = t143
              · rw [if_pos c21] at H
                have c21b0 : (t142 == t143) = true := beq_iff_eq.mpr c21
                have c21b1 : (t142 != t143) = false := bne_eq_false_iff_eq.mpr c21
                clear c21
                by_cases c22 : t135 = t137
                · rw [if_pos c22] at H
                  have c22b0 : (t135 == t137) = true := beq_iff_eq.mpr c22
                  have c22b1 : (t135 != t137) = false := bne_eq_false_iff_eq.mpr c22
                  clear c22
                  obtain rfl := Option.some.inj H
                  go_enter Try.func3, Try.ntmps3
                  go_wp2_with (first | ((with_reducible refine gate_callee (f := 10) rfl ?_); refine goesL_ (some 21) rfl rfl Try.func10 (by kernel_rfl) rfl #[.int .u8 a0] rfl (by (try simp only [List.map_toArray, List.map_cons, List.map_nil]); first | done | rfl | (simp only [List.length_drop, List.length_take]; rfl)) ?_; (with_reducible refine (gf_Inv.calls a0 t127 t128 _ A4.out).mono ?_); rintro e w' ⟨rfl, ⟨nd, rfl⟩⟩; refine ⟨_, rfl, ?_⟩) | ((with_reducible refine gate_callee (f := 11) rfl ?_); refine goesL_ (some 26) rfl rfl Try.func11 (by kernel_rfl) rfl #[.int .u8 a0] rfl (by (try simp only [List.map_toArray, List.map_cons, List.map_nil]); first | done | rfl | (simp only [List.length_drop, List.length_take]; rfl)) ?_; (with_reducible refine (caulkref02_Inv.calls k a0 t129 t130 _ A5.out).mono ?_); rintro e w' ⟨rfl, ⟨nd, rfl⟩⟩; refine ⟨_, rfl, ?_⟩) | ((with_reducible refine gate_callee (f := 12) rfl ?_); refine goesL_ (some 32) rfl rfl Try.func12 (by kernel_rfl) rfl #[.int .u8 a0, .int .u8 a1] rfl (by (try simp only [List.map_toArray, List.map_cons, List.map_nil]); first | done | rfl | (simp only [List.length_drop, List.length_take]; rfl)) ?_; (with_reducible refine (gf_Div.calls a0 a1 t131 t132 _ A6.out).mono ?_); rintro e w' ⟨rfl, ⟨nd, rfl⟩⟩; refine ⟨_, rfl, ?_⟩) | ((with_reducible refine gate_callee (f := 13) rfl ?_); refine goesL_ (some 38) rfl rfl Try.func13 (by kernel_rfl) rfl #[.int .u8 a0, .int .u8 a1] rfl (by (try simp only [List.map_toArray, List.map_cons, List.map_nil]); first | done | rfl | (simp only [List.length_drop, List.length_take]; rfl)) ?_; (with_reducible refine (caulkref02_Div.calls k a0 a1 t133 t134 _ A7.out).mono ?_); rintro e w' ⟨rfl, ⟨nd, rfl⟩⟩; refine ⟨_, rfl, ?_⟩) | ((with_reducible refine gate_callee (f := 14) rfl ?_); refine goesL_ (some 43) rfl rfl Try.func14 (by kernel_rfl) rfl #[.int .u8 a0] rfl (by (try simp only [List.map_toArray, List.map_cons, List.map_nil]); first | done | rfl | (simp only [List.length_drop, List.length_take]; rfl)) ?_; (with_reducible refine (gf_Log.calls a0 t135 t136 _ A8.out).mono ?_); rintro e w23 ⟨rfl, hb⟩; refine ⟨_, rfl, ?_⟩; have n0_ := Aside0.mk (below_step (by repeat (first | (with_reducible first | exact HB.out | apply below_alloc | apply pw_below_drewN | apply below_drew1) | exact HB.out)) hb); clear HB; have HB := n0_; clear n0_; (try clear hb); (try clear hb2); (try clear hk); (try clear hi)) | ((with_reducible refine gate_callee (f := 15) rfl ?_); refine goesL_ (some 48) rfl rfl Try.func15 (by kernel_rfl) rfl #[.int .u8 a0] rfl (by (try simp only [List.map_toArray, List.map_cons, List.map_nil]); first | done | rfl | (simp only [List.length_drop, List.length_take]; rfl)) ?_; (with_reducible refine (caulkref02_Log.calls k a0 t137 t138 _ A9.out).mono ?_); rintro e w' ⟨rfl, ⟨nd, rfl⟩⟩; refine ⟨_, rfl, ?_⟩) | ((with_reducible refine gate_callee (f := 16) rfl ?_); refine goesL_ (some 51) rfl rfl Try.func16 (by kernel_rfl) rfl #[] rfl (by (try simp only [List.map_toArray, List.map_cons, List.map_nil]); first | done | rfl | (simp only [List.length_drop, List.length_take]; rfl)) ?_; (with_reducible refine (caulklaw02_lives.calls  true _ A10.out).mono ?_); rintro e w24 ⟨rfl, hb⟩; refine ⟨_, rfl, ?_⟩; have n0_ := Aside0.mk (below_step (by repeat (first | (with_reducible first | exact HB.out | apply below_alloc | apply pw_below_drewN | apply below_drew1) | exact HB.out)) hb); clear HB; have HB := n0_; clear n0_; (try clear hb); (try clear hb2); (try clear hk); (try clear hi)) | (go_at_call 17; (with_reducible refine (gf_Mul.calls a0 a1 t140 _ A12.out).mono ?_); rintro e w' ⟨rfl, ⟨nd, rfl⟩⟩) | (go_at_call 18; (with_reducible refine (caulkref02_Mul.calls a0 a1 t141 _ A13.out).mono ?_); rintro e w' ⟨rfl, ⟨nd, rfl⟩⟩) | (go_at_call 19; (with_reducible refine (gf_Exp.calls a2 t142 _ A19.out).mono ?_); rintro e w' ⟨rfl, ⟨nd, rfl⟩⟩) | (go_at_call 20; (with_reducible refine (caulkref02_Exp.calls k a2 t143 _ A20.out).mono ?_); rintro e w' ⟨rfl, ⟨nd, rfl⟩⟩))
                  go_ret
                  exact ⟨by first | rfl | (simp [errW_none, errW_some] <;> rfl) | (simp [*, errW_none, errW_some] <;> rfl), by repeat (first | (with_reducible first | exact HB.out | apply below_alloc | apply pw_below_drewN | apply below_drew1) | exact HB.out)⟩
                · rw [if_neg c22] at H
                  exact absurd H (by simp)
              · rw [if_neg c21] at H
                exact absurd H (by simp)
            · rw [if_neg c18] at H
              exact absurd H (by simp)
          · rw [if_neg c17] at H
            exact absurd H (by simp)
        · rw [if_neg c16] at H
          exact absurd H (by simp)
      · rw [if_neg c15] at H
        exact absurd H (by simp)
    · rw [if_neg c14] at H
      exact absurd H (by simp)
  · replace c11 := Bool.eq_false_iff.mpr c11
    subst c11
    have H1 : (none) = some r := by rw [if_neg (show ¬ (false = true) by decide)] at H; exact H
    clear H
    have H := H1
    clear H1
    exact absurd H (by simp)

def caulklaw02_GfTells.Pure : Prop := ∀ (a0 : Int) (a1 : Int) (a2 : Int), (Lit.int .u8 a0).wf = true → (Lit.int .u8 a1).wf = true → (Lit.int .i64 a2).wf = true → ∃ k, caulklaw02_GfTells.f k a0 a1 a2 = some true

/-! ### caulkref02_Scale: function 22 -/
def caulkref02_Scale.l0 : Nat → Int → ByteArray → List Int → Int → Option (ByteArray)
  | 0, _, _, _, _ => none
  | k + 1, x0, x1, x5, x6 => if x6 < (x1.size : Int) then (if 0 ≤ x6 then ((caulkref02_Mul.f x0 (bt x1 x6)).bind fun t144 => (if x5.length < 140737488355328 then (caulkref02_Scale.l0 k x0 x1 (x5 ++ [t144]) (wrap64 (x6 + 1))) else (none))) else (none)) else (some (strOfNums x5))
def caulkref02_Scale.f (k : Nat) (a0 : Int) (a1 : ByteArray) : Option (ByteArray) := caulkref02_Scale.l0 k a0 a1 ([] : List Int) 0
theorem caulkref02_Scale.mono_l : ∀ k, (∀ y0 y1 y2 y3, LeO (caulkref02_Scale.l0 k y0 y1 y2 y3) (caulkref02_Scale.l0 (k + 1) y0 y1 y2 y3))
  | 0 => fun _ _ _ _ r h => by simp [caulkref02_Scale.l0] at h
  | k + 1 => by
    have ih0 := caulkref02_Scale.mono_l k
    · intro y0 y1 y2 y3
      unfold caulkref02_Scale.l0
      repeat' first
      | (with_reducible exact ih0 _ _ _ _)
      | (with_reducible exact LeO.refl _)
      | (with_reducible exact LeO.none _)
      | (with_reducible refine LeO.ite ?_ ?_)
      | (with_reducible refine LeO.bind ?_ (fun _ => ?_))
      | exact ih0 _ _ _ _
      | exact LeO.none _
      | refine LeO.ite ?_ ?_
      | refine LeO.bind ?_ (fun _ => ?_)
theorem caulkref02_Scale.mono : ∀ a0 a1 k, LeO (caulkref02_Scale.f k a0 a1) (caulkref02_Scale.f (k + 1) a0 a1) := by
  intro a0 a1 k
  have ih0 := caulkref02_Scale.mono_l k
  unfold caulkref02_Scale.f
  repeat' first
      | (with_reducible exact ih0 _ _ _ _)
      | (with_reducible exact LeO.refl _)
      | (with_reducible exact LeO.none _)
      | (with_reducible refine LeO.ite ?_ ?_)
      | (with_reducible refine LeO.bind ?_ (fun _ => ?_))
      | exact ih0 _ _ _ _
      | exact LeO.none _
      | refine LeO.ite ?_ ?_
      | refine LeO.bind ?_ (fun _ => ?_)
set_option maxHeartbeats 8000000 in
set_option maxRecDepth 100000 in
theorem caulkref02_Scale.calls (k : Nat) (a0 : Int) (a1 : ByteArray) (r : ByteArray) (w : World) (h : caulkref02_Scale.f k a0 a1 = some r) :
    Calls Try.prog 22 #[.int .u8 a0, .string a1] w fun e w' => e = .returned (.string r) ∧ Below w.heap.size w w' := by
  have HB := Aside0.mk (Below.refl w.heap.size w)
  have H : (caulkref02_Scale.l0 k a0 a1 ([] : List Int) 0) = some r := h
  clear h
  have H' := Aside0.mk H
  clear H
  go_enter Try.func22, Try.ntmps22
  go_wp2
  go_loopg [5, 6] k (fun kq v5 v6 w' => ∃ (x5_1 : List Int) (x6_1 : Int), v6 = .int .i64 x6_1 ∧ Aside0 (caulkref02_Scale.l0 kq a0 a1 x5_1 x6_1 = some r) ∧ Aside0 (kq ≤ k) ∧ Aside0 (Kd.R (Kd.int .u8) 5 w' w.heap.size (fun _ => True) v5 x5_1) ∧ Aside0 (Below w.heap.size w w'))
  case atStart => exact ⟨(([] : List Int)), (0), (by first | rfl | (simp; done) | (simp [*]; done)), H', ⟨Nat.le_refl _⟩, ⟨by first | exact Kd.R_nil _ _ _ _ _ | exact Kd.N_nil _ _ _ _ _ | exact Kd.V_nil _ _ _ _ _ | exact Kd.Q_nil _ _ _ _ _ | exact Kd.S_nil _ _ _ _ _⟩, ⟨by repeat (first | (with_reducible first | exact HB.out | apply below_alloc | apply pw_below_drewN | apply below_drew1) | exact HB.out)⟩⟩
  case round =>
    clear H'
    try clear c2
    try clear p2
    obtain ⟨x5_1, x6_1, rfl, HA, HK1, HO_5, HB⟩ := hrel
    cases gk with
    | zero => exact absurd HA.out (by simp [caulkref02_Scale.l0])
    | succ k1 =>
      have H := HA.out
      clear HA
      simp only [caulkref02_Scale.l0] at H
      by_cases c3 : x6_1 < (a1.size : Int)
      · rw [if_pos c3] at H
        have c3b0 : decide (x6_1 < (a1.size : Int)) = true := decide_eq_true c3
        clear c3
        by_cases c4 : 0 ≤ x6_1
        · rw [if_pos c4] at H
          have c4b0 : decide (0 ≤ x6_1) = true := decide_eq_true c4
          clear c4
          replace H := Option.bind_eq_some_iff.mp H
          obtain ⟨t144, A60, H⟩ := H
          replace H : (if x5_1.length < 140737488355328 then (caulkref02_Scale.l0 k1 a0 a1 (x5_1 ++ [t144]) (wrap64 (x6_1 + 1))) else (none)) = some r := H
          have A6 := Aside0.mk A60
          clear A60
          by_cases c7 : x5_1.length < 140737488355328
          · rw [if_pos c7] at H
            have LMc7 := Aside0.mk c7
            clear c7
            obtain ⟨y145, hy145⟩ : ∃ y_ : List Int, y_ = (x5_1 ++ [t144]) := ⟨_, rfl⟩
            replace H : (caulkref02_Scale.l0 k1 a0 a1 y145 (wrap64 (x6_1 + 1))) = some r := by first | (rw [hy145]; with_reducible exact H) | (have H2_ := (Option.bind_some _ _).symm.trans H; rw [hy145]; with_reducible exact H2_) | (have H2_ := (Option.bind_some _ _).symm.trans H; with_reducible exact H2_) | with_reducible exact H | (rw [hy145]; exact H) | exact H
            have Ny145 := Aside0.mk hy145
            clear hy145
            have H' := Aside0.mk H
            clear H
            have p5 : 0 ≤ (x6_1 : Int) := of_decide_eq_true (by first | (with_reducible assumption) | assumption)
            have q5 : x6_1 < (a1.size : Int) := of_decide_eq_true (by first | (with_reducible assumption) | assumption)
            have hx5 := bt_at a1 x6_1
            replace p5 := eq_true p5
            replace q5 := eq_true q5
            go_wp2_with (first | ((with_reducible refine gate_callee (f := 18) rfl ?_); refine goesL_ (some 18) rfl rfl Try.func18 (by kernel_rfl) rfl #[.int .u8 a0, .int .u8 (bt a1 x6_1)] rfl (by (try simp only [List.map_toArray, List.map_cons, List.map_nil]); first | done | rfl | (simp only [List.length_drop, List.length_take]; rfl)) ?_; (with_reducible refine (caulkref02_Mul.calls a0 (bt a1 x6_1) t144 _ A6.out).mono ?_); rintro e w' ⟨rfl, ⟨nd, rfl⟩⟩; refine ⟨_, rfl, ?_⟩) | ((with_reducible refine gate_builtin (b := .append) (xs := #[.tmp 13, .tmp 19]) rfl ?_); at_builtin; refine Kd.R_append (Kd.int .u8) (w0 := w) w.heap.size rfl (.tmp 13) (.tmp 19) 32 5 (.int .u8 0) 1 rfl Try.underlying32 info5 rfl (by decide) (by omega) u5 x5_1 t144 [.int .u8 t144] (fun _ => True) (fun _ => False) rfl rfl ?aP (fun _ hk => hk.elim) ?aF ?aO ?aB ?aS ?aL ?_; (case aP => exact rfl); (case aB => exact (by repeat (first | (with_reducible first | exact HB.out | apply below_alloc | apply pw_below_drewN | apply below_drew1) | exact HB.out))); (case aF => exact (fun _ _ => trivial)); (case aO => exact (by (with_reducible repeat (first | apply Kd.R_alloc | apply Kd.R_drewN | apply Kd.R_drew)); exact HO_5.out)); (case aS => exact (below_size (by repeat (first | (with_reducible first | exact HB.out | apply below_alloc | apply pw_below_drewN | apply below_drew1) | exact HB.out)))); (case aL => have := LMc7.out; omega); intro v146 w8 ho hb hg hat; rw [← Ny145.out] at ho; have n0_ := Aside0.mk (hb); have n1_ := Aside0.mk (ho); clear HB; clear HO_5; have HB := n0_; have HO147 := n1_; clear n0_ n1_; clear ho hb hg hat))
            go_roundg k1
            case measure => have := HK1.out; omega
            case rel => exact ⟨(y145), (wrap64 (x6_1 + 1)), (by first | rfl | (simp; done) | (simp [*]; done)), H', ⟨by have := HK1.out; omega⟩, ⟨by (with_reducible repeat (first | apply Kd.R_alloc | apply Kd.R_drewN | apply Kd.R_drew)); exact HO147.out⟩, ⟨by repeat (first | (with_reducible first | exact HB.out | apply below_alloc | apply pw_below_drewN | apply below_drew1) | exact HB.out)⟩⟩
          · rw [if_neg c7] at H
            exact absurd H (by simp)
        · rw [if_neg c4] at H
          exact absurd H (by simp)
      · rw [if_neg c3] at H
        have c3b0 : decide (x6_1 < (a1.size : Int)) = false := decide_eq_false c3
        clear c3
        obtain rfl := Option.some.inj H
        have hcv9 := own_string (P := Try.prog) Try.underlying32 Try.underlying5 Try.underlying9 (Kd.own_of_R HO_5.out)
        go_wp2
        go_ret
        exact ⟨by first | rfl | (simp [errW_none, errW_some] <;> rfl) | (simp [*, errW_none, errW_some] <;> rfl), by repeat (first | (with_reducible first | exact HB.out | apply below_alloc | apply pw_below_drewN | apply below_drew1) | exact HB.out)⟩

end Go.Proofs.Ytgiljibkjccgfab.G
