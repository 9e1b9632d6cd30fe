-- Written by a program of this session over the print of the translation (its own patch, foreign contracts, cut ways): not trusted: Lean checks it.
import Derived.Test.YtegfembmnnmnbabDoorGx0
import Derived.Test.YtegfembmnnmnbabDoorCrcAdd
namespace Go.Proofs.YtegfembmnnmnbabDoor.G
open Go.RowKit Go.Proofs.YtegfembmnnmnbabDoorW.PrintWords Go.Proofs.YtegfembmnnmnbabDoorW.PrintLast Go.Proofs.YtegfembmnnmnbabDoorW.PrintMore
attribute [local go_sem] max2_int min2_int max_two min_two max_three min_three max_four min_four   -- for this text's walks alone
set_option linter.unusedVariables false
set_option linter.unusedSimpArgs false

/-! ### combine_mul: function 18 -/
def combine_mul.l0 : Nat → Int → Int → Int → Option (Int)
  | 0, _, _, _ => none
  | k + 1, x0, x1, x5 => if x0 = 0 then (some x5) else (if (Go.bits .and .u32 x0 2147483648) = 0 then (combine_mul.l0 k ((x0 * 2) % 4294967296) (Go.bits .xor .u32 (x1 / 2) (Go.bits .and .u32 2197175160 ((-(Go.bits .and .u32 x1 1)) % 4294967296))) x5) else (combine_mul.l0 k ((x0 * 2) % 4294967296) (Go.bits .xor .u32 (x1 / 2) (Go.bits .and .u32 2197175160 ((-(Go.bits .and .u32 x1 1)) % 4294967296))) (Go.bits .xor .u32 x5 x1)))
def combine_mul.f (k : Nat) (a0 : Int) (a1 : Int) : Option (Int) := combine_mul.l0 k a0 a1 0
theorem combine_mul.mono_l : ∀ k, (∀ y0 y1 y2, LeO (combine_mul.l0 k y0 y1 y2) (combine_mul.l0 (k + 1) y0 y1 y2))
  | 0 => fun _ _ _ r h => by simp [combine_mul.l0] at h
  | k + 1 => by
    have ih0 := combine_mul.mono_l k
    · intro y0 y1 y2
      unfold combine_mul.l0
      repeat' first
      | (with_reducible exact ih0 _ _ _)
      | (with_reducible exact LeO.refl _)
      | (with_reducible exact LeO.none _)
      | (with_reducible refine LeO.ite ?_ ?_)
      | (with_reducible refine LeO.bind ?_ (fun _ => ?_))
      | exact ih0 _ _ _
      | exact LeO.none _
      | refine LeO.ite ?_ ?_
      | refine LeO.bind ?_ (fun _ => ?_)
theorem combine_mul.mono : ∀ a0 a1 k, LeO (combine_mul.f k a0 a1) (combine_mul.f (k + 1) a0 a1) := by
  intro a0 a1 k
  have ih0 := combine_mul.mono_l k
  unfold combine_mul.f
  repeat' first
      | (with_reducible exact ih0 _ _ _)
      | (with_reducible exact LeO.refl _)
      | (with_reducible exact LeO.none _)
      | (with_reducible refine LeO.ite ?_ ?_)
      | (with_reducible refine LeO.bind ?_ (fun _ => ?_))
      | exact ih0 _ _ _
      | exact LeO.none _
      | refine LeO.ite ?_ ?_
      | refine LeO.bind ?_ (fun _ => ?_)
set_option maxHeartbeats 8000000 in
set_option maxRecDepth 100000 in
theorem combine_mul.calls (k : Nat) (a0 : Int) (a1 : Int) (r : Int) (w : World) (h : combine_mul.f k a0 a1 = some r) :
    Calls Tryd.prog 18 #[.int .u32 a0, .int .u32 a1] w fun e w' => e = .returned (.int .u32 r) ∧ Drawn0 w w' := by
  have H : (combine_mul.l0 k a0 a1 0) = some r := h
  clear h
  have H' := Aside0.mk H
  clear H
  go_enter Tryd.func18, Tryd.ntmps18
  go_wp2
  go_loopg [0, 1, 5] k (fun kq v0 v1 v5 w' => ∃ (x0_1 : Int) (x1_1 : Int) (x5_1 : Int), v0 = .int .u32 x0_1 ∧ v1 = .int .u32 x1_1 ∧ v5 = .int .u32 x5_1 ∧ Aside0 (combine_mul.l0 kq x0_1 x1_1 x5_1 = some r) ∧ Aside0 (kq ≤ k) ∧ Drawn0 w w')
  case atStart => exact ⟨(a0), (a1), (0), (by first | rfl | (simp; done) | (simp [*]; done)), (by first | rfl | (simp; done) | (simp [*]; done)), (by first | rfl | (simp; done) | (simp [*]; done)), H', ⟨Nat.le_refl _⟩, by repeat (first | exact Drawn0.refl _ | apply Drawn0.step)⟩
  case round =>
    clear H'
    try clear c1
    try clear p2
    obtain ⟨x0_1, x1_1, x5_1, rfl, rfl, rfl, HA, HK1, ⟨m1, rfl⟩⟩ := hrel
    cases gk with
    | zero => exact absurd HA.out (by simp [combine_mul.l0])
    | succ k1 =>
      have H := HA.out
      clear HA
      simp only [combine_mul.l0] at H
      by_cases c3 : x0_1 = 0
      · rw [if_pos c3] at H
        have c3b0 : (x0_1 == 0) = true := beq_iff_eq.mpr c3
        have c3b1 : (x0_1 != 0) = false := bne_eq_false_iff_eq.mpr c3
        clear c3
        obtain rfl := Option.some.inj H
        go_wp2
        go_ret
        exact ⟨by first | rfl | (simp; done) | (simp [*]; done), by repeat (first | exact Drawn0.refl _ | apply Drawn0.step)⟩
      · rw [if_neg c3] at H
        have c3b0 : (x0_1 == 0) = false := beq_eq_false_iff_ne.mpr c3
        have c3b1 : (x0_1 != 0) = true := bne_iff_ne.mpr c3
        by_cases c4 : (Go.bits .and .u32 x0_1 2147483648) = 0
        · rw [if_pos c4] at H
          have c4b0 : ((Go.bits .and .u32 x0_1 2147483648) == 0) = true := beq_iff_eq.mpr c4
          have c4b1 : ((Go.bits .and .u32 x0_1 2147483648) != 0) = false := bne_eq_false_iff_eq.mpr c4
          clear c4
          have H' := Aside0.mk H
          clear H
          go_wp2
          go_roundg k1
          case measure => have := HK1.out; omega
          case rel => exact ⟨((x0_1 * 2) % 4294967296), (Go.bits .xor .u32 (x1_1 / 2) (Go.bits .and .u32 2197175160 ((-(Go.bits .and .u32 x1_1 1)) % 4294967296))), (x5_1), (by first | rfl | (simp; done) | (simp [*]; done)), (by first | rfl | (simp; done) | (simp [*]; done)), (by first | rfl | (simp; done) | (simp [*]; done)), H', ⟨by have := HK1.out; omega⟩, by repeat (first | exact Drawn0.refl _ | apply Drawn0.step)⟩
        · rw [if_neg c4] at H
          have c4b0 : ((Go.bits .and .u32 x0_1 2147483648) == 0) = false := beq_eq_false_iff_ne.mpr c4
          have c4b1 : ((Go.bits .and .u32 x0_1 2147483648) != 0) = true := bne_iff_ne.mpr c4
          have H' := Aside0.mk H
          clear H
          go_wp2
          go_roundg k1
          case measure => have := HK1.out; omega
          case rel => exact ⟨((x0_1 * 2) % 4294967296), (Go.bits .xor .u32 (x1_1 / 2) (Go.bits .and .u32 2197175160 ((-(Go.bits .and .u32 x1_1 1)) % 4294967296))), (Go.bits .xor .u32 x5_1 x1_1), (by first | rfl | (simp; done) | (simp [*]; done)), (by first | rfl | (simp; done) | (simp [*]; done)), (by first | rfl | (simp; done) | (simp [*]; done)), H', ⟨by have := HK1.out; omega⟩, by repeat (first | exact Drawn0.refl _ | apply Drawn0.step)⟩

/-! ### combine_power: function 17 -/
def combine_power.l0 : Nat → Int → Int → Int → Option (Int)
  | 0, _, _, _ => none
  | k + 1, x0, x1, x5 => if x1 > 0 then (if (Go.bits .and .i64 x1 1) = 1 then ((combine_mul.f k x5 x0).bind fun t101 => ((combine_mul.f k x0 x0).bind fun t102 => (combine_power.l0 k t102 (x1 / 2) t101))) else ((combine_mul.f k x0 x0).bind fun t103 => (combine_power.l0 k t103 (x1 / 2) x5))) else (some x5)
def combine_power.f (k : Nat) (a0 : Int) (a1 : Int) : Option (Int) := combine_power.l0 k a0 a1 2147483648
theorem combine_power.mono_l : ∀ k, (∀ y0 y1 y2, LeO (combine_power.l0 k y0 y1 y2) (combine_power.l0 (k + 1) y0 y1 y2))
  | 0 => fun _ _ _ r h => by simp [combine_power.l0] at h
  | k + 1 => by
    have ih0 := combine_power.mono_l k
    · intro y0 y1 y2
      unfold combine_power.l0
      repeat' first
      | (with_reducible exact ih0 _ _ _)
      | (with_reducible exact combine_mul.mono _ _ _)
      | (with_reducible exact LeO.refl _)
      | (with_reducible exact LeO.none _)
      | (with_reducible refine LeO.ite ?_ ?_)
      | (with_reducible refine LeO.bind ?_ (fun _ => ?_))
      | exact ih0 _ _ _
      | exact combine_mul.mono _ _ _
      | exact LeO.none _
      | refine LeO.ite ?_ ?_
      | refine LeO.bind ?_ (fun _ => ?_)
theorem combine_power.mono : ∀ a0 a1 k, LeO (combine_power.f k a0 a1) (combine_power.f (k + 1) a0 a1) := by
  intro a0 a1 k
  have ih0 := combine_power.mono_l k
  unfold combine_power.f
  repeat' first
      | (with_reducible exact ih0 _ _ _)
      | (with_reducible exact combine_mul.mono _ _ _)
      | (with_reducible exact LeO.refl _)
      | (with_reducible exact LeO.none _)
      | (with_reducible refine LeO.ite ?_ ?_)
      | (with_reducible refine LeO.bind ?_ (fun _ => ?_))
      | exact ih0 _ _ _
      | exact combine_mul.mono _ _ _
      | exact LeO.none _
      | refine LeO.ite ?_ ?_
      | refine LeO.bind ?_ (fun _ => ?_)
set_option maxHeartbeats 8000000 in
set_option maxRecDepth 100000 in
theorem combine_power.calls (k : Nat) (a0 : Int) (a1 : Int) (r : Int) (w : World) (h : combine_power.f k a0 a1 = some r) :
    Calls Tryd.prog 17 #[.int .u32 a0, .int .i64 a1] w fun e w' => e = .returned (.int .u32 r) ∧ Drawn0 w w' := by
  have H : (combine_power.l0 k a0 a1 2147483648) = some r := h
  clear h
  have H' := Aside0.mk H
  clear H
  go_enter Tryd.func17, Tryd.ntmps17
  go_wp2
  go_loopg [0, 1, 5] k (fun kq v0 v1 v5 w' => ∃ (x0_1 : Int) (x1_1 : Int) (x5_1 : Int), v0 = .int .u32 x0_1 ∧ v1 = .int .i64 x1_1 ∧ v5 = .int .u32 x5_1 ∧ Aside0 (combine_power.l0 kq x0_1 x1_1 x5_1 = some r) ∧ Aside0 (kq ≤ k) ∧ Drawn0 w w')
  case atStart => exact ⟨(a0), (a1), (2147483648), (by first | rfl | (simp; done) | (simp [*]; done)), (by first | rfl | (simp; done) | (simp [*]; done)), (by first | rfl | (simp; done) | (simp [*]; done)), H', ⟨Nat.le_refl _⟩, by repeat (first | exact Drawn0.refl _ | apply Drawn0.step)⟩
  case round =>
    clear H'
    try clear c1
    try clear p2
    obtain ⟨x0_1, x1_1, x5_1, rfl, rfl, rfl, HA, HK1, ⟨m1, rfl⟩⟩ := hrel
    cases gk with
    | zero => exact absurd HA.out (by simp [combine_power.l0])
    | succ k1 =>
      have H := HA.out
      clear HA
      simp only [combine_power.l0] at H
      by_cases c3 : x1_1 > 0
      · rw [if_pos c3] at H
        have c3b0 : decide (0 < x1_1) = true := decide_eq_true c3
        clear c3
        by_cases c4 : (Go.bits .and .i64 x1_1 1) = 1
        · rw [if_pos c4] at H
          have c4b0 : ((Go.bits .and .i64 x1_1 1) == 1) = true := beq_iff_eq.mpr c4
          have c4b1 : ((Go.bits .and .i64 x1_1 1) != 1) = false := bne_eq_false_iff_eq.mpr c4
          clear c4
          replace H := Option.bind_eq_some_iff.mp H
          obtain ⟨t101, A50, H⟩ := H
          replace H : ((combine_mul.f k1 x0_1 x0_1).bind fun t102 => (combine_power.l0 k1 t102 (x1_1 / 2) t101)) = some r := H
          have A5 := Aside0.mk A50
          clear A50
          replace H := Option.bind_eq_some_iff.mp H
          obtain ⟨t102, A60, H⟩ := H
          replace H : (combine_power.l0 k1 t102 (x1_1 / 2) t101) = some r := H
          have A6 := Aside0.mk A60
          clear A60
          have H' := Aside0.mk H
          clear H
          go_wp2_with (first | ((with_reducible refine gate_callee (f := 18) rfl ?_); refine goesL_ (some 15) rfl rfl Tryd.func18 (by kernel_rfl) rfl #[.int .u32 x5_1, .int .u32 x0_1] rfl (by (try simp only [List.map_toArray, List.map_cons, List.map_nil]); first | done | rfl | (simp only [List.length_drop, List.length_take]; rfl)) ?_; (with_reducible refine (combine_mul.calls k1 x5_1 x0_1 t101 _ A5.out).mono ?_); rintro e w' ⟨rfl, ⟨nd, rfl⟩⟩; refine ⟨_, rfl, ?_⟩) | ((with_reducible refine gate_callee (f := 18) rfl ?_); refine goesL_ (some 18) rfl rfl Tryd.func18 (by kernel_rfl) rfl #[.int .u32 x0_1, .int .u32 x0_1] rfl (by (try simp only [List.map_toArray, List.map_cons, List.map_nil]); first | done | rfl | (simp only [List.length_drop, List.length_take]; rfl)) ?_; (with_reducible refine (combine_mul.calls k1 x0_1 x0_1 t102 _ A6.out).mono ?_); rintro e w' ⟨rfl, ⟨nd, rfl⟩⟩; refine ⟨_, rfl, ?_⟩))
          go_roundg k1
          case measure => have := HK1.out; omega
          case rel => exact ⟨(t102), (x1_1 / 2), (t101), (by first | rfl | (simp; done) | (simp [*]; done)), (by first | rfl | (simp; done) | (simp [*]; done)), (by first | rfl | (simp; done) | (simp [*]; done)), H', ⟨by have := HK1.out; omega⟩, by repeat (first | exact Drawn0.refl _ | apply Drawn0.step)⟩
        · rw [if_neg c4] at H
          have c4b0 : ((Go.bits .and .i64 x1_1 1) == 1) = false := beq_eq_false_iff_ne.mpr c4
          have c4b1 : ((Go.bits .and .i64 x1_1 1) != 1) = true := bne_iff_ne.mpr c4
          replace H := Option.bind_eq_some_iff.mp H
          obtain ⟨t103, A70, H⟩ := H
          replace H : (combine_power.l0 k1 t103 (x1_1 / 2) x5_1) = some r := H
          have A7 := Aside0.mk A70
          clear A70
          have H' := Aside0.mk H
          clear H
          go_wp2_with (first | ((with_reducible refine gate_callee (f := 18) rfl ?_); refine goesL_ (some 18) rfl rfl Tryd.func18 (by kernel_rfl) rfl #[.int .u32 x0_1, .int .u32 x0_1] rfl (by (try simp only [List.map_toArray, List.map_cons, List.map_nil]); first | done | rfl | (simp only [List.length_drop, List.length_take]; rfl)) ?_; (with_reducible refine (combine_mul.calls k1 x0_1 x0_1 t103 _ A7.out).mono ?_); rintro e w' ⟨rfl, ⟨nd, rfl⟩⟩; refine ⟨_, rfl, ?_⟩))
          go_roundg k1
          case measure => have := HK1.out; omega
          case rel => exact ⟨(t103), (x1_1 / 2), (x5_1), (by first | rfl | (simp; done) | (simp [*]; done)), (by first | rfl | (simp; done) | (simp [*]; done)), (by first | rfl | (simp; done) | (simp [*]; done)), H', ⟨by have := HK1.out; omega⟩, by repeat (first | exact Drawn0.refl _ | apply Drawn0.step)⟩
      · rw [if_neg c3] at H
        have c3b0 : decide (0 < x1_1) = false := decide_eq_false c3
        clear c3
        obtain rfl := Option.some.inj H
        go_wp2
        go_ret
        exact ⟨by first | rfl | (simp; done) | (simp [*]; done), by repeat (first | exact Drawn0.refl _ | apply Drawn0.step)⟩

/-! ### combine_by: function 16 -/
def combine_by.j0 : Nat → Int → Int → Int → Bool → Option (Int × Int)
  | 0, _, _, _, _ => none
  | k + 1, x0, x1, x2, x13 => if x13 = true then (some (0, 1)) else ((combine_power.f k x1 x2).bind fun t104 => ((combine_mul.f k x0 t104).bind fun t105 => (some (t105, 0))))
def combine_by.f (k : Nat) (a0 : Int) (a1 : Int) (a2 : Int) : Option (Int × Int) := if a2 < 0 then (combine_by.j0 k a0 a1 a2 true) else (combine_by.j0 k a0 a1 a2 (decide (a2 > 1099511627776)))
theorem combine_by.mono_l : ∀ k, (∀ y0 y1 y2 y3, LeO (combine_by.j0 k y0 y1 y2 y3) (combine_by.j0 (k + 1) y0 y1 y2 y3))
  | 0 => fun _ _ _ _ r h => by simp [combine_by.j0] at h
  | k + 1 => by
    have ih0 := combine_by.mono_l k
    · intro y0 y1 y2 y3
      unfold combine_by.j0
      repeat' first
      | (with_reducible exact ih0 _ _ _ _)
      | (with_reducible exact combine_mul.mono _ _ _)
      | (with_reducible exact combine_power.mono _ _ _)
      | (with_reducible exact LeO.refl _)
      | (with_reducible exact LeO.none _)
      | (with_reducible refine LeO.ite ?_ ?_)
      | (with_reducible refine LeO.bind ?_ (fun _ => ?_))
      | exact ih0 _ _ _ _
      | exact combine_mul.mono _ _ _
      | exact combine_power.mono _ _ _
      | exact LeO.none _
      | refine LeO.ite ?_ ?_
      | refine LeO.bind ?_ (fun _ => ?_)
theorem combine_by.mono : ∀ a0 a1 a2 k, LeO (combine_by.f k a0 a1 a2) (combine_by.f (k + 1) a0 a1 a2) := by
  intro a0 a1 a2 k
  have ih0 := combine_by.mono_l k
  unfold combine_by.f
  repeat' first
      | (with_reducible exact ih0 _ _ _ _)
      | (with_reducible exact combine_mul.mono _ _ _)
      | (with_reducible exact combine_power.mono _ _ _)
      | (with_reducible exact LeO.refl _)
      | (with_reducible exact LeO.none _)
      | (with_reducible refine LeO.ite ?_ ?_)
      | (with_reducible refine LeO.bind ?_ (fun _ => ?_))
      | exact ih0 _ _ _ _
      | exact combine_mul.mono _ _ _
      | exact combine_power.mono _ _ _
      | exact LeO.none _
      | refine LeO.ite ?_ ?_
      | refine LeO.bind ?_ (fun _ => ?_)
set_option maxHeartbeats 8000000 in
set_option maxRecDepth 100000 in
theorem combine_by.calls (k : Nat) (a0 : Int) (a1 : Int) (a2 : Int) (r1 : Int) (r2 : Int) (w : World) (h : combine_by.f k a0 a1 a2 = some (r1, r2)) :
    Calls Tryd.prog 16 #[.int .u32 a0, .int .u32 a1, .int .i64 a2] w fun e w' => e = .returned (.tuple #[.int .u32 r1, .int .i64 r2]) ∧ Drawn0 w w' := by
  have H : (if a2 < 0 then (combine_by.j0 k a0 a1 a2 true) else (combine_by.j0 k a0 a1 a2 (decide (a2 > 1099511627776)))) = some (r1, r2) := h
  clear h
  have HC4 := Aside0.mk H
  clear H
  go_enter Tryd.func16, Tryd.ntmps16
  go_upto_region 1 with (fail)
  go_cut [13] (fun v13 wc => ∃ (kq : Nat) (x13_3 : Bool), v13 = .bool x13_3 ∧ Aside0 (combine_by.j0 kq a0 a1 a2 x13_3 = some (r1, r2)) ∧ Aside0 (kq ≤ k) ∧ Drawn0 w wc)
  case first =>
    have H := HC4.out
    clear HC4
    by_cases c5 : a2 < 0
    · rw [if_pos c5] at H
      have c5b0 : decide (a2 < 0) = true := decide_eq_true c5
      clear c5
      (first | rw [c5b0] | (simp only [i64_w, i32_w]; rw [c5b0]) | skip)
      have H' := Aside0.mk H
      clear H
      go_wp2
      go_meet
      case rel => exact ⟨_, (true), (by first | rfl | (simp; done) | (simp [*]; done)), H', ⟨by first | omega | exact Nat.le_refl _⟩, by repeat (first | exact Drawn0.refl _ | apply Drawn0.step)⟩
    · rw [if_neg c5] at H
      have c5b0 : decide (a2 < 0) = false := decide_eq_false c5
      clear c5
      (first | rw [c5b0] | (simp only [i64_w, i32_w]; rw [c5b0]) | skip)
      have H' := Aside0.mk H
      clear H
      go_wp2
      go_meet
      case rel => exact ⟨_, (decide (a2 > 1099511627776)), (by first | rfl | (simp; done) | (simp [*]; done)), H', ⟨by first | omega | exact Nat.le_refl _⟩, by repeat (first | exact Drawn0.refl _ | apply Drawn0.step)⟩
  case rest =>
    clear HC4
    try clear c1
    try clear p2
    try clear c5
    try clear c5b0
    obtain ⟨kq, x13_3, rfl, HA, HJ3, ⟨mc3, rfl⟩⟩ := hcut
    cases kq with
    | zero => exact absurd HA.out (by simp [combine_by.j0])
    | succ kj3 =>
      have H := HA.out
      clear HA
      simp only [combine_by.j0] at H
      by_cases c6 : x13_3 = true
      · subst c6
        have H1 : (some (0, 1)) = some (r1, r2) := by rw [if_pos rfl] at H; exact H
        clear H
        have H := H1
        clear H1
        simp only [Option.some.injEq, Prod.mk.injEq] at H
        obtain ⟨rfl, rfl⟩ := H
        go_wp2
        go_ret2
        exact ⟨by first | rfl | (simp; done) | (simp [*]; done), by repeat (first | exact Drawn0.refl _ | apply Drawn0.step)⟩
      · replace c6 := Bool.eq_false_iff.mpr c6
        subst c6
        have H1 : ((combine_power.f kj3 a1 a2).bind fun t104 => ((combine_mul.f kj3 a0 t104).bind fun t105 => (some (t105, 0)))) = some (r1, r2) := by rw [if_neg (show ¬ (false = true) by decide)] at H; exact H
        clear H
        have H := H1
        clear H1
        replace H := Option.bind_eq_some_iff.mp H
        obtain ⟨t104, A70, H⟩ := H
        replace H : ((combine_mul.f kj3 a0 t104).bind fun t105 => (some (t105, 0))) = some (r1, r2) := H
        have A7 := Aside0.mk A70
        clear A70
        replace H := Option.bind_eq_some_iff.mp H
        obtain ⟨t105, A80, H⟩ := H
        replace H : (some (t105, 0)) = some (r1, r2) := H
        have A8 := Aside0.mk A80
        clear A80
        simp only [Option.some.injEq, Prod.mk.injEq] at H
        obtain ⟨rfl, rfl⟩ := H
        go_wp2_with (first | ((with_reducible refine gate_callee (f := 17) rfl ?_); refine goesL_ (some 17) rfl rfl Tryd.func17 (by kernel_rfl) rfl #[.int .u32 a1, .int .i64 a2] rfl (by (try simp only [List.map_toArray, List.map_cons, List.map_nil]); first | done | rfl | (simp only [List.length_drop, List.length_take]; rfl)) ?_; (with_reducible refine (combine_power.calls kj3 a1 a2 t104 _ A7.out).mono ?_); rintro e w' ⟨rfl, ⟨nd, rfl⟩⟩; refine ⟨_, rfl, ?_⟩) | ((with_reducible refine gate_callee (f := 18) rfl ?_); refine goesL_ (some 18) rfl rfl Tryd.func18 (by kernel_rfl) rfl #[.int .u32 a0, .int .u32 t104] rfl (by (try simp only [List.map_toArray, List.map_cons, List.map_nil]); first | done | rfl | (simp only [List.length_drop, List.length_take]; rfl)) ?_; (with_reducible refine (combine_mul.calls kj3 a0 t104 t105 _ A8.out).mono ?_); rintro e w' ⟨rfl, ⟨nd, rfl⟩⟩; refine ⟨_, rfl, ?_⟩))
        go_ret2
        exact ⟨by first | rfl | (simp; done) | (simp [*]; done), by repeat (first | exact Drawn0.refl _ | apply Drawn0.step)⟩

/-! ### combine_Shift: function 10 -/
def combine_Shift.f (k : Nat) (a0 : Int) (a1 : Int) : Option (Int × Int) := (combine_by.f k a0 8388608 a1).bind fun bt106 => (some (bt106.1, bt106.2))
theorem combine_Shift.mono : ∀ a0 a1 k, LeO (combine_Shift.f k a0 a1) (combine_Shift.f (k + 1) a0 a1) := by
  intro a0 a1 k
  unfold combine_Shift.f
  repeat' first
      | (with_reducible exact combine_by.mono _ _ _ _)
      | (with_reducible exact LeO.refl _)
      | (with_reducible exact LeO.none _)
      | (with_reducible refine LeO.ite ?_ ?_)
      | (with_reducible refine LeO.bind ?_ (fun _ => ?_))
      | exact combine_by.mono _ _ _ _
      | exact LeO.none _
      | refine LeO.ite ?_ ?_
      | refine LeO.bind ?_ (fun _ => ?_)
set_option maxHeartbeats 8000000 in
set_option maxRecDepth 100000 in
theorem combine_Shift.calls (k : Nat) (a0 : Int) (a1 : Int) (r1 : Int) (r2 : Int) (w : World) (h : combine_Shift.f k a0 a1 = some (r1, r2)) :
    Calls Tryd.prog 10 #[.int .u32 a0, .int .i64 a1] w fun e w' => e = .returned (.tuple #[.int .u32 r1, .int .i64 r2]) ∧ Drawn0 w w' := by
  have H : ((combine_by.f k a0 8388608 a1).bind fun bt106 => (some (bt106.1, bt106.2))) = some (r1, r2) := h
  clear h
  replace H := Option.bind_eq_some_iff.mp H
  obtain ⟨⟨t106, t107⟩, A30, H⟩ := H
  replace H : (some (t106, t107)) = some (r1, r2) := H
  have A3 := Aside0.mk A30
  clear A30
  simp only [Option.some.injEq, Prod.mk.injEq] at H
  obtain ⟨rfl, rfl⟩ := H
  go_enter Tryd.func10, Tryd.ntmps10
  go_wp2_with (first | ((with_reducible refine gate_callee (f := 16) rfl ?_); refine goesL_ (some 8) rfl rfl Tryd.func16 (by kernel_rfl) rfl #[.int .u32 a0, .int .u32 8388608, .int .i64 a1] rfl (by (try simp only [List.map_toArray, List.map_cons, List.map_nil]); first | done | rfl | (simp only [List.length_drop, List.length_take]; rfl)) ?_; (with_reducible refine (combine_by.calls k a0 8388608 a1 t106 t107 _ A3.out).mono ?_); rintro e w' ⟨rfl, ⟨nd, rfl⟩⟩; refine ⟨_, rfl, ?_⟩))
  go_ret2
  exact ⟨by first | rfl | (simp; done) | (simp [*]; done), by repeat (first | exact Drawn0.refl _ | apply Drawn0.step)⟩

/-! ### combine_Join: function 7 -/
def combine_Join.f (k : Nat) (a0 : Int) (a1 : Int) (a2 : Int) : Option (Int × Int) := (combine_Shift.f k a0 a2).bind fun bt108 => (if bt108.2 = 0 then (some (Go.bits .xor .u32 bt108.1 a1, 0)) else (some (0, bt108.2)))
theorem combine_Join.mono : ∀ a0 a1 a2 k, LeO (combine_Join.f k a0 a1 a2) (combine_Join.f (k + 1) a0 a1 a2) := by
  intro a0 a1 a2 k
  unfold combine_Join.f
  repeat' first
      | (with_reducible exact combine_Shift.mono _ _ _)
      | (with_reducible exact LeO.refl _)
      | (with_reducible exact LeO.none _)
      | (with_reducible refine LeO.ite ?_ ?_)
      | (with_reducible refine LeO.bind ?_ (fun _ => ?_))
      | exact combine_Shift.mono _ _ _
      | exact LeO.none _
      | refine LeO.ite ?_ ?_
      | refine LeO.bind ?_ (fun _ => ?_)
set_option maxHeartbeats 8000000 in
set_option maxRecDepth 100000 in
theorem combine_Join.calls (k : Nat) (a0 : Int) (a1 : Int) (a2 : Int) (r1 : Int) (r2 : Int) (w : World) (h : combine_Join.f k a0 a1 a2 = some (r1, r2)) :
    Calls Tryd.prog 7 #[.int .u32 a0, .int .u32 a1, .int .i64 a2] w fun e w' => e = .returned (.tuple #[.int .u32 r1, .int .i64 r2]) ∧ Drawn0 w w' := by
  have H : ((combine_Shift.f k a0 a2).bind fun bt108 => (if bt108.2 = 0 then (some (Go.bits .xor .u32 bt108.1 a1, 0)) else (some (0, bt108.2)))) = some (r1, r2) := h
  clear h
  replace H := Option.bind_eq_some_iff.mp H
  obtain ⟨⟨t108, t109⟩, A40, H⟩ := H
  replace H : (if t109 = 0 then (some (Go.bits .xor .u32 t108 a1, 0)) else (some (0, t109))) = some (r1, r2) := H
  have A4 := Aside0.mk A40
  clear A40
  by_cases c5 : t109 = 0
  · rw [if_pos c5] at H
    have c5b0 : (t109 == 0) = true := beq_iff_eq.mpr c5
    have c5b1 : (t109 != 0) = false := bne_eq_false_iff_eq.mpr c5
    clear c5
    simp only [Option.some.injEq, Prod.mk.injEq] at H
    obtain ⟨rfl, rfl⟩ := H
    go_enter Tryd.func7, Tryd.ntmps7
    go_wp2_with (first | ((with_reducible refine gate_callee (f := 10) rfl ?_); refine goesL_ (some 13) rfl rfl Tryd.func10 (by kernel_rfl) rfl #[.int .u32 a0, .int .i64 a2] rfl (by (try simp only [List.map_toArray, List.map_cons, List.map_nil]); first | done | rfl | (simp only [List.length_drop, List.length_take]; rfl)) ?_; (with_reducible refine (combine_Shift.calls k a0 a2 t108 t109 _ A4.out).mono ?_); rintro e w' ⟨rfl, ⟨nd, rfl⟩⟩; refine ⟨_, rfl, ?_⟩))
    go_ret2
    exact ⟨by first | rfl | (simp; done) | (simp [*]; done), by repeat (first | exact Drawn0.refl _ | apply Drawn0.step)⟩
  · rw [if_neg c5] at H
    have c5b0 : (t109 == 0) = false := beq_eq_false_iff_ne.mpr c5
    have c5b1 : (t109 != 0) = true := bne_iff_ne.mpr c5
    simp only [Option.some.injEq, Prod.mk.injEq] at H
    obtain ⟨rfl, rfl⟩ := H
    go_enter Tryd.func7, Tryd.ntmps7
    go_wp2_with (first | ((with_reducible refine gate_callee (f := 10) rfl ?_); refine goesL_ (some 13) rfl rfl Tryd.func10 (by kernel_rfl) rfl #[.int .u32 a0, .int .i64 a2] rfl (by (try simp only [List.map_toArray, List.map_cons, List.map_nil]); first | done | rfl | (simp only [List.length_drop, List.length_take]; rfl)) ?_; (with_reducible refine (combine_Shift.calls k a0 a2 t108 t109 _ A4.out).mono ?_); rintro e w' ⟨rfl, ⟨nd, rfl⟩⟩; refine ⟨_, rfl, ?_⟩))
    go_ret2
    exact ⟨by first | rfl | (simp; done) | (simp [*]; done), by repeat (first | exact Drawn0.refl _ | apply Drawn0.step)⟩

/-! ### crc_End: function 13 -/
def crc_End.f (a0 : Int) : Option (Int) := some (Go.bits .xor .u32 4294967295 a0)
set_option maxHeartbeats 8000000 in
set_option maxRecDepth 100000 in
theorem crc_End.calls (a0 : Int) (r : Int) (w : World) (h : crc_End.f a0 = some r) :
    Calls Tryd.prog 13 #[.int .u32 a0] w fun e w' => e = .returned (.int .u32 r) ∧ Drawn0 w w' := by
  have H : (some (Go.bits .xor .u32 4294967295 a0)) = some r := h
  clear h
  obtain rfl := Option.some.inj H
  go_enter Tryd.func13, Tryd.ntmps13
  go_wp2
  go_ret
  exact ⟨by first | rfl | (simp; done) | (simp [*]; done), by repeat (first | exact Drawn0.refl _ | apply Drawn0.step)⟩

-- crc_Add (function 14): its contract stands in Derived.Test.YtegfembmnnmnbabDoorCrcAdd

/-! ### crc_Start: function 15 -/
def crc_Start.f  : Option (Int) := some 4294967295
set_option maxHeartbeats 8000000 in
set_option maxRecDepth 100000 in
theorem crc_Start.calls  (r : Int) (w : World) (h : crc_Start.f  = some r) :
    Calls Tryd.prog 15 #[] w fun e w' => e = .returned (.int .u32 r) ∧ Drawn0 w w' := by
  have H : (some 4294967295) = some r := h
  clear h
  obtain rfl := Option.some.inj H
  go_enter Tryd.func15, Tryd.ntmps15
  go_wp2
  go_ret
  exact ⟨by first | rfl | (simp; done) | (simp [*]; done), by repeat (first | exact Drawn0.refl _ | apply Drawn0.step)⟩

/-! ### crc_Sum: function 8 -/
def crc_Sum.f (a0 : ByteArray) : Option (Int) := (crc_Start.f).bind fun t110 => ((crc_Add.f t110 a0).bind fun t111 => ((crc_End.f t111).bind fun t112 => (some t112)))
set_option maxHeartbeats 8000000 in
set_option maxRecDepth 100000 in
theorem crc_Sum.calls (a0 : ByteArray) (r : Int) (w : World) (hG : GT w) (h : crc_Sum.f a0 = some r) :
    Calls Tryd.prog 8 #[.string a0] w fun e w' => e = .returned (.int .u32 r) ∧ Drawn0 w w' := by
  have HG := Aside0.mk hG
  clear hG
  have H : ((crc_Start.f).bind fun t110 => ((crc_Add.f t110 a0).bind fun t111 => ((crc_End.f t111).bind fun t112 => (some t112)))) = some r := h
  clear h
  replace H := Option.bind_eq_some_iff.mp H
  obtain ⟨t110, A20, H⟩ := H
  replace H : ((crc_Add.f t110 a0).bind fun t111 => ((crc_End.f t111).bind fun t112 => (some t112))) = some r := H
  have A2 := Aside0.mk A20
  clear A20
  replace H := Option.bind_eq_some_iff.mp H
  obtain ⟨t111, A30, H⟩ := H
  replace H : ((crc_End.f t111).bind fun t112 => (some t112)) = some r := H
  have A3 := Aside0.mk A30
  clear A30
  replace H := Option.bind_eq_some_iff.mp H
  obtain ⟨t112, A40, H⟩ := H
  replace H : (some t112) = some r := H
  have A4 := Aside0.mk A40
  clear A40
  obtain rfl := Option.some.inj H
  go_enter Tryd.func8, Tryd.ntmps8
  go_wp2_with (first | ((with_reducible refine gate_callee (f := 15) rfl ?_); refine goesL_ (some 3) rfl rfl Tryd.func15 (by kernel_rfl) rfl #[] rfl (by (try simp only [List.map_toArray, List.map_cons, List.map_nil]); first | done | rfl | (simp only [List.length_drop, List.length_take]; rfl)) ?_; (with_reducible refine (crc_Start.calls  t110 _ A2.out).mono ?_); rintro e w' ⟨rfl, ⟨nd, rfl⟩⟩; refine ⟨_, rfl, ?_⟩) | ((with_reducible refine gate_callee (f := 14) rfl ?_); refine goesL_ (some 5) rfl rfl Tryd.func14 (by kernel_rfl) rfl #[.int .u32 t110, .string a0] rfl (by (try simp only [List.map_toArray, List.map_cons, List.map_nil]); first | done | rfl | (simp only [List.length_drop, List.length_take]; rfl)) ?_; (with_reducible refine (crc_Add.calls t110 a0 t111 _ ?side1 A3.out).mono ?_); (case side1 => repeat (first | exact HG.out | apply GT.drewN | apply GT.drew)); rintro e w' ⟨rfl, ⟨nd, rfl⟩⟩; refine ⟨_, rfl, ?_⟩) | ((with_reducible refine gate_callee (f := 13) rfl ?_); refine goesL_ (some 6) rfl rfl Tryd.func13 (by kernel_rfl) rfl #[.int .u32 t111] rfl (by (try simp only [List.map_toArray, List.map_cons, List.map_nil]); first | done | rfl | (simp only [List.length_drop, List.length_take]; rfl)) ?_; (with_reducible refine (crc_End.calls t111 t112 _ A4.out).mono ?_); rintro e w' ⟨rfl, ⟨nd, rfl⟩⟩; refine ⟨_, rfl, ?_⟩))
  go_ret
  exact ⟨by first | rfl | (simp; done) | (simp [*]; done), by repeat (first | exact Drawn0.refl _ | apply Drawn0.step)⟩

/-! ### combine_Back: function 11 -/
def combine_Back.f (k : Nat) (a0 : Int) (a1 : Int) : Option (Int × Int) := (combine_power.f k 99383025 8).bind fun t113 => ((combine_by.f k a0 t113 a1).bind fun bt114 => (some (bt114.1, bt114.2)))
theorem combine_Back.mono : ∀ a0 a1 k, LeO (combine_Back.f k a0 a1) (combine_Back.f (k + 1) a0 a1) := by
  intro a0 a1 k
  unfold combine_Back.f
  repeat' first
      | (with_reducible exact combine_by.mono _ _ _ _)
      | (with_reducible exact combine_power.mono _ _ _)
      | (with_reducible exact LeO.refl _)
      | (with_reducible exact LeO.none _)
      | (with_reducible refine LeO.ite ?_ ?_)
      | (with_reducible refine LeO.bind ?_ (fun _ => ?_))
      | exact combine_by.mono _ _ _ _
      | exact combine_power.mono _ _ _
      | exact LeO.none _
      | refine LeO.ite ?_ ?_
      | refine LeO.bind ?_ (fun _ => ?_)
set_option maxHeartbeats 8000000 in
set_option maxRecDepth 100000 in
theorem combine_Back.calls (k : Nat) (a0 : Int) (a1 : Int) (r1 : Int) (r2 : Int) (w : World) (h : combine_Back.f k a0 a1 = some (r1, r2)) :
    Calls Tryd.prog 11 #[.int .u32 a0, .int .i64 a1] w fun e w' => e = .returned (.tuple #[.int .u32 r1, .int .i64 r2]) ∧ Drawn0 w w' := by
  have H : ((combine_power.f k 99383025 8).bind fun t113 => ((combine_by.f k a0 t113 a1).bind fun bt114 => (some (bt114.1, bt114.2)))) = some (r1, r2) := h
  clear h
  replace H := Option.bind_eq_some_iff.mp H
  obtain ⟨t113, A30, H⟩ := H
  replace H : ((combine_by.f k a0 t113 a1).bind fun bt114 => (some (bt114.1, bt114.2))) = some (r1, r2) := H
  have A3 := Aside0.mk A30
  clear A30
  replace H := Option.bind_eq_some_iff.mp H
  obtain ⟨⟨t114, t115⟩, A40, H⟩ := H
  replace H : (some (t114, t115)) = some (r1, r2) := H
  have A4 := Aside0.mk A40
  clear A40
  simp only [Option.some.injEq, Prod.mk.injEq] at H
  obtain ⟨rfl, rfl⟩ := H
  go_enter Tryd.func11, Tryd.ntmps11
  go_wp2_with (first | ((with_reducible refine gate_callee (f := 17) rfl ?_); refine goesL_ (some 7) rfl rfl Tryd.func17 (by kernel_rfl) rfl #[.int .u32 99383025, .int .i64 8] rfl (by (try simp only [List.map_toArray, List.map_cons, List.map_nil]); first | done | rfl | (simp only [List.length_drop, List.length_take]; rfl)) ?_; (with_reducible refine (combine_power.calls k 99383025 8 t113 _ A3.out).mono ?_); rintro e w' ⟨rfl, ⟨nd, rfl⟩⟩; refine ⟨_, rfl, ?_⟩) | ((with_reducible refine gate_callee (f := 16) rfl ?_); refine goesL_ (some 9) rfl rfl Tryd.func16 (by kernel_rfl) rfl #[.int .u32 a0, .int .u32 t113, .int .i64 a1] rfl (by (try simp only [List.map_toArray, List.map_cons, List.map_nil]); first | done | rfl | (simp only [List.length_drop, List.length_take]; rfl)) ?_; (with_reducible refine (combine_by.calls k a0 t113 a1 t114 t115 _ A4.out).mono ?_); rintro e w' ⟨rfl, ⟨nd, rfl⟩⟩; refine ⟨_, rfl, ?_⟩))
  go_ret2
  exact ⟨by first | rfl | (simp; done) | (simp [*]; done), by repeat (first | exact Drawn0.refl _ | apply Drawn0.step)⟩

/-! ### combine_Head: function 9 -/
def combine_Head.f (k : Nat) (a0 : Int) (a1 : Int) (a2 : Int) : Option (Int × Int) := (combine_Back.f k (Go.bits .xor .u32 a0 a1) a2).bind fun bt116 => (some (bt116.1, bt116.2))
theorem combine_Head.mono : ∀ a0 a1 a2 k, LeO (combine_Head.f k a0 a1 a2) (combine_Head.f (k + 1) a0 a1 a2) := by
  intro a0 a1 a2 k
  unfold combine_Head.f
  repeat' first
      | (with_reducible exact combine_Back.mono _ _ _)
      | (with_reducible exact LeO.refl _)
      | (with_reducible exact LeO.none _)
      | (with_reducible refine LeO.ite ?_ ?_)
      | (with_reducible refine LeO.bind ?_ (fun _ => ?_))
      | exact combine_Back.mono _ _ _
      | exact LeO.none _
      | refine LeO.ite ?_ ?_
      | refine LeO.bind ?_ (fun _ => ?_)
set_option maxHeartbeats 8000000 in
set_option maxRecDepth 100000 in
theorem combine_Head.calls (k : Nat) (a0 : Int) (a1 : Int) (a2 : Int) (r1 : Int) (r2 : Int) (w : World) (h : combine_Head.f k a0 a1 a2 = some (r1, r2)) :
    Calls Tryd.prog 9 #[.int .u32 a0, .int .u32 a1, .int .i64 a2] w fun e w' => e = .returned (.tuple #[.int .u32 r1, .int .i64 r2]) ∧ Drawn0 w w' := by
  have H : ((combine_Back.f k (Go.bits .xor .u32 a0 a1) a2).bind fun bt116 => (some (bt116.1, bt116.2))) = some (r1, r2) := h
  clear h
  replace H := Option.bind_eq_some_iff.mp H
  obtain ⟨⟨t116, t117⟩, A40, H⟩ := H
  replace H : (some (t116, t117)) = some (r1, r2) := H
  have A4 := Aside0.mk A40
  clear A40
  simp only [Option.some.injEq, Prod.mk.injEq] at H
  obtain ⟨rfl, rfl⟩ := H
  go_enter Tryd.func9, Tryd.ntmps9
  go_wp2_with (first | ((with_reducible refine gate_callee (f := 11) rfl ?_); refine goesL_ (some 12) rfl rfl Tryd.func11 (by kernel_rfl) rfl #[.int .u32 (Go.bits .xor .u32 a0 a1), .int .i64 a2] rfl (by (try simp only [List.map_toArray, List.map_cons, List.map_nil]); first | done | rfl | (simp only [List.length_drop, List.length_take]; rfl)) ?_; (with_reducible refine (combine_Back.calls k (Go.bits .xor .u32 a0 a1) a2 t116 t117 _ A4.out).mono ?_); rintro e w' ⟨rfl, ⟨nd, rfl⟩⟩; refine ⟨_, rfl, ?_⟩))
  go_ret2
  exact ⟨by first | rfl | (simp; done) | (simp [*]; done), by repeat (first | exact Drawn0.refl _ | apply Drawn0.step)⟩

/-! ### combine_Blank: function 12 -/
def combine_Blank.f (k : Nat) (a0 : Int) : Option (Int × Int) := (combine_Shift.f k 4294967295 a0).bind fun bt118 => (if bt118.2 = 0 then (some (Go.bits .xor .u32 4294967295 bt118.1, 0)) else (some (0, bt118.2)))
theorem combine_Blank.mono : ∀ a0 k, LeO (combine_Blank.f k a0) (combine_Blank.f (k + 1) a0) := by
  intro a0 k
  unfold combine_Blank.f
  repeat' first
      | (with_reducible exact combine_Shift.mono _ _ _)
      | (with_reducible exact LeO.refl _)
      | (with_reducible exact LeO.none _)
      | (with_reducible refine LeO.ite ?_ ?_)
      | (with_reducible refine LeO.bind ?_ (fun _ => ?_))
      | exact combine_Shift.mono _ _ _
      | exact LeO.none _
      | refine LeO.ite ?_ ?_
      | refine LeO.bind ?_ (fun _ => ?_)
set_option maxHeartbeats 8000000 in
set_option maxRecDepth 100000 in
theorem combine_Blank.calls (k : Nat) (a0 : Int) (r1 : Int) (r2 : Int) (w : World) (h : combine_Blank.f k a0 = some (r1, r2)) :
    Calls Tryd.prog 12 #[.int .i64 a0] w fun e w' => e = .returned (.tuple #[.int .u32 r1, .int .i64 r2]) ∧ Drawn0 w w' := by
  have H : ((combine_Shift.f k 4294967295 a0).bind fun bt118 => (if bt118.2 = 0 then (some (Go.bits .xor .u32 4294967295 bt118.1, 0)) else (some (0, bt118.2)))) = some (r1, r2) := h
  clear h
  replace H := Option.bind_eq_some_iff.mp H
  obtain ⟨⟨t118, t119⟩, A20, H⟩ := H
  replace H : (if t119 = 0 then (some (Go.bits .xor .u32 4294967295 t118, 0)) else (some (0, t119))) = some (r1, r2) := H
  have A2 := Aside0.mk A20
  clear A20
  by_cases c3 : t119 = 0
  · rw [if_pos c3] at H
    have c3b0 : (t119 == 0) = true := beq_iff_eq.mpr c3
    have c3b1 : (t119 != 0) = false := bne_eq_false_iff_eq.mpr c3
    clear c3
    simp only [Option.some.injEq, Prod.mk.injEq] at H
    obtain ⟨rfl, rfl⟩ := H
    go_enter Tryd.func12, Tryd.ntmps12
    go_wp2_with (first | ((with_reducible refine gate_callee (f := 10) rfl ?_); refine goesL_ (some 8) rfl rfl Tryd.func10 (by kernel_rfl) rfl #[.int .u32 4294967295, .int .i64 a0] rfl (by (try simp only [List.map_toArray, List.map_cons, List.map_nil]); first | done | rfl | (simp only [List.length_drop, List.length_take]; rfl)) ?_; (with_reducible refine (combine_Shift.calls k 4294967295 a0 t118 t119 _ A2.out).mono ?_); rintro e w' ⟨rfl, ⟨nd, rfl⟩⟩; refine ⟨_, rfl, ?_⟩))
    go_ret2
    exact ⟨by first | rfl | (simp; done) | (simp [*]; done), by repeat (first | exact Drawn0.refl _ | apply Drawn0.step)⟩
  · rw [if_neg c3] at H
    have c3b0 : (t119 == 0) = false := beq_eq_false_iff_ne.mpr c3
    have c3b1 : (t119 != 0) = true := bne_iff_ne.mpr c3
    simp only [Option.some.injEq, Prod.mk.injEq] at H
    obtain ⟨rfl, rfl⟩ := H
    go_enter Tryd.func12, Tryd.ntmps12
    go_wp2_with (first | ((with_reducible refine gate_callee (f := 10) rfl ?_); refine goesL_ (some 8) rfl rfl Tryd.func10 (by kernel_rfl) rfl #[.int .u32 4294967295, .int .i64 a0] rfl (by (try simp only [List.map_toArray, List.map_cons, List.map_nil]); first | done | rfl | (simp only [List.length_drop, List.length_take]; rfl)) ?_; (with_reducible refine (combine_Shift.calls k 4294967295 a0 t118 t119 _ A2.out).mono ?_); rintro e w' ⟨rfl, ⟨nd, rfl⟩⟩; refine ⟨_, rfl, ?_⟩))
    go_ret2
    exact ⟨by first | rfl | (simp; done) | (simp [*]; done), by repeat (first | exact Drawn0.refl _ | apply Drawn0.step)⟩

/-! ### caulklaw33_lives: function 6 -/
def caulklaw33_lives.f (k : Nat)  : Option (Bool) := (crc_Sum.f (⟨#[49, 50, 51, 52]⟩ : ByteArray)).bind fun t120 => ((crc_Sum.f (⟨#[53, 54, 55, 56, 57]⟩ : ByteArray)).bind fun t121 => ((combine_Join.f k t120 t121 5).bind fun bt122 => ((crc_Sum.f (⟨#[49, 50, 51, 52, 53, 54, 55, 56, 57]⟩ : ByteArray)).bind fun t124 => ((crc_Sum.f (⟨#[53, 54, 55, 56, 57]⟩ : ByteArray)).bind fun t125 => ((combine_Head.f k t124 t125 5).bind fun bt126 => ((combine_Blank.f k 1).bind fun bt128 => ((combine_Shift.f k 1 (-1)).bind fun bt130 => ((combine_Shift.f k 77 0).bind fun bt132 => (if bt122.1 = 3808858755 then (if bt122.2 = 0 then ((crc_Sum.f (⟨#[49, 50, 51, 52]⟩ : ByteArray)).bind fun t134 => (if bt126.1 = t134 then (if bt126.2 = 0 then (if bt128.1 = 1383945041 then (if bt128.2 = 0 then (if bt130.2 = 1 then (if bt132.1 = 77 then (some (bt132.2 == 0)) else (none)) else (none)) else (none)) else (none)) else (none)) else (none))) else (none)) else (none))))))))))
theorem caulklaw33_lives.mono : ∀ k, LeO (caulklaw33_lives.f k ) (caulklaw33_lives.f (k + 1) ) := by
  intro  k
  unfold caulklaw33_lives.f
  repeat' first
      | (with_reducible exact combine_Blank.mono _ _)
      | (with_reducible exact combine_Head.mono _ _ _ _)
      | (with_reducible exact combine_Join.mono _ _ _ _)
      | (with_reducible exact combine_Shift.mono _ _ _)
      | (with_reducible exact LeO.refl _)
      | (with_reducible exact LeO.none _)
      | (with_reducible refine LeO.ite ?_ ?_)
      | (with_reducible refine LeO.bind ?_ (fun _ => ?_))
      | exact combine_Blank.mono _ _
      | exact combine_Head.mono _ _ _ _
      | exact combine_Join.mono _ _ _ _
      | exact combine_Shift.mono _ _ _
      | exact LeO.none _
      | refine LeO.ite ?_ ?_
      | refine LeO.bind ?_ (fun _ => ?_)
set_option maxHeartbeats 8000000 in
set_option maxRecDepth 100000 in
theorem caulklaw33_lives.calls (k : Nat)  (r : Bool) (w : World) (hG : GT w) (h : caulklaw33_lives.f k  = some r) :
    Calls Tryd.prog 6 #[] w fun e w' => e = .returned (.bool r) ∧ Drawn0 w w' := by
  have HG := Aside0.mk hG
  clear hG
  have H : ((crc_Sum.f (⟨#[49, 50, 51, 52]⟩ : ByteArray)).bind fun t120 => ((crc_Sum.f (⟨#[53, 54, 55, 56, 57]⟩ : ByteArray)).bind fun t121 => ((combine_Join.f k t120 t121 5).bind fun bt122 => ((crc_Sum.f (⟨#[49, 50, 51, 52, 53, 54, 55, 56, 57]⟩ : ByteArray)).bind fun t124 => ((crc_Sum.f (⟨#[53, 54, 55, 56, 57]⟩ : ByteArray)).bind fun t125 => ((combine_Head.f k t124 t125 5).bind fun bt126 => ((combine_Blank.f k 1).bind fun bt128 => ((combine_Shift.f k 1 (-1)).bind fun bt130 => ((combine_Shift.f k 77 0).bind fun bt132 => (if bt122.1 = 3808858755 then (if bt122.2 = 0 then ((crc_Sum.f (⟨#[49, 50, 51, 52]⟩ : ByteArray)).bind fun t134 => (if bt126.1 = t134 then (if bt126.2 = 0 then (if bt128.1 = 1383945041 then (if bt128.2 = 0 then (if bt130.2 = 1 then (if bt132.1 = 77 then (some (bt132.2 == 0)) else (none)) else (none)) else (none)) else (none)) else (none)) else (none))) else (none)) else (none))))))))))) = some r := h
  clear h
  replace H := Option.bind_eq_some_iff.mp H
  obtain ⟨t120, A10, H⟩ := H
  replace H : ((crc_Sum.f (⟨#[53, 54, 55, 56, 57]⟩ : ByteArray)).bind fun t121 => ((combine_Join.f k t120 t121 5).bind fun bt122 => ((crc_Sum.f (⟨#[49, 50, 51, 52, 53, 54, 55, 56, 57]⟩ : ByteArray)).bind fun t124 => ((crc_Sum.f (⟨#[53, 54, 55, 56, 57]⟩ : ByteArray)).bind fun t125 => ((combine_Head.f k t124 t125 5).bind fun bt126 => ((combine_Blank.f k 1).bind fun bt128 => ((combine_Shift.f k 1 (-1)).bind fun bt130 => ((combine_Shift.f k 77 0).bind fun bt132 => (if bt122.1 = 3808858755 then (if bt122.2 = 0 then ((crc_Sum.f (⟨#[49, 50, 51, 52]⟩ : ByteArray)).bind fun t134 => (if bt126.1 = t134 then (if bt126.2 = 0 then (if bt128.1 = 1383945041 then (if bt128.2 = 0 then (if bt130.2 = 1 then (if bt132.1 = 77 then (some (bt132.2 == 0)) else (none)) else (none)) else (none)) else (none)) else (none)) else (none))) else (none)) else (none)))))))))) = some r := H
  have A1 := Aside0.mk A10
  clear A10
  replace H := Option.bind_eq_some_iff.mp H
  obtain ⟨t121, A20, H⟩ := H
  replace H : ((combine_Join.f k t120 t121 5).bind fun bt122 => ((crc_Sum.f (⟨#[49, 50, 51, 52, 53, 54, 55, 56, 57]⟩ : ByteArray)).bind fun t124 => ((crc_Sum.f (⟨#[53, 54, 55, 56, 57]⟩ : ByteArray)).bind fun t125 => ((combine_Head.f k t124 t125 5).bind fun bt126 => ((combine_Blank.f k 1).bind fun bt128 => ((combine_Shift.f k 1 (-1)).bind fun bt130 => ((combine_Shift.f k 77 0).bind fun bt132 => (if bt122.1 = 3808858755 then (if bt122.2 = 0 then ((crc_Sum.f (⟨#[49, 50, 51, 52]⟩ : ByteArray)).bind fun t134 => (if bt126.1 = t134 then (if bt126.2 = 0 then (if bt128.1 = 1383945041 then (if bt128.2 = 0 then (if bt130.2 = 1 then (if bt132.1 = 77 then (some (bt132.2 == 0)) else (none)) else (none)) else (none)) else (none)) else (none)) else (none))) else (none)) else (none))))))))) = some r := H
  have A2 := Aside0.mk A20
  clear A20
  replace H := Option.bind_eq_some_iff.mp H
  obtain ⟨⟨t122, t123⟩, A30, H⟩ := H
  replace H : ((crc_Sum.f (⟨#[49, 50, 51, 52, 53, 54, 55, 56, 57]⟩ : ByteArray)).bind fun t124 => ((crc_Sum.f (⟨#[53, 54, 55, 56, 57]⟩ : ByteArray)).bind fun t125 => ((combine_Head.f k t124 t125 5).bind fun bt126 => ((combine_Blank.f k 1).bind fun bt128 => ((combine_Shift.f k 1 (-1)).bind fun bt130 => ((combine_Shift.f k 77 0).bind fun bt132 => (if t122 = 3808858755 then (if t123 = 0 then ((crc_Sum.f (⟨#[49, 50, 51, 52]⟩ : ByteArray)).bind fun t134 => (if bt126.1 = t134 then (if bt126.2 = 0 then (if bt128.1 = 1383945041 then (if bt128.2 = 0 then (if bt130.2 = 1 then (if bt132.1 = 77 then (some (bt132.2 == 0)) else (none)) else (none)) else (none)) else (none)) else (none)) else (none))) else (none)) else (none)))))))) = some r := H
  have A3 := Aside0.mk A30
  clear A30
  replace H := Option.bind_eq_some_iff.mp H
  obtain ⟨t124, A40, H⟩ := H
  replace H : ((crc_Sum.f (⟨#[53, 54, 55, 56, 57]⟩ : ByteArray)).bind fun t125 => ((combine_Head.f k t124 t125 5).bind fun bt126 => ((combine_Blank.f k 1).bind fun bt128 => ((combine_Shift.f k 1 (-1)).bind fun bt130 => ((combine_Shift.f k 77 0).bind fun bt132 => (if t122 = 3808858755 then (if t123 = 0 then ((crc_Sum.f (⟨#[49, 50, 51, 52]⟩ : ByteArray)).bind fun t134 => (if bt126.1 = t134 then (if bt126.2 = 0 then (if bt128.1 = 1383945041 then (if bt128.2 = 0 then (if bt130.2 = 1 then (if bt132.1 = 77 then (some (bt132.2 == 0)) else (none)) else (none)) else (none)) else (none)) else (none)) else (none))) else (none)) else (none))))))) = some r := H
  have A4 := Aside0.mk A40
  clear A40
  replace H := Option.bind_eq_some_iff.mp H
  obtain ⟨t125, A50, H⟩ := H
  replace H : ((combine_Head.f k t124 t125 5).bind fun bt126 => ((combine_Blank.f k 1).bind fun bt128 => ((combine_Shift.f k 1 (-1)).bind fun bt130 => ((combine_Shift.f k 77 0).bind fun bt132 => (if t122 = 3808858755 then (if t123 = 0 then ((crc_Sum.f (⟨#[49, 50, 51, 52]⟩ : ByteArray)).bind fun t134 => (if bt126.1 = t134 then (if bt126.2 = 0 then (if bt128.1 = 1383945041 then (if bt128.2 = 0 then (if bt130.2 = 1 then (if bt132.1 = 77 then (some (bt132.2 == 0)) else (none)) else (none)) else (none)) else (none)) else (none)) else (none))) else (none)) else (none)))))) = some r := H
  have A5 := Aside0.mk A50
  clear A50
  replace H := Option.bind_eq_some_iff.mp H
  obtain ⟨⟨t126, t127⟩, A60, H⟩ := H
  replace H : ((combine_Blank.f k 1).bind fun bt128 => ((combine_Shift.f k 1 (-1)).bind fun bt130 => ((combine_Shift.f k 77 0).bind fun bt132 => (if t122 = 3808858755 then (if t123 = 0 then ((crc_Sum.f (⟨#[49, 50, 51, 52]⟩ : ByteArray)).bind fun t134 => (if t126 = t134 then (if t127 = 0 then (if bt128.1 = 1383945041 then (if bt128.2 = 0 then (if bt130.2 = 1 then (if bt132.1 = 77 then (some (bt132.2 == 0)) else (none)) else (none)) else (none)) else (none)) else (none)) else (none))) else (none)) else (none))))) = some r := H
  have A6 := Aside0.mk A60
  clear A60
  replace H := Option.bind_eq_some_iff.mp H
  obtain ⟨⟨t128, t129⟩, A70, H⟩ := H
  replace H : ((combine_Shift.f k 1 (-1)).bind fun bt130 => ((combine_Shift.f k 77 0).bind fun bt132 => (if t122 = 3808858755 then (if t123 = 0 then ((crc_Sum.f (⟨#[49, 50, 51, 52]⟩ : ByteArray)).bind fun t134 => (if t126 = t134 then (if t127 = 0 then (if t128 = 1383945041 then (if t129 = 0 then (if bt130.2 = 1 then (if bt132.1 = 77 then (some (bt132.2 == 0)) else (none)) else (none)) else (none)) else (none)) else (none)) else (none))) else (none)) else (none)))) = some r := H
  have A7 := Aside0.mk A70
  clear A70
  replace H := Option.bind_eq_some_iff.mp H
  obtain ⟨⟨t130, t131⟩, A80, H⟩ := H
  replace H : ((combine_Shift.f k 77 0).bind fun bt132 => (if t122 = 3808858755 then (if t123 = 0 then ((crc_Sum.f (⟨#[49, 50, 51, 52]⟩ : ByteArray)).bind fun t134 => (if t126 = t134 then (if t127 = 0 then (if t128 = 1383945041 then (if t129 = 0 then (if t131 = 1 then (if bt132.1 = 77 then (some (bt132.2 == 0)) else (none)) else (none)) else (none)) else (none)) else (none)) else (none))) else (none)) else (none))) = some r := H
  have A8 := Aside0.mk A80
  clear A80
  replace H := Option.bind_eq_some_iff.mp H
  obtain ⟨⟨t132, t133⟩, A90, H⟩ := H
  replace H : (if t122 = 3808858755 then (if t123 = 0 then ((crc_Sum.f (⟨#[49, 50, 51, 52]⟩ : ByteArray)).bind fun t134 => (if t126 = t134 then (if t127 = 0 then (if t128 = 1383945041 then (if t129 = 0 then (if t131 = 1 then (if t132 = 77 then (some (t133 == 0)) else (none)) else (none)) else (none)) else (none)) else (none)) else (none))) else (none)) else (none)) = some r := H
  have A9 := Aside0.mk A90
  clear A90
  by_cases c10 : t122 = 3808858755
  · rw [if_pos c10] at H
    have c10b0 : (t122 == 3808858755) = true := beq_iff_eq.mpr c10
    have c10b1 : (t122 != 3808858755) = false := bne_eq_false_iff_eq.mpr c10
    clear c10
    by_cases c11 : t123 = 0
    · rw [if_pos c11] at H
      have c11b0 : (t123 == 0) = true := beq_iff_eq.mpr c11
      have c11b1 : (t123 != 0) = false := bne_eq_false_iff_eq.mpr c11
      clear c11
      replace H := Option.bind_eq_some_iff.mp H
      obtain ⟨t134, A120, H⟩ := H
      replace H : (if t126 = t134 then (if t127 = 0 then (if t128 = 1383945041 then (if t129 = 0 then (if t131 = 1 then (if t132 = 77 then (some (t133 == 0)) else (none)) else (none)) else (none)) else (none)) else (none)) else (none)) = some r := H
      have A12 := Aside0.mk A120
      clear A120
      by_cases c13 : t126 = t134
      · rw [if_pos c13] at H
        have c13b0 : (t126 == t134) = true := beq_iff_eq.mpr c13
        have c13b1 : (t126 != t134) = false := bne_eq_false_iff_eq.mpr c13
        clear c13
        by_cases c14 : t127 = 0
        · rw [if_pos c14] at H
          have c14b0 : (t127 == 0) = true := beq_iff_eq.mpr c14
          have c14b1 : (t127 != 0) = false := bne_eq_false_iff_eq.mpr c14
          clear c14
          by_cases c15 : t128 = 1383945041
          · rw [if_pos c15] at H
            have c15b0 : (t128 == 1383945041) = true := beq_iff_eq.mpr c15
            have c15b1 : (t128 != 1383945041) = false := bne_eq_false_iff_eq.mpr c15
            clear c15
            by_cases c16 : t129 = 0
            · rw [if_pos c16] at H
              have c16b0 : (t129 == 0) = true := beq_iff_eq.mpr c16
              have c16b1 : (t129 != 0) = false := bne_eq_false_iff_eq.mpr c16
              clear c16
              by_cases c17 : t131 = 1
              · rw [if_pos c17] at H
                have c17b0 : (t131 == 1) = true := beq_iff_eq.mpr c17
                have c17b1 : (t131 != 1) = false := bne_eq_false_iff_eq.mpr c17
                clear c17
                by_cases c18 : t132 = 77
                · rw [if_pos c18] at H
                  have c18b0 : (t132 == 77) = true := beq_iff_eq.mpr c18
                  have c18b1 : (t132 != 77) = false := bne_eq_false_iff_eq.mpr c18
                  clear c18
                  obtain rfl := Option.some.inj H
                  go_enter Tryd.func6, Tryd.ntmps6
                  go_wp2_with (first | ((with_reducible refine gate_callee (f := 8) rfl ?_); refine goesL_ (some 12) rfl rfl Tryd.func8 (by kernel_rfl) rfl #[.string (⟨#[49, 50, 51, 52]⟩ : ByteArray)] rfl (by (try simp only [List.map_toArray, List.map_cons, List.map_nil]); first | done | rfl | (simp only [List.length_drop, List.length_take]; rfl)) ?_; (with_reducible refine (crc_Sum.calls (⟨#[49, 50, 51, 52]⟩ : ByteArray) t120 _ ?side1 A1.out).mono ?_); (case side1 => repeat (first | exact HG.out | apply GT.drewN | apply GT.drew)); rintro e w' ⟨rfl, ⟨nd, rfl⟩⟩; refine ⟨_, rfl, ?_⟩) | ((with_reducible refine gate_callee (f := 8) rfl ?_); refine goesL_ (some 13) rfl rfl Tryd.func8 (by kernel_rfl) rfl #[.string (⟨#[53, 54, 55, 56, 57]⟩ : ByteArray)] rfl (by (try simp only [List.map_toArray, List.map_cons, List.map_nil]); first | done | rfl | (simp only [List.length_drop, List.length_take]; rfl)) ?_; (with_reducible refine (crc_Sum.calls (⟨#[53, 54, 55, 56, 57]⟩ : ByteArray) t121 _ ?side1 A2.out).mono ?_); (case side1 => repeat (first | exact HG.out | apply GT.drewN | apply GT.drew)); rintro e w' ⟨rfl, ⟨nd, rfl⟩⟩; refine ⟨_, rfl, ?_⟩) | ((with_reducible refine gate_callee (f := 7) rfl ?_); refine goesL_ (some 14) rfl rfl Tryd.func7 (by kernel_rfl) rfl #[.int .u32 t120, .int .u32 t121, .int .i64 5] rfl (by (try simp only [List.map_toArray, List.map_cons, List.map_nil]); first | done | rfl | (simp only [List.length_drop, List.length_take]; rfl)) ?_; (with_reducible refine (combine_Join.calls k t120 t121 5 t122 t123 _ A3.out).mono ?_); rintro e w' ⟨rfl, ⟨nd, rfl⟩⟩; refine ⟨_, rfl, ?_⟩) | ((with_reducible refine gate_callee (f := 8) rfl ?_); refine goesL_ (some 18) rfl rfl Tryd.func8 (by kernel_rfl) rfl #[.string (⟨#[49, 50, 51, 52, 53, 54, 55, 56, 57]⟩ : ByteArray)] rfl (by (try simp only [List.map_toArray, List.map_cons, List.map_nil]); first | done | rfl | (simp only [List.length_drop, List.length_take]; rfl)) ?_; (with_reducible refine (crc_Sum.calls (⟨#[49, 50, 51, 52, 53, 54, 55, 56, 57]⟩ : ByteArray) t124 _ ?side1 A4.out).mono ?_); (case side1 => repeat (first | exact HG.out | apply GT.drewN | apply GT.drew)); rintro e w' ⟨rfl, ⟨nd, rfl⟩⟩; refine ⟨_, rfl, ?_⟩) | ((with_reducible refine gate_callee (f := 8) rfl ?_); refine goesL_ (some 19) rfl rfl Tryd.func8 (by kernel_rfl) rfl #[.string (⟨#[53, 54, 55, 56, 57]⟩ : ByteArray)] rfl (by (try simp only [List.map_toArray, List.map_cons, List.map_nil]); first | done | rfl | (simp only [List.length_drop, List.length_take]; rfl)) ?_; (with_reducible refine (crc_Sum.calls (⟨#[53, 54, 55, 56, 57]⟩ : ByteArray) t125 _ ?side1 A5.out).mono ?_); (case side1 => repeat (first | exact HG.out | apply GT.drewN | apply GT.drew)); rintro e w' ⟨rfl, ⟨nd, rfl⟩⟩; refine ⟨_, rfl, ?_⟩) | ((with_reducible refine gate_callee (f := 9) rfl ?_); refine goesL_ (some 20) rfl rfl Tryd.func9 (by kernel_rfl) rfl #[.int .u32 t124, .int .u32 t125, .int .i64 5] rfl (by (try simp only [List.map_toArray, List.map_cons, List.map_nil]); first | done | rfl | (simp only [List.length_drop, List.length_take]; rfl)) ?_; (with_reducible refine (combine_Head.calls k t124 t125 5 t126 t127 _ A6.out).mono ?_); rintro e w' ⟨rfl, ⟨nd, rfl⟩⟩; refine ⟨_, rfl, ?_⟩) | ((with_reducible refine gate_callee (f := 12) rfl ?_); refine goesL_ (some 24) rfl rfl Tryd.func12 (by kernel_rfl) rfl #[.int .i64 1] rfl (by (try simp only [List.map_toArray, List.map_cons, List.map_nil]); first | done | rfl | (simp only [List.length_drop, List.length_take]; rfl)) ?_; (with_reducible refine (combine_Blank.calls k 1 t128 t129 _ A7.out).mono ?_); rintro e w' ⟨rfl, ⟨nd, rfl⟩⟩; refine ⟨_, rfl, ?_⟩) | ((with_reducible refine gate_callee (f := 10) rfl ?_); refine goesL_ (some 28) rfl rfl Tryd.func10 (by kernel_rfl) rfl #[.int .u32 1, .int .i64 (-1)] rfl (by (try simp only [List.map_toArray, List.map_cons, List.map_nil]); first | done | rfl | (simp only [List.length_drop, List.length_take]; rfl)) ?_; (with_reducible refine (combine_Shift.calls k 1 (-1) t130 t131 _ A8.out).mono ?_); rintro e w' ⟨rfl, ⟨nd, rfl⟩⟩; refine ⟨_, rfl, ?_⟩) | ((with_reducible refine gate_callee (f := 10) rfl ?_); refine goesL_ (some 32) rfl rfl Tryd.func10 (by kernel_rfl) rfl #[.int .u32 77, .int .i64 0] rfl (by (try simp only [List.map_toArray, List.map_cons, List.map_nil]); first | done | rfl | (simp only [List.length_drop, List.length_take]; rfl)) ?_; (with_reducible refine (combine_Shift.calls k 77 0 t132 t133 _ A9.out).mono ?_); rintro e w' ⟨rfl, ⟨nd, rfl⟩⟩; refine ⟨_, rfl, ?_⟩) | (go_at_call 8; (with_reducible refine (crc_Sum.calls (⟨#[49, 50, 51, 52]⟩ : ByteArray) t134 _ ?side1 A12.out).mono ?_); (case side1 => repeat (first | exact HG.out | apply GT.drewN | apply GT.drew)); rintro e w' ⟨rfl, ⟨nd, rfl⟩⟩))
                  go_ret
                  exact ⟨by first | rfl | (simp; done) | (simp [*]; done), by repeat (first | exact Drawn0.refl _ | apply Drawn0.step)⟩
                · rw [if_neg c18] at H
                  exact absurd H (by simp)
              · rw [if_neg c17] at H
                exact absurd H (by simp)
            · rw [if_neg c16] at H
              exact absurd H (by simp)
          · rw [if_neg c15] at H
            exact absurd H (by simp)
        · rw [if_neg c14] at H
          exact absurd H (by simp)
      · rw [if_neg c13] at H
        exact absurd H (by simp)
    · rw [if_neg c11] at H
      exact absurd H (by simp)
  · rw [if_neg c10] at H
    exact absurd H (by simp)

end Go.Proofs.YtegfembmnnmnbabDoor.G
