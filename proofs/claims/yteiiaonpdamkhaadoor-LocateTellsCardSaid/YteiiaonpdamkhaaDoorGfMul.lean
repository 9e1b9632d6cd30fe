/- The contracts of gf's functions over this seat's program: products, powers and logarithms are GfM's. No condition. -/
import Derived.Test.YteiiaonpdamkhaaDoorGx0
import Derived.Test.YteiiaonpdamkhaaDoorGfMath
import Derived.Lib.Hide
import Derived.RangeFuncNested
import Derived.RangeFuncBound
import Derived.RangeFuncCalls
import Derived.RangeFuncLeaves
import Derived.Shelf.Abstract
import Derived.Shelf.RegionOpen
import Derived.OwnWalkIn
import Derived.TacticsInMore
import Derived.LoopNIn
import Derived.LoopIn
namespace Go.Proofs.YteiiaonpdamkhaaDoor.G
open Go.RowKit Go.Proofs.YteiiaonpdamkhaaDoorW.PrintWords Go.Proofs.YteiiaonpdamkhaaDoorW.PrintLast Go.Proofs.YteiiaonpdamkhaaDoorW.PrintMore
set_option linter.unusedVariables false
set_option linter.unusedSimpArgs false


/-! ### gf_double -/
def gfi_double.f (a0 : Int) : Option (Int) := some (Go.bits .xor .u8 ((a0 * 2) % 256) (Go.bits .and .u8 29 (((IntKind.i8.wrap (a0)) / 128) % 256)))
set_option maxHeartbeats 8000000 in
set_option maxRecDepth 100000 in
theorem gfi_double.calls (a0 : Int) (r : Int) (w : World) (h : gfi_double.f a0 = some r) :
    Calls Tryd.prog 84 #[.int .u8 a0] w fun e w' => e = .returned (.int .u8 r) ∧ Drawn0 w w' := by
  have H : (some (Go.bits .xor .u8 ((a0 * 2) % 256) (Go.bits .and .u8 29 (((IntKind.i8.wrap (a0)) / 128) % 256)))) = some r := h
  clear h
  obtain rfl := Option.some.inj H
  go_enter Tryd.func84, Tryd.ntmps84
  go_wp2
  go_ret
  exact ⟨by first | rfl | (simp; done) | (simp [*]; done), by repeat (first | exact Drawn0.refl _ | apply Drawn0.step)⟩

/-! ### gf_Mul -/
def gfi_Mul.l0 : Nat → Int → Int → Int → Option (Int)
  | 0, _, _, _ => none
  | k + 1, x0, x1, x5 => if x1 = 0 then (some x5) else ((gfi_double.f x0).bind fun t101 => (gfi_Mul.l0 k t101 (x1 / 2) (Go.bits .xor .u8 x5 (Go.bits .and .u8 x0 ((-(Go.bits .and .u8 x1 1)) % 256)))))
def gfi_Mul.f (k : Nat) (a0 : Int) (a1 : Int) : Option (Int) := gfi_Mul.l0 k a0 a1 0
set_option maxHeartbeats 8000000 in
set_option maxRecDepth 100000 in
theorem gfi_Mul.calls (k : Nat) (a0 : Int) (a1 : Int) (r : Int) (w : World) (h : gfi_Mul.f k a0 a1 = some r) :
    Calls Tryd.prog 78 #[.int .u8 a0, .int .u8 a1] w fun e w' => e = .returned (.int .u8 r) ∧ Drawn0 w w' := by
  have H : (gfi_Mul.l0 k a0 a1 0) = some r := h
  clear h
  have H' := Aside0.mk H
  clear H
  go_enter Tryd.func78, Tryd.ntmps78
  go_wp2
  go_loopg [0, 1, 5] k (fun kq v0 v1 v5 w' => ∃ (x0_1 : Int) (x1_1 : Int) (x5_1 : Int), v0 = .int .u8 x0_1 ∧ v1 = .int .u8 x1_1 ∧ v5 = .int .u8 x5_1 ∧ Aside0 (gfi_Mul.l0 kq x0_1 x1_1 x5_1 = some r) ∧ Aside0 (kq ≤ k) ∧ Drawn0 w w')
  case atStart => exact ⟨(a0), (a1), (0), (by first | rfl | (simp; done) | (simp [*]; done)), (by first | rfl | (simp; done) | (simp [*]; done)), (by first | rfl | (simp; done) | (simp [*]; done)), H', ⟨Nat.le_refl _⟩, by repeat (first | exact Drawn0.refl _ | apply Drawn0.step)⟩
  case round =>
    clear H'
    try clear c1
    try clear p2
    obtain ⟨x0_1, x1_1, x5_1, rfl, rfl, rfl, HA, HK1, ⟨m1, rfl⟩⟩ := hrel
    cases gk with
    | zero => exact absurd HA.out (by simp [gfi_Mul.l0])
    | succ k1 =>
      have H := HA.out
      clear HA
      simp only [gfi_Mul.l0] at H
      by_cases c3 : x1_1 = 0
      · rw [if_pos c3] at H
        have c3b0 : (x1_1 == 0) = true := beq_iff_eq.mpr c3
        have c3b1 : (x1_1 != 0) = false := bne_eq_false_iff_eq.mpr c3
        clear c3
        obtain rfl := Option.some.inj H
        go_wp2
        go_ret
        exact ⟨by first | rfl | (simp; done) | (simp [*]; done), by repeat (first | exact Drawn0.refl _ | apply Drawn0.step)⟩
      · rw [if_neg c3] at H
        have c3b0 : (x1_1 == 0) = false := beq_eq_false_iff_ne.mpr c3
        have c3b1 : (x1_1 != 0) = true := bne_iff_ne.mpr c3
        replace H := Option.bind_eq_some_iff.mp H
        obtain ⟨t101, A40, H⟩ := H
        replace H : (gfi_Mul.l0 k1 t101 (x1_1 / 2) (Go.bits .xor .u8 x5_1 (Go.bits .and .u8 x0_1 ((-(Go.bits .and .u8 x1_1 1)) % 256)))) = some r := H
        have A4 := Aside0.mk A40
        clear A40
        have H' := Aside0.mk H
        clear H
        go_wp2_with (first | ((with_reducible refine gate_callee (f := 84) rfl ?_); refine goesL_ (some 16) rfl rfl Tryd.func84 (by kernel_rfl) rfl #[.int .u8 x0_1] rfl (by (try simp only [List.map_toArray, List.map_cons, List.map_nil]); first | done | rfl | (simp only [List.length_drop, List.length_take]; rfl)) ?_; (with_reducible refine (gfi_double.calls x0_1 t101 _ A4.out).mono ?_); rintro e w' ⟨rfl, ⟨nd, rfl⟩⟩; refine ⟨_, rfl, ?_⟩))
        go_roundg k1
        case measure => have := HK1.out; omega
        case rel => exact ⟨(t101), (x1_1 / 2), (Go.bits .xor .u8 x5_1 (Go.bits .and .u8 x0_1 ((-(Go.bits .and .u8 x1_1 1)) % 256))), (by first | rfl | (simp; done) | (simp [*]; done)), (by first | rfl | (simp; done) | (simp [*]; done)), (by first | rfl | (simp; done) | (simp [*]; done)), H', ⟨by have := HK1.out; omega⟩, by repeat (first | exact Drawn0.refl _ | apply Drawn0.step)⟩

/-! ### gf_power -/
def gfi_power.l0 : Nat → Int → Int → Int → Option (Int)
  | 0, _, _, _ => none
  | k + 1, x0, x1, x5 => if x1 = 0 then (some x5) else (if (Go.bits .and .u64 x1 1) = 1 then ((gfi_Mul.f k x5 x0).bind fun t102 => ((gfi_Mul.f k x0 x0).bind fun t103 => (gfi_power.l0 k t103 (x1 / 2) t102))) else ((gfi_Mul.f k x0 x0).bind fun t104 => (gfi_power.l0 k t104 (x1 / 2) x5)))
def gfi_power.f (k : Nat) (a0 : Int) (a1 : Int) : Option (Int) := gfi_power.l0 k a0 a1 1
set_option maxHeartbeats 8000000 in
set_option maxRecDepth 100000 in
theorem gfi_power.calls (k : Nat) (a0 : Int) (a1 : Int) (r : Int) (w : World) (h : gfi_power.f k a0 a1 = some r) :
    Calls Tryd.prog 79 #[.int .u8 a0, .int .u64 a1] w fun e w' => e = .returned (.int .u8 r) ∧ Drawn0 w w' := by
  have H : (gfi_power.l0 k a0 a1 1) = some r := h
  clear h
  have H' := Aside0.mk H
  clear H
  go_enter Tryd.func79, Tryd.ntmps79
  go_wp2
  go_loopg [0, 1, 5] k (fun kq v0 v1 v5 w' => ∃ (x0_1 : Int) (x1_1 : Int) (x5_1 : Int), v0 = .int .u8 x0_1 ∧ v1 = .int .u64 x1_1 ∧ v5 = .int .u8 x5_1 ∧ Aside0 (gfi_power.l0 kq x0_1 x1_1 x5_1 = some r) ∧ Aside0 (kq ≤ k) ∧ Drawn0 w w')
  case atStart => exact ⟨(a0), (a1), (1), (by first | rfl | (simp; done) | (simp [*]; done)), (by first | rfl | (simp; done) | (simp [*]; done)), (by first | rfl | (simp; done) | (simp [*]; done)), H', ⟨Nat.le_refl _⟩, by repeat (first | exact Drawn0.refl _ | apply Drawn0.step)⟩
  case round =>
    clear H'
    try clear p2
    obtain ⟨x0_1, x1_1, x5_1, rfl, rfl, rfl, HA, HK1, ⟨m1, rfl⟩⟩ := hrel
    cases gk with
    | zero => exact absurd HA.out (by simp [gfi_power.l0])
    | succ k1 =>
      have H := HA.out
      clear HA
      simp only [gfi_power.l0] at H
      by_cases c3 : x1_1 = 0
      · rw [if_pos c3] at H
        have c3b0 : (x1_1 == 0) = true := beq_iff_eq.mpr c3
        have c3b1 : (x1_1 != 0) = false := bne_eq_false_iff_eq.mpr c3
        clear c3
        obtain rfl := Option.some.inj H
        go_wp2
        go_ret
        exact ⟨by first | rfl | (simp; done) | (simp [*]; done), by repeat (first | exact Drawn0.refl _ | apply Drawn0.step)⟩
      · rw [if_neg c3] at H
        have c3b0 : (x1_1 == 0) = false := beq_eq_false_iff_ne.mpr c3
        have c3b1 : (x1_1 != 0) = true := bne_iff_ne.mpr c3
        by_cases c4 : (Go.bits .and .u64 x1_1 1) = 1
        · rw [if_pos c4] at H
          have c4b0 : ((Go.bits .and .u64 x1_1 1) == 1) = true := beq_iff_eq.mpr c4
          have c4b1 : ((Go.bits .and .u64 x1_1 1) != 1) = false := bne_eq_false_iff_eq.mpr c4
          clear c4
          replace H := Option.bind_eq_some_iff.mp H
          obtain ⟨t102, A50, H⟩ := H
          replace H : ((gfi_Mul.f k1 x0_1 x0_1).bind fun t103 => (gfi_power.l0 k1 t103 (x1_1 / 2) t102)) = some r := H
          have A5 := Aside0.mk A50
          clear A50
          replace H := Option.bind_eq_some_iff.mp H
          obtain ⟨t103, A60, H⟩ := H
          replace H : (gfi_power.l0 k1 t103 (x1_1 / 2) t102) = some r := H
          have A6 := Aside0.mk A60
          clear A60
          have H' := Aside0.mk H
          clear H
          go_wp2_with (first | ((with_reducible refine gate_callee (f := 78) rfl ?_); refine goesL_ (some 15) rfl rfl Tryd.func78 (by kernel_rfl) rfl #[.int .u8 x5_1, .int .u8 x0_1] rfl (by (try simp only [List.map_toArray, List.map_cons, List.map_nil]); first | done | rfl | (simp only [List.length_drop, List.length_take]; rfl)) ?_; (with_reducible refine (gfi_Mul.calls k1 x5_1 x0_1 t102 _ A5.out).mono ?_); rintro e w' ⟨rfl, ⟨nd, rfl⟩⟩; refine ⟨_, rfl, ?_⟩) | ((with_reducible refine gate_callee (f := 78) rfl ?_); refine goesL_ (some 18) rfl rfl Tryd.func78 (by kernel_rfl) rfl #[.int .u8 x0_1, .int .u8 x0_1] rfl (by (try simp only [List.map_toArray, List.map_cons, List.map_nil]); first | done | rfl | (simp only [List.length_drop, List.length_take]; rfl)) ?_; (with_reducible refine (gfi_Mul.calls k1 x0_1 x0_1 t103 _ A6.out).mono ?_); rintro e w' ⟨rfl, ⟨nd, rfl⟩⟩; refine ⟨_, rfl, ?_⟩))
          go_roundg k1
          case measure => have := HK1.out; omega
          case rel => exact ⟨(t103), (x1_1 / 2), (t102), (by first | rfl | (simp; done) | (simp [*]; done)), (by first | rfl | (simp; done) | (simp [*]; done)), (by first | rfl | (simp; done) | (simp [*]; done)), H', ⟨by have := HK1.out; omega⟩, by repeat (first | exact Drawn0.refl _ | apply Drawn0.step)⟩
        · rw [if_neg c4] at H
          have c4b0 : ((Go.bits .and .u64 x1_1 1) == 1) = false := beq_eq_false_iff_ne.mpr c4
          have c4b1 : ((Go.bits .and .u64 x1_1 1) != 1) = true := bne_iff_ne.mpr c4
          replace H := Option.bind_eq_some_iff.mp H
          obtain ⟨t104, A70, H⟩ := H
          replace H : (gfi_power.l0 k1 t104 (x1_1 / 2) x5_1) = some r := H
          have A7 := Aside0.mk A70
          clear A70
          have H' := Aside0.mk H
          clear H
          go_wp2_with (first | ((with_reducible refine gate_callee (f := 78) rfl ?_); refine goesL_ (some 18) rfl rfl Tryd.func78 (by kernel_rfl) rfl #[.int .u8 x0_1, .int .u8 x0_1] rfl (by (try simp only [List.map_toArray, List.map_cons, List.map_nil]); first | done | rfl | (simp only [List.length_drop, List.length_take]; rfl)) ?_; (with_reducible refine (gfi_Mul.calls k1 x0_1 x0_1 t104 _ A7.out).mono ?_); rintro e w' ⟨rfl, ⟨nd, rfl⟩⟩; refine ⟨_, rfl, ?_⟩))
          go_roundg k1
          case measure => have := HK1.out; omega
          case rel => exact ⟨(t104), (x1_1 / 2), (x5_1), (by first | rfl | (simp; done) | (simp [*]; done)), (by first | rfl | (simp; done) | (simp [*]; done)), (by first | rfl | (simp; done) | (simp [*]; done)), H', ⟨by have := HK1.out; omega⟩, by repeat (first | exact Drawn0.refl _ | apply Drawn0.step)⟩


/-! ### what they come to -/
/-- A number as an element. -/
def el (x : Int) : BitVec 8 := BitVec.ofInt 8 x
theorem el_nat (x : BitVec 8) : el (x.toNat : Int) = x := by simp [el]
theorem el_back {a : Int} (h0 : 0 ≤ a) (h1 : a ≤ 255) : ((el a).toNat : Int) = a := by
  unfold el; rw [BitVec.toNat_ofInt]; omega
theorem el_range (x : BitVec 8) : 0 ≤ (x.toNat : Int) ∧ (x.toNat : Int) ≤ 255 := by have := x.isLt; omega
theorem g_xor8 (a b : BitVec 8) : Go.bits .xor .u8 (a.toNat : Int) (b.toNat : Int) = ((a ^^^ b).toNat : Int) := by
  have h := (a ^^^ b).isLt
  have ea : BitVec.ofInt 8 (a.toNat : Int) = a := by simp
  have eb : BitVec.ofInt 8 (b.toNat : Int) = b := by simp
  show IntKind.u8.wrap (((BitVec.ofInt 8 (a.toNat : Int)) ^^^ (BitVec.ofInt 8 (b.toNat : Int))).toNat : Int) = _
  rw [ea, eb, IntKind.wrap_u8]
  omega
theorem g_and8 (a b : BitVec 8) : Go.bits .and .u8 (a.toNat : Int) (b.toNat : Int) = ((a &&& b).toNat : Int) := by
  have h := (a &&& b).isLt
  have ea : BitVec.ofInt 8 (a.toNat : Int) = a := by simp
  have eb : BitVec.ofInt 8 (b.toNat : Int) = b := by simp
  show IntKind.u8.wrap (((BitVec.ofInt 8 (a.toNat : Int)) &&& (BitVec.ofInt 8 (b.toNat : Int))).toNat : Int) = _
  rw [ea, eb, IntKind.wrap_u8]
  omega
theorem gfi_double_all : ∀ i, i < 256 → gfi_double.f (((BitVec.ofNat 8 i).toNat : Nat) : Int) = some ((GfM.dbl (BitVec.ofNat 8 i)).toNat : Int) := by decide +kernel
theorem gfi_double_eq (x : BitVec 8) : gfi_double.f (x.toNat : Int) = some ((GfM.dbl x).toNat : Int) := by
  have := gfi_double_all x.toNat x.isLt
  simpa using this
theorem gfi_pick_all : ∀ i, i < 256 → (-(Go.bits .and .u8 (((BitVec.ofNat 8 i).toNat : Nat) : Int) 1)) % 256 = (((if (BitVec.ofNat 8 i).getLsbD 0 then 255#8 else 0#8) : BitVec 8).toNat : Int) := by decide +kernel
theorem gfi_pick (a b : BitVec 8) : Go.bits .and .u8 (a.toNat : Int) ((-(Go.bits .and .u8 (b.toNat : Int) 1)) % 256) = ((if b.getLsbD 0 then a else 0#8 : BitVec 8).toNat : Int) := by
  have := gfi_pick_all b.toNat b.isLt
  simp only [BitVec.ofNat_toNat, BitVec.setWidth_eq] at this
  rw [this, g_and8]
  cases b.getLsbD 0
  · simp
  · simp
    rw [show (255 : Nat) = 2 ^ 8 - 1 from rfl, Nat.and_two_pow_sub_one_eq_mod, Nat.mod_eq_of_lt a.isLt]
theorem mulk_zero_right (k : Nat) : ∀ a, GfM.mulk k a 0#8 = 0#8 := by
  induction k with
  | zero => intro a; rfl
  | succ k ih => intro a; simp [GfM.mulk, ih]
theorem gfi_Mul_l0 : ∀ (j : Nat) (a b p : BitVec 8), b.toNat < 2 ^ j → ∀ k, j < k → gfi_Mul.l0 k (a.toNat : Int) (b.toNat : Int) (p.toNat : Int) = some ((p ^^^ GfM.mulk j a b).toNat : Int)
  | 0, a, b, p, hb, k, hk => by
    obtain ⟨k, rfl⟩ : ∃ m, k = m + 1 := ⟨k - 1, by omega⟩
    have : b.toNat = 0 := by simpa using hb
    simp only [gfi_Mul.l0]
    rw [if_pos (by omega)]
    simp [GfM.mulk]
  | j + 1, a, b, p, hb, k, hk => by
    obtain ⟨k, rfl⟩ : ∃ m, k = m + 1 := ⟨k - 1, by omega⟩
    simp only [gfi_Mul.l0]
    by_cases h0 : b = 0#8
    · subst h0
      rw [if_pos (by rfl), mulk_zero_right]; simp
    · rw [if_neg (by intro e; apply h0; apply BitVec.eq_of_toNat_eq; simp; omega), gfi_double_eq, gfi_pick, g_xor8]
      simp only [Option.bind_some]
      have e : ((b >>> 1).toNat : Int) = (b.toNat : Int) / 2 := by rw [BitVec.toNat_ushiftRight, Nat.shiftRight_eq_div_pow]; omega
      rw [← e, gfi_Mul_l0 j _ _ _ (by rw [BitVec.toNat_ushiftRight, Nat.shiftRight_eq_div_pow]; rw [Nat.pow_succ] at hb; omega) k (by omega)]
      simp only [GfM.mulk]
      rw [BitVec.xor_assoc]
theorem gfi_Mul_eq (a b : BitVec 8) (k : Nat) (hk : 9 ≤ k) : gfi_Mul.f k (a.toNat : Int) (b.toNat : Int) = some ((GfM.mul a b).toNat : Int) := by
  unfold gfi_Mul.f GfM.mul
  rw [show (0 : Int) = ((0#8 : BitVec 8).toNat : Int) from rfl, gfi_Mul_l0 8 a b 0#8 (by have := b.isLt; omega) k (by omega)]
  simp
def isB (a : Int) : Prop := 0 ≤ a ∧ a ≤ 255
instance (a : Int) : Decidable (isB a) := by unfold isB; exact inferInstance
def mulI (a b : Int) : Int := ((GfM.mul (el a) (el b)).toNat : Int)
theorem pwk_zero (k : Nat) : ∀ p a, GfM.pwk k p 0 a = p := by
  induction k with
  | zero => intro p a; rfl
  | succ k ih => intro p a; simp [GfM.pwk, ih]
theorem pwk_more (j : Nat) : ∀ p n a d, n < 2 ^ j → GfM.pwk (j + d) p n a = GfM.pwk j p n a := by
  induction j with
  | zero => intro p n a d hn; have : n = 0 := by simpa using hn
            subst this; rw [pwk_zero, pwk_zero]
  | succ j ih =>
    intro p n a d hn
    rw [show j + 1 + d = (j + d) + 1 from by omega]
    simp only [GfM.pwk]
    rw [ih _ _ _ d (by rw [Nat.pow_succ] at hn; omega)]
theorem gfi_power_l0 : ∀ (j : Nat) (a p : BitVec 8) (n : Nat), n < 2 ^ j → n < 18446744073709551616 → ∀ k, j + 9 < k → gfi_power.l0 k (a.toNat : Int) (n : Int) (p.toNat : Int) = some ((GfM.pwk j p n a).toNat : Int)
  | 0, a, p, n, hn, _, k, hk => by
    obtain ⟨k, rfl⟩ : ∃ m, k = m + 1 := ⟨k - 1, by omega⟩
    have : n = 0 := by simpa using hn
    subst this
    simp only [gfi_power.l0]
    rw [if_pos (by rfl)]; rfl
  | j + 1, a, p, n, hn, hn2, k, hk => by
    obtain ⟨k, rfl⟩ : ∃ m, k = m + 1 := ⟨k - 1, by omega⟩
    simp only [gfi_power.l0]
    by_cases h0 : n = 0
    · subst h0
      rw [if_pos (by rfl), pwk_zero]
    · have hm : Go.bits .and .u64 (n : Int) 1 = (n : Int) % 2 := Go.bits_mask .u64 64 (by decide) (fun n h0 h1 => by rw [IntKind.wrap_u64]; omega) 1 (by decide) (n : Int) (by omega) (by omega)
      have hd : ((n : Int) / 2) = ((n / 2 : Nat) : Int) := by omega
      have hlt : n / 2 < 2 ^ j := by rw [Nat.pow_succ] at hn; omega
      rw [if_neg (by omega), hm, gfi_Mul_eq _ _ k (by omega), gfi_Mul_eq _ _ k (by omega), hd]
      simp only [Option.bind_some]
      rw [gfi_power_l0 j _ _ _ hlt (by omega) k (by omega), gfi_power_l0 j _ _ _ hlt (by omega) k (by omega)]
      simp only [GfM.pwk]
      by_cases h1 : n % 2 = 1
      · rw [if_pos (by omega), if_pos h1]
      · rw [if_neg (by omega), if_neg h1]
def powI (a n : Int) : Int := ((GfM.pwk 64 1#8 n.toNat (el a)).toNat : Int)
def gf_power.f (a0 : Int) (a1 : Int) : Option Int := if isB a0 ∧ 0 ≤ a1 ∧ a1 ≤ 18446744073709551615 then some (powI a0 a1) else none
theorem gf_power.calls (a0 : Int) (a1 : Int) (r : Int) (w : World) (h : gf_power.f a0 a1 = some r) :
    Calls Tryd.prog 79 #[.int .u8 a0, .int .u64 a1] w fun e w' => e = .returned (.int .u8 r) ∧ Drawn0 w w' := by
  unfold gf_power.f at h
  by_cases hc : isB a0 ∧ 0 ≤ a1 ∧ a1 ≤ 18446744073709551615
  · rw [if_pos hc] at h
    obtain rfl := Option.some.inj h
    refine gfi_power.calls 80 a0 a1 _ w ?_
    have := gfi_power_l0 64 (el a0) 1#8 a1.toNat (by omega) (by omega) 80 (by decide)
    rw [el_back hc.1.1 hc.1.2, Int.toNat_of_nonneg hc.2.1] at this
    exact this
  · rw [if_neg hc] at h; cases h
theorem double_same (x : BitVec 8) (w : World) : Calls Tryd.prog 84 #[.int .u8 (x.toNat : Int)] w fun e w' => e = .returned (.int .u8 ((GfM.dbl x).toNat : Int)) ∧ w = w' := by
  have H := gfi_double_eq x
  unfold gfi_double.f at H
  have h0 := el_range x
  obtain ⟨a0, ha⟩ : ∃ a0 : Int, a0 = (x.toNat : Int) := ⟨_, rfl⟩
  rw [← ha] at H h0 ⊢
  clear ha
  rw [← Option.some.inj H]
  clear H
  go_enter Tryd.func84, Tryd.ntmps84
  go_wp2
  go_ret
  exact ⟨by first | rfl | (simp; done) | (simp [*]; done), rfl⟩
end Go.Proofs.YteiiaonpdamkhaaDoor.G
