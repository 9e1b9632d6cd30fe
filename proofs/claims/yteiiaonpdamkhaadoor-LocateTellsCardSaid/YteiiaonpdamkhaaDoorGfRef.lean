/- The contract of caulkref02.Mul over this seat's program: the product is GfM's. No condition. -/
import Derived.Test.YteiiaonpdamkhaaDoorGfMul
namespace Go.Proofs.YteiiaonpdamkhaaDoor.G
open Go.RowKit Go.Proofs.YteiiaonpdamkhaaDoorW.PrintWords Go.Proofs.YteiiaonpdamkhaaDoorW.PrintLast Go.Proofs.YteiiaonpdamkhaaDoorW.PrintMore
set_option linter.unusedVariables false
set_option linter.unusedSimpArgs false

mutual
def cri_Mul.l0 : Nat → Int → Int → Int → Int → Option (Int)
  | 0, _, _, _, _ => none
  | k + 1, x0, x1, x5, x6 => if x6 < 8 then (if 0 ≤ x6 then (if (Go.bits .and .u8 (shr .u8 x1 x6) 1) = 1 then (cri_Mul.l0 k x0 x1 (Go.bits .xor .i64 x5 (shl .i64 (wrap64 (x0)) x6)) (wrap64 (x6 + 1))) else (cri_Mul.l0 k x0 x1 x5 (wrap64 (x6 + 1)))) else (none)) else (cri_Mul.l1 k x5 14)
def cri_Mul.l1 : Nat → Int → Int → Option (Int)
  | 0, _, _ => none
  | k + 1, x5, x7 => if x7 ≥ 8 then (if 0 ≤ x7 then (if (Go.bits .and .i64 (shr .i64 x5 x7) 1) = 1 then (if 0 ≤ (wrap64 (x7 - 8)) then (cri_Mul.l1 k (Go.bits .xor .i64 x5 (shl .i64 285 (wrap64 (x7 - 8)))) (wrap64 (x7 - 1))) else (none)) else (cri_Mul.l1 k x5 (wrap64 (x7 - 1)))) else (none)) else (some ((x5) % 256))
end
def cri_Mul.f (k : Nat) (a0 : Int) (a1 : Int) : Option (Int) := cri_Mul.l0 k a0 a1 0 0
set_option maxHeartbeats 8000000 in
set_option maxRecDepth 100000 in
theorem cri_Mul.calls (k : Nat) (a0 : Int) (a1 : Int) (r : Int) (w : World) (h : cri_Mul.f k a0 a1 = some r) :
    Calls Tryd.prog 54 #[.int .u8 a0, .int .u8 a1] w fun e w' => e = .returned (.int .u8 r) ∧ Drawn0 w w' := by
  have H : (cri_Mul.l0 k a0 a1 0 0) = some r := h
  clear h
  have H' := Aside0.mk H
  clear H
  go_enter Tryd.func54, Tryd.ntmps54
  go_wp2
  go_loopg [5, 6] k (fun kq v5 v6 w' => ∃ (x5_1 : Int) (x6_1 : Int), v5 = .int .i64 x5_1 ∧ v6 = .int .i64 x6_1 ∧ Aside0 (cri_Mul.l0 kq a0 a1 x5_1 x6_1 = some r) ∧ Aside0 (kq ≤ k) ∧ Drawn0 w w')
  case atStart => exact ⟨(0), (0), (by first | rfl | (simp; done) | (simp [*]; done)), (by first | rfl | (simp; done) | (simp [*]; done)), H', ⟨Nat.le_refl _⟩, by repeat (first | exact Drawn0.refl _ | apply Drawn0.step)⟩
  case round =>
    clear H'
    try clear c1
    try clear p2
    obtain ⟨x5_1, x6_1, rfl, rfl, HA, HK1, ⟨m1, rfl⟩⟩ := hrel
    cases gk with
    | zero => exact absurd HA.out (by simp [cri_Mul.l0])
    | succ k1 =>
      have H := HA.out
      clear HA
      simp only [cri_Mul.l0] at H
      by_cases c3 : x6_1 < 8
      · rw [if_pos c3] at H
        have c3b0 : decide (x6_1 < 8) = true := decide_eq_true c3
        clear c3
        by_cases c4 : 0 ≤ x6_1
        · rw [if_pos c4] at H
          have c4b0 := eq_true c4
          have c4b1 : decide (0 ≤ x6_1) = true := decide_eq_true c4
          clear c4
          obtain ⟨ji5, hji5⟩ : ∃ j_ : Int, (shr .u8 a1 x6_1) = j_ := ⟨_, rfl⟩
          replace H : (if (Go.bits .and .u8 (ji5) 1) = 1 then (cri_Mul.l0 k1 a0 a1 (Go.bits .xor .i64 x5_1 (shl .i64 (wrap64 (a0)) x6_1)) (wrap64 (x6_1 + 1))) else (cri_Mul.l0 k1 a0 a1 x5_1 (wrap64 (x6_1 + 1)))) = some r := by first | (rw [hji5] at H; exact H) | (simp only [hji5] at H ⊢; exact H)
          have hji5_ : (a1 / 2 ^ min x6_1.toNat 8) = ji5 := hji5
          have hji5z : x6_1 ≤ 8 → (a1 / 2 ^ x6_1.toNat) = ji5 := shr_small hji5
          by_cases c6 : (Go.bits .and .u8 (ji5) 1) = 1
          · rw [if_pos c6] at H
            have c6b0 : ((Go.bits .and .u8 (ji5) 1) == 1) = true := beq_iff_eq.mpr c6
            have c6b1 : ((Go.bits .and .u8 (ji5) 1) != 1) = false := bne_eq_false_iff_eq.mpr c6
            clear c6
            have c7b0 := eq_true (of_decide_eq_true (by first | (with_reducible assumption) | assumption) : 0 ≤ x6_1)
            obtain ⟨ji8, hji8⟩ : ∃ j_ : Int, (shl .i64 (wrap64 (a0)) x6_1) = j_ := ⟨_, rfl⟩
            replace H : (cri_Mul.l0 k1 a0 a1 (Go.bits .xor .i64 x5_1 (ji8)) (wrap64 (x6_1 + 1))) = some r := by first | (rw [hji8] at H; exact H) | (simp only [hji8] at H ⊢; exact H)
            have hji8_ : (IntKind.i64.wrap ((wrap64 (a0)) * 2 ^ min x6_1.toNat 64)) = ji8 := hji8
            have hji8z : x6_1 ≤ 64 → (IntKind.i64.wrap ((wrap64 (a0)) * 2 ^ x6_1.toNat)) = ji8 := shl_small hji8
            have hji8y : (wrap64 ((wrap64 (a0)) * 2 ^ min x6_1.toNat 64)) = ji8 := (i64_w _).symm.trans hji8_
            have hji8x : x6_1 ≤ 64 → (wrap64 ((wrap64 (a0)) * 2 ^ x6_1.toNat)) = ji8 := fun h_ => (i64_w _).symm.trans (hji8z h_)
            have H' := Aside0.mk H
            clear H
            go_wp2
            go_roundg k1
            case measure => have := HK1.out; omega
            case rel => exact ⟨(Go.bits .xor .i64 x5_1 (ji8)), (wrap64 (x6_1 + 1)), (by first | rfl | (simp; done) | (simp only [← hji8] <;> (first | rfl | simp)) | (simp [*]; done)), (by first | rfl | (simp; done) | (simp [*]; done)), H', ⟨by have := HK1.out; omega⟩, by repeat (first | exact Drawn0.refl _ | apply Drawn0.step)⟩
          · rw [if_neg c6] at H
            have c6b0 : ((Go.bits .and .u8 (ji5) 1) == 1) = false := beq_eq_false_iff_ne.mpr c6
            have c6b1 : ((Go.bits .and .u8 (ji5) 1) != 1) = true := bne_iff_ne.mpr c6
            have H' := Aside0.mk H
            clear H
            go_wp2
            go_roundg k1
            case measure => have := HK1.out; omega
            case rel => exact ⟨(x5_1), (wrap64 (x6_1 + 1)), (by first | rfl | (simp; done) | (simp [*]; done)), (by first | rfl | (simp; done) | (simp [*]; done)), H', ⟨by have := HK1.out; omega⟩, by repeat (first | exact Drawn0.refl _ | apply Drawn0.step)⟩
        · rw [if_neg c4] at H
          exact absurd H (by simp)
      · rw [if_neg c3] at H
        have c3b0 : decide (x6_1 < 8) = false := decide_eq_false c3
        clear c3
        have H' := Aside0.mk H
        clear H
        go_wp2
        go_loopg [5, 7] k1 (fun kq v5 v7 w' => ∃ (x5_2 : Int) (x7_2 : Int), v5 = .int .i64 x5_2 ∧ v7 = .int .i64 x7_2 ∧ Aside0 (cri_Mul.l1 kq x5_2 x7_2 = some r) ∧ Aside0 (kq ≤ k1) ∧ Drawn0 w w')
        case atStart => exact ⟨(x5_1), (14), (by first | rfl | (simp; done) | (simp [*]; done)), (by first | rfl | (simp; done) | (simp [*]; done)), H', ⟨Nat.le_refl _⟩, by repeat (first | exact Drawn0.refl _ | apply Drawn0.step)⟩
        case round =>
          clear H'
          try clear c1
          try clear p2
          try clear c3
          try clear c3b0
          try clear c4
          try clear c4b0
          try clear c4b1
          try clear c6
          try clear c6b0
          try clear c6b1
          try clear p6
          try clear c7
          try clear c7b0
          try clear p2
          obtain ⟨x5_2, x7_2, rfl, rfl, HA, HK2, ⟨m2, rfl⟩⟩ := hrel
          cases gk with
          | zero => exact absurd HA.out (by simp [cri_Mul.l1])
          | succ k2 =>
            have H := HA.out
            clear HA
            simp only [cri_Mul.l1] at H
            by_cases c9 : x7_2 ≥ 8
            · rw [if_pos c9] at H
              have c9b0 : decide (8 ≤ x7_2) = true := decide_eq_true c9
              clear c9
              by_cases c10 : 0 ≤ x7_2
              · rw [if_pos c10] at H
                have c10b0 := eq_true c10
                have c10b1 : decide (0 ≤ x7_2) = true := decide_eq_true c10
                clear c10
                obtain ⟨ji11, hji11⟩ : ∃ j_ : Int, (shr .i64 x5_2 x7_2) = j_ := ⟨_, rfl⟩
                replace H : (if (Go.bits .and .i64 (ji11) 1) = 1 then (if 0 ≤ (wrap64 (x7_2 - 8)) then (cri_Mul.l1 k2 (Go.bits .xor .i64 x5_2 (shl .i64 285 (wrap64 (x7_2 - 8)))) (wrap64 (x7_2 - 1))) else (none)) else (cri_Mul.l1 k2 x5_2 (wrap64 (x7_2 - 1)))) = some r := by first | (rw [hji11] at H; exact H) | (simp only [hji11] at H ⊢; exact H)
                have hji11_ : (x5_2 / 2 ^ min x7_2.toNat 64) = ji11 := hji11
                have hji11z : x7_2 ≤ 64 → (x5_2 / 2 ^ x7_2.toNat) = ji11 := shr_small hji11
                by_cases c12 : (Go.bits .and .i64 (ji11) 1) = 1
                · rw [if_pos c12] at H
                  have c12b0 : ((Go.bits .and .i64 (ji11) 1) == 1) = true := beq_iff_eq.mpr c12
                  have c12b1 : ((Go.bits .and .i64 (ji11) 1) != 1) = false := bne_eq_false_iff_eq.mpr c12
                  clear c12
                  obtain ⟨ji13, hji13⟩ : ∃ j_ : Int, (wrap64 (x7_2 - 8)) = j_ := ⟨_, rfl⟩
                  replace H : (if 0 ≤ (ji13) then (cri_Mul.l1 k2 (Go.bits .xor .i64 x5_2 (shl .i64 285 (ji13))) (wrap64 (x7_2 - 1))) else (none)) = some r := by first | (rw [hji13] at H; exact H) | (simp only [hji13] at H ⊢; exact H)
                  have hji13w : (IntKind.i64.wrap (x7_2 - 8)) = ji13 := (i64_w _).trans hji13
                  by_cases c14 : 0 ≤ (ji13)
                  · rw [if_pos c14] at H
                    have c14b0 := eq_true c14
                    have c14b1 : decide (0 ≤ (ji13)) = true := decide_eq_true c14
                    clear c14
                    obtain ⟨ji15, hji15⟩ : ∃ j_ : Int, (shl .i64 285 (ji13)) = j_ := ⟨_, rfl⟩
                    replace H : (cri_Mul.l1 k2 (Go.bits .xor .i64 x5_2 (ji15)) (wrap64 (x7_2 - 1))) = some r := by first | (rw [hji15] at H; exact H) | (simp only [hji15] at H ⊢; exact H)
                    have hji15_ : (IntKind.i64.wrap (285 * 2 ^ min (ji13).toNat 64)) = ji15 := hji15
                    have hji15z : (ji13) ≤ 64 → (IntKind.i64.wrap (285 * 2 ^ (ji13).toNat)) = ji15 := shl_small hji15
                    have hji15y : (wrap64 (285 * 2 ^ min (ji13).toNat 64)) = ji15 := (i64_w _).symm.trans hji15_
                    have hji15x : (ji13) ≤ 64 → (wrap64 (285 * 2 ^ (ji13).toNat)) = ji15 := fun h_ => (i64_w _).symm.trans (hji15z h_)
                    have H' := Aside0.mk H
                    clear H
                    go_wp2
                    go_roundg k2
                    case measure => have := HK1.out; have := HK2.out; omega
                    case rel => exact ⟨(Go.bits .xor .i64 x5_2 (ji15)), (wrap64 (x7_2 - 1)), (by first | rfl | (simp; done) | (simp only [← hji15] <;> (first | rfl | simp)) | (simp [*]; done)), (by first | rfl | (simp; done) | (simp [*]; done)), H', ⟨by have := HK1.out; have := HK2.out; omega⟩, by repeat (first | exact Drawn0.refl _ | apply Drawn0.step)⟩
                  · rw [if_neg c14] at H
                    exact absurd H (by simp)
                · rw [if_neg c12] at H
                  have c12b0 : ((Go.bits .and .i64 (ji11) 1) == 1) = false := beq_eq_false_iff_ne.mpr c12
                  have c12b1 : ((Go.bits .and .i64 (ji11) 1) != 1) = true := bne_iff_ne.mpr c12
                  have H' := Aside0.mk H
                  clear H
                  go_wp2
                  go_roundg k2
                  case measure => have := HK1.out; have := HK2.out; omega
                  case rel => exact ⟨(x5_2), (wrap64 (x7_2 - 1)), (by first | rfl | (simp; done) | (simp [*]; done)), (by first | rfl | (simp; done) | (simp [*]; done)), H', ⟨by have := HK1.out; have := HK2.out; omega⟩, by repeat (first | exact Drawn0.refl _ | apply Drawn0.step)⟩
              · rw [if_neg c10] at H
                exact absurd H (by simp)
            · rw [if_neg c9] at H
              have c9b0 : decide (8 ≤ x7_2) = false := decide_eq_false c9
              clear c9
              obtain rfl := Option.some.inj H
              go_wp2
              go_ret
              exact ⟨by first | rfl | (simp; done) | (simp [*]; done), by repeat (first | exact Drawn0.refl _ | apply Drawn0.step)⟩


/-! ### as polynomials -/
def clmk (a b : BitVec 8) : Nat → BitVec 16
  | 0 => 0#16
  | i + 1 => clmk a b i ^^^ (if b.getLsbD i then a.setWidth 16 <<< i else 0#16)
def redk (p : BitVec 16) : Nat → BitVec 16
  | 0 => p
  | j + 1 => redk p j ^^^ (if (redk p j).getLsbD (14 - j) then 0x11d#16 <<< (6 - j) else 0#16)
theorem xor16 (a b c d : BitVec 16) : (a ^^^ b) ^^^ (c ^^^ d) = (a ^^^ c) ^^^ (b ^^^ d) := by
  ext i hi; simp only [BitVec.getElem_xor]; cases a[i] <;> cases b[i] <;> cases c[i] <;> cases d[i] <;> rfl
theorem clmk_left (a a' b : BitVec 8) : ∀ i, clmk (a ^^^ a') b i = clmk a b i ^^^ clmk a' b i
  | 0 => by simp [clmk]
  | i + 1 => by
    simp only [clmk]
    rw [clmk_left a a' b i, xor16]
    congr 1
    cases b.getLsbD i
    · simp
    · simp only [if_true, BitVec.setWidth_xor, BitVec.shiftLeft_xor_distrib]
theorem clmk_right (a b b' : BitVec 8) : ∀ i, clmk a (b ^^^ b') i = clmk a b i ^^^ clmk a b' i
  | 0 => by simp [clmk]
  | i + 1 => by
    simp only [clmk]
    rw [clmk_right a b b' i, xor16]
    congr 1
    rw [BitVec.getLsbD_xor]
    cases b.getLsbD i <;> cases b'.getLsbD i <;> simp
theorem redk_xor (p q : BitVec 16) : ∀ j, redk (p ^^^ q) j = redk p j ^^^ redk q j
  | 0 => rfl
  | j + 1 => by
    simp only [redk]
    rw [redk_xor p q j, xor16]
    congr 1
    rw [BitVec.getLsbD_xor]
    cases (redk p j).getLsbD (14 - j) <;> cases (redk q j).getLsbD (14 - j) <;> simp
def polymul (a b : BitVec 8) : BitVec 8 := (redk (clmk a b 8) 7).setWidth 8
theorem polymul_basis : ∀ i, i < 8 → ∀ j, j < 8 → polymul (BitVec.ofNat 8 (2 ^ i)) (BitVec.ofNat 8 (2 ^ j)) = GfM.mul (BitVec.ofNat 8 (2 ^ i)) (BitVec.ofNat 8 (2 ^ j)) := by decide +kernel
theorem polymul_eq (a b : BitVec 8) : polymul a b = GfM.mul a b := by
  refine GfM.lin_ext (fun a => polymul a b) (fun a => GfM.mul a b) (fun x y => ?_) (fun x y => GfM.mul_xor_left x y b) (fun i hi => ?_) a
  · simp only [polymul]; rw [clmk_left, redk_xor, BitVec.setWidth_xor]
  · refine GfM.lin_ext (fun b => polymul (BitVec.ofNat 8 (2 ^ i)) b) (fun b => GfM.mul (BitVec.ofNat 8 (2 ^ i)) b) (fun x y => ?_) (fun x y => GfM.mul_xor_right _ x y) (fun j hj => polymul_basis i hi j hj) b
    simp only [polymul]; rw [clmk_right, redk_xor, BitVec.setWidth_xor]
theorem g_xor16 (a b : BitVec 16) : Go.bits .xor .i64 (a.toNat : Int) (b.toNat : Int) = ((a ^^^ b).toNat : Int) := by
  have h := (a ^^^ b).isLt
  have ea : BitVec.ofInt 64 (a.toNat : Int) = a.setWidth 64 := by apply BitVec.eq_of_toNat_eq; rw [BitVec.toNat_ofInt, BitVec.toNat_setWidth]; have := a.isLt; omega
  have eb : BitVec.ofInt 64 (b.toNat : Int) = b.setWidth 64 := by apply BitVec.eq_of_toNat_eq; rw [BitVec.toNat_ofInt, BitVec.toNat_setWidth]; have := b.isLt; omega
  show IntKind.i64.wrap (((BitVec.ofInt 64 (a.toNat : Int)) ^^^ (BitVec.ofInt 64 (b.toNat : Int))).toNat : Int) = _
  rw [ea, eb, ← BitVec.setWidth_xor, BitVec.toNat_setWidth, IntKind.wrap_i64]
  omega
theorem g_bit8 (b : BitVec 8) (i : Nat) (hi : i < 8) : (Go.bits .and .u8 (shr .u8 (b.toNat : Int) (i : Int)) 1 = 1) ↔ b.getLsbD i = true := by
  have e : shr .u8 (b.toNat : Int) (i : Int) = ((b.toNat / 2 ^ i : Nat) : Int) := by
    unfold shr
    rw [Int.toNat_natCast, Nat.min_eq_left (by simp [IntKind.bits]; omega)]
    simp
  have hle : b.toNat / 2 ^ i ≤ b.toNat := Nat.div_le_self _ _
  have hlt := b.isLt
  rw [e]
  simp only [BitVec.getLsbD, Nat.testBit_eq_decide_div_mod_eq, decide_eq_true_eq]
  generalize b.toNat / 2 ^ i = m at *
  have hm : Go.bits .and .u8 (m : Int) 1 = (m : Int) % 2 := by
    have := Go.bits_mask .u8 8 (by decide) (fun n h0 h1 => by rw [IntKind.wrap_u8]; omega) 1 (by decide) (m : Int) (by omega) (by omega)
    simpa using this
  rw [hm]
  omega
theorem g_bit16 (p : BitVec 16) (i : Nat) (hi : i < 16) : (Go.bits .and .i64 (shr .i64 (p.toNat : Int) (i : Int)) 1 = 1) ↔ p.getLsbD i = true := by
  have e : shr .i64 (p.toNat : Int) (i : Int) = ((p.toNat / 2 ^ i : Nat) : Int) := by
    unfold shr
    rw [Int.toNat_natCast, Nat.min_eq_left (by simp [IntKind.bits]; omega)]
    simp
  have hle : p.toNat / 2 ^ i ≤ p.toNat := Nat.div_le_self _ _
  have hlt := p.isLt
  rw [e]
  simp only [BitVec.getLsbD, Nat.testBit_eq_decide_div_mod_eq, decide_eq_true_eq]
  generalize p.toNat / 2 ^ i = m at *
  have hm : Go.bits .and .i64 (m : Int) 1 = (m : Int) % 2 := by
    have := Go.bits_mask .i64 63 (by decide) (fun n h0 h1 => by rw [IntKind.wrap_i64]; omega) 1 (by decide) (m : Int) (by omega) (by omega)
    simpa using this
  rw [hm]
  omega
theorem g_shl16 (a : BitVec 8) (i : Nat) (hi : i < 8) : shl .i64 (wrap64 (a.toNat : Int)) (i : Int) = ((a.setWidth 16 <<< i).toNat : Int) := by
  have h := a.isLt
  have e : wrap64 (a.toNat : Int) = (a.toNat : Int) := by unfold wrap64; omega
  unfold shl
  rw [e, Int.toNat_natCast, Nat.min_eq_left (by simp [IntKind.bits]; omega), IntKind.wrap_i64, BitVec.toNat_shiftLeft, BitVec.toNat_setWidth, Nat.shiftLeft_eq, Nat.mod_eq_of_lt (show a.toNat < 2 ^ 16 from by omega)]
  rcases (by omega : i = 0 ∨ i = 1 ∨ i = 2 ∨ i = 3 ∨ i = 4 ∨ i = 5 ∨ i = 6 ∨ i = 7) with rfl | rfl | rfl | rfl | rfl | rfl | rfl | rfl <;> simp <;> omega
theorem cri_l0 (a b : BitVec 8) : ∀ (d i k : Nat), i + d = 8 → d < k → cri_Mul.l0 k (a.toNat : Int) (b.toNat : Int) ((clmk a b i).toNat : Int) (i : Int) = cri_Mul.l1 (k - d - 1) ((clmk a b 8).toNat : Int) 14
  | 0, i, k, hi, hk => by
    obtain ⟨k, rfl⟩ : ∃ m, k = m + 1 := ⟨k - 1, by omega⟩
    obtain rfl : i = 8 := by omega
    simp only [cri_Mul.l0]
    rw [if_neg (by omega)]; rfl
  | d + 1, i, k, hi, hk => by
    obtain ⟨k, rfl⟩ : ∃ m, k = m + 1 := ⟨k - 1, by omega⟩
    simp only [cri_Mul.l0]
    have ew : wrap64 ((i : Int) + 1) = ((i + 1 : Nat) : Int) := by unfold wrap64; omega
    rw [if_pos (by omega), if_pos (by omega), g_shl16 a i (by omega), g_xor16, ew]
    have ih := cri_l0 a b d (i + 1) k (by omega) (by omega)
    rw [show k + 1 - (d + 1) - 1 = k - d - 1 from by omega, ← ih]
    by_cases hb : b.getLsbD i = true
    · rw [if_pos ((g_bit8 b i (by omega)).2 hb)]; simp [clmk, hb]
    · rw [if_neg (fun e => hb ((g_bit8 b i (by omega)).1 e))]; simp [clmk, hb]
theorem cri_l1 (p : BitVec 16) : ∀ (d j k : Nat), j + d = 7 → d < k → cri_Mul.l1 k ((redk p j).toNat : Int) ((14 - j : Nat) : Int) = some (((redk p 7).toNat : Int) % 256)
  | 0, j, k, hj, hk => by
    obtain ⟨k, rfl⟩ : ∃ m, k = m + 1 := ⟨k - 1, by omega⟩
    obtain rfl : j = 7 := by omega
    simp only [cri_Mul.l1]
    rw [if_neg (by omega)]
  | d + 1, j, k, hj, hk => by
    obtain ⟨k, rfl⟩ : ∃ m, k = m + 1 := ⟨k - 1, by omega⟩
    simp only [cri_Mul.l1]
    have ew : wrap64 (((14 - j : Nat) : Int) - 1) = ((14 - (j + 1) : Nat) : Int) := by unfold wrap64; omega
    have e8 : wrap64 (((14 - j : Nat) : Int) - 8) = ((6 - j : Nat) : Int) := by unfold wrap64; omega
    have es : shl .i64 285 ((6 - j : Nat) : Int) = ((0x11d#16 <<< (6 - j)).toNat : Int) := by
      rcases (by omega : j = 0 ∨ j = 1 ∨ j = 2 ∨ j = 3 ∨ j = 4 ∨ j = 5 ∨ j = 6) with rfl | rfl | rfl | rfl | rfl | rfl | rfl <;> rfl
    rw [if_pos (by omega), if_pos (by omega)]
    have ih := cri_l1 p d (j + 1) k (by omega) (by omega)
    rw [← ih]
    by_cases hb : (redk p j).getLsbD (14 - j) = true
    · rw [if_pos ((g_bit16 (redk p j) (14 - j) (by omega)).2 hb), e8, if_pos (by omega), es, g_xor16, ew]; simp [redk, hb]
    · rw [if_neg (fun e => hb ((g_bit16 (redk p j) (14 - j) (by omega)).1 e)), ew]; simp [redk, hb]
theorem cri_Mul_eq (a b : BitVec 8) (k : Nat) (hk : 20 ≤ k) : cri_Mul.f k (a.toNat : Int) (b.toNat : Int) = some ((GfM.mul a b).toNat : Int) := by
  unfold cri_Mul.f
  have h1 := cri_l0 a b 8 0 k rfl (by omega)
  rw [show ((clmk a b 0).toNat : Int) = 0 from rfl, show ((0 : Nat) : Int) = 0 from rfl] at h1
  rw [h1]
  have h2 := cri_l1 (clmk a b 8) 7 0 (k - 8 - 1) rfl (by omega)
  rw [show ((14 - 0 : Nat) : Int) = 14 from rfl, show redk (clmk a b 8) 0 = clmk a b 8 from rfl] at h2
  rw [h2, ← polymul_eq]
  unfold polymul
  rw [BitVec.toNat_setWidth]
  congr 1
def caulkref02_Mul.f (a0 : Int) (a1 : Int) : Option Int := if isB a0 ∧ isB a1 then some (mulI a0 a1) else none
theorem caulkref02_Mul.calls (a0 : Int) (a1 : Int) (r : Int) (w : World) (h : caulkref02_Mul.f a0 a1 = some r) :
    Calls Tryd.prog 54 #[.int .u8 a0, .int .u8 a1] w fun e w' => e = .returned (.int .u8 r) ∧ Drawn0 w w' := by
  unfold caulkref02_Mul.f at h
  by_cases hc : isB a0 ∧ isB a1
  · rw [if_pos hc] at h
    obtain rfl := Option.some.inj h
    refine cri_Mul.calls 20 a0 a1 _ w ?_
    have := cri_Mul_eq (el a0) (el a1) 20 (by decide)
    rwa [el_back hc.1.1 hc.1.2, el_back hc.2.1 hc.2.2] at this
  · rw [if_neg hc] at h; cases h
end Go.Proofs.YteiiaonpdamkhaaDoor.G
