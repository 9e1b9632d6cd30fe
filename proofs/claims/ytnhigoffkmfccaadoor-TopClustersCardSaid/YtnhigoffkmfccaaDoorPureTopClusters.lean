/- TopClusters: the pure statement: numbers and lists alone. Conditions: those of the statement itself. -/
import Derived.OpenShut
import Derived.OpenShut
import Derived.Test.YtnhigoffkmfccaaDoorCrcMath
import Derived.Test.YtnhigoffkmfccaaDoorCrcAdd
import Derived.Test.YtnhigoffkmfccaaDoorTopClusters
namespace Go.Proofs.YtnhigoffkmfccaaDoor.Pure
open Go.RowKit Go.Proofs.YtnhigoffkmfccaaDoor.G Go.Proofs.YtnhigoffkmfccaaDoorW.PrintWords Go.Proofs.YtnhigoffkmfccaaDoorW.PrintLast Go.Proofs.YtnhigoffkmfccaaDoorW.PrintMore Go.OpenShut
set_option linter.unusedVariables false
set_option linter.unusedSimpArgs false
theorem rs_eq (k m : Int) (hk : -9223372036854775808 ≤ k ∧ k ≤ 9223372036854775807) : rs_Check.f k m = some (if 1 ≤ k ∧ 0 ≤ m ∧ k ≤ 255 ∧ m ≤ 255 - k then 0 else 1) := by
  unfold rs_Check.f
  by_cases h1 : k < 1
  · rw [if_pos h1, if_neg (by omega)]
  rw [if_neg h1]
  by_cases h2 : m < 0
  · rw [if_pos h2, if_neg (by omega)]
  rw [if_neg h2]
  by_cases h3 : k > 255
  · rw [if_pos h3, if_neg (by omega)]
  rw [if_neg h3, show wrap64 (255 - k) = 255 - k from by unfold wrap64; omega]
  by_cases h4 : m > 255 - k
  · rw [if_pos h4, if_neg (by omega)]
  · rw [if_neg h4, if_pos (by omega)]
/-- a right geometry -/
def good (s k m c : Int) : Prop := (0 ≤ s ∧ s ≤ 7) ∧ (1 ≤ k ∧ 0 ≤ m ∧ k ≤ 255 ∧ m ≤ 255 - k) ∧ 4 ≤ c ∧ c ≤ 4096 ∧ c * 2 ^ s.toNat ≤ 32768
instance (s k m c : Int) : Decidable (good s k m c) := by unfold good; infer_instance

theorem s_cases {s : Int} (h : 0 ≤ s ∧ s ≤ 7) : s = 0 ∨ s = 1 ∨ s = 2 ∨ s = 3 ∨ s = 4 ∨ s = 5 ∨ s = 6 ∨ s = 7 := by omega

theorem geom_eq (n : Nat) (s k m c : Int) (hk : -9223372036854775808 ≤ k ∧ k ≤ 9223372036854775807) : geom_Check.f (n + 1) s k m c = some (if good s k m c then 0 else 2) := by
  unfold geom_Check.f
  by_cases h1 : s < 0
  · rw [if_pos h1, if_neg (by unfold good; omega)]; simp [geom_Check.j0]
  rw [if_neg h1]
  by_cases h2 : s > 7
  · rw [if_pos h2, if_neg (by unfold good; omega)]; simp [geom_Check.j0]
  rw [if_neg h2, rs_eq k m hk]
  simp only [Option.bind_some, geom_Check.j0]
  by_cases h3 : 1 ≤ k ∧ 0 ≤ m ∧ k ≤ 255 ∧ m ≤ 255 - k
  · rw [if_pos h3]
    simp only [show ((0 : Int) != 0) = false from rfl, Bool.false_eq_true, if_false]
    by_cases h4 : c < 4
    · rw [if_pos h4, if_neg (by unfold good; omega)]
    rw [if_neg h4]
    by_cases h5 : c > 4096
    · rw [if_pos h5, if_neg (by unfold good; omega)]
    rw [if_neg h5, if_pos (by omega)]
    have hs : (0 : Int) ≤ s ∧ s ≤ 7 := by omega
    have key : (c > shr .i64 32768 s) ↔ ¬ (c * 2 ^ s.toNat ≤ 32768) := by
      rcases s_cases hs with rfl | rfl | rfl | rfl | rfl | rfl | rfl | rfl <;> simp [shr, IntKind.bits] <;> omega
    by_cases h6 : c * 2 ^ s.toNat ≤ 32768
    · rw [if_neg (fun h => key.1 h h6), if_pos ⟨hs, h3, by omega, by omega, h6⟩]
    · rw [if_pos (key.2 h6), if_neg (fun h => h6 h.2.2.2.2)]
  · have hg : ¬ good s k m c := fun h => h3 h.2.1
    rw [if_neg h3, if_neg hg]
    rfl

theorem right_eq (n : Nat) (s k m c : Int) (hk : -9223372036854775808 ≤ k ∧ k ≤ 9223372036854775807) : geom_right.f (n + 1) s k m c = some (decide (good s k m c)) := by
  unfold geom_right.f
  rw [geom_eq n s k m c hk]
  simp only [Option.bind_some]
  by_cases h : good s k m c <;> simp [h]

theorem first_good (n : Nat) (s k m c a : Int) (hk : -9223372036854775808 ≤ k ∧ k ≤ 9223372036854775807) (g : good s k m c) (ha : 0 ≤ a) (hc : a < c) : geom_First.f (n + 1) s k m c a = some (a * 2 ^ s.toNat, 0) := by
  unfold geom_First.f
  rw [right_eq n s k m c hk]
  simp only [Option.bind_some, g, decide_true, if_true]
  obtain ⟨hs, hk', h4, h5, h6⟩ := g
  rw [if_neg (by omega), if_neg (by omega), if_pos hs.1]
  have : shl .i64 a s = a * 2 ^ s.toNat := by
    rcases s_cases hs with rfl | rfl | rfl | rfl | rfl | rfl | rfl | rfl <;> simp [shl, IntKind.bits, IntKind.wrap_i64] <;> omega
  rw [this]
theorem first_range (n : Nat) (s k m c a : Int) (hk : -9223372036854775808 ≤ k ∧ k ≤ 9223372036854775807) (g : good s k m c) (ha : a < 0 ∨ c ≤ a) : geom_First.f (n + 1) s k m c a = some (0, 1) := by
  unfold geom_First.f
  rw [right_eq n s k m c hk]
  simp only [Option.bind_some, g, decide_true, if_true]
  by_cases h : a < 0
  · rw [if_pos h]
  · rw [if_neg h, if_pos (by omega)]
theorem first_bad (n : Nat) (s k m c a : Int) (hk : -9223372036854775808 ≤ k ∧ k ≤ 9223372036854775807) (g : ¬ good s k m c) : geom_First.f (n + 1) s k m c a = some (0, 2) := by
  unfold geom_First.f
  rw [right_eq n s k m c hk]
  simp [g]
theorem sectors_eq (n : Nat) (s k m c : Int) (hk : -9223372036854775808 ≤ k ∧ k ≤ 9223372036854775807) : geom_Sectors.f (n + 1) s k m c = some (if good s k m c then c * 2 ^ s.toNat else 0) := by
  unfold geom_Sectors.f
  rw [right_eq n s k m c hk]
  simp only [Option.bind_some]
  by_cases g : good s k m c
  · simp only [g, decide_true, if_true]
    obtain ⟨hs, hk', h4, h5, h6⟩ := g
    rw [if_pos hs.1]
    have : shl .i64 c s = c * 2 ^ s.toNat := by
      rcases s_cases hs with rfl | rfl | rfl | rfl | rfl | rfl | rfl | rfl <;> simp [shl, IntKind.bits, IntKind.wrap_i64] <;> omega
    rw [this]
  · simp [g]
theorem size_eq (n : Nat) (s k m c : Int) (hk : -9223372036854775808 ≤ k ∧ k ≤ 9223372036854775807) : geom_Size.f (n + 1) s k m c = some (if good s k m c then 512 * 2 ^ s.toNat else 0) := by
  unfold geom_Size.f
  rw [right_eq n s k m c hk]
  simp only [Option.bind_some]
  by_cases g : good s k m c
  · simp only [g, decide_true, if_true]
    obtain ⟨hs, hk', h4, h5, h6⟩ := g
    rcases s_cases hs with rfl | rfl | rfl | rfl | rfl | rfl | rfl | rfl <;> simp [shl, IntKind.bits, IntKind.wrap_i64, wrap64]
  · simp [g]
theorem cluster_good (n : Nat) (s k m c a : Int) (hk : -9223372036854775808 ≤ k ∧ k ≤ 9223372036854775807) (g : good s k m c) (ha : 0 ≤ a) (hc : a < c * 2 ^ s.toNat) : geom_Cluster.f (n + 1) s k m c a = some (a / 2 ^ s.toNat, 0) := by
  unfold geom_Cluster.f
  rw [right_eq n s k m c hk, sectors_eq n s k m c hk]
  simp only [Option.bind_some, g, decide_true, if_true]
  obtain ⟨hs, hk', h4, h5, h6⟩ := g
  rw [if_neg (by omega), if_neg (by omega), if_pos hs.1]
  have : shr .i64 a s = a / 2 ^ s.toNat := by
    rcases s_cases hs with rfl | rfl | rfl | rfl | rfl | rfl | rfl | rfl <;> simp [shr, IntKind.bits]
  rw [this]
theorem cluster_range (n : Nat) (s k m c a : Int) (hk : -9223372036854775808 ≤ k ∧ k ≤ 9223372036854775807) (g : good s k m c) (ha : a < 0 ∨ c * 2 ^ s.toNat ≤ a) : geom_Cluster.f (n + 1) s k m c a = some (0, 1) := by
  unfold geom_Cluster.f
  rw [right_eq n s k m c hk, sectors_eq n s k m c hk]
  simp only [Option.bind_some, g, decide_true, if_true]
  by_cases h : a < 0
  · rw [if_pos h]
  · rw [if_neg h, if_pos (by omega)]
theorem cluster_bad (n : Nat) (s k m c a : Int) (hk : -9223372036854775808 ≤ k ∧ k ≤ 9223372036854775807) (g : ¬ good s k m c) : geom_Cluster.f (n + 1) s k m c a = some (0, 2) := by
  unfold geom_Cluster.f
  rw [right_eq n s k m c hk]
  simp [g]
theorem bits_and32 (a b : BitVec 32) : Go.bits .and .u32 (a.toNat : Int) (b.toNat : Int) = ((a &&& b).toNat : Int) := by
  have h := (a &&& b).isLt
  have ea : BitVec.ofInt 32 (a.toNat : Int) = a := by simp
  have eb : BitVec.ofInt 32 (b.toNat : Int) = b := by simp
  show IntKind.u32.wrap (((BitVec.ofInt 32 (a.toNat : Int)) &&& (BitVec.ofInt 32 (b.toNat : Int))).toNat : Int) = _
  rw [ea, eb, IntKind.wrap_u32]
  omega
theorem bits_or32 (a b : BitVec 32) : Go.bits .or .u32 (a.toNat : Int) (b.toNat : Int) = ((a ||| b).toNat : Int) := by
  have h := (a ||| b).isLt
  have ea : BitVec.ofInt 32 (a.toNat : Int) = a := by simp
  have eb : BitVec.ofInt 32 (b.toNat : Int) = b := by simp
  show IntKind.u32.wrap (((BitVec.ofInt 32 (a.toNat : Int)) ||| (BitVec.ofInt 32 (b.toNat : Int))).toNat : Int) = _
  rw [ea, eb, IntKind.wrap_u32]
  omega
theorem and_top (a : BitVec 32) : (Go.bits .and .u32 (a.toNat : Int) 2147483648 = 0) ↔ a.msb = false := by
  have h := bits_and32 a 0x80000000#32
  have e : ((0x80000000#32 : BitVec 32).toNat : Int) = 2147483648 := by decide
  rw [e] at h
  rw [h]
  have h2 : (a &&& 0x80000000#32).toNat = if a.msb then 2147483648 else 0 := by
    have h3 : a &&& 0x80000000#32 = if a.msb then 0x80000000#32 else 0#32 := by
      apply BitVec.eq_of_getLsbD_eq
      intro i hi
      rw [BitVec.getLsbD_and]
      have hm : a.msb = a.getLsbD 31 := by rw [BitVec.msb_eq_getLsbD_last]
      have hc : ∀ j, j < 32 → (0x80000000#32 : BitVec 32).getLsbD j = decide (j = 31) := by decide
      rw [hc i hi]
      by_cases h31 : i = 31
      · subst h31; rw [hm]; cases a.getLsbD 31 <;> rfl
      · rw [hm]; cases a.getLsbD 31 <;> simp [h31, hc i hi]
    rw [h3]; cases a.msb <;> rfl
  rw [h2]
  cases a.msb <;> simp
theorem and_one (a : BitVec 32) : Go.bits .and .u32 (a.toNat : Int) 1 = ((a.toNat % 2 : Nat) : Int) := by
  have := Go.bits_mask .u32 32 (by decide) (fun n h0 h1 => by rw [IntKind.wrap_u32]; omega) 1 (by decide) (a.toNat : Int) (by omega) (by have := a.isLt; omega)
  simpa using this
theorem poly_toNat : ((CrcM.poly : BitVec 32).toNat : Int) = 2197175160 := by decide
theorem st_int (b : BitVec 32) : Go.bits .xor .u32 ((b.toNat : Int) / 2) (Go.bits .and .u32 2197175160 ((-(Go.bits .and .u32 (b.toNat : Int) 1)) % 4294967296)) = ((CrcM.st b).toNat : Int) := by
  rw [and_one]
  have hb := b.isLt
  have e2 : ((b >>> 1).toNat : Int) = (b.toNat : Int) / 2 := by
    rw [BitVec.toNat_ushiftRight, Nat.shiftRight_eq_div_pow]; omega
  unfold CrcM.st
  rw [CrcM.getLsb0]
  rcases Nat.mod_two_eq_zero_or_one b.toNat with h | h
  · rw [h]
    have e1 : Go.bits .and .u32 2197175160 ((-((0 : Nat) : Int)) % 4294967296) = 0 := by decide
    have h3 := bits_xor32 (b >>> 1) 0#32
    rw [e1, ← e2]
    have e0 : (((0#32 : BitVec 32).toNat : Nat) : Int) = 0 := by decide
    rw [e0] at h3
    rw [h3]; simp
  · rw [h]
    have e1 : Go.bits .and .u32 2197175160 ((-((1 : Nat) : Int)) % 4294967296) = 2197175160 := by decide +kernel
    have h3 := bits_xor32 (b >>> 1) CrcM.poly
    rw [poly_toNat] at h3
    rw [e1, ← e2, h3]; simp
theorem shl_int (a : BitVec 32) : (a.toNat : Int) * (2 : Int) % (4294967296 : Int) = ((a <<< 1).toNat : Int) := by
  rw [BitVec.toNat_shiftLeft, Nat.shiftLeft_eq]; omega

theorem mul_loop (j : Nat) : ∀ (k : Nat) (a b p : BitVec 32), j < k → a <<< j = 0#32 → combine_mul.l0 k a.toNat b.toNat p.toNat = some ((p ^^^ CrcM.mulk j a b).toNat : Int) := by
  induction j with
  | zero =>
    intro k a b p hk h
    obtain ⟨k, rfl⟩ : ∃ m, k = m + 1 := ⟨k - 1, by omega⟩
    have ha : a = 0#32 := by simpa using h
    subst ha
    simp [combine_mul.l0, CrcM.mulk]
  | succ j ih =>
    intro k a b p hk h
    obtain ⟨k, rfl⟩ : ∃ m, k = m + 1 := ⟨k - 1, by omega⟩
    by_cases h0 : a = 0#32
    · subst h0
      rw [CrcM.mulk_zero]
      simp [combine_mul.l0]
    · have hn : ¬ ((a.toNat : Int) = 0) := by
        intro e; apply h0; apply BitVec.eq_of_toNat_eq; simp; omega
      simp only [combine_mul.l0]
      rw [if_neg hn, shl_int, st_int, bits_xor32]
      have h' : (a <<< 1) <<< j = 0#32 := by rw [← BitVec.shiftLeft_add, Nat.add_comm]; exact h
      simp only [CrcM.mulk]
      cases hm : a.msb
      · rw [if_pos ((and_top a).2 hm), ih k _ _ _ (by omega) h']
        simp
      · rw [if_neg (fun e => by have := (and_top a).1 e; rw [hm] at this; cases this), ih k _ _ _ (by omega) h']
        simp [BitVec.xor_assoc]
theorem mul_eq (k : Nat) (hk : 32 < k) (a b : BitVec 32) : combine_mul.f k a.toNat b.toNat = some ((CrcM.mul a b).toNat : Int) := by
  have h := mul_loop 32 k a b 0#32 hk (by simp)
  unfold combine_mul.f
  have e0 : (((0#32 : BitVec 32).toNat : Nat) : Int) = 0 := by decide
  rw [e0] at h
  rw [h]; simp [CrcM.mul]
theorem and_one64 (n : Nat) (h : n < 2 ^ 62) : Go.bits .and .i64 (n : Int) 1 = ((n % 2 : Nat) : Int) := by
  have := Go.bits_mask .i64 63 (by decide) (fun n h0 h1 => by rw [IntKind.wrap_i64]; omega) 1 (by decide) (n : Int) (by omega) (by omega)
  simpa using this
theorem power_loop (j : Nat) : ∀ (k n : Nat) (x p : BitVec 32), j + 33 < k → n < 2 ^ j → j ≤ 62 → combine_power.l0 k x.toNat n p.toNat = some ((CrcM.mul p (CrcM.pw x n)).toNat : Int) := by
  induction j with
  | zero =>
    intro k n x p hk hn _
    obtain ⟨k, rfl⟩ : ∃ m, k = m + 1 := ⟨k - 1, by omega⟩
    have : n = 0 := by simpa using hn
    subst this
    simp [combine_power.l0, CrcM.pw, CrcM.mul_one_right]
  | succ j ih =>
    intro k n x p hk hn hj
    obtain ⟨k, rfl⟩ : ∃ m, k = m + 1 := ⟨k - 1, by omega⟩
    have h62 : n < 2 ^ 62 := Nat.lt_of_lt_of_le hn (Nat.pow_le_pow_right (by decide) hj)
    have hn2 : n / 2 < 2 ^ j := by rw [Nat.pow_succ] at hn; omega
    simp only [combine_power.l0]
    by_cases h0 : n = 0
    · subst h0; simp [CrcM.pw, CrcM.mul_one_right]
    · rw [if_pos (by omega), and_one64 n h62, mul_eq k (by omega), mul_eq k (by omega), CrcM.pw_round]
      simp only [Option.bind_some]
      rw [show ((n : Int) / 2) = ((n / 2 : Nat) : Int) from by omega]
      by_cases h1 : n % 2 = 1
      · rw [if_pos (by omega), if_pos h1, ih k _ _ _ (by omega) hn2 (by omega)]
      · rw [if_neg (by omega), if_neg h1, ih k _ _ _ (by omega) hn2 (by omega)]
theorem power_eq (k n : Nat) (hk : 80 < k) (hn : n < 2 ^ 41) (x : BitVec 32) : combine_power.f k x.toNat n = some ((CrcM.pw x n).toNat : Int) := by
  have h := power_loop 41 k n x CrcM.one (by omega) hn (by decide)
  have e : (((CrcM.one : BitVec 32).toNat : Nat) : Int) = 2147483648 := by decide
  rw [e] at h
  unfold combine_power.f
  rw [h, CrcM.mul_one_left]
theorem by_eq (k : Nat) (hk : 82 < k) (a x : BitVec 32) (n : Int) (h0 : 0 ≤ n) (h1 : n ≤ 1099511627776) : combine_by.f k a.toNat x.toNat n = some (((CrcM.mul a (CrcM.pw x n.toNat)).toNat : Int), 0) := by
  obtain ⟨k, rfl⟩ : ∃ m, k = m + 1 := ⟨k - 1, by omega⟩
  obtain ⟨m, rfl⟩ := Int.eq_ofNat_of_zero_le h0
  unfold combine_by.f
  rw [if_neg (by omega), decide_eq_false (by omega)]
  simp only [combine_by.j0, Bool.false_eq_true, if_false]
  rw [power_eq k m (by omega) (by omega)]
  simp only [Option.bind_some]
  rw [mul_eq k (by omega)]
  simp
theorem shift_eq (k : Nat) (hk : 82 < k) (a : BitVec 32) (n : Int) (h0 : 0 ≤ n) (h1 : n ≤ 1099511627776) : combine_Shift.f k a.toNat n = some (((CrcM.stn (8 * n.toNat) a).toNat : Int), 0) := by
  have h := by_eq k hk a CrcM.byte1 n h0 h1
  rw [CrcM.mul_pw_byte1] at h
  have e : (((CrcM.byte1 : BitVec 32).toNat : Nat) : Int) = 8388608 := by decide
  rw [e] at h
  unfold combine_Shift.f
  rw [h]; rfl
theorem not32 (x : BitVec 32) : Go.bits .xor .u32 4294967295 (x.toNat : Int) = ((~~~ x).toNat : Int) := by
  have h := bits_xor32 CrcM.ones x
  have e : (((CrcM.ones : BitVec 32).toNat : Nat) : Int) = 4294967295 := by decide
  rw [e] at h
  rw [h, show CrcM.ones = BitVec.allOnes 32 from by decide, BitVec.allOnes_xor]
theorem sum_eq (s : ByteArray) (hs : s.size ≤ 140737488355328) : crc_Sum.f s = some ((CrcM.sum s.data.toList).toNat : Int) := by
  unfold crc_Sum.f crc_Start.f crc_Add.f crc_End.f
  simp only [Option.bind_some]
  rw [if_pos ⟨by decide, by decide, hs⟩]
  simp only [Option.bind_some]
  unfold crcI
  rw [show BitVec.ofInt 32 4294967295 = CrcM.ones from by decide, not32]
  rfl
theorem join_eq (k : Nat) (hk : 82 < k) (a b : BitVec 32) (n : Int) (h0 : 0 ≤ n) (h1 : n ≤ 1099511627776) : combine_Join.f k a.toNat b.toNat n = some (((CrcM.stn (8 * n.toNat) a ^^^ b).toNat : Int), 0) := by
  unfold combine_Join.f
  rw [shift_eq k hk a n h0 h1]
  simp only [Option.bind_some, if_true]
  rw [bits_xor32]
theorem wf_i64' {a : Int} (h : (Lit.int .i64 a).wf = true) : -9223372036854775808 ≤ a ∧ a ≤ 9223372036854775807 := by
  have e0 : IntKind.min .i64 = -9223372036854775808 := by decide
  have e1 : IntKind.max .i64 = 9223372036854775807 := by decide
  simp only [Lit.wf, e0, e1, Bool.and_eq_true, decide_eq_true_eq] at h
  exact h
theorem begins_eq : caulktop_begins.f = some true := by
  unfold caulktop_begins.f
  rw [sum_eq _ (by decide)]
  have : CrcM.sum (⟨#[49, 50, 51, 52, 53, 54, 55, 56, 57]⟩ : ByteArray).data.toList = 0xe3069283#32 := by decide +kernel
  rw [this]
  rfl
theorem pow_cast (e : Nat) : ((2 : Int) ^ e) = ((2 ^ e : Nat) : Int) := by push_cast; rfl
theorem div_iff (s e an : Nat) (he : 1 ≤ e) : s / e = an ↔ an * e ≤ s ∧ s < an * e + e := by
  constructor
  · rintro rfl
    have h1 := Nat.div_add_mod s e
    have h2 := Nat.mod_lt s (show 0 < e by omega)
    rw [Nat.mul_comm] at h1
    omega
  · rintro ⟨h1, h2⟩
    refine Nat.le_antisymm ?_ ((Nat.le_div_iff_mul_le (by omega)).2 h1)
    refine Nat.le_of_lt_succ ((Nat.div_lt_iff_lt_mul (by omega)).2 ?_)
    rw [Nat.succ_mul]
    exact h2
open Classical in
theorem TopClusters : caulktop_TopClusters.Pure := by
  intro a b c d ata y l wa wb wc wd wt wy hl
  obtain ⟨K, hK⟩ : ∃ K : Nat, K = 100 := ⟨_, rfl⟩
  have hb := wf_i64' wb
  refine ⟨K + 1, ?_⟩
  unfold caulktop_TopClusters.f
  rw [if_pos]
  refine ⟨⟨begins_eq, _, sectors_eq K a b c d hb, ?_⟩, by omega⟩
  by_cases g : good a b c d
  · rw [if_pos g]
    obtain ⟨⟨g1, g2⟩, g3, g4, g5, g6⟩ := id g
    have hze := size_eq K a b c d hb
    rw [if_pos g] at hze
    rw [pow_cast] at hze g6 ⊢
    obtain ⟨e, he⟩ : ∃ e : Nat, e = 2 ^ a.toNat := ⟨_, rfl⟩
    have he1 : 1 ≤ e := by rw [he]; exact Nat.one_le_two_pow
    have he2 : e ≤ 128 := by
      rw [he]
      exact Nat.le_trans (Nat.pow_le_pow_right (by decide) (show a.toNat ≤ 7 by omega)) (by decide)
    rw [← he] at hze g6 ⊢
    obtain ⟨dn, rfl⟩ : ∃ dn : Nat, d = (dn : Int) := ⟨d.toNat, by omega⟩
    have hn : ((dn : Int) * (e : Int)) = ((dn * e : Nat) : Int) := by push_cast; rfl
    rw [hn]
    by_cases hbig : 256 < dn * e
    · exact .inl (.inr (by omega))
    · have hpos : 4 * 1 ≤ dn * e := Nat.mul_le_mul (by omega) he1
      refine .inr ⟨by omega, by omega, e * 512, ?_, by omega, ?_⟩
      · rw [hze]; congr 1; omega
      · by_cases hr : ata < 0 ∨ (dn : Int) ≤ ata
        · exact .inl ⟨first_range K a b c dn ata hb g hr, by omega⟩
        · obtain ⟨an, rfl⟩ : ∃ an : Nat, ata = (an : Int) := ⟨ata.toNat, by omega⟩
          have hfg := first_good K a b c dn an hb g (by omega) (by omega)
          rw [pow_cast, ← he, show ((an : Int) * (e : Int)) = ((an * e : Nat) : Int) from by push_cast; rfl] at hfg
          refine .inr ⟨an * e, e, dn, rfl, hfg, rfl, he1, ?_, ?_, fun s hs => ?_⟩
          · rw [Int.toNat_natCast]
            have : (an + 1) * e ≤ dn * e := Nat.mul_le_mul_right e (by omega)
            rw [Nat.succ_mul] at this
            exact this
          · rw [Int.toNat_natCast]
          · rw [Int.toNat_natCast] at hs
            have hcg := cluster_good K a b c dn s hb g (by omega) (by rw [pow_cast, ← he, hn]; omega)
            rw [pow_cast, ← he] at hcg
            refine ⟨_, hcg, ?_⟩
            rw [show ((s : Int) / (e : Int)) = ((s / e : Nat) : Int) from by push_cast; rfl, ← div_iff s e an he1]
            omega
  · rw [if_neg g]
    exact .inl (.inl (by decide))
end Go.Proofs.YtnhigoffkmfccaaDoor.Pure
