/- TopRecords: the pure statement: numbers and lists alone. Conditions: those of the statement itself. -/
import Derived.OpenShut
import Derived.OpenShut
import Derived.Laws.Bits64b
import Derived.Test.YtnhigoffkmfccaaDoorCrcMath
import Derived.Test.YtnhigoffkmfccaaDoorCrcAdd
import Derived.Test.YtnhigoffkmfccaaDoorTopRecords
namespace Go.Proofs.YtnhigoffkmfccaaDoor.Pure
open Go.RowKit Go.Proofs.YtnhigoffkmfccaaDoor.G Go.Proofs.YtnhigoffkmfccaaDoorW.PrintWords Go.Proofs.YtnhigoffkmfccaaDoorW.PrintLast Go.Proofs.YtnhigoffkmfccaaDoorW.PrintMore Go.OpenShut
set_option linter.unusedVariables false
set_option linter.unusedSimpArgs false
theorem rs_eq (k m : Int) (hk : -9223372036854775808 ≤ k ∧ k ≤ 9223372036854775807) : rs_Check.f k m = some (if 1 ≤ k ∧ 0 ≤ m ∧ k ≤ 255 ∧ m ≤ 255 - k then 0 else 1) := by
  unfold rs_Check.f
  by_cases h1 : k < 1
  · rw [if_pos h1, if_neg (by omega)]
  rw [if_neg h1]
  by_cases h2 : m < 0
  · rw [if_pos h2, if_neg (by omega)]
  rw [if_neg h2]
  by_cases h3 : k > 255
  · rw [if_pos h3, if_neg (by omega)]
  rw [if_neg h3, show wrap64 (255 - k) = 255 - k from by unfold wrap64; omega]
  by_cases h4 : m > 255 - k
  · rw [if_pos h4, if_neg (by omega)]
  · rw [if_neg h4, if_pos (by omega)]
/-- a right geometry -/
def good (s k m c : Int) : Prop := (0 ≤ s ∧ s ≤ 7) ∧ (1 ≤ k ∧ 0 ≤ m ∧ k ≤ 255 ∧ m ≤ 255 - k) ∧ 4 ≤ c ∧ c ≤ 4096 ∧ c * 2 ^ s.toNat ≤ 32768
instance (s k m c : Int) : Decidable (good s k m c) := by unfold good; infer_instance

theorem s_cases {s : Int} (h : 0 ≤ s ∧ s ≤ 7) : s = 0 ∨ s = 1 ∨ s = 2 ∨ s = 3 ∨ s = 4 ∨ s = 5 ∨ s = 6 ∨ s = 7 := by omega

theorem geom_eq (n : Nat) (s k m c : Int) (hk : -9223372036854775808 ≤ k ∧ k ≤ 9223372036854775807) : geom_Check.f (n + 1) s k m c = some (if good s k m c then 0 else 2) := by
  unfold geom_Check.f
  by_cases h1 : s < 0
  · rw [if_pos h1, if_neg (by unfold good; omega)]; simp [geom_Check.j0]
  rw [if_neg h1]
  by_cases h2 : s > 7
  · rw [if_pos h2, if_neg (by unfold good; omega)]; simp [geom_Check.j0]
  rw [if_neg h2, rs_eq k m hk]
  simp only [Option.bind_some, geom_Check.j0]
  by_cases h3 : 1 ≤ k ∧ 0 ≤ m ∧ k ≤ 255 ∧ m ≤ 255 - k
  · rw [if_pos h3]
    simp only [show ((0 : Int) != 0) = false from rfl, Bool.false_eq_true, if_false]
    by_cases h4 : c < 4
    · rw [if_pos h4, if_neg (by unfold good; omega)]
    rw [if_neg h4]
    by_cases h5 : c > 4096
    · rw [if_pos h5, if_neg (by unfold good; omega)]
    rw [if_neg h5, if_pos (by omega)]
    have hs : (0 : Int) ≤ s ∧ s ≤ 7 := by omega
    have key : (c > shr .i64 32768 s) ↔ ¬ (c * 2 ^ s.toNat ≤ 32768) := by
      rcases s_cases hs with rfl | rfl | rfl | rfl | rfl | rfl | rfl | rfl <;> simp [shr, IntKind.bits] <;> omega
    by_cases h6 : c * 2 ^ s.toNat ≤ 32768
    · rw [if_neg (fun h => key.1 h h6), if_pos ⟨hs, h3, by omega, by omega, h6⟩]
    · rw [if_pos (key.2 h6), if_neg (fun h => h6 h.2.2.2.2)]
  · have hg : ¬ good s k m c := fun h => h3 h.2.1
    rw [if_neg h3, if_neg hg]
    rfl

theorem right_eq (n : Nat) (s k m c : Int) (hk : -9223372036854775808 ≤ k ∧ k ≤ 9223372036854775807) : geom_right.f (n + 1) s k m c = some (decide (good s k m c)) := by
  unfold geom_right.f
  rw [geom_eq n s k m c hk]
  simp only [Option.bind_some]
  by_cases h : good s k m c <;> simp [h]

theorem first_good (n : Nat) (s k m c a : Int) (hk : -9223372036854775808 ≤ k ∧ k ≤ 9223372036854775807) (g : good s k m c) (ha : 0 ≤ a) (hc : a < c) : geom_First.f (n + 1) s k m c a = some (a * 2 ^ s.toNat, 0) := by
  unfold geom_First.f
  rw [right_eq n s k m c hk]
  simp only [Option.bind_some, g, decide_true, if_true]
  obtain ⟨hs, hk', h4, h5, h6⟩ := g
  rw [if_neg (by omega), if_neg (by omega), if_pos hs.1]
  have : shl .i64 a s = a * 2 ^ s.toNat := by
    rcases s_cases hs with rfl | rfl | rfl | rfl | rfl | rfl | rfl | rfl <;> simp [shl, IntKind.bits, IntKind.wrap_i64] <;> omega
  rw [this]
theorem first_range (n : Nat) (s k m c a : Int) (hk : -9223372036854775808 ≤ k ∧ k ≤ 9223372036854775807) (g : good s k m c) (ha : a < 0 ∨ c ≤ a) : geom_First.f (n + 1) s k m c a = some (0, 1) := by
  unfold geom_First.f
  rw [right_eq n s k m c hk]
  simp only [Option.bind_some, g, decide_true, if_true]
  by_cases h : a < 0
  · rw [if_pos h]
  · rw [if_neg h, if_pos (by omega)]
theorem first_bad (n : Nat) (s k m c a : Int) (hk : -9223372036854775808 ≤ k ∧ k ≤ 9223372036854775807) (g : ¬ good s k m c) : geom_First.f (n + 1) s k m c a = some (0, 2) := by
  unfold geom_First.f
  rw [right_eq n s k m c hk]
  simp [g]
theorem sectors_eq (n : Nat) (s k m c : Int) (hk : -9223372036854775808 ≤ k ∧ k ≤ 9223372036854775807) : geom_Sectors.f (n + 1) s k m c = some (if good s k m c then c * 2 ^ s.toNat else 0) := by
  unfold geom_Sectors.f
  rw [right_eq n s k m c hk]
  simp only [Option.bind_some]
  by_cases g : good s k m c
  · simp only [g, decide_true, if_true]
    obtain ⟨hs, hk', h4, h5, h6⟩ := g
    rw [if_pos hs.1]
    have : shl .i64 c s = c * 2 ^ s.toNat := by
      rcases s_cases hs with rfl | rfl | rfl | rfl | rfl | rfl | rfl | rfl <;> simp [shl, IntKind.bits, IntKind.wrap_i64] <;> omega
    rw [this]
  · simp [g]
theorem size_eq (n : Nat) (s k m c : Int) (hk : -9223372036854775808 ≤ k ∧ k ≤ 9223372036854775807) : geom_Size.f (n + 1) s k m c = some (if good s k m c then 512 * 2 ^ s.toNat else 0) := by
  unfold geom_Size.f
  rw [right_eq n s k m c hk]
  simp only [Option.bind_some]
  by_cases g : good s k m c
  · simp only [g, decide_true, if_true]
    obtain ⟨hs, hk', h4, h5, h6⟩ := g
    rcases s_cases hs with rfl | rfl | rfl | rfl | rfl | rfl | rfl | rfl <;> simp [shl, IntKind.bits, IntKind.wrap_i64, wrap64]
  · simp [g]
theorem bits_and32 (a b : BitVec 32) : Go.bits .and .u32 (a.toNat : Int) (b.toNat : Int) = ((a &&& b).toNat : Int) := by
  have h := (a &&& b).isLt
  have ea : BitVec.ofInt 32 (a.toNat : Int) = a := by simp
  have eb : BitVec.ofInt 32 (b.toNat : Int) = b := by simp
  show IntKind.u32.wrap (((BitVec.ofInt 32 (a.toNat : Int)) &&& (BitVec.ofInt 32 (b.toNat : Int))).toNat : Int) = _
  rw [ea, eb, IntKind.wrap_u32]
  omega
theorem bits_or32 (a b : BitVec 32) : Go.bits .or .u32 (a.toNat : Int) (b.toNat : Int) = ((a ||| b).toNat : Int) := by
  have h := (a ||| b).isLt
  have ea : BitVec.ofInt 32 (a.toNat : Int) = a := by simp
  have eb : BitVec.ofInt 32 (b.toNat : Int) = b := by simp
  show IntKind.u32.wrap (((BitVec.ofInt 32 (a.toNat : Int)) ||| (BitVec.ofInt 32 (b.toNat : Int))).toNat : Int) = _
  rw [ea, eb, IntKind.wrap_u32]
  omega
theorem and_top (a : BitVec 32) : (Go.bits .and .u32 (a.toNat : Int) 2147483648 = 0) ↔ a.msb = false := by
  have h := bits_and32 a 0x80000000#32
  have e : ((0x80000000#32 : BitVec 32).toNat : Int) = 2147483648 := by decide
  rw [e] at h
  rw [h]
  have h2 : (a &&& 0x80000000#32).toNat = if a.msb then 2147483648 else 0 := by
    have h3 : a &&& 0x80000000#32 = if a.msb then 0x80000000#32 else 0#32 := by
      apply BitVec.eq_of_getLsbD_eq
      intro i hi
      rw [BitVec.getLsbD_and]
      have hm : a.msb = a.getLsbD 31 := by rw [BitVec.msb_eq_getLsbD_last]
      have hc : ∀ j, j < 32 → (0x80000000#32 : BitVec 32).getLsbD j = decide (j = 31) := by decide
      rw [hc i hi]
      by_cases h31 : i = 31
      · subst h31; rw [hm]; cases a.getLsbD 31 <;> rfl
      · rw [hm]; cases a.getLsbD 31 <;> simp [h31, hc i hi]
    rw [h3]; cases a.msb <;> rfl
  rw [h2]
  cases a.msb <;> simp
theorem and_one (a : BitVec 32) : Go.bits .and .u32 (a.toNat : Int) 1 = ((a.toNat % 2 : Nat) : Int) := by
  have := Go.bits_mask .u32 32 (by decide) (fun n h0 h1 => by rw [IntKind.wrap_u32]; omega) 1 (by decide) (a.toNat : Int) (by omega) (by have := a.isLt; omega)
  simpa using this
theorem poly_toNat : ((CrcM.poly : BitVec 32).toNat : Int) = 2197175160 := by decide
theorem st_int (b : BitVec 32) : Go.bits .xor .u32 ((b.toNat : Int) / 2) (Go.bits .and .u32 2197175160 ((-(Go.bits .and .u32 (b.toNat : Int) 1)) % 4294967296)) = ((CrcM.st b).toNat : Int) := by
  rw [and_one]
  have hb := b.isLt
  have e2 : ((b >>> 1).toNat : Int) = (b.toNat : Int) / 2 := by
    rw [BitVec.toNat_ushiftRight, Nat.shiftRight_eq_div_pow]; omega
  unfold CrcM.st
  rw [CrcM.getLsb0]
  rcases Nat.mod_two_eq_zero_or_one b.toNat with h | h
  · rw [h]
    have e1 : Go.bits .and .u32 2197175160 ((-((0 : Nat) : Int)) % 4294967296) = 0 := by decide
    have h3 := bits_xor32 (b >>> 1) 0#32
    rw [e1, ← e2]
    have e0 : (((0#32 : BitVec 32).toNat : Nat) : Int) = 0 := by decide
    rw [e0] at h3
    rw [h3]; simp
  · rw [h]
    have e1 : Go.bits .and .u32 2197175160 ((-((1 : Nat) : Int)) % 4294967296) = 2197175160 := by decide +kernel
    have h3 := bits_xor32 (b >>> 1) CrcM.poly
    rw [poly_toNat] at h3
    rw [e1, ← e2, h3]; simp
theorem shl_int (a : BitVec 32) : (a.toNat : Int) * (2 : Int) % (4294967296 : Int) = ((a <<< 1).toNat : Int) := by
  rw [BitVec.toNat_shiftLeft, Nat.shiftLeft_eq]; omega

theorem mul_loop (j : Nat) : ∀ (k : Nat) (a b p : BitVec 32), j < k → a <<< j = 0#32 → combine_mul.l0 k a.toNat b.toNat p.toNat = some ((p ^^^ CrcM.mulk j a b).toNat : Int) := by
  induction j with
  | zero =>
    intro k a b p hk h
    obtain ⟨k, rfl⟩ : ∃ m, k = m + 1 := ⟨k - 1, by omega⟩
    have ha : a = 0#32 := by simpa using h
    subst ha
    simp [combine_mul.l0, CrcM.mulk]
  | succ j ih =>
    intro k a b p hk h
    obtain ⟨k, rfl⟩ : ∃ m, k = m + 1 := ⟨k - 1, by omega⟩
    by_cases h0 : a = 0#32
    · subst h0
      rw [CrcM.mulk_zero]
      simp [combine_mul.l0]
    · have hn : ¬ ((a.toNat : Int) = 0) := by
        intro e; apply h0; apply BitVec.eq_of_toNat_eq; simp; omega
      simp only [combine_mul.l0]
      rw [if_neg hn, shl_int, st_int, bits_xor32]
      have h' : (a <<< 1) <<< j = 0#32 := by rw [← BitVec.shiftLeft_add, Nat.add_comm]; exact h
      simp only [CrcM.mulk]
      cases hm : a.msb
      · rw [if_pos ((and_top a).2 hm), ih k _ _ _ (by omega) h']
        simp
      · rw [if_neg (fun e => by have := (and_top a).1 e; rw [hm] at this; cases this), ih k _ _ _ (by omega) h']
        simp [BitVec.xor_assoc]
theorem mul_eq (k : Nat) (hk : 32 < k) (a b : BitVec 32) : combine_mul.f k a.toNat b.toNat = some ((CrcM.mul a b).toNat : Int) := by
  have h := mul_loop 32 k a b 0#32 hk (by simp)
  unfold combine_mul.f
  have e0 : (((0#32 : BitVec 32).toNat : Nat) : Int) = 0 := by decide
  rw [e0] at h
  rw [h]; simp [CrcM.mul]
theorem and_one64 (n : Nat) (h : n < 2 ^ 62) : Go.bits .and .i64 (n : Int) 1 = ((n % 2 : Nat) : Int) := by
  have := Go.bits_mask .i64 63 (by decide) (fun n h0 h1 => by rw [IntKind.wrap_i64]; omega) 1 (by decide) (n : Int) (by omega) (by omega)
  simpa using this
theorem power_loop (j : Nat) : ∀ (k n : Nat) (x p : BitVec 32), j + 33 < k → n < 2 ^ j → j ≤ 62 → combine_power.l0 k x.toNat n p.toNat = some ((CrcM.mul p (CrcM.pw x n)).toNat : Int) := by
  induction j with
  | zero =>
    intro k n x p hk hn _
    obtain ⟨k, rfl⟩ : ∃ m, k = m + 1 := ⟨k - 1, by omega⟩
    have : n = 0 := by simpa using hn
    subst this
    simp [combine_power.l0, CrcM.pw, CrcM.mul_one_right]
  | succ j ih =>
    intro k n x p hk hn hj
    obtain ⟨k, rfl⟩ : ∃ m, k = m + 1 := ⟨k - 1, by omega⟩
    have h62 : n < 2 ^ 62 := Nat.lt_of_lt_of_le hn (Nat.pow_le_pow_right (by decide) hj)
    have hn2 : n / 2 < 2 ^ j := by rw [Nat.pow_succ] at hn; omega
    simp only [combine_power.l0]
    by_cases h0 : n = 0
    · subst h0; simp [CrcM.pw, CrcM.mul_one_right]
    · rw [if_pos (by omega), and_one64 n h62, mul_eq k (by omega), mul_eq k (by omega), CrcM.pw_round]
      simp only [Option.bind_some]
      rw [show ((n : Int) / 2) = ((n / 2 : Nat) : Int) from by omega]
      by_cases h1 : n % 2 = 1
      · rw [if_pos (by omega), if_pos h1, ih k _ _ _ (by omega) hn2 (by omega)]
      · rw [if_neg (by omega), if_neg h1, ih k _ _ _ (by omega) hn2 (by omega)]
theorem power_eq (k n : Nat) (hk : 80 < k) (hn : n < 2 ^ 41) (x : BitVec 32) : combine_power.f k x.toNat n = some ((CrcM.pw x n).toNat : Int) := by
  have h := power_loop 41 k n x CrcM.one (by omega) hn (by decide)
  have e : (((CrcM.one : BitVec 32).toNat : Nat) : Int) = 2147483648 := by decide
  rw [e] at h
  unfold combine_power.f
  rw [h, CrcM.mul_one_left]
theorem by_eq (k : Nat) (hk : 82 < k) (a x : BitVec 32) (n : Int) (h0 : 0 ≤ n) (h1 : n ≤ 1099511627776) : combine_by.f k a.toNat x.toNat n = some (((CrcM.mul a (CrcM.pw x n.toNat)).toNat : Int), 0) := by
  obtain ⟨k, rfl⟩ : ∃ m, k = m + 1 := ⟨k - 1, by omega⟩
  obtain ⟨m, rfl⟩ := Int.eq_ofNat_of_zero_le h0
  unfold combine_by.f
  rw [if_neg (by omega), decide_eq_false (by omega)]
  simp only [combine_by.j0, Bool.false_eq_true, if_false]
  rw [power_eq k m (by omega) (by omega)]
  simp only [Option.bind_some]
  rw [mul_eq k (by omega)]
  simp
theorem shift_eq (k : Nat) (hk : 82 < k) (a : BitVec 32) (n : Int) (h0 : 0 ≤ n) (h1 : n ≤ 1099511627776) : combine_Shift.f k a.toNat n = some (((CrcM.stn (8 * n.toNat) a).toNat : Int), 0) := by
  have h := by_eq k hk a CrcM.byte1 n h0 h1
  rw [CrcM.mul_pw_byte1] at h
  have e : (((CrcM.byte1 : BitVec 32).toNat : Nat) : Int) = 8388608 := by decide
  rw [e] at h
  unfold combine_Shift.f
  rw [h]; rfl
theorem not32 (x : BitVec 32) : Go.bits .xor .u32 4294967295 (x.toNat : Int) = ((~~~ x).toNat : Int) := by
  have h := bits_xor32 CrcM.ones x
  have e : (((CrcM.ones : BitVec 32).toNat : Nat) : Int) = 4294967295 := by decide
  rw [e] at h
  rw [h, show CrcM.ones = BitVec.allOnes 32 from by decide, BitVec.allOnes_xor]
theorem sum_eq (s : ByteArray) (hs : s.size ≤ 140737488355328) : crc_Sum.f s = some ((CrcM.sum s.data.toList).toNat : Int) := by
  unfold crc_Sum.f crc_Start.f crc_Add.f crc_End.f
  simp only [Option.bind_some]
  rw [if_pos ⟨by decide, by decide, hs⟩]
  simp only [Option.bind_some]
  unfold crcI
  rw [show BitVec.ofInt 32 4294967295 = CrcM.ones from by decide, not32]
  rfl
theorem join_eq (k : Nat) (hk : 82 < k) (a b : BitVec 32) (n : Int) (h0 : 0 ≤ n) (h1 : n ≤ 1099511627776) : combine_Join.f k a.toNat b.toNat n = some (((CrcM.stn (8 * n.toNat) a ^^^ b).toNat : Int), 0) := by
  unfold combine_Join.f
  rw [shift_eq k hk a n h0 h1]
  simp only [Option.bind_some, if_true]
  rw [bits_xor32]
theorem wf_i64' {a : Int} (h : (Lit.int .i64 a).wf = true) : -9223372036854775808 ≤ a ∧ a ≤ 9223372036854775807 := by
  have e0 : IntKind.min .i64 = -9223372036854775808 := by decide
  have e1 : IntKind.max .i64 = 9223372036854775807 := by decide
  simp only [Lit.wf, e0, e1, Bool.and_eq_true, decide_eq_true_eq] at h
  exact h
theorem begins_eq : caulktop_begins.f = some true := by
  unfold caulktop_begins.f
  rw [sum_eq _ (by decide)]
  have : CrcM.sum (⟨#[49, 50, 51, 52, 53, 54, 55, 56, 57]⟩ : ByteArray).data.toList = 0xe3069283#32 := by decide +kernel
  rw [this]
  rfl
theorem pow_cast (e : Nat) : ((2 : Int) ^ e) = ((2 ^ e : Nat) : Int) := by push_cast; rfl
theorem or_add (i x y : Nat) (hx : x < 2 ^ i) (hy : x + 2 ^ i * y < 18446744073709551616) : Go.bits .or .u64 (x : Int) ((2 ^ i * y : Nat) : Int) = ((x + 2 ^ i * y : Nat) : Int) := by
  rw [Go.bits_or_u64_nat _ _ (by omega) (by omega), Nat.or_comm, ← Nat.two_pow_add_eq_or_of_lt hx, Nat.add_comm]
def isY (a : Int) : Prop := 0 ≤ a ∧ a ≤ 255
theorem bytesOf_isY (s : ByteArray) : ∀ x ∈ bytesOf s, isY x := by
  intro x hx
  simp only [bytesOf, List.mem_map] at hx
  obtain ⟨b, _, rfl⟩ := hx
  have := b.toNat_lt
  unfold isY; omega
theorem bytesOf_inj {a b : ByteArray} (h : bytesOf a = bytesOf b) : a = b := by
  have : a.data.toList = b.data.toList := by
    apply List.ext_getElem?
    intro i
    have h2 := congrArg (fun l => l[i]?) h
    simp only [bytesOf, List.getElem?_map] at h2
    cases h3 : a.data.toList[i]? <;> cases h4 : b.data.toList[i]? <;> rw [h3, h4] at h2 <;> simp at h2 ⊢
    exact UInt8.toNat_inj.1 (by omega)
  cases a; cases b; simp at this; simp [this]
theorem bytesOf_strOfNums {xs : List Int} (h : ∀ x ∈ xs, isY x) : bytesOf (strOfNums xs) = xs := by
  unfold bytesOf strOfNums
  simp only [List.map_map]
  conv => rhs; rw [← List.map_id xs]
  apply List.map_congr_left
  intro x hx
  have := h x hx
  unfold isY at this
  simp only [Function.comp, UInt8.toNat_ofNat', id]
  omega
theorem bytesOf_append (a b : ByteArray) : bytesOf (a ++ b) = bytesOf a ++ bytesOf b := by
  unfold bytesOf; rw [ByteArray.data_append]; simp
theorem strOfNums_bytesOf (a : ByteArray) : strOfNums (bytesOf a) = a := bytesOf_inj (bytesOf_strOfNums (bytesOf_isY a))
theorem strOfNums_append (xs ys : List Int) : strOfNums (xs ++ ys) = strOfNums xs ++ strOfNums ys := by
  have : (strOfNums (xs ++ ys)).data = (strOfNums xs ++ strOfNums ys).data := by rw [ByteArray.data_append]; simp [strOfNums]
  exact ByteArray.ext this
theorem son_size (xs : List Int) : (strOfNums xs).size = xs.length := by
  show (strOfNums xs).data.size = _; simp [strOfNums]
theorem bt_get (s : ByteArray) (i : Nat) : bt s (i : Int) = (bytesOf s).getD i 0 := by
  rw [← rd_bytesOf]; rfl
theorem bytesOf_extract (s : ByteArray) (i : Nat) : bytesOf (s.extract i s.size) = (bytesOf s).drop i := by
  unfold bytesOf
  rw [ByteArray.data_extract]
  have : s.size = s.data.size := rfl
  rw [this, Array.toList_extract, List.extract_eq_drop_take', List.map_drop, ← Array.length_toList, List.take_length]
theorem empty_append (s : ByteArray) : (⟨#[]⟩ : ByteArray) ++ s = s := by
  apply bytesOf_inj; rw [bytesOf_append]; rfl
theorem append_empty (s : ByteArray) : s ++ (⟨#[]⟩ : ByteArray) = s := by
  apply bytesOf_inj; rw [bytesOf_append, show bytesOf (⟨#[]⟩ : ByteArray) = [] from rfl, List.append_nil]
theorem bapp_assoc (a b c : ByteArray) : (a ++ b) ++ c = a ++ (b ++ c) := by
  apply bytesOf_inj; simp only [bytesOf_append, List.append_assoc]

def digs (n : Int) : Nat → List Int
  | 0 => []
  | d + 1 => n % 256 :: digs (n / 256) d
theorem digs_length (d : Nat) : ∀ n, (digs n d).length = d := by
  induction d with
  | zero => intro n; rfl
  | succ d ih => intro n; simp [digs, ih]
theorem digs_isY (d : Nat) : ∀ n, ∀ x ∈ digs n d, isY x := by
  induction d with
  | zero => intro n x hx; simp [digs] at hx
  | succ d ih =>
    intro n x hx
    simp only [digs, List.mem_cons] at hx
    rcases hx with rfl | hx
    · unfold isY; omega
    · exact ih _ x hx
def numL : List Int → Int
  | [] => 0
  | x :: xs => x + 256 * numL xs
theorem pow256_pos (d : Nat) : (0 : Int) < 256 ^ d := Int.pow_pos (by decide)
theorem div_pow_succ (n : Int) (d : Nat) : n / 256 ^ (d + 1) = n / 256 / 256 ^ d := by
  rw [Int.pow_succ, Int.mul_comm, Int.ediv_ediv_of_nonneg (by decide)]
theorem numL_digs (d : Nat) : ∀ n : Int, n / 256 ^ d = 0 → numL (digs n d) = n := by
  induction d with
  | zero => intro n h; simp at h; simp [digs, numL, h]
  | succ d ih =>
    intro n h
    rw [div_pow_succ] at h
    simp only [digs, numL]
    rw [ih _ h]
    omega
theorem numL_range : ∀ l : List Int, (∀ x ∈ l, isY x) → 0 ≤ numL l ∧ numL l < 256 ^ l.length := by
  intro l
  induction l with
  | nil => intro _; exact ⟨Int.le_refl _, by decide⟩
  | cons x l ih =>
    intro h
    obtain ⟨h1, h2⟩ := ih (fun y hy => h y (List.mem_cons_of_mem _ hy))
    have hx := h x (List.mem_cons_self ..)
    unfold isY at hx
    simp only [numL, List.length_cons]
    rw [Int.pow_succ]
    omega
theorem digs_numL : ∀ l : List Int, (∀ x ∈ l, isY x) → digs (numL l) l.length = l := by
  intro l
  induction l with
  | nil => intro _; rfl
  | cons x l ih =>
    intro h
    have hx := h x (List.mem_cons_self ..)
    unfold isY at hx
    simp only [numL, List.length_cons, digs]
    rw [show (x + 256 * numL l) % 256 = x from by omega, show (x + 256 * numL l) / 256 = numL l from by omega, ih (fun y hy => h y (List.mem_cons_of_mem _ hy))]

def okW (w : Int) : Prop := w = 1 ∨ w = 2 ∨ w = 4 ∨ w = 8
instance (w : Int) : Decidable (okW w) := by unfold okW; exact inferInstance
theorem okW_nat {w : Int} (h : okW w) : ∃ m : Nat, w = (m : Int) ∧ 1 ≤ m ∧ m ≤ 8 := ⟨w.toNat, by unfold okW at h; omega, by unfold okW at h; omega, by unfold okW at h; omega⟩
theorem width_eq (w : Int) : field_width.f w = some (decide (okW w)) := by
  unfold field_width.f okW
  by_cases h1 : w = 1
  · rw [if_pos h1]; simp [h1]
  rw [if_neg h1]
  by_cases h2 : w = 2
  · rw [if_pos h2]; simp [h2]
  rw [if_neg h2]
  by_cases h3 : w = 4
  · rw [if_pos h3]; simp [h3]
  rw [if_neg h3]
  by_cases h4 : w = 8
  · rw [if_pos h4]; simp [h4]
  · rw [if_neg h4]; simp [h1, h2, h3, h4]
def isU (n : Int) : Prop := 0 ≤ n ∧ n ≤ 18446744073709551615
def putF (w n : Int) : ByteArray × Int := if okW w ∧ n / 256 ^ w.toNat = 0 then (strOfNums (digs n w.toNat), 0) else (⟨#[]⟩, 1)
theorem shr_eq (n : Int) (i : Nat) (hi : i ≤ 8) : shr .u64 n ((8 * i : Nat) : Int) = n / 256 ^ i := by
  unfold shr
  rw [Int.toNat_natCast, Nat.min_eq_left (by simp [IntKind.bits]; omega), Int.pow_mul]
  rfl
theorem put_l0 (n : Int) (m : Nat) (hm : m ≤ 8) : ∀ (d i k : Nat) (acc : List Int), i + d = m → acc.length + d ≤ 1000 → d < k → field_put.l0 k acc n (m : Int) (i : Int) = some (acc ++ digs (n / 256 ^ i) d) := by
  intro d
  induction d with
  | zero =>
    intro i k acc hi ha hk
    obtain ⟨k, rfl⟩ : ∃ m, k = m + 1 := ⟨k - 1, by omega⟩
    simp only [field_put.l0]
    rw [if_neg (by omega)]
    simp [digs]
  | succ d ih =>
    intro i k acc hi ha hk
    obtain ⟨k, rfl⟩ : ∃ m, k = m + 1 := ⟨k - 1, by omega⟩
    have h1 : (i : Int) < (m : Int) := by omega
    have h2 : (0 : Int) ≤ ((8 * i : Nat) : Int) := Int.natCast_nonneg _
    have h3 : acc.length < 140737488355328 := by omega
    have ih' := ih (i + 1) k (acc ++ [n / 256 ^ i % 256]) (by omega) (by simp; omega) (by omega)
    have e1 : wrap64 (8 * (i : Int)) = ((8 * i : Nat) : Int) := by unfold wrap64; omega
    have e2 : wrap64 ((i : Int) + 1) = ((i + 1 : Nat) : Int) := by unfold wrap64; omega
    simp only [field_put.l0]
    rw [if_pos h1, e1, if_pos h2, if_pos h3, shr_eq n i (by omega), e2, ih', List.append_assoc, List.singleton_append]
    simp only [digs]
    rw [Int.ediv_ediv_of_nonneg (Int.le_of_lt (pow256_pos i)), ← Int.pow_succ]
theorem put_eq {w n : Int} (hn : isU n) (k : Nat) (hk : 20 ≤ k) : field_Put.f k w n = some (putF w n) := by
  unfold field_Put.f
  rw [width_eq]
  simp only [Option.bind_some]
  by_cases hw : okW w
  · rw [decide_eq_true hw, if_pos rfl]
    obtain ⟨m, rfl, hm1, hm8⟩ := okW_nat hw
    have hp : field_put.f k [] (m : Int) n = some (digs n m) := by
      unfold field_put.f
      have := put_l0 n m hm8 m 0 k [] (by omega) (by simp; omega) (by omega)
      simpa using this
    have e1 : wrap64 (8 * (m : Int)) = ((8 * m : Nat) : Int) := by unfold wrap64; omega
    rw [hp, e1]
    unfold putF
    rw [Int.toNat_natCast]
    by_cases h8 : (m : Int) < 8
    · rw [if_pos h8, if_pos (Int.natCast_nonneg _), shr_eq n m (by omega)]
      by_cases h0 : n / 256 ^ m = 0
      · rw [if_pos h0, if_pos ⟨hw, h0⟩]; rfl
      · rw [if_neg h0, if_neg (fun h => h0 h.2)]
    · rw [if_neg h8]
      obtain rfl : m = 8 := by omega
      have h0 : n / 256 ^ 8 = 0 := by unfold isU at hn; rw [show (256 : Int) ^ 8 = 18446744073709551616 from rfl]; omega
      rw [if_pos ⟨hw, h0⟩]; rfl
  · rw [decide_eq_false hw]
    unfold putF
    rw [if_neg (fun h : okW w ∧ n / 256 ^ w.toNat = 0 => hw h.1)]; rfl
def numN (s : ByteArray) (i d : Nat) : Int := numL (((bytesOf s).drop i).take d)
theorem numN_succ (s : ByteArray) (i d : Nat) (h : i < s.size) : numN s i (d + 1) = bt s i + 256 * numN s (i + 1) d := by
  have hl : i < (bytesOf s).length := by rw [bytesOf_length]; exact h
  unfold numN
  rw [List.drop_eq_getElem_cons hl, List.take_succ_cons]
  simp only [numL]
  rw [bt_get, List.getD_eq_getElem?_getD, List.getElem?_eq_getElem hl]; rfl
theorem numN_range (s : ByteArray) (i d : Nat) (h : i + d ≤ s.size) : 0 ≤ numN s i d ∧ numN s i d < 256 ^ d := by
  have hl : (((bytesOf s).drop i).take d).length = d := by simp [bytesOf_length]; omega
  have := numL_range (((bytesOf s).drop i).take d) (fun x hx => bytesOf_isY s x (List.mem_of_mem_drop (List.mem_of_mem_take hx)))
  rw [hl] at this
  exact this
def getF (w : Int) (s : ByteArray) : Int × Int := if okW w then (if (s.size : Int) < w then (0, 5) else (numN s 0 w.toNat, 0)) else (0, 1)
theorem pow256_le8 (d : Nat) (h : d ≤ 8) : (256 : Int) ^ d ≤ 18446744073709551616 := by
  rcases (by omega : d = 0 ∨ d = 1 ∨ d = 2 ∨ d = 3 ∨ d = 4 ∨ d = 5 ∨ d = 6 ∨ d = 7 ∨ d = 8) with rfl | rfl | rfl | rfl | rfl | rfl | rfl | rfl | rfl <;> decide
theorem get_l0 (s : ByteArray) (m : Nat) (hm : m ≤ 8) (hs : m ≤ s.size) : ∀ (d i k : Nat) (v : Int), i + d = m → 0 ≤ v → v < 256 ^ i → d < k → field_Get.l0 k s v (m : Int) (i : Int) = some (v + 256 ^ i * numN s i d, 0) := by
  intro d
  induction d with
  | zero =>
    intro i k v hi h0 hv hk
    obtain ⟨k, rfl⟩ : ∃ m, k = m + 1 := ⟨k - 1, by omega⟩
    have h1 : ¬ (i : Int) < (m : Int) := by omega
    simp only [field_Get.l0]
    rw [if_neg h1]
    simp [numN, numL]
  | succ d ih =>
    intro i k v hi h0 hv hk
    obtain ⟨k, rfl⟩ : ∃ m, k = m + 1 := ⟨k - 1, by omega⟩
    have h1 : (i : Int) < (m : Int) := by omega
    have h2 : (i : Int) < (s.size : Int) := by omega
    have hi0 : (0 : Int) ≤ (i : Int) := by omega
    have h4 : (0 : Int) ≤ ((8 * i : Nat) : Int) := Int.natCast_nonneg _
    have hr := bt_range s i
    have hpi : (256 : Int) ^ (i + 1) ≤ 18446744073709551616 := pow256_le8 _ (by omega)
    have hp1 : (256 : Int) ^ (i + 1) = 256 ^ i * 256 := Int.pow_succ ..
    have hpos := pow256_pos i
    have hmul : 256 ^ i * bt s i ≤ 256 ^ i * 255 := Int.mul_le_mul_of_nonneg_left hr.2 (Int.le_of_lt hpos)
    have hmul0 : 0 ≤ 256 ^ i * bt s i := Int.mul_nonneg (Int.le_of_lt hpos) hr.1
    have hnew : v + 256 ^ i * bt s i < 256 ^ (i + 1) := by rw [hp1]; omega
    have ih' := ih (i + 1) k (v + 256 ^ i * bt s i) (by omega) (by omega) hnew (by omega)
    have e3 : shl .u64 (IntKind.u64.wrap (bt s i)) ((8 * i : Nat) : Int) = 256 ^ i * bt s i := by
      unfold shl
      rw [Int.toNat_natCast, Nat.min_eq_left (by simp [IntKind.bits]; omega), IntKind.wrap_u64, IntKind.wrap_u64, Int.pow_mul, show ((2 : Int) ^ 8) = 256 from rfl, Int.emod_eq_of_lt hr.1 (by omega), Int.mul_comm, Int.emod_eq_of_lt hmul0 (by omega)]
    have e5 : Go.bits .or .u64 v (256 ^ i * bt s i) = v + 256 ^ i * bt s i := by
      have ep : (256 : Int) ^ i = ((2 ^ (8 * i) : Nat) : Int) := by
        rw [Nat.pow_mul, Int.natCast_pow]; rfl
      have hor := or_add (8 * i)
      clear e3 ih ih'
      rw [ep] at hv hnew ⊢
      generalize 2 ^ (8 * i) = P at *
      obtain ⟨vn, rfl⟩ := Int.eq_ofNat_of_zero_le h0
      obtain ⟨bn, hb⟩ := Int.eq_ofNat_of_zero_le hr.1
      rw [hb] at hnew ⊢
      have hv' : vn < P := by omega
      have hn2 : ((vn + P * bn : Nat) : Int) < 18446744073709551616 := by
        rw [Int.natCast_add, Int.natCast_mul]; omega
      have := hor vn bn hv' (by omega)
      rw [Int.natCast_add, Int.natCast_mul] at this
      exact this
    have hsz : i < s.size := by omega
    have e1 : wrap64 (8 * (i : Int)) = ((8 * i : Nat) : Int) := by unfold wrap64; omega
    have e2 : wrap64 ((i : Int) + 1) = ((i + 1 : Nat) : Int) := by unfold wrap64; omega
    simp only [field_Get.l0]
    rw [if_pos h1, if_pos hi0, if_pos h2, e1, if_pos h4, e3, e5, e2, ih', numN_succ s i d hsz, hp1, Int.mul_add, ← Int.mul_assoc, Int.add_assoc]
theorem get_eq (w : Int) (s : ByteArray) (k : Nat) (hk : 20 ≤ k) : field_Get.f k w s = some (getF w s) := by
  unfold field_Get.f
  rw [width_eq]
  simp only [Option.bind_some]
  by_cases hw : okW w
  · rw [decide_eq_true hw, if_pos rfl]
    obtain ⟨m, rfl, hm1, hm8⟩ := okW_nat hw
    unfold getF
    rw [if_pos hw]
    by_cases h : (s.size : Int) < (m : Int)
    · rw [if_pos h, if_pos h]
    · rw [if_neg h, if_neg h]
      have := get_l0 s m hm8 (by omega) m 0 k 0 (by omega) (Int.le_refl _) (by decide) (by omega)
      rw [show ((0 : Nat) : Int) = 0 from rfl] at this
      rw [this, Int.toNat_natCast]
      simp
  · rw [decide_eq_false hw]
    unfold getF
    rw [if_neg hw]; rfl
def allF : List Int → ByteArray → List Int → List Int × ByteArray × Int
  | [], s, acc => (acc, s, 0)
  | w :: ws, s, acc => if (getF w s).2 = 0 then allF ws (s.extract w.toNat s.size) (acc ++ [(getF w s).1]) else ([], ⟨#[]⟩, (getF w s).2)
theorem getF_ok {w : Int} {s : ByteArray} (h : (getF w s).2 = 0) : okW w ∧ w.toNat ≤ s.size ∧ (getF w s).1 = numN s 0 w.toNat := by
  unfold getF at h ⊢
  by_cases hw : okW w
  · rw [if_pos hw] at h ⊢
    obtain ⟨m, rfl, hm1, hm8⟩ := okW_nat hw
    by_cases hs : (s.size : Int) < (m : Int)
    · rw [if_pos hs] at h; exact absurd h (by decide)
    · rw [if_neg hs] at h ⊢; exact ⟨hw, by rw [Int.toNat_natCast]; omega, rfl⟩
  · rw [if_neg hw] at h; exact absurd h (by decide)
theorem extract_size (s : ByteArray) (i : Nat) : (s.extract i s.size).size = s.size - i := by
  rw [← bytesOf_length, bytesOf_extract, List.length_drop, bytesOf_length]
theorem rd_drop (ws : List Int) (i : Nat) (h : i < ws.length) : ws.drop i = rd ws (i : Int) :: ws.drop (i + 1) := by
  rw [List.drop_eq_getElem_cons h]
  congr 1
  unfold rd
  rw [Int.toNat_natCast, List.getD_eq_getElem?_getD, List.getElem?_eq_getElem h]; rfl
def joinF : List Int → List Int → ByteArray → ByteArray × Int
  | w :: ws, v :: vs, b => if (putF w v).2 = 0 then joinF ws vs (b ++ (putF w v).1) else (⟨#[]⟩, (putF w v).2)
  | _, _, b => (b, 0)
theorem putF_size (w v : Int) : (putF w v).1.size ≤ 8 := by
  unfold putF
  split
  · rename_i h
    obtain ⟨m, rfl, _, hm8⟩ := okW_nat h.1
    show (strOfNums _).size ≤ 8
    rw [son_size, digs_length]; omega
  · decide
def joinT (ws vs : List Int) : ByteArray × Int := if ws.length = vs.length then joinF ws vs ⟨#[]⟩ else (⟨#[]⟩, 2)
theorem all_l0 (ws : List Int) (hlen : ws.length ≤ 1000) : ∀ (d i k : Nat) (s : ByteArray) (acc : List Int), i + d = ws.length → acc.length + d ≤ 1000 → d + 20 < k → field_All.l0 k s acc ws (ws.length : Int) (i : Int) = some (allF (ws.drop i) s acc) := by
  intro d
  induction d with
  | zero =>
    intro i k s acc hi ha hk
    obtain ⟨k, rfl⟩ : ∃ m, k = m + 1 := ⟨k - 1, by omega⟩
    have h1 : ¬ (i : Int) < (ws.length : Int) := by omega
    simp only [field_All.l0]
    rw [if_neg h1, List.drop_of_length_le (by omega)]; rfl
  | succ d ih =>
    intro i k s acc hi ha hk
    obtain ⟨k, rfl⟩ : ∃ m, k = m + 1 := ⟨k - 1, by omega⟩
    have h1 : (i : Int) < (ws.length : Int) := by omega
    have h0 : (0 : Int) ≤ (i : Int) := by omega
    have h3 : acc.length < 17592186044416 := by omega
    have hg := get_eq (rd ws (i : Int)) s k (by omega)
    have hd := rd_drop ws i (by omega)
    have hi' : i + 1 + d = ws.length := by omega
    have ha' : ∀ x : Int, (acc ++ [x]).length + d ≤ 1000 := fun x => by simp; omega
    have hk' : d + 20 < k := by omega
    have e2 : wrap64 ((i : Int) + 1) = ((i + 1 : Nat) : Int) := by unfold wrap64; omega
    simp only [field_All.l0]
    rw [if_pos h1, if_pos h0, if_pos h1, hg, hd]
    simp only [Option.bind_some, allF]
    by_cases hz : (getF (rd ws (i : Int)) s).2 = 0
    · obtain ⟨hw, hsz, _⟩ := getF_ok hz
      obtain ⟨m, hm, hm1, hm8⟩ := okW_nat hw
      have h5 : 0 ≤ rd ws (i : Int) := by rw [hm]; omega
      have h6 : rd ws (i : Int) ≤ (s.size : Int) := by rw [hm] at hsz ⊢; rw [Int.toNat_natCast] at hsz; omega
      rw [if_pos hz, if_pos h3, if_pos h5, if_pos h6, e2, ih (i + 1) k _ _ hi' (ha' _) hk', if_pos hz]
    · rw [if_neg hz, if_neg hz]
theorem all_eq (s : ByteArray) (ws : List Int) (hlen : ws.length ≤ 500) (k : Nat) (hk : 1000 ≤ k) : field_All.f k s ws = some (allF ws s []) := by
  have := all_l0 ws (by omega) ws.length 0 k s [] (by omega) (by simp; omega) (by omega)
  simpa [field_All.f] using this
theorem fjoin_l0 (ws vs : List Int) (hlen : ws.length ≤ 1000) (hl2 : vs.length = ws.length) (hv : ∀ v ∈ vs, isU v) : ∀ (d i k : Nat) (acc : List Int), i + d = ws.length → acc.length + 8 * d ≤ 10000 → d + 20 < k → field_Join.l0 k vs acc ws (ws.length : Int) (i : Int) = some (joinF (ws.drop i) (vs.drop i) (strOfNums acc)) := by
  intro d
  induction d with
  | zero =>
    intro i k acc hi ha hk
    obtain ⟨k, rfl⟩ : ∃ m, k = m + 1 := ⟨k - 1, by omega⟩
    have h1 : ¬ (i : Int) < (ws.length : Int) := by omega
    simp only [field_Join.l0]
    rw [if_neg h1, List.drop_of_length_le (by omega)]; rfl
  | succ d ih =>
    intro i k acc hi ha hk
    obtain ⟨k, rfl⟩ : ∃ m, k = m + 1 := ⟨k - 1, by omega⟩
    have h1 : (i : Int) < (ws.length : Int) := by omega
    have h0 : (0 : Int) ≤ (i : Int) := by omega
    have h4 : (i : Int) < (vs.length : Int) := by omega
    have hu : isU (rd vs (i : Int)) := by
      have hlt : i < vs.length := by omega
      unfold rd
      rw [Int.toNat_natCast, List.getD_eq_getElem?_getD, List.getElem?_eq_getElem hlt]
      exact hv _ (List.getElem_mem hlt)
    have hg := put_eq (w := rd ws (i : Int)) hu k (by omega)
    have hd := rd_drop ws i (by omega)
    have hd2 := rd_drop vs i (by omega)
    have hps := putF_size (rd ws (i : Int)) (rd vs (i : Int))
    have h3 : acc.length + (putF (rd ws (i : Int)) (rd vs (i : Int))).1.size < 140737488355328 := by omega
    have hi' : i + 1 + d = ws.length := by omega
    have ha' : (acc ++ bytesOf (putF (rd ws (i : Int)) (rd vs (i : Int))).1).length + 8 * d ≤ 10000 := by rw [List.length_append, bytesOf_length]; omega
    have hk' : d + 20 < k := by omega
    have e2 : wrap64 ((i : Int) + 1) = ((i + 1 : Nat) : Int) := by unfold wrap64; omega
    simp only [field_Join.l0]
    rw [if_pos h1, if_pos h0, if_pos h1, if_pos h4, hg, hd, hd2]
    simp only [Option.bind_some, joinF]
    by_cases hz : (putF (rd ws (i : Int)) (rd vs (i : Int))).2 = 0
    · rw [if_pos hz, if_pos h3, e2, ih (i + 1) k _ hi' ha' hk', if_pos hz, strOfNums_append, strOfNums_bytesOf]
    · rw [if_neg hz, if_neg hz]
theorem fjoin_eq (ws vs : List Int) (hlen : ws.length ≤ 500) (hv : ∀ v ∈ vs, isU v) (k : Nat) (hk : 1000 ≤ k) : field_Join.f k ws vs = some (joinT ws vs) := by
  unfold field_Join.f joinT
  by_cases h : ws.length = vs.length
  · rw [if_pos (by omega), if_pos h]
    exact fjoin_l0 ws vs (by omega) h.symm hv ws.length 0 k [] (by omega) (by simp; omega) (by omega)
  · rw [if_neg (by omega), if_neg h]
theorem allF_length : ∀ (ws : List Int) (s : ByteArray) (acc : List Int), (allF ws s acc).2.2 = 0 → (allF ws s acc).1.length = acc.length + ws.length := by
  intro ws
  induction ws with
  | nil => intro s acc _; rfl
  | cons w ws ih =>
    intro s acc h
    simp only [allF] at h ⊢
    by_cases hz : (getF w s).2 = 0
    · rw [if_pos hz] at h ⊢
      rw [ih _ _ h]; simp; omega
    · rw [if_neg hz] at h; exact absurd h hz
theorem same_l0 (xs : List Int) : ∀ (d i k : Nat), i + d = xs.length → xs.length ≤ 1000000 → d < k → caulkref07_Same.l0 k xs xs (xs.length : Int) (i : Int) = some true := by
  intro d
  induction d with
  | zero =>
    intro i k hi hb hk
    obtain ⟨k, rfl⟩ : ∃ m, k = m + 1 := ⟨k - 1, by omega⟩
    have h1 : ¬ (i : Int) < (xs.length : Int) := by omega
    simp only [caulkref07_Same.l0]
    rw [if_neg h1]
  | succ d ih =>
    intro i k hi hb hk
    obtain ⟨k, rfl⟩ : ∃ m, k = m + 1 := ⟨k - 1, by omega⟩
    have h1 : (i : Int) < (xs.length : Int) := by omega
    have h0 : (0 : Int) ≤ (i : Int) := by omega
    have ih' := ih (i + 1) k (by omega) hb (by omega)
    have e2 : wrap64 ((i : Int) + 1) = ((i + 1 : Nat) : Int) := by unfold wrap64; omega
    simp only [caulkref07_Same.l0]
    rw [if_pos h1, if_pos h0, if_pos h1, if_pos h1, if_pos (by trivial), e2, ih']
theorem same_self (xs : List Int) (hb : xs.length ≤ 900) (k : Nat) (hk : 1000 ≤ k) : caulkref07_Same.f k xs xs = some true := by
  unfold caulkref07_Same.f
  rw [if_pos rfl]
  exact same_l0 xs xs.length 0 k (by omega) (by omega) (by omega)
theorem putF_ok {w v : Int} (h : (putF w v).2 = 0) : okW w ∧ v / 256 ^ w.toNat = 0 ∧ (putF w v).1 = strOfNums (digs v w.toNat) := by
  unfold putF at h ⊢
  by_cases hc : okW w ∧ v / 256 ^ w.toNat = 0
  · rw [if_pos hc]; exact ⟨hc.1, hc.2, rfl⟩
  · rw [if_neg hc] at h; exact absurd h (by decide)
theorem put_get {w v : Int} (h : (putF w v).2 = 0) (rest : ByteArray) : getF w ((putF w v).1 ++ rest) = (v, 0) ∧ ((putF w v).1 ++ rest).extract w.toNat ((putF w v).1 ++ rest).size = rest := by
  obtain ⟨hw, hv, hp⟩ := putF_ok h
  rw [hp]
  have hb : bytesOf (strOfNums (digs v w.toNat)) = digs v w.toNat := bytesOf_strOfNums (digs_isY _ _)
  have hlen : (digs v w.toNat).length = w.toNat := digs_length _ _
  have hsz : (strOfNums (digs v w.toNat) ++ rest).size = w.toNat + rest.size := by rw [ByteArray.size_append, son_size, hlen]
  constructor
  · unfold getF
    obtain ⟨m, hm, hm1, hm8⟩ := okW_nat hw
    rw [if_pos hw, if_neg (by rw [hsz]; rw [hm, Int.toNat_natCast]; omega)]
    unfold numN
    rw [bytesOf_append, hb, List.drop_zero, List.take_left' hlen, numL_digs _ _ hv]
  · apply bytesOf_inj
    rw [bytesOf_extract, bytesOf_append, hb, List.drop_left' hlen]
theorem join_all : ∀ (ws vs : List Int) (b s : ByteArray), ws.length = vs.length → joinF ws vs b = (s, 0) → ∃ t, s = b ++ t ∧ ∀ rest acc, allF ws (t ++ rest) acc = (acc ++ vs, rest, 0) := by
  intro ws
  induction ws with
  | nil =>
    intro vs b s hl hj
    obtain rfl : vs = [] := List.eq_nil_of_length_eq_zero hl.symm
    simp only [joinF, Prod.mk.injEq, and_true] at hj
    subst hj
    exact ⟨⟨#[]⟩, (append_empty b).symm, fun rest acc => by rw [empty_append, List.append_nil]; rfl⟩
  | cons w ws ih =>
    intro vs b s hl hj
    match vs, hl with
    | v :: vs, hl =>
    simp only [joinF] at hj
    by_cases hz : (putF w v).2 = 0
    · rw [if_pos hz] at hj
      obtain ⟨t, rfl, ht⟩ := ih vs _ s (by simpa using hl) hj
      refine ⟨(putF w v).1 ++ t, by rw [bapp_assoc], fun rest acc => ?_⟩
      obtain ⟨g1, g2⟩ := put_get hz (t ++ rest)
      simp only [allF]
      rw [bapp_assoc, g1, if_pos rfl, g2, ht, List.append_assoc]; rfl
    · rw [if_neg hz] at hj
      exact absurd (congrArg Prod.snd hj) hz
theorem get_put {w : Int} {s : ByteArray} (h : (getF w s).2 = 0) : putF w (getF w s).1 = (strOfNums ((bytesOf s).take w.toNat), 0) ∧ strOfNums ((bytesOf s).take w.toNat) ++ s.extract w.toNat s.size = s ∧ 0 ≤ (getF w s).1 ∧ (getF w s).1 < 256 ^ w.toNat ∧ w.toNat ≤ 8 ∧ ((bytesOf s).take w.toNat).length = w.toNat := by
  obtain ⟨hw, hs, hg⟩ := getF_ok h
  obtain ⟨m, hm, hm1, hm8⟩ := okW_nat hw
  have hlen : ((bytesOf s).take w.toNat).length = w.toNat := by rw [List.length_take, bytesOf_length]; omega
  have hY : ∀ x ∈ (bytesOf s).take w.toNat, isY x := fun x hx => bytesOf_isY s x (List.mem_of_mem_take hx)
  have hr := numL_range _ hY
  rw [hlen] at hr
  have hd := digs_numL _ hY
  rw [hlen] at hd
  rw [hg]
  unfold numN
  rw [List.drop_zero]
  refine ⟨?_, ?_, hr.1, hr.2, by omega, hlen⟩
  · unfold putF
    rw [if_pos ⟨hw, Int.ediv_eq_zero_of_lt hr.1 hr.2⟩, hd]
  · apply bytesOf_inj
    rw [bytesOf_append, bytesOf_strOfNums hY, bytesOf_extract, List.take_append_drop]
theorem all_join : ∀ (ws : List Int) (s : ByteArray) (acc r : List Int) (rest : ByteArray), allF ws s acc = (r, rest, 0) → ∃ vs, r = acc ++ vs ∧ vs.length = ws.length ∧ (∀ v ∈ vs, isU v) ∧ (∀ m : Int, (∀ w ∈ ws, w = m) → ∀ v ∈ vs, 0 ≤ v ∧ v < 256 ^ m.toNat) ∧ ∃ t : ByteArray, t.size = (ws.map Int.toNat).sum ∧ (∀ b, joinF ws vs b = (b ++ t, 0)) ∧ t ++ rest = s := by
  intro ws
  induction ws with
  | nil =>
    intro s acc r rest h
    simp only [allF, Prod.mk.injEq, and_true] at h
    obtain ⟨rfl, rfl⟩ := h
    exact ⟨[], by simp, rfl, by simp, by simp, ⟨#[]⟩, rfl, fun b => by simp only [joinF]; rw [append_empty], empty_append s⟩
  | cons w ws ih =>
    intro s acc r rest h
    simp only [allF] at h
    by_cases hz : (getF w s).2 = 0
    · rw [if_pos hz] at h
      obtain ⟨vs, rfl, hl, hu, hm, t, hsz, hj, ht⟩ := ih _ _ _ _ h
      obtain ⟨g1, g2, g3, g4, g5, g6⟩ := get_put hz
      refine ⟨(getF w s).1 :: vs, by simp, by simp [hl], ?_, ?_, strOfNums ((bytesOf s).take w.toNat) ++ t, ?_, fun b => ?_, ?_⟩
      · intro v hv
        rcases List.mem_cons.1 hv with rfl | hv
        · have := pow256_le8 w.toNat g5
          unfold isU; omega
        · exact hu v hv
      · intro m hm' v hv
        rcases List.mem_cons.1 hv with rfl | hv
        · rw [← hm' w (List.mem_cons_self ..)]; exact ⟨g3, g4⟩
        · exact hm m (fun w' hw' => hm' w' (List.mem_cons_of_mem _ hw')) v hv
      · rw [ByteArray.size_append, son_size, g6, hsz]; simp
      · simp only [joinF]
        rw [g1]
        simp only [if_true]
        rw [hj, bapp_assoc]
      · rw [bapp_assoc, ht, g2]
    · rw [if_neg hz] at h
      exact absurd (congrArg (fun x => x.2.2) h) hz
theorem allF_fail : ∀ (ws : List Int) (s : ByteArray) (acc : List Int), (allF ws s acc).2.2 ≠ 0 → (allF ws s acc).1 = [] := by
  intro ws
  induction ws with
  | nil => intro s acc h; exact absurd rfl h
  | cons w ws ih =>
    intro s acc h
    simp only [allF] at h ⊢
    by_cases hz : (getF w s).2 = 0
    · rw [if_pos hz] at h ⊢; exact ih _ _ h
    · rw [if_neg hz]
theorem joinF_size : ∀ (ws vs : List Int) (b : ByteArray), (joinF ws vs b).1.size ≤ b.size + 8 * ws.length := by
  intro ws
  induction ws with
  | nil => intro vs b; cases vs <;> simp [joinF]
  | cons w ws ih =>
    intro vs b
    cases vs with
    | nil => simp [joinF]
    | cons v vs =>
      simp only [joinF]
      split
      · have := ih vs (b ++ (putF w v).1)
        rw [ByteArray.size_append] at this
        have h8 := putF_size w v
        simp only [List.length_cons]; omega
      · show (⟨#[]⟩ : ByteArray).size ≤ _
        exact Nat.zero_le _
theorem joinT_size (ws vs : List Int) : (joinT ws vs).1.size ≤ 8 * ws.length := by
  unfold joinT
  split
  · have := joinF_size ws vs ⟨#[]⟩
    rw [show (⟨#[]⟩ : ByteArray).size = 0 from rfl] at this
    omega
  · exact Nat.zero_le _
theorem xor_split (a a' b b' : Nat) (ha : a < 2 ^ 8) (ha' : a' < 2 ^ 8) : (2 ^ 8 * b + a) ^^^ (2 ^ 8 * b' + a') = 2 ^ 8 * (b ^^^ b') + (a ^^^ a') := by
  apply Nat.eq_of_testBit_eq
  intro j
  rw [Nat.testBit_xor, Nat.testBit_two_pow_mul_add _ ha, Nat.testBit_two_pow_mul_add _ ha', Nat.testBit_two_pow_mul_add _ (Nat.xor_lt_two_pow ha ha')]
  split <;> rw [Nat.testBit_xor]
theorem bits_xor8 (a b : Nat) (ha : a < 256) (hb : b < 256) : Go.bits .xor .u8 (a : Int) (b : Int) = ((a ^^^ b : Nat) : Int) := by
  have hx : a ^^^ b < 2 ^ 8 := Nat.xor_lt_two_pow ha hb
  have ea : BitVec.ofInt 8 (a : Int) = BitVec.ofNat 8 a := by simp
  have eb : BitVec.ofInt 8 (b : Int) = BitVec.ofNat 8 b := by simp
  show IntKind.u8.wrap (((BitVec.ofInt 8 (a : Int)) ^^^ (BitVec.ofInt 8 (b : Int))).toNat : Int) = _
  rw [ea, eb, IntKind.wrap_u8, BitVec.toNat_xor, BitVec.toNat_ofNat, BitVec.toNat_ofNat, Nat.mod_eq_of_lt ha, Nat.mod_eq_of_lt hb]
  omega
def numsL (M : List UInt8) : List Int := M.map fun b => (b.toNat : Int)
theorem mul_xor (n a b : Nat) : 2 ^ n * a ^^^ 2 ^ n * b = 2 ^ n * (a ^^^ b) := by
  have := Nat.shiftLeft_xor_distrib (a := a) (b := b) (i := n)
  rw [Nat.shiftLeft_eq, Nat.shiftLeft_eq, Nat.shiftLeft_eq, Nat.mul_comm _ (2 ^ n), Nat.mul_comm a, Nat.mul_comm b] at this
  exact this.symm
theorem num_inj : ∀ (a b : List UInt8), a.length = b.length → CrcM.num a = CrcM.num b → a = b
  | [], [], _, _ => rfl
  | [], _ :: _, h, _ => by simp at h
  | _ :: _, [], h, _ => by simp at h
  | x :: a, y :: b, h, e => by
    have hx := x.toNat_lt
    have hy := y.toNat_lt
    simp only [CrcM.num] at e
    have e1 : x.toNat = y.toNat := by omega
    rw [num_inj a b (by simpa using h) (by omega), UInt8.toNat_inj.mp e1]
theorem found_iff (c n : Nat) (L M : List UInt8) (B : Nat) (hl : M.length = L.length) (hB : B < 2 ^ 32) (hn : CrcM.num M = CrcM.num L ^^^ 2 ^ n * B) : CrcM.sum M = CrcM.sum L ↔ M = L := by
  constructor
  · intro h
    have h1 : CrcM.add CrcM.ones M = CrcM.add CrcM.ones L := BitVec.not_inj.mp h
    rw [CrcM.add_fd, CrcM.add_fd, hl] at h1
    have h2 := CrcM.fd_xor (8 * L.length) CrcM.ones CrcM.ones (CrcM.num M) (CrcM.num L)
    rw [h1, BitVec.xor_self, BitVec.xor_self] at h2
    have hM := CrcM.num_lt M
    have hL := CrcM.num_lt L
    rw [hl] at hM
    have e : CrcM.num M ^^^ CrcM.num L = 2 ^ n * B := by rw [hn, Nat.xor_comm (CrcM.num L), Nat.xor_assoc, Nat.xor_self, Nat.xor_zero]
    have hlt := Nat.xor_lt_two_pow hM hL
    rw [e] at hlt h2
    have h0 := CrcM.burst_found _ n B hB hlt h2
    rw [h0, Nat.mul_zero, Nat.xor_zero] at hn
    exact num_inj _ _ hl hn
  · intro h; rw [h]
theorem toList_length (s : ByteArray) : s.data.toList.length = s.size := by rw [Array.length_toList]; rfl
theorem num_set : ∀ (M : List UInt8) (p : Nat) (x c : UInt8), M[p]? = some x → CrcM.num (M.set p (x ^^^ c)) = CrcM.num M ^^^ 2 ^ (8 * p) * c.toNat
  | [], p, x, c, h => by simp at h
  | b :: l, 0, x, c, h => by
    have hb := b.toNat_lt
    have hc := c.toNat_lt
    simp only [List.getElem?_cons_zero, Option.some.injEq] at h
    subst h
    simp only [List.set_cons_zero, CrcM.num, UInt8.toNat_xor]
    have := xor_split b.toNat c.toNat (CrcM.num l) 0 hb hc
    rw [Nat.xor_zero, Nat.mul_zero, Nat.zero_add] at this
    rw [Nat.add_comm b.toNat, show 256 = 2 ^ 8 from rfl, Nat.mul_zero, Nat.pow_zero, Nat.one_mul, this, Nat.add_comm]
  | b :: l, p + 1, x, c, h => by
    have hb := b.toNat_lt
    simp only [List.getElem?_cons_succ] at h
    have ih := num_set l p x c h
    simp only [List.set_cons_succ, CrcM.num]
    rw [ih]
    have := xor_split b.toNat 0 (CrcM.num l) (2 ^ (8 * p) * c.toNat) hb (by decide)
    rw [Nat.xor_zero, Nat.add_zero] at this
    rw [Nat.add_comm b.toNat, show 256 = 2 ^ 8 from rfl, Nat.add_comm b.toNat, show 8 * (p + 1) = 8 + 8 * p from by omega, Nat.pow_add, Nat.mul_assoc, this]
theorem xor_low (n a b : Nat) (ha : a < 2 ^ n) : a ^^^ 2 ^ n * b = a + 2 ^ n * b := by
  rw [Nat.add_comm]
  apply Nat.eq_of_testBit_eq
  intro j
  rw [Nat.testBit_xor, Nat.testBit_two_pow_mul_add _ ha]
  have h2 := Nat.testBit_two_pow_mul_add b (Nat.two_pow_pos n) j
  rw [Nat.add_zero] at h2
  rw [h2]
  by_cases hj : j < n
  · rw [if_pos hj, if_pos hj]; simp
  · rw [if_neg hj, if_neg hj]
    have : a.testBit j = false := Nat.testBit_lt_two_pow (Nat.lt_of_lt_of_le ha (Nat.pow_le_pow_right (by decide) (by omega)))
    rw [this]; simp
theorem mod256_cast (u : Nat) : (u : Int) % 256 = ((u % 256 : Nat) : Int) := by omega
theorem garL_inv (L : List UInt8) (on yn : Nat) (q : Nat) (hq : on + q ≤ L.length) : ∃ M : List UInt8, garL (numsL L) on (yn : Int) q = numsL M ∧ M.length = L.length ∧ CrcM.num M = CrcM.num L ^^^ 2 ^ (8 * on) * (yn % 2 ^ (8 * q)) := by
  induction q with
  | zero => exact ⟨L, rfl, rfl, by simp [Nat.mod_one]⟩
  | succ q ih =>
    obtain ⟨M, h1, h2, h3⟩ := ih (by omega)
    have hlt : on + q < M.length := by omega
    have hx := List.getElem?_eq_getElem hlt
    have hx8 := (M[on + q]).toNat_lt
    refine ⟨M.set (on + q) (M[on + q] ^^^ UInt8.ofNat (yn / 2 ^ (8 * q))), ?_, by rw [List.length_set, h2], ?_⟩
    · rw [garL, h1]
      have e : (numsL M).getD (on + q) 0 = ((M[on + q]).toNat : Int) := by
        unfold numsL
        rw [List.getD_eq_getElem?_getD, List.getElem?_map, hx]; rfl
      have e2 : (yn : Int) / 2 ^ (8 * (q : Int)).toNat = ((yn / 2 ^ (8 * q) : Nat) : Int) := by
        rw [show (8 * (q : Int)).toNat = 8 * q from by omega]
        push_cast; rfl
      rw [e, e2, IntKind.wrap_u8, mod256_cast, bits_xor8 _ _ hx8 (Nat.mod_lt _ (by decide))]
      unfold numsL
      rw [List.map_set]
      congr 1
    · rw [num_set M _ _ _ hx, h3, UInt8.toNat_ofNat', show 8 * (on + q) = 8 * on + 8 * q from by omega, Nat.pow_add, Nat.mul_assoc, Nat.xor_assoc, mul_xor, xor_low _ _ _ (Nat.mod_lt _ (Nat.two_pow_pos _)), show 8 * (q + 1) = 8 * q + 8 from by omega, Nat.pow_add (2) (8 * q) 8, Nat.mod_mul]
theorem garL_append (A R : List Int) (on : Nat) (y : Int) (q : Nat) (hq : on + q ≤ A.length) : garL (A ++ R) on y q = garL A on y q ++ R := by
  induction q with
  | zero => rfl
  | succ q ih =>
    rw [garL, garL, ih (by omega)]
    have hl : on + q < (garL A on y q).length := by rw [garL_len]; omega
    rw [List.set_append_left _ _ hl]
    congr 2
    rw [List.getD_eq_getElem?_getD, List.getD_eq_getElem?_getD, List.getElem?_append_left hl]
theorem bytes_numsL (s : ByteArray) : bytesOf s = numsL s.data.toList := rfl
theorem numsL_isY (M : List UInt8) : ∀ x ∈ numsL M, isY x := by
  intro x hx
  simp only [numsL, List.mem_map] at hx
  obtain ⟨b, _, rfl⟩ := hx
  have := b.toNat_lt
  unfold isY; omega
theorem numsL_inj {a b : List UInt8} (h : numsL a = numsL b) : a = b := by
  apply List.ext_getElem?
  intro i
  have h2 := congrArg (fun l => l[i]?) h
  simp only [numsL, List.getElem?_map] at h2
  cases h3 : a[i]? <;> cases h4 : b[i]? <;> rw [h3, h4] at h2 <;> simp at h2 ⊢
  exact UInt8.toNat_inj.1 (by omega)
theorem strOf_list (M : List UInt8) : (strOfNums (numsL M)).data.toList = M := numsL_inj ((bytes_numsL _).symm.trans (bytesOf_strOfNums (numsL_isY M)))
/-- What is read after the turning is the text with four of its bytes turned. -/
theorem recT_eq {first m on : Nat} {t : ByteArray} (y : Nat) (ht : t.size = m * 512) (hm : 1 ≤ m) (hon : on ≤ 508) : recT first m on t (y : Int) = strOfNums (garL (bytesOf t) on (y : Int) 4) := by
  unfold recT
  obtain ⟨F, hF⟩ : ∃ F, F = recF first m t := ⟨_, rfl⟩
  rw [← hF]
  have hraw : bytesOf t = rawB F first (List.finRange m) := by
    have h := raw_wr (fun _ => blank512) first t ht
    rw [show wrL (fun _ => blank512) first t (List.finRange m) = F from hF.symm] at h
    rw [← h]
    refine bytesOf_strOfNums (fun x hx => ?_)
    unfold rawB at hx
    rw [List.mem_flatMap] at hx
    obtain ⟨i, _, hx⟩ := hx
    exact bytesOf_isY _ x hx
  have hfs : (F first).size = 512 := by
    have := recF_size (first := first) (i := 0) ht (by omega)
    rw [Nat.add_zero, ← hF] at this
    exact this
  obtain ⟨M, hM, hMl, _⟩ := garL_inv (F first).data.toList on y 4 (by rw [toList_length, hfs]; omega)
  rw [hraw]
  obtain ⟨m', rfl⟩ : ∃ m', m = m' + 1 := ⟨m - 1, by omega⟩
  have hgs : bytesOf (garS (F first) on y) = garL (bytesOf (F first)) on y 4 := by
    unfold garS
    rw [bytes_numsL (F first), hM]
    exact bytesOf_strOfNums (numsL_isY M)
  unfold rawB
  rw [List.finRange_succ, List.flatMap_cons, List.flatMap_cons]
  show strOfNums (bytesOf (fput F first (garS (F first) on y) (first + 0)) ++ _) = strOfNums (garL (bytesOf (F (first + 0)) ++ _) on y 4)
  rw [Nat.add_zero, garL_append _ _ _ _ _ (by rw [bytesOf_length, hfs]; omega), show fput F first (garS (F first) on y) first = garS (F first) on y from if_pos rfl, hgs]
  congr 2
  rw [List.flatMap_map, List.flatMap_map]
  congr 1
  funext i
  have : fput F first (garS (F first) on y) (first + (Fin.succ i).val) = F (first + (Fin.succ i).val) := if_neg (by rw [Fin.val_succ]; omega)
  rw [this]
theorem turned_iff {first m on y : Nat} {t : ByteArray} (ht : t.size = m * 512) (hm : 1 ≤ m) (hm2 : m ≤ 1000000) (hon : on ≤ 508) (hy : y < 4294967296) : ∃ sum2 : Int, crc_Sum.f (recT first m on t (y : Int)) = some sum2 ∧ (sum2 = ((CrcM.sum t.data.toList).toNat : Int) ↔ (y : Int) = 0) := by
  rw [recT_eq y ht hm hon, bytes_numsL]
  obtain ⟨M, hM, hMl, hn⟩ := garL_inv t.data.toList on y 4 (by rw [toList_length]; omega)
  rw [Nat.mod_eq_of_lt (by omega)] at hn
  have hsz : (strOfNums (numsL M)).size = t.size := by rw [← toList_length, strOf_list, hMl, toList_length]
  rw [hM, sum_eq _ (by omega), strOf_list]
  refine ⟨_, rfl, ?_⟩
  have h1 := found_iff 0 (8 * on) t.data.toList M y hMl (by omega) hn
  have h2 : (((CrcM.sum M).toNat : Int) = ((CrcM.sum t.data.toList).toNat : Int)) ↔ CrcM.sum M = CrcM.sum t.data.toList := ⟨fun h => BitVec.eq_of_toNat_eq (by omega), fun h => by rw [h]⟩
  rw [h2, h1]
  constructor
  · rintro rfl
    have h3 : CrcM.num t.data.toList ^^^ CrcM.num t.data.toList = CrcM.num t.data.toList ^^^ (CrcM.num t.data.toList ^^^ 2 ^ (8 * on) * y) := by rw [← hn]
    rw [← Nat.xor_assoc, Nat.xor_self, Nat.zero_xor] at h3
    have h4 := Nat.two_pow_pos (8 * on)
    rcases Nat.mul_eq_zero.1 h3.symm with h | h <;> omega
  · intro h
    have h0 : y = 0 := by omega
    rw [h0, Nat.mul_zero, Nat.xor_zero] at hn
    exact num_inj _ _ hMl hn
theorem rec_fine (k n z first m : Nat) (hk : 1000 ≤ k) (s : ByteArray) (ws vs : List Int) (off : Int) (y : Nat) (hz : z = m * 512) (hm : 1 ≤ m) (hm2 : m ≤ 1000000) (hf : first + m ≤ n) (hs : s.size ≤ z) (hl : ws.length ≤ 60) (hJ : joinT ws vs = (s, 0)) (hy : y < 4294967296) : recFine k n z first m s ws vs off (y : Int) := by
  have hsz : (fillX z s).size = m * 512 := by rw [fillX_size hs, hz]
  have hlen : ws.length = vs.length := by
    unfold joinT at hJ
    by_cases hlen : ws.length = vs.length
    · exact hlen
    · rw [if_neg hlen] at hJ; exact absurd (show (2 : Int) = 0 from congrArg Prod.snd hJ) (by decide)
  have hj : joinF ws vs ⟨#[]⟩ = (s, 0) := by unfold joinT at hJ; rwa [if_pos hlen] at hJ
  obtain ⟨t, ht, hall⟩ := join_all ws vs _ _ hlen hj
  rw [empty_append] at ht
  subst ht
  have hA := hall (strOfNums (List.replicate (z - s.size) 0)) []
  rw [List.nil_append] at hA
  have hfill : fillX z s = s ++ strOfNums (List.replicate (z - s.size) 0) := by
    unfold fillX
    rw [strOfNums_append, strOfNums_bytesOf]
  refine ⟨hz, hm, hf, _, strOfNums (List.replicate (z - s.size) 0), sum_eq _ (by omega), ?_, same_self vs (by omega) k hk, ?_⟩
  · rw [all_eq _ ws (by omega) k hk, hfill, hA]
  · by_cases h1 : off < 0 ∨ 508 < off
    · exact .inl h1
    · obtain ⟨on, rfl⟩ : ∃ on : Nat, off = (on : Int) := ⟨off.toNat, by omega⟩
      obtain ⟨sum2, h2, h3⟩ := turned_iff (first := first) (on := on) hsz hm hm2 (by omega) hy
      exact .inr ⟨on, sum2, rfl, by omega, h2, h3⟩
open Classical in
theorem TopRecords : caulktop_TopRecords.Pure := by
  intro a b c d ata ws vs off y wa wb wc wd wt ⟨hws, hws2⟩ ⟨hvs, hvs2⟩ wo wy
  obtain ⟨K, hK⟩ : ∃ K : Nat, K = 1000 := ⟨_, rfl⟩
  have hb := wf_i64' wb
  have bb := bounds_u32 wy
  have hvu : ∀ v ∈ vs, isU v := fun v h => by have := bounds_u64 (hvs2 v h); unfold isU; omega
  refine ⟨K + 1, ?_⟩
  unfold caulktop_TopRecords.f
  rw [if_pos]
  refine ⟨begins_eq, by omega, _, sectors_eq K a b c d hb, ?_⟩
  by_cases g : good a b c d
  · rw [if_pos g]
    obtain ⟨⟨g1, g2⟩, g3, g4, g5, g6⟩ := id g
    have hze := size_eq K a b c d hb
    rw [if_pos g] at hze
    rw [pow_cast] at hze g6 ⊢
    obtain ⟨e, he⟩ : ∃ e : Nat, e = 2 ^ a.toNat := ⟨_, rfl⟩
    have he1 : 1 ≤ e := by rw [he]; exact Nat.one_le_two_pow
    have he2 : e ≤ 128 := by
      rw [he]
      exact Nat.le_trans (Nat.pow_le_pow_right (by decide) (show a.toNat ≤ 7 by omega)) (by decide)
    rw [← he] at hze g6 ⊢
    obtain ⟨dn, rfl⟩ : ∃ dn : Nat, d = (dn : Int) := ⟨d.toNat, by omega⟩
    have hn : ((dn : Int) * (e : Int)) = ((dn * e : Nat) : Int) := by push_cast; rfl
    rw [hn]
    by_cases hbig : 256 < dn * e
    · exact .inl (.inl (.inr (by omega)))
    by_cases hl : 60 < ws.length
    · exact .inl (.inr hl)
    have hpos : 4 * 1 ≤ dn * e := Nat.mul_le_mul (by omega) he1
    obtain ⟨s, e1, hJ⟩ : ∃ s e1, joinT ws vs = (s, e1) := ⟨_, _, rfl⟩
    have hss := joinT_size ws vs
    rw [hJ] at hss
    have hss' : s.size ≤ 8 * ws.length := hss
    refine .inr ⟨by omega, by omega, by omega, s, e1, by rw [fjoin_eq ws vs (by omega) hvu _ (by omega), hJ], e * 512, ?_, by omega, by omega, by omega, ?_⟩
    · rw [hze]; congr 1; omega
    · by_cases h0 : e1 = 0
      · subst h0
        refine .inr ⟨rfl, ?_⟩
        by_cases hr : ata < 0 ∨ (dn : Int) ≤ ata
        · exact .inl (first_range K a b c dn ata hb g hr)
        · obtain ⟨an, rfl⟩ : ∃ an : Nat, ata = (an : Int) := ⟨ata.toNat, by omega⟩
          have hfg := first_good K a b c dn an hb g (by omega) (by omega)
          rw [pow_cast, ← he, show ((an : Int) * (e : Int)) = ((an * e : Nat) : Int) from by push_cast; rfl] at hfg
          obtain ⟨yn, rfl⟩ : ∃ yn : Nat, y = (yn : Int) := ⟨y.toNat, by omega⟩
          refine .inr ⟨an * e, e, hfg, ?_⟩
          refine rec_fine (K + 1) _ _ _ _ (by omega) s ws vs off yn rfl he1 (by omega) ?_ (by omega) (by omega) hJ (by omega)
          rw [Int.toNat_natCast]
          have : (an + 1) * e ≤ dn * e := Nat.mul_le_mul_right e (by omega)
          rw [Nat.succ_mul] at this
          exact this
      · exact .inl h0
  · rw [if_neg g]
    exact .inl (.inl (.inl (by decide)))
end Go.Proofs.YtnhigoffkmfccaaDoor.Pure
