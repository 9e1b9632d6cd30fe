/- CombineTells: the pure statement: numbers and lists alone. Conditions: those of the statement itself. -/
import Derived.Test.YtegfembmnnmnbaaDoorGx3
import Derived.OpenShut
namespace Go.Proofs.YtegfembmnnmnbaaDoor.Pure
open Go.RowKit Go.Proofs.YtegfembmnnmnbaaDoor.G Go.Proofs.YtegfembmnnmnbaaDoorW.PrintWords Go.Proofs.YtegfembmnnmnbaaDoorW.PrintLast Go.Proofs.YtegfembmnnmnbaaDoorW.PrintMore Go.OpenShut
set_option linter.unusedVariables false
set_option linter.unusedSimpArgs false
theorem bits_and32 (a b : BitVec 32) : Go.bits .and .u32 (a.toNat : Int) (b.toNat : Int) = ((a &&& b).toNat : Int) := by
  have h := (a &&& b).isLt
  have ea : BitVec.ofInt 32 (a.toNat : Int) = a := by simp
  have eb : BitVec.ofInt 32 (b.toNat : Int) = b := by simp
  show IntKind.u32.wrap (((BitVec.ofInt 32 (a.toNat : Int)) &&& (BitVec.ofInt 32 (b.toNat : Int))).toNat : Int) = _
  rw [ea, eb, IntKind.wrap_u32]
  omega
theorem bits_or32 (a b : BitVec 32) : Go.bits .or .u32 (a.toNat : Int) (b.toNat : Int) = ((a ||| b).toNat : Int) := by
  have h := (a ||| b).isLt
  have ea : BitVec.ofInt 32 (a.toNat : Int) = a := by simp
  have eb : BitVec.ofInt 32 (b.toNat : Int) = b := by simp
  show IntKind.u32.wrap (((BitVec.ofInt 32 (a.toNat : Int)) ||| (BitVec.ofInt 32 (b.toNat : Int))).toNat : Int) = _
  rw [ea, eb, IntKind.wrap_u32]
  omega
theorem and_top (a : BitVec 32) : (Go.bits .and .u32 (a.toNat : Int) 2147483648 = 0) ↔ a.msb = false := by
  have h := bits_and32 a 0x80000000#32
  have e : ((0x80000000#32 : BitVec 32).toNat : Int) = 2147483648 := by decide
  rw [e] at h
  rw [h]
  have h2 : (a &&& 0x80000000#32).toNat = if a.msb then 2147483648 else 0 := by
    have h3 : a &&& 0x80000000#32 = if a.msb then 0x80000000#32 else 0#32 := by
      apply BitVec.eq_of_getLsbD_eq
      intro i hi
      rw [BitVec.getLsbD_and]
      have hm : a.msb = a.getLsbD 31 := by rw [BitVec.msb_eq_getLsbD_last]
      have hc : ∀ j, j < 32 → (0x80000000#32 : BitVec 32).getLsbD j = decide (j = 31) := by decide
      rw [hc i hi]
      by_cases h31 : i = 31
      · subst h31; rw [hm]; cases a.getLsbD 31 <;> rfl
      · rw [hm]; cases a.getLsbD 31 <;> simp [h31, hc i hi]
    rw [h3]; cases a.msb <;> rfl
  rw [h2]
  cases a.msb <;> simp
theorem and_one (a : BitVec 32) : Go.bits .and .u32 (a.toNat : Int) 1 = ((a.toNat % 2 : Nat) : Int) := by
  have := Go.bits_mask .u32 32 (by decide) (fun n h0 h1 => by rw [IntKind.wrap_u32]; omega) 1 (by decide) (a.toNat : Int) (by omega) (by have := a.isLt; omega)
  simpa using this
theorem poly_toNat : ((CrcM.poly : BitVec 32).toNat : Int) = 2197175160 := by decide
theorem st_int (b : BitVec 32) : Go.bits .xor .u32 ((b.toNat : Int) / 2) (Go.bits .and .u32 2197175160 ((-(Go.bits .and .u32 (b.toNat : Int) 1)) % 4294967296)) = ((CrcM.st b).toNat : Int) := by
  rw [and_one]
  have hb := b.isLt
  have e2 : ((b >>> 1).toNat : Int) = (b.toNat : Int) / 2 := by
    rw [BitVec.toNat_ushiftRight, Nat.shiftRight_eq_div_pow]; omega
  unfold CrcM.st
  rw [CrcM.getLsb0]
  rcases Nat.mod_two_eq_zero_or_one b.toNat with h | h
  · rw [h]
    have e1 : Go.bits .and .u32 2197175160 ((-((0 : Nat) : Int)) % 4294967296) = 0 := by decide
    have h3 := bits_xor32 (b >>> 1) 0#32
    rw [e1, ← e2]
    have e0 : (((0#32 : BitVec 32).toNat : Nat) : Int) = 0 := by decide
    rw [e0] at h3
    rw [h3]; simp
  · rw [h]
    have e1 : Go.bits .and .u32 2197175160 ((-((1 : Nat) : Int)) % 4294967296) = 2197175160 := by decide +kernel
    have h3 := bits_xor32 (b >>> 1) CrcM.poly
    rw [poly_toNat] at h3
    rw [e1, ← e2, h3]; simp
theorem shl_int (a : BitVec 32) : (a.toNat : Int) * (2 : Int) % (4294967296 : Int) = ((a <<< 1).toNat : Int) := by
  rw [BitVec.toNat_shiftLeft, Nat.shiftLeft_eq]; omega

theorem mul_loop (j : Nat) : ∀ (k : Nat) (a b p : BitVec 32), j < k → a <<< j = 0#32 → combine_mul.l0 k a.toNat b.toNat p.toNat = some ((p ^^^ CrcM.mulk j a b).toNat : Int) := by
  induction j with
  | zero =>
    intro k a b p hk h
    obtain ⟨k, rfl⟩ : ∃ m, k = m + 1 := ⟨k - 1, by omega⟩
    have ha : a = 0#32 := by simpa using h
    subst ha
    simp [combine_mul.l0, CrcM.mulk]
  | succ j ih =>
    intro k a b p hk h
    obtain ⟨k, rfl⟩ : ∃ m, k = m + 1 := ⟨k - 1, by omega⟩
    by_cases h0 : a = 0#32
    · subst h0
      rw [CrcM.mulk_zero]
      simp [combine_mul.l0]
    · have hn : ¬ ((a.toNat : Int) = 0) := by
        intro e; apply h0; apply BitVec.eq_of_toNat_eq; simp; omega
      simp only [combine_mul.l0]
      rw [if_neg hn, shl_int, st_int, bits_xor32]
      have h' : (a <<< 1) <<< j = 0#32 := by rw [← BitVec.shiftLeft_add, Nat.add_comm]; exact h
      simp only [CrcM.mulk]
      cases hm : a.msb
      · rw [if_pos ((and_top a).2 hm), ih k _ _ _ (by omega) h']
        simp
      · rw [if_neg (fun e => by have := (and_top a).1 e; rw [hm] at this; cases this), ih k _ _ _ (by omega) h']
        simp [BitVec.xor_assoc]
theorem mul_eq (k : Nat) (hk : 32 < k) (a b : BitVec 32) : combine_mul.f k a.toNat b.toNat = some ((CrcM.mul a b).toNat : Int) := by
  have h := mul_loop 32 k a b 0#32 hk (by simp)
  unfold combine_mul.f
  have e0 : (((0#32 : BitVec 32).toNat : Nat) : Int) = 0 := by decide
  rw [e0] at h
  rw [h]; simp [CrcM.mul]
theorem and_one64 (n : Nat) (h : n < 2 ^ 62) : Go.bits .and .i64 (n : Int) 1 = ((n % 2 : Nat) : Int) := by
  have := Go.bits_mask .i64 63 (by decide) (fun n h0 h1 => by rw [IntKind.wrap_i64]; omega) 1 (by decide) (n : Int) (by omega) (by omega)
  simpa using this
theorem power_loop (j : Nat) : ∀ (k n : Nat) (x p : BitVec 32), j + 33 < k → n < 2 ^ j → j ≤ 62 → combine_power.l0 k x.toNat n p.toNat = some ((CrcM.mul p (CrcM.pw x n)).toNat : Int) := by
  induction j with
  | zero =>
    intro k n x p hk hn _
    obtain ⟨k, rfl⟩ : ∃ m, k = m + 1 := ⟨k - 1, by omega⟩
    have : n = 0 := by simpa using hn
    subst this
    simp [combine_power.l0, CrcM.pw, CrcM.mul_one_right]
  | succ j ih =>
    intro k n x p hk hn hj
    obtain ⟨k, rfl⟩ : ∃ m, k = m + 1 := ⟨k - 1, by omega⟩
    have h62 : n < 2 ^ 62 := Nat.lt_of_lt_of_le hn (Nat.pow_le_pow_right (by decide) hj)
    have hn2 : n / 2 < 2 ^ j := by rw [Nat.pow_succ] at hn; omega
    simp only [combine_power.l0]
    by_cases h0 : n = 0
    · subst h0; simp [CrcM.pw, CrcM.mul_one_right]
    · rw [if_pos (by omega), and_one64 n h62, mul_eq k (by omega), mul_eq k (by omega), CrcM.pw_round]
      simp only [Option.bind_some]
      rw [show ((n : Int) / 2) = ((n / 2 : Nat) : Int) from by omega]
      by_cases h1 : n % 2 = 1
      · rw [if_pos (by omega), if_pos h1, ih k _ _ _ (by omega) hn2 (by omega)]
      · rw [if_neg (by omega), if_neg h1, ih k _ _ _ (by omega) hn2 (by omega)]
theorem power_eq (k n : Nat) (hk : 80 < k) (hn : n < 2 ^ 41) (x : BitVec 32) : combine_power.f k x.toNat n = some ((CrcM.pw x n).toNat : Int) := by
  have h := power_loop 41 k n x CrcM.one (by omega) hn (by decide)
  have e : (((CrcM.one : BitVec 32).toNat : Nat) : Int) = 2147483648 := by decide
  rw [e] at h
  unfold combine_power.f
  rw [h, CrcM.mul_one_left]
theorem by_eq (k : Nat) (hk : 82 < k) (a x : BitVec 32) (n : Int) (h0 : 0 ≤ n) (h1 : n ≤ 1099511627776) : combine_by.f k a.toNat x.toNat n = some (((CrcM.mul a (CrcM.pw x n.toNat)).toNat : Int), 0) := by
  obtain ⟨k, rfl⟩ : ∃ m, k = m + 1 := ⟨k - 1, by omega⟩
  obtain ⟨m, rfl⟩ := Int.eq_ofNat_of_zero_le h0
  unfold combine_by.f
  rw [if_neg (by omega), decide_eq_false (by omega)]
  simp only [combine_by.j0, Bool.false_eq_true, if_false]
  rw [power_eq k m (by omega) (by omega)]
  simp only [Option.bind_some]
  rw [mul_eq k (by omega)]
  simp
theorem by_bad (k : Nat) (hk : 82 < k) (a x n : Int) (h : n < 0 ∨ 1099511627776 < n) : combine_by.f k a x n = some (0, 1) := by
  obtain ⟨k, rfl⟩ : ∃ m, k = m + 1 := ⟨k - 1, by omega⟩
  unfold combine_by.f
  by_cases h0 : n < 0
  · rw [if_pos h0]; simp [combine_by.j0]
  · rw [if_neg h0, decide_eq_true (by omega)]; simp [combine_by.j0]
theorem shift_eq (k : Nat) (hk : 82 < k) (a : BitVec 32) (n : Int) (h0 : 0 ≤ n) (h1 : n ≤ 1099511627776) : combine_Shift.f k a.toNat n = some (((CrcM.stn (8 * n.toNat) a).toNat : Int), 0) := by
  have h := by_eq k hk a CrcM.byte1 n h0 h1
  rw [CrcM.mul_pw_byte1] at h
  have e : (((CrcM.byte1 : BitVec 32).toNat : Nat) : Int) = 8388608 := by decide
  rw [e] at h
  unfold combine_Shift.f
  rw [h]; rfl
theorem shift_bad (k : Nat) (hk : 82 < k) (a n : Int) (h : n < 0 ∨ 1099511627776 < n) : combine_Shift.f k a n = some (0, 1) := by
  unfold combine_Shift.f
  rw [by_bad k hk _ _ _ h]; rfl
/-- what is shifted back -/
def bk (a : BitVec 32) (n : Nat) : BitVec 32 := CrcM.mul a (CrcM.pw (CrcM.pw CrcM.over 8) n)
theorem bk_stn (a : BitVec 32) (n : Nat) : CrcM.stn (8 * n) (bk a n) = a := CrcM.back_stn a n
theorem bk_unique {a b : BitVec 32} {n : Nat} (h : CrcM.stn (8 * n) b = a) : bk a n = b := CrcM.stn_inj (8 * n) ((bk_stn a n).trans h.symm)
theorem back_eq (k : Nat) (hk : 82 < k) (a : BitVec 32) (n : Int) (h0 : 0 ≤ n) (h1 : n ≤ 1099511627776) : combine_Back.f k a.toNat n = some (((bk a n.toNat).toNat : Int), 0) := by
  have hp := power_eq k 8 (by omega) (by decide) CrcM.over
  have e : (((CrcM.over : BitVec 32).toNat : Nat) : Int) = 99383025 := by decide
  rw [e] at hp
  unfold combine_Back.f
  rw [show ((8 : Int)) = ((8 : Nat) : Int) from rfl, hp]
  simp only [Option.bind_some]
  rw [by_eq k hk a _ n h0 h1]; rfl
theorem back_bad (k : Nat) (hk : 82 < k) (a n : Int) (h : n < 0 ∨ 1099511627776 < n) : combine_Back.f k a n = some (0, 1) := by
  have hp := power_eq k 8 (by omega) (by decide) CrcM.over
  have e : (((CrcM.over : BitVec 32).toNat : Nat) : Int) = 99383025 := by decide
  rw [e] at hp
  unfold combine_Back.f
  rw [show ((8 : Int)) = ((8 : Nat) : Int) from rfl, hp]
  simp only [Option.bind_some]
  rw [by_bad k hk _ _ _ h]; rfl
theorem not32 (x : BitVec 32) : Go.bits .xor .u32 4294967295 (x.toNat : Int) = ((~~~ x).toNat : Int) := by
  have h := bits_xor32 CrcM.ones x
  have e : (((CrcM.ones : BitVec 32).toNat : Nat) : Int) = 4294967295 := by decide
  rw [e] at h
  rw [h, show CrcM.ones = BitVec.allOnes 32 from by decide, BitVec.allOnes_xor]
theorem sum_eq (s : ByteArray) (hs : s.size ≤ 140737488355328) : crc_Sum.f s = some ((CrcM.sum s.data.toList).toNat : Int) := by
  unfold crc_Sum.f crc_Start.f crc_Add.f crc_End.f
  simp only [Option.bind_some]
  rw [if_pos ⟨by decide, by decide, hs⟩]
  simp only [Option.bind_some]
  unfold crcI
  rw [show BitVec.ofInt 32 4294967295 = CrcM.ones from by decide, not32]
  rfl
theorem join_eq (k : Nat) (hk : 82 < k) (a b : BitVec 32) (n : Int) (h0 : 0 ≤ n) (h1 : n ≤ 1099511627776) : combine_Join.f k a.toNat b.toNat n = some (((CrcM.stn (8 * n.toNat) a ^^^ b).toNat : Int), 0) := by
  unfold combine_Join.f
  rw [shift_eq k hk a n h0 h1]
  simp only [Option.bind_some, if_true]
  rw [bits_xor32]
theorem join_bad (k : Nat) (hk : 82 < k) (a b n : Int) (h : n < 0 ∨ 1099511627776 < n) : combine_Join.f k a b n = some (0, 1) := by
  unfold combine_Join.f
  rw [shift_bad k hk a n h]; rfl
theorem head_eq (k : Nat) (hk : 82 < k) (a b : BitVec 32) (n : Int) (h0 : 0 ≤ n) (h1 : n ≤ 1099511627776) : combine_Head.f k a.toNat b.toNat n = some (((bk (a ^^^ b) n.toNat).toNat : Int), 0) := by
  unfold combine_Head.f
  rw [bits_xor32, back_eq k hk _ n h0 h1]; rfl
theorem blank_eq (k : Nat) (hk : 82 < k) (n : Int) (h0 : 0 ≤ n) (h1 : n ≤ 1099511627776) : combine_Blank.f k n = some (((~~~ CrcM.stn (8 * n.toNat) CrcM.ones).toNat : Int), 0) := by
  have h := shift_eq k hk CrcM.ones n h0 h1
  have e : (((CrcM.ones : BitVec 32).toNat : Nat) : Int) = 4294967295 := by decide
  rw [e] at h
  unfold combine_Blank.f
  rw [h]
  simp only [Option.bind_some, if_true]
  rw [not32]
theorem lives33 (k : Nat) (hk : 82 < k) : caulklaw33_lives.f k = some true := by
  have a1 : CrcM.sum [49, 50, 51, 52] = 0xf63af4ee#32 ∨ True := .inr trivial
  unfold caulklaw33_lives.f
  rw [sum_eq ⟨#[49, 50, 51, 52]⟩ (by decide), sum_eq ⟨#[53, 54, 55, 56, 57]⟩ (by decide), sum_eq ⟨#[49, 50, 51, 52, 53, 54, 55, 56, 57]⟩ (by decide)]
  simp only [Option.bind_some]
  rw [join_eq k hk _ _ 5 (by decide) (by decide), head_eq k hk _ _ 5 (by decide) (by decide), blank_eq k hk 1 (by decide) (by decide), shift_bad k hk _ _ (by decide)]
  have s77 := shift_eq k hk 77#32 0 (by decide) (by decide)
  have e77 : (((77#32 : BitVec 32).toNat : Nat) : Int) = 77 := by decide
  rw [e77] at s77
  rw [s77]
  have q1 : ((CrcM.stn (8 * (5 : Int).toNat) (CrcM.sum [49, 50, 51, 52]) ^^^ CrcM.sum [53, 54, 55, 56, 57]).toNat : Int) = 3808858755 := by decide +kernel
  have q2 : bk (CrcM.sum [49, 50, 51, 52, 53, 54, 55, 56, 57] ^^^ CrcM.sum [53, 54, 55, 56, 57]) (5 : Int).toNat = CrcM.sum [49, 50, 51, 52] := bk_unique (by decide +kernel)
  have q3 : ((~~~ CrcM.stn (8 * (1 : Int).toNat) CrcM.ones).toNat : Int) = 1383945041 := by decide +kernel
  have q4 : ((CrcM.stn (8 * (0 : Int).toNat) 77#32).toNat : Int) = 77 := by decide +kernel
  simp only [Option.bind_some]
  rw [q1, q2, q3, q4]
  simp
theorem shr_int (x : BitVec 32) : ((x >>> 1).toNat : Int) = (x.toNat : Int) / 2 := by
  rw [BitVec.toNat_ushiftRight, Nat.shiftRight_eq_div_pow]; omega
theorem bit_step (x : BitVec 32) (v : Nat) (hv : v < 2) : CrcM.st (x ^^^ BitVec.ofNat 32 v) = if x.toNat % 2 = v then x >>> 1 else (x >>> 1) ^^^ CrcM.poly := by
  unfold CrcM.st
  rw [BitVec.ushiftRight_xor_distrib, BitVec.getLsbD_xor, CrcM.getLsb0]
  rcases (by omega : v = 0 ∨ v = 1) with rfl | rfl
  · rw [show (BitVec.ofNat 32 0) >>> 1 = 0#32 from by decide, show (BitVec.ofNat 32 0).getLsbD 0 = false from by decide]
    rcases Nat.mod_two_eq_zero_or_one x.toNat with h | h <;> simp [h]
  · rw [show (BitVec.ofNat 32 1) >>> 1 = 0#32 from by decide, show (BitVec.ofNat 32 1).getLsbD 0 = true from by decide]
    rcases Nat.mod_two_eq_zero_or_one x.toNat with h | h <;> simp [h]
theorem bt_nat (s : ByteArray) (i : Nat) (h : i < s.size) : bt s i = (s[i].toNat : Int) := by
  unfold bt
  rw [dif_pos (by simpa using h)]
  simp
theorem ref_l1 (s : ByteArray) (i : Nat) (hi : i < s.size) (j : Nat) : ∀ (k b : Nat) (x : BitVec 32), b + j = 8 → j < k →
    caulkref01_Add.l1 k x.toNat s i b = caulkref01_Add.l0 (k - j - 1) ((CrcM.fd j x (s[i].toNat / 2 ^ b)).toNat : Int) s (wrap64 ((i : Int) + 1)) := by
  induction j with
  | zero =>
    intro k b x hb hk
    obtain ⟨k, rfl⟩ : ∃ m, k = m + 1 := ⟨k - 1, by omega⟩
    simp only [caulkref01_Add.l1]
    rw [if_neg (by omega)]
    simp [CrcM.fd]
  | succ j ih =>
    intro k b x hb hk
    obtain ⟨k, rfl⟩ : ∃ m, k = m + 1 := ⟨k - 1, by omega⟩
    have a1 : b + 1 + j = 8 := by omega
    have a2 : j < k := by omega
    have a3 : k + 1 - (j + 1) - 1 = k - j - 1 := by omega
    have hc := s[i].toNat_lt
    simp only [caulkref01_Add.l1]
    rw [if_pos (by omega), if_pos (by omega), if_pos (by omega), if_pos (by omega), bt_nat s i hi, and_one]
    have hv : shr .u32 ((s[i].toNat : Int) % 4294967296) (b : Int) = ((s[i].toNat / 2 ^ b : Nat) : Int) := by
      unfold shr
      rw [Int.emod_eq_of_lt (by omega) (by omega), Nat.min_eq_left (by simp [IntKind.bits]; omega)]
      simp
    rw [hv]
    have hlt : s[i].toNat / 2 ^ b < 2 ^ 32 := Nat.lt_of_le_of_lt (Nat.div_le_self _ _) (by omega)
    have ha := and_one (BitVec.ofNat 32 (s[i].toNat / 2 ^ b))
    rw [BitVec.toNat_ofNat, Nat.mod_eq_of_lt hlt] at ha
    rw [ha]
    have hd : s[i].toNat / 2 ^ b / 2 = s[i].toNat / 2 ^ (b + 1) := by rw [Nat.div_div_eq_div_mul, Nat.pow_succ]
    generalize s[i].toNat / 2 ^ b = v at *
    have hx : Int.tdiv (x.toNat : Int) (2 : Int) % (4294967296 : Int) = ((x >>> 1).toNat : Int) := by
      rw [Int.tdiv_eq_ediv_of_nonneg (by omega), shr_int]
      have := x.isLt; omega
    have hw : wrap64 ((b : Int) + 1) = ((b + 1 : Nat) : Int) := by unfold wrap64; omega
    rw [hx, hw]
    have hf : CrcM.fd (j + 1) x v = CrcM.fd j (if x.toNat % 2 = v % 2 then x >>> 1 else (x >>> 1) ^^^ CrcM.poly) (v / 2) := by
      simp only [CrcM.fd]
      rw [bit_step x (v % 2) (Nat.mod_lt _ (by decide))]
    rw [hf, hd]
    by_cases e : x.toNat % 2 = v % 2
    · rw [if_pos (by omega), if_pos e, ih k (b + 1) _ a1 a2]
      rw [a3]
    · have hp := bits_xor32 (x >>> 1) CrcM.poly
      rw [poly_toNat] at hp
      rw [if_neg (by omega), if_neg e, hp, ih k (b + 1) _ a1 a2]
      rw [a3]
theorem ref_l0 (s : ByteArray) (hs : s.size ≤ 140737488355328) (d : Nat) : ∀ (k i : Nat) (x : BitVec 32), i + d = s.size → 10 * d < k →
    caulkref01_Add.l0 k x.toNat s i = some ((CrcM.add x (s.data.toList.drop i)).toNat : Int) := by
  induction d with
  | zero =>
    intro k i x hi hk
    obtain ⟨k, rfl⟩ : ∃ m, k = m + 1 := ⟨k - 1, by omega⟩
    simp only [caulkref01_Add.l0]
    rw [if_neg (by omega), List.drop_eq_nil_of_le (by simp; omega)]
    simp [CrcM.add]
  | succ d ih =>
    intro k i x hi hk
    obtain ⟨k, rfl⟩ : ∃ m, k = m + 1 := ⟨k - 1, by omega⟩
    have hlt : i < s.size := by omega
    simp only [caulkref01_Add.l0]
    rw [if_pos (by omega)]
    have h1 := ref_l1 s i hlt 8 k 0 x (by omega) (by omega)
    rw [show ((0 : Nat) : Int) = 0 from rfl] at h1
    rw [h1]
    have hw : wrap64 ((i : Int) + 1) = ((i + 1 : Nat) : Int) := by unfold wrap64; omega
    rw [hw, ih _ (i + 1) _ (by omega) (by omega)]
    have hdr : s.data.toList.drop i = s[i] :: s.data.toList.drop (i + 1) := by
      rw [List.drop_eq_getElem_cons (by simpa using hlt)]; rfl
    rw [hdr, Nat.pow_zero, Nat.div_one, ← CrcM.byt_fd]
    rfl
theorem refadd_eq (k : Nat) (x : BitVec 32) (s : ByteArray) (hs : s.size ≤ 140737488355328) (hk : 10 * s.size < k) : caulkref01_Add.f k x.toNat s = some ((CrcM.add x s.data.toList).toNat : Int) := by
  unfold caulkref01_Add.f
  have h := ref_l0 s hs s.size k 0 x (by omega) hk
  rw [show ((0 : Nat) : Int) = 0 from rfl] at h
  rw [h]; simp
theorem refshift_loop (n : Nat) : ∀ (k : Nat) (x : BitVec 32), n + 15 < k → n < 2 ^ 62 → caulkref33_Shift.l0 k x.toNat n = some (((CrcM.stn (8 * n) x).toNat : Int), 0) := by
  induction n with
  | zero =>
    intro k x hk _
    obtain ⟨k, rfl⟩ : ∃ m, k = m + 1 := ⟨k - 1, by omega⟩
    simp [caulkref33_Shift.l0, CrcM.stn]
  | succ n ih =>
    intro k x hk hn
    obtain ⟨k, rfl⟩ : ∃ m, k = m + 1 := ⟨k - 1, by omega⟩
    simp only [caulkref33_Shift.l0]
    rw [if_pos (by omega), refadd_eq k x ⟨#[0]⟩ (by decide) (by show 10 * 1 < k; omega)]
    simp only [Option.bind_some]
    have hw : wrap64 (((n + 1 : Nat) : Int) - 1) = (n : Int) := by unfold wrap64; omega
    have hb : CrcM.add x [0] = CrcM.stn 8 x := by
      show CrcM.stn 8 (x ^^^ BitVec.ofNat 32 (0 : UInt8).toNat) = _
      congr 1
      rw [show (0 : UInt8).toNat = 0 from rfl]; simp
    rw [hw]
    show caulkref33_Shift.l0 k ((CrcM.add x [0]).toNat : Int) n = _
    rw [hb, ih k _ (by omega) (by omega), ← CrcM.stn_add]
    rw [show 8 + 8 * n = 8 * (n + 1) from by omega]
theorem right33 (n : Int) : caulkref33_right.f n = some (decide (0 ≤ n ∧ n ≤ 1099511627776)) := by
  unfold caulkref33_right.f
  by_cases h : n ≥ 0
  · rw [if_pos h]
    congr 1
    by_cases h2 : n ≤ 1099511627776 <;> simp [h2] <;> omega
  · rw [if_neg h, decide_eq_false (by omega)]
theorem refshift_eq (k : Nat) (x : BitVec 32) (n : Nat) (hk : n + 15 < k) (hn : n ≤ 1099511627776) : caulkref33_Shift.f k x.toNat n = some (((CrcM.stn (8 * n) x).toNat : Int), 0) := by
  unfold caulkref33_Shift.f
  rw [right33, decide_eq_true (by omega)]
  simp only [Option.bind_some, if_true]
  exact refshift_loop n k x hk (by omega)
theorem refshift_bad (k : Nat) (x n : Int) (h : ¬ (0 ≤ n ∧ n ≤ 1099511627776)) : caulkref33_Shift.f k x n = some (0, 1) := by
  unfold caulkref33_Shift.f
  rw [right33, decide_eq_false h]; simp
theorem st_odd (c : Nat) (h : 2 * c + 1 < 2 ^ 32) : CrcM.st (BitVec.ofNat 32 (2 * c + 1)) = BitVec.ofNat 32 c ^^^ CrcM.poly := by
  have e := CrcM.ofNat_split 1 1 c (by decide)
  rw [show 1 + 2 ^ 1 * c = 2 * c + 1 from by omega, show 2 ^ 1 * c = 2 * c from by omega] at e
  rw [e, CrcM.st_xor, CrcM.st_even c (by omega), show CrcM.st (BitVec.ofNat 32 1) = CrcM.poly from by decide, BitVec.xor_comm]
theorem unbit_eq (x : BitVec 32) : ∃ y : BitVec 32, caulkref33_unbit.f x.toNat = some (y.toNat : Int) ∧ CrcM.st y = x := by
  unfold caulkref33_unbit.f
  have hx := x.isLt
  by_cases h : x.toNat / 2147483648 = 1
  · rw [if_pos (by omega)]
    have hp := bits_xor32 x CrcM.poly
    rw [poly_toNat] at hp
    rw [hp]
    obtain ⟨z, hz⟩ : ∃ z, z = x ^^^ CrcM.poly := ⟨_, rfl⟩
    rw [← hz]
    have hzlt : z.toNat < 2147483648 := by
      have hm : z.msb = false := by
        rw [hz, BitVec.msb_xor]
        have : x.msb = true := by rw [BitVec.msb_eq_decide]; simp; omega
        rw [this]; decide
      rw [BitVec.msb_eq_decide] at hm
      simpa using hm
    have e1 : (z.toNat : Int) * 2 % 4294967296 = (((BitVec.ofNat 32 (2 * z.toNat)).toNat : Nat) : Int) := by
      rw [BitVec.toNat_ofNat, Nat.mod_eq_of_lt (by omega)]; omega
    have ho := bits_or32 (BitVec.ofNat 32 (2 * z.toNat)) 1#32
    have e0 : (((1#32 : BitVec 32).toNat : Nat) : Int) = 1 := by decide
    rw [e0] at ho
    rw [e1, ho]
    refine ⟨_, rfl, ?_⟩
    have e2 : BitVec.ofNat 32 (2 * z.toNat) ||| 1#32 = BitVec.ofNat 32 (2 * z.toNat + 1) := by
      apply BitVec.eq_of_toNat_eq
      rw [BitVec.toNat_or, BitVec.toNat_ofNat (w := 32) (2 * z.toNat), BitVec.toNat_ofNat (w := 32) (2 * z.toNat + 1), Nat.mod_eq_of_lt (show 2 * z.toNat < 2 ^ 32 from by omega), Nat.mod_eq_of_lt (show 2 * z.toNat + 1 < 2 ^ 32 from by omega), show (1#32).toNat = 1 from rfl]
      have := Nat.two_pow_add_eq_or_of_lt (i := 1) (b := 1) (by decide) z.toNat
      rw [show 2 ^ 1 * z.toNat = 2 * z.toNat from by omega] at this
      rw [this]
    rw [e2, st_odd _ (by omega)]
    have e3 : BitVec.ofNat 32 z.toNat = z := by simp
    rw [e3, hz, BitVec.xor_assoc, BitVec.xor_self, BitVec.xor_zero]
  · rw [if_neg (by omega)]
    refine ⟨BitVec.ofNat 32 (2 * x.toNat), ?_, ?_⟩
    · rw [BitVec.toNat_ofNat, Nat.mod_eq_of_lt (by omega)]
      congr 1; omega
    · rw [CrcM.st_even _ (by omega)]; simp
theorem refback_l1 (m : Int) (j : Nat) : ∀ (k b : Nat) (x : BitVec 32), b + j = 8 → j < k →
    ∃ y : BitVec 32, CrcM.stn j y = x ∧ caulkref33_Back.l1 k x.toNat m b = caulkref33_Back.l0 (k - j - 1) y.toNat (wrap64 (m - 1)) := by
  induction j with
  | zero =>
    intro k b x hb hk
    obtain ⟨k, rfl⟩ : ∃ m, k = m + 1 := ⟨k - 1, by omega⟩
    refine ⟨x, rfl, ?_⟩
    simp only [caulkref33_Back.l1]
    rw [if_neg (by omega)]; simp
  | succ j ih =>
    intro k b x hb hk
    obtain ⟨k, rfl⟩ : ∃ m, k = m + 1 := ⟨k - 1, by omega⟩
    obtain ⟨z, hz, hs⟩ := unbit_eq x
    obtain ⟨y, hy, he⟩ := ih k (b + 1) z (by omega) (by omega)
    refine ⟨y, ?_, ?_⟩
    · rw [CrcM.stn_add j 1, hy]; exact hs
    · simp only [caulkref33_Back.l1]
      rw [if_pos (by omega), hz]
      simp only [Option.bind_some]
      have hw : wrap64 ((b : Int) + 1) = ((b + 1 : Nat) : Int) := by unfold wrap64; omega
      rw [hw, he]
      rw [show k + 1 - (j + 1) - 1 = k - j - 1 from by omega]
theorem refback_loop (n : Nat) : ∀ (k : Nat) (x : BitVec 32), 10 * n < k → n < 2 ^ 62 → ∃ y : BitVec 32, CrcM.stn (8 * n) y = x ∧ caulkref33_Back.l0 k x.toNat n = some ((y.toNat : Int), 0) := by
  induction n with
  | zero =>
    intro k x hk _
    obtain ⟨k, rfl⟩ : ∃ m, k = m + 1 := ⟨k - 1, by omega⟩
    exact ⟨x, rfl, by simp [caulkref33_Back.l0]⟩
  | succ n ih =>
    intro k x hk hn
    obtain ⟨k, rfl⟩ : ∃ m, k = m + 1 := ⟨k - 1, by omega⟩
    obtain ⟨z, hz, he⟩ := refback_l1 ((n + 1 : Nat) : Int) 8 k 0 x (by omega) (by omega)
    obtain ⟨y, hy, hf⟩ := ih (k - 8 - 1) z (by omega) (by omega)
    refine ⟨y, ?_, ?_⟩
    · rw [show 8 * (n + 1) = 8 * n + 8 from by omega, CrcM.stn_add, hy, hz]
    · simp only [caulkref33_Back.l0]
      rw [if_pos (by omega)]
      rw [show ((0 : Nat) : Int) = 0 from rfl] at he
      rw [he, show wrap64 (((n + 1 : Nat) : Int) - 1) = (n : Int) from by unfold wrap64; omega, hf]
theorem refback_eq (k : Nat) (x : BitVec 32) (n : Nat) (hk : 10 * n < k) (hn : n ≤ 1099511627776) : caulkref33_Back.f k x.toNat n = some (((bk x n).toNat : Int), 0) := by
  unfold caulkref33_Back.f
  rw [right33, decide_eq_true (by omega)]
  simp only [Option.bind_some, if_true]
  obtain ⟨y, hy, he⟩ := refback_loop n k x hk (by omega)
  rw [he, bk_unique hy]
theorem refback_bad (k : Nat) (x n : Int) (h : ¬ (0 ≤ n ∧ n ≤ 1099511627776)) : caulkref33_Back.f k x n = some (0, 1) := by
  unfold caulkref33_Back.f
  rw [right33, decide_eq_false h]; simp
theorem head_bad (k : Nat) (hk : 82 < k) (a b n : Int) (h : n < 0 ∨ 1099511627776 < n) : combine_Head.f k a b n = some (0, 1) := by
  unfold combine_Head.f
  rw [back_bad k hk _ n h]; rfl
theorem blank_bad (k : Nat) (hk : 82 < k) (n : Int) (h : n < 0 ∨ 1099511627776 < n) : combine_Blank.f k n = some (0, 1) := by
  unfold combine_Blank.f
  rw [shift_bad k hk _ n h]; rfl
theorem CombineTells : caulklaw33_CombineTells.Pure := by
  intro a b n wa wb wn
  have ba := bounds_u32 wa
  have bb := bounds_u32 wb
  obtain ⟨x, rfl⟩ : ∃ x : BitVec 32, a = (x.toNat : Int) := ⟨BitVec.ofInt 32 a, by rw [BitVec.toNat_ofInt]; omega⟩
  obtain ⟨y, rfl⟩ : ∃ x : BitVec 32, b = (x.toNat : Int) := ⟨BitVec.ofInt 32 b, by rw [BitVec.toNat_ofInt]; omega⟩
  refine ⟨200001, ?_⟩
  unfold caulklaw33_CombineTells.f
  by_cases hbig : n > 16384 ∧ n ≤ 1099511627776
  · rw [if_pos hbig.1, decide_eq_true hbig.2]
    simp only [caulklaw33_CombineTells.j0, if_true]
    rw [lives33 200000 (by omega)]; rfl
  have hj : caulklaw33_CombineTells.j0 200001 x.toNat y.toNat n false = some true := by
    simp only [caulklaw33_CombineTells.j0, Bool.false_eq_true, if_false]
    rw [lives33 200000 (by omega)]
    by_cases h : 0 ≤ n ∧ n ≤ 1099511627776
    · obtain ⟨m, rfl⟩ := Int.eq_ofNat_of_zero_le h.1
      have hm : m ≤ 16384 := by omega
      have e1 := shift_eq 200000 (by omega) x m (by omega) (by omega)
      have e2 := back_eq 200000 (by omega) x m (by omega) (by omega)
      have e3 := join_eq 200000 (by omega) x y m (by omega) (by omega)
      have e4 := head_eq 200000 (by omega) x y m (by omega) (by omega)
      have e5 := blank_eq 200000 (by omega) m (by omega) (by omega)
      have f1 := refshift_eq 200000 x m (by omega) (by omega)
      have f2 := refback_eq 200000 x m (by omega) (by omega)
      have f4 := refback_eq 200000 (x ^^^ y) m (by omega) (by omega)
      have f5 := refshift_eq 200000 CrcM.ones m (by omega) (by omega)
      have e : (((CrcM.ones : BitVec 32).toNat : Nat) : Int) = 4294967295 := by decide
      rw [e] at f5
      unfold caulkref33_Join.f caulkref33_Head.f caulkref33_Blank.f
      rw [bits_xor32, e1, e2, e3, e4, e5, f1, f2, f4, f5]
      simp only [Option.bind_some, if_true]
      rw [bits_xor32, not32]
      simp
    · have h' : n < 0 ∨ 1099511627776 < n := by omega
      unfold caulkref33_Join.f caulkref33_Head.f caulkref33_Blank.f
      rw [shift_bad 200000 (by omega) _ n h', back_bad 200000 (by omega) _ n h', join_bad 200000 (by omega) _ _ n h', head_bad 200000 (by omega) _ _ n h', blank_bad 200000 (by omega) n h', refshift_bad _ _ n h, refback_bad _ _ n h, refback_bad _ _ n h, refshift_bad _ _ n h]
      simp
  by_cases h1 : n > 16384
  · rw [if_pos h1, decide_eq_false (by omega)]; exact hj
  · rw [if_neg h1]; exact hj
end Go.Proofs.YtegfembmnnmnbaaDoor.Pure
