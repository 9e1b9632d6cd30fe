/- CombineJoins: the pure statement: numbers and lists alone. Conditions: those of the statement itself. -/
import Derived.Test.YtegfembmnnmnbabDoorGx2
import Derived.OpenShut
namespace Go.Proofs.YtegfembmnnmnbabDoor.Pure
open Go.RowKit Go.Proofs.YtegfembmnnmnbabDoor.G Go.Proofs.YtegfembmnnmnbabDoorW.PrintWords Go.Proofs.YtegfembmnnmnbabDoorW.PrintLast Go.Proofs.YtegfembmnnmnbabDoorW.PrintMore Go.OpenShut
set_option linter.unusedVariables false
set_option linter.unusedSimpArgs false
theorem bits_and32 (a b : BitVec 32) : Go.bits .and .u32 (a.toNat : Int) (b.toNat : Int) = ((a &&& b).toNat : Int) := by
  have h := (a &&& b).isLt
  have ea : BitVec.ofInt 32 (a.toNat : Int) = a := by simp
  have eb : BitVec.ofInt 32 (b.toNat : Int) = b := by simp
  show IntKind.u32.wrap (((BitVec.ofInt 32 (a.toNat : Int)) &&& (BitVec.ofInt 32 (b.toNat : Int))).toNat : Int) = _
  rw [ea, eb, IntKind.wrap_u32]
  omega
theorem bits_or32 (a b : BitVec 32) : Go.bits .or .u32 (a.toNat : Int) (b.toNat : Int) = ((a ||| b).toNat : Int) := by
  have h := (a ||| b).isLt
  have ea : BitVec.ofInt 32 (a.toNat : Int) = a := by simp
  have eb : BitVec.ofInt 32 (b.toNat : Int) = b := by simp
  show IntKind.u32.wrap (((BitVec.ofInt 32 (a.toNat : Int)) ||| (BitVec.ofInt 32 (b.toNat : Int))).toNat : Int) = _
  rw [ea, eb, IntKind.wrap_u32]
  omega
theorem and_top (a : BitVec 32) : (Go.bits .and .u32 (a.toNat : Int) 2147483648 = 0) ↔ a.msb = false := by
  have h := bits_and32 a 0x80000000#32
  have e : ((0x80000000#32 : BitVec 32).toNat : Int) = 2147483648 := by decide
  rw [e] at h
  rw [h]
  have h2 : (a &&& 0x80000000#32).toNat = if a.msb then 2147483648 else 0 := by
    have h3 : a &&& 0x80000000#32 = if a.msb then 0x80000000#32 else 0#32 := by
      apply BitVec.eq_of_getLsbD_eq
      intro i hi
      rw [BitVec.getLsbD_and]
      have hm : a.msb = a.getLsbD 31 := by rw [BitVec.msb_eq_getLsbD_last]
      have hc : ∀ j, j < 32 → (0x80000000#32 : BitVec 32).getLsbD j = decide (j = 31) := by decide
      rw [hc i hi]
      by_cases h31 : i = 31
      · subst h31; rw [hm]; cases a.getLsbD 31 <;> rfl
      · rw [hm]; cases a.getLsbD 31 <;> simp [h31, hc i hi]
    rw [h3]; cases a.msb <;> rfl
  rw [h2]
  cases a.msb <;> simp
theorem and_one (a : BitVec 32) : Go.bits .and .u32 (a.toNat : Int) 1 = ((a.toNat % 2 : Nat) : Int) := by
  have := Go.bits_mask .u32 32 (by decide) (fun n h0 h1 => by rw [IntKind.wrap_u32]; omega) 1 (by decide) (a.toNat : Int) (by omega) (by have := a.isLt; omega)
  simpa using this
theorem poly_toNat : ((CrcM.poly : BitVec 32).toNat : Int) = 2197175160 := by decide
theorem st_int (b : BitVec 32) : Go.bits .xor .u32 ((b.toNat : Int) / 2) (Go.bits .and .u32 2197175160 ((-(Go.bits .and .u32 (b.toNat : Int) 1)) % 4294967296)) = ((CrcM.st b).toNat : Int) := by
  rw [and_one]
  have hb := b.isLt
  have e2 : ((b >>> 1).toNat : Int) = (b.toNat : Int) / 2 := by
    rw [BitVec.toNat_ushiftRight, Nat.shiftRight_eq_div_pow]; omega
  unfold CrcM.st
  rw [CrcM.getLsb0]
  rcases Nat.mod_two_eq_zero_or_one b.toNat with h | h
  · rw [h]
    have e1 : Go.bits .and .u32 2197175160 ((-((0 : Nat) : Int)) % 4294967296) = 0 := by decide
    have h3 := bits_xor32 (b >>> 1) 0#32
    rw [e1, ← e2]
    have e0 : (((0#32 : BitVec 32).toNat : Nat) : Int) = 0 := by decide
    rw [e0] at h3
    rw [h3]; simp
  · rw [h]
    have e1 : Go.bits .and .u32 2197175160 ((-((1 : Nat) : Int)) % 4294967296) = 2197175160 := by decide +kernel
    have h3 := bits_xor32 (b >>> 1) CrcM.poly
    rw [poly_toNat] at h3
    rw [e1, ← e2, h3]; simp
theorem shl_int (a : BitVec 32) : (a.toNat : Int) * (2 : Int) % (4294967296 : Int) = ((a <<< 1).toNat : Int) := by
  rw [BitVec.toNat_shiftLeft, Nat.shiftLeft_eq]; omega

theorem mul_loop (j : Nat) : ∀ (k : Nat) (a b p : BitVec 32), j < k → a <<< j = 0#32 → combine_mul.l0 k a.toNat b.toNat p.toNat = some ((p ^^^ CrcM.mulk j a b).toNat : Int) := by
  induction j with
  | zero =>
    intro k a b p hk h
    obtain ⟨k, rfl⟩ : ∃ m, k = m + 1 := ⟨k - 1, by omega⟩
    have ha : a = 0#32 := by simpa using h
    subst ha
    simp [combine_mul.l0, CrcM.mulk]
  | succ j ih =>
    intro k a b p hk h
    obtain ⟨k, rfl⟩ : ∃ m, k = m + 1 := ⟨k - 1, by omega⟩
    by_cases h0 : a = 0#32
    · subst h0
      rw [CrcM.mulk_zero]
      simp [combine_mul.l0]
    · have hn : ¬ ((a.toNat : Int) = 0) := by
        intro e; apply h0; apply BitVec.eq_of_toNat_eq; simp; omega
      simp only [combine_mul.l0]
      rw [if_neg hn, shl_int, st_int, bits_xor32]
      have h' : (a <<< 1) <<< j = 0#32 := by rw [← BitVec.shiftLeft_add, Nat.add_comm]; exact h
      simp only [CrcM.mulk]
      cases hm : a.msb
      · rw [if_pos ((and_top a).2 hm), ih k _ _ _ (by omega) h']
        simp
      · rw [if_neg (fun e => by have := (and_top a).1 e; rw [hm] at this; cases this), ih k _ _ _ (by omega) h']
        simp [BitVec.xor_assoc]
theorem mul_eq (k : Nat) (hk : 32 < k) (a b : BitVec 32) : combine_mul.f k a.toNat b.toNat = some ((CrcM.mul a b).toNat : Int) := by
  have h := mul_loop 32 k a b 0#32 hk (by simp)
  unfold combine_mul.f
  have e0 : (((0#32 : BitVec 32).toNat : Nat) : Int) = 0 := by decide
  rw [e0] at h
  rw [h]; simp [CrcM.mul]
theorem and_one64 (n : Nat) (h : n < 2 ^ 62) : Go.bits .and .i64 (n : Int) 1 = ((n % 2 : Nat) : Int) := by
  have := Go.bits_mask .i64 63 (by decide) (fun n h0 h1 => by rw [IntKind.wrap_i64]; omega) 1 (by decide) (n : Int) (by omega) (by omega)
  simpa using this
theorem power_loop (j : Nat) : ∀ (k n : Nat) (x p : BitVec 32), j + 33 < k → n < 2 ^ j → j ≤ 62 → combine_power.l0 k x.toNat n p.toNat = some ((CrcM.mul p (CrcM.pw x n)).toNat : Int) := by
  induction j with
  | zero =>
    intro k n x p hk hn _
    obtain ⟨k, rfl⟩ : ∃ m, k = m + 1 := ⟨k - 1, by omega⟩
    have : n = 0 := by simpa using hn
    subst this
    simp [combine_power.l0, CrcM.pw, CrcM.mul_one_right]
  | succ j ih =>
    intro k n x p hk hn hj
    obtain ⟨k, rfl⟩ : ∃ m, k = m + 1 := ⟨k - 1, by omega⟩
    have h62 : n < 2 ^ 62 := Nat.lt_of_lt_of_le hn (Nat.pow_le_pow_right (by decide) hj)
    have hn2 : n / 2 < 2 ^ j := by rw [Nat.pow_succ] at hn; omega
    simp only [combine_power.l0]
    by_cases h0 : n = 0
    · subst h0; simp [CrcM.pw, CrcM.mul_one_right]
    · rw [if_pos (by omega), and_one64 n h62, mul_eq k (by omega), mul_eq k (by omega), CrcM.pw_round]
      simp only [Option.bind_some]
      rw [show ((n : Int) / 2) = ((n / 2 : Nat) : Int) from by omega]
      by_cases h1 : n % 2 = 1
      · rw [if_pos (by omega), if_pos h1, ih k _ _ _ (by omega) hn2 (by omega)]
      · rw [if_neg (by omega), if_neg h1, ih k _ _ _ (by omega) hn2 (by omega)]
theorem power_eq (k n : Nat) (hk : 80 < k) (hn : n < 2 ^ 41) (x : BitVec 32) : combine_power.f k x.toNat n = some ((CrcM.pw x n).toNat : Int) := by
  have h := power_loop 41 k n x CrcM.one (by omega) hn (by decide)
  have e : (((CrcM.one : BitVec 32).toNat : Nat) : Int) = 2147483648 := by decide
  rw [e] at h
  unfold combine_power.f
  rw [h, CrcM.mul_one_left]
theorem by_eq (k : Nat) (hk : 82 < k) (a x : BitVec 32) (n : Int) (h0 : 0 ≤ n) (h1 : n ≤ 1099511627776) : combine_by.f k a.toNat x.toNat n = some (((CrcM.mul a (CrcM.pw x n.toNat)).toNat : Int), 0) := by
  obtain ⟨k, rfl⟩ : ∃ m, k = m + 1 := ⟨k - 1, by omega⟩
  obtain ⟨m, rfl⟩ := Int.eq_ofNat_of_zero_le h0
  unfold combine_by.f
  rw [if_neg (by omega), decide_eq_false (by omega)]
  simp only [combine_by.j0, Bool.false_eq_true, if_false]
  rw [power_eq k m (by omega) (by omega)]
  simp only [Option.bind_some]
  rw [mul_eq k (by omega)]
  simp
theorem by_bad (k : Nat) (hk : 82 < k) (a x n : Int) (h : n < 0 ∨ 1099511627776 < n) : combine_by.f k a x n = some (0, 1) := by
  obtain ⟨k, rfl⟩ : ∃ m, k = m + 1 := ⟨k - 1, by omega⟩
  unfold combine_by.f
  by_cases h0 : n < 0
  · rw [if_pos h0]; simp [combine_by.j0]
  · rw [if_neg h0, decide_eq_true (by omega)]; simp [combine_by.j0]
theorem shift_eq (k : Nat) (hk : 82 < k) (a : BitVec 32) (n : Int) (h0 : 0 ≤ n) (h1 : n ≤ 1099511627776) : combine_Shift.f k a.toNat n = some (((CrcM.stn (8 * n.toNat) a).toNat : Int), 0) := by
  have h := by_eq k hk a CrcM.byte1 n h0 h1
  rw [CrcM.mul_pw_byte1] at h
  have e : (((CrcM.byte1 : BitVec 32).toNat : Nat) : Int) = 8388608 := by decide
  rw [e] at h
  unfold combine_Shift.f
  rw [h]; rfl
theorem shift_bad (k : Nat) (hk : 82 < k) (a n : Int) (h : n < 0 ∨ 1099511627776 < n) : combine_Shift.f k a n = some (0, 1) := by
  unfold combine_Shift.f
  rw [by_bad k hk _ _ _ h]; rfl
/-- what is shifted back -/
def bk (a : BitVec 32) (n : Nat) : BitVec 32 := CrcM.mul a (CrcM.pw (CrcM.pw CrcM.over 8) n)
theorem bk_stn (a : BitVec 32) (n : Nat) : CrcM.stn (8 * n) (bk a n) = a := CrcM.back_stn a n
theorem bk_unique {a b : BitVec 32} {n : Nat} (h : CrcM.stn (8 * n) b = a) : bk a n = b := CrcM.stn_inj (8 * n) ((bk_stn a n).trans h.symm)
theorem back_eq (k : Nat) (hk : 82 < k) (a : BitVec 32) (n : Int) (h0 : 0 ≤ n) (h1 : n ≤ 1099511627776) : combine_Back.f k a.toNat n = some (((bk a n.toNat).toNat : Int), 0) := by
  have hp := power_eq k 8 (by omega) (by decide) CrcM.over
  have e : (((CrcM.over : BitVec 32).toNat : Nat) : Int) = 99383025 := by decide
  rw [e] at hp
  unfold combine_Back.f
  rw [show ((8 : Int)) = ((8 : Nat) : Int) from rfl, hp]
  simp only [Option.bind_some]
  rw [by_eq k hk a _ n h0 h1]; rfl
theorem back_bad (k : Nat) (hk : 82 < k) (a n : Int) (h : n < 0 ∨ 1099511627776 < n) : combine_Back.f k a n = some (0, 1) := by
  have hp := power_eq k 8 (by omega) (by decide) CrcM.over
  have e : (((CrcM.over : BitVec 32).toNat : Nat) : Int) = 99383025 := by decide
  rw [e] at hp
  unfold combine_Back.f
  rw [show ((8 : Int)) = ((8 : Nat) : Int) from rfl, hp]
  simp only [Option.bind_some]
  rw [by_bad k hk _ _ _ h]; rfl
theorem not32 (x : BitVec 32) : Go.bits .xor .u32 4294967295 (x.toNat : Int) = ((~~~ x).toNat : Int) := by
  have h := bits_xor32 CrcM.ones x
  have e : (((CrcM.ones : BitVec 32).toNat : Nat) : Int) = 4294967295 := by decide
  rw [e] at h
  rw [h, show CrcM.ones = BitVec.allOnes 32 from by decide, BitVec.allOnes_xor]
theorem sum_eq (s : ByteArray) (hs : s.size ≤ 140737488355328) : crc_Sum.f s = some ((CrcM.sum s.data.toList).toNat : Int) := by
  unfold crc_Sum.f crc_Start.f crc_Add.f crc_End.f
  simp only [Option.bind_some]
  rw [if_pos ⟨by decide, by decide, hs⟩]
  simp only [Option.bind_some]
  unfold crcI
  rw [show BitVec.ofInt 32 4294967295 = CrcM.ones from by decide, not32]
  rfl
theorem join_eq (k : Nat) (hk : 82 < k) (a b : BitVec 32) (n : Int) (h0 : 0 ≤ n) (h1 : n ≤ 1099511627776) : combine_Join.f k a.toNat b.toNat n = some (((CrcM.stn (8 * n.toNat) a ^^^ b).toNat : Int), 0) := by
  unfold combine_Join.f
  rw [shift_eq k hk a n h0 h1]
  simp only [Option.bind_some, if_true]
  rw [bits_xor32]
theorem join_bad (k : Nat) (hk : 82 < k) (a b n : Int) (h : n < 0 ∨ 1099511627776 < n) : combine_Join.f k a b n = some (0, 1) := by
  unfold combine_Join.f
  rw [shift_bad k hk a n h]; rfl
theorem head_eq (k : Nat) (hk : 82 < k) (a b : BitVec 32) (n : Int) (h0 : 0 ≤ n) (h1 : n ≤ 1099511627776) : combine_Head.f k a.toNat b.toNat n = some (((bk (a ^^^ b) n.toNat).toNat : Int), 0) := by
  unfold combine_Head.f
  rw [bits_xor32, back_eq k hk _ n h0 h1]; rfl
theorem blank_eq (k : Nat) (hk : 82 < k) (n : Int) (h0 : 0 ≤ n) (h1 : n ≤ 1099511627776) : combine_Blank.f k n = some (((~~~ CrcM.stn (8 * n.toNat) CrcM.ones).toNat : Int), 0) := by
  have h := shift_eq k hk CrcM.ones n h0 h1
  have e : (((CrcM.ones : BitVec 32).toNat : Nat) : Int) = 4294967295 := by decide
  rw [e] at h
  unfold combine_Blank.f
  rw [h]
  simp only [Option.bind_some, if_true]
  rw [not32]
theorem lives33 (k : Nat) (hk : 82 < k) : caulklaw33_lives.f k = some true := by
  have a1 : CrcM.sum [49, 50, 51, 52] = 0xf63af4ee#32 ∨ True := .inr trivial
  unfold caulklaw33_lives.f
  rw [sum_eq ⟨#[49, 50, 51, 52]⟩ (by decide), sum_eq ⟨#[53, 54, 55, 56, 57]⟩ (by decide), sum_eq ⟨#[49, 50, 51, 52, 53, 54, 55, 56, 57]⟩ (by decide)]
  simp only [Option.bind_some]
  rw [join_eq k hk _ _ 5 (by decide) (by decide), head_eq k hk _ _ 5 (by decide) (by decide), blank_eq k hk 1 (by decide) (by decide), shift_bad k hk _ _ (by decide)]
  have s77 := shift_eq k hk 77#32 0 (by decide) (by decide)
  have e77 : (((77#32 : BitVec 32).toNat : Nat) : Int) = 77 := by decide
  rw [e77] at s77
  rw [s77]
  have q1 : ((CrcM.stn (8 * (5 : Int).toNat) (CrcM.sum [49, 50, 51, 52]) ^^^ CrcM.sum [53, 54, 55, 56, 57]).toNat : Int) = 3808858755 := by decide +kernel
  have q2 : bk (CrcM.sum [49, 50, 51, 52, 53, 54, 55, 56, 57] ^^^ CrcM.sum [53, 54, 55, 56, 57]) (5 : Int).toNat = CrcM.sum [49, 50, 51, 52] := bk_unique (by decide +kernel)
  have q3 : ((~~~ CrcM.stn (8 * (1 : Int).toNat) CrcM.ones).toNat : Int) = 1383945041 := by decide +kernel
  have q4 : ((CrcM.stn (8 * (0 : Int).toNat) 77#32).toNat : Int) = 77 := by decide +kernel
  simp only [Option.bind_some]
  rw [q1, q2, q3, q4]
  simp
theorem CombineJoins : caulklaw33_CombineJoins.Pure := by
  intro s t hs ht
  refine ⟨101, ?_⟩
  unfold caulklaw33_CombineJoins.f
  rw [lives33 101 (by omega)]
  simp only [Option.bind_some, if_true]
  have e0 : caulklaw33_CombineJoins.j0 101 s t true = some true := by simp [caulklaw33_CombineJoins.j0]
  by_cases h1 : (s.size : Int) > 16384
  · rw [if_pos h1]; exact e0
  by_cases h2 : (t.size : Int) > 16384
  · rw [if_neg h1, decide_eq_true h2]; exact e0
  rw [if_neg h1, decide_eq_false h2]
  simp only [caulklaw33_CombineJoins.j0, Bool.false_eq_true, if_false]
  have hst : (s ++ t).size = s.size + t.size := ByteArray.size_append
  have hd : (s ++ t).data.toList = s.data.toList ++ t.data.toList := by
    rw [ByteArray.data_append]; simp
  rw [sum_eq s (by omega), sum_eq t (by omega), sum_eq (s ++ t) (by omega), hd]
  simp only [Option.bind_some]
  rw [join_eq 100 (by omega) _ _ _ (by omega) (by omega)]
  simp only [Option.bind_some]
  rw [if_pos (by omega), head_eq 100 (by omega) _ _ _ (by omega) (by omega)]
  simp only [Option.bind_some, if_true]
  have e8 : 8 * ((t.size : Int)).toNat = 8 * t.data.toList.length := by simp
  have key : CrcM.stn (8 * ((t.size : Int)).toNat) (CrcM.sum s.data.toList) ^^^ CrcM.sum t.data.toList = CrcM.sum (s.data.toList ++ t.data.toList) := by
    rw [e8]; exact CrcM.join_sum _ _
  have hk : bk (CrcM.sum (s.data.toList ++ t.data.toList) ^^^ CrcM.sum t.data.toList) ((t.size : Int)).toNat = CrcM.sum s.data.toList := by
    refine bk_unique ?_
    rw [← key, BitVec.xor_assoc, BitVec.xor_self, BitVec.xor_zero]
  rw [key, hk]
  simp
end Go.Proofs.YtegfembmnnmnbabDoor.Pure
