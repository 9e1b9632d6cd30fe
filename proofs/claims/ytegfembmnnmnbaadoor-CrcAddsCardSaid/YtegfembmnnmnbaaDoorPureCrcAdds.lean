/- CrcAdds: the pure statement: numbers and lists alone. Conditions: those of the statement itself. -/
import Derived.Test.YtegfembmnnmnbaaDoorGx2
import Derived.OpenShut
namespace Go.Proofs.YtegfembmnnmnbaaDoor.Pure
open Go.RowKit Go.Proofs.YtegfembmnnmnbaaDoor.G Go.Proofs.YtegfembmnnmnbaaDoorW.PrintWords Go.Proofs.YtegfembmnnmnbaaDoorW.PrintLast Go.Proofs.YtegfembmnnmnbaaDoorW.PrintMore Go.OpenShut
set_option linter.unusedVariables false
set_option linter.unusedSimpArgs false
theorem and_one (a : BitVec 32) : Go.bits .and .u32 (a.toNat : Int) 1 = ((a.toNat % 2 : Nat) : Int) := by
  have := Go.bits_mask .u32 32 (by decide) (fun n h0 h1 => by rw [IntKind.wrap_u32]; omega) 1 (by decide) (a.toNat : Int) (by omega) (by have := a.isLt; omega)
  simpa using this
theorem poly_toNat : ((CrcM.poly : BitVec 32).toNat : Int) = 2197175160 := by decide
theorem not32 (x : BitVec 32) : Go.bits .xor .u32 4294967295 (x.toNat : Int) = ((~~~ x).toNat : Int) := by
  have h := bits_xor32 CrcM.ones x
  have e : (((CrcM.ones : BitVec 32).toNat : Nat) : Int) = 4294967295 := by decide
  rw [e] at h
  rw [h, show CrcM.ones = BitVec.allOnes 32 from by decide, BitVec.allOnes_xor]
theorem sum_eq (s : ByteArray) (hs : s.size ≤ 140737488355328) : crc_Sum.f s = some ((CrcM.sum s.data.toList).toNat : Int) := by
  unfold crc_Sum.f crc_Start.f crc_Add.f crc_End.f
  simp only [Option.bind_some]
  rw [if_pos ⟨by decide, by decide, hs⟩]
  simp only [Option.bind_some]
  unfold crcI
  rw [show BitVec.ofInt 32 4294967295 = CrcM.ones from by decide, not32]
  rfl
theorem ones_int : (((CrcM.ones : BitVec 32).toNat : Nat) : Int) = 4294967295 := by decide
theorem not32r (x : BitVec 32) : Go.bits .xor .u32 (x.toNat : Int) 4294967295 = ((~~~ x).toNat : Int) := by
  have h := bits_xor32 x CrcM.ones
  rw [ones_int] at h
  rw [h, show CrcM.ones = BitVec.allOnes 32 from by decide, BitVec.xor_allOnes]
def four (x : BitVec 32) : List UInt8 := Lib.bytesOf (bytes4 (x.toNat : Int))
theorem four_length (x : BitVec 32) : (four x).length = 4 := rfl
theorem four_eq (x : BitVec 32) : four x = [UInt8.ofNat (x.toNat % 256), UInt8.ofNat (x.toNat / 256 % 256), UInt8.ofNat (x.toNat / 65536 % 256), UInt8.ofNat (x.toNat / 16777216 % 256)] := by
  unfold four bytes4 Lib.bytesOf
  simp only [List.map_cons, List.map_nil]
  congr 1
theorem num_four (x : BitVec 32) : CrcM.num (four x) = x.toNat := by
  have hx := x.isLt
  rw [four_eq]
  simp only [CrcM.num, UInt8.toNat_ofNat']
  omega
theorem four_num (q : List UInt8) (h : q.length = 4) : four (BitVec.ofNat 32 (CrcM.num q)) = q := by
  match q, h with
  | [a, b, c, d], _ =>
    have ha := a.toNat_lt
    have hb := b.toNat_lt
    have hc := c.toNat_lt
    have hd := d.toNat_lt
    rw [four_eq]
    simp only [CrcM.num, BitVec.toNat_ofNat]
    have e1 : (a.toNat + 256 * (b.toNat + 256 * (c.toNat + 256 * (d.toNat + 256 * 0)))) % 2 ^ 32 % 256 = a.toNat := by omega
    have e2 : (a.toNat + 256 * (b.toNat + 256 * (c.toNat + 256 * (d.toNat + 256 * 0)))) % 2 ^ 32 / 256 % 256 = b.toNat := by omega
    have e3 : (a.toNat + 256 * (b.toNat + 256 * (c.toNat + 256 * (d.toNat + 256 * 0)))) % 2 ^ 32 / 65536 % 256 = c.toNat := by omega
    have e4 : (a.toNat + 256 * (b.toNat + 256 * (c.toNat + 256 * (d.toNat + 256 * 0)))) % 2 ^ 32 / 16777216 % 256 = d.toNat := by omega
    rw [e1, e2, e3, e4]
    simp
theorem add_four (r : BitVec 32) (q : List UInt8) (h : q.length = 4) : CrcM.add r q = CrcM.stn 32 (r ^^^ BitVec.ofNat 32 (CrcM.num q)) := by
  have hl := CrcM.num_lt q
  rw [h] at hl
  rw [CrcM.add_fd, h]
  exact CrcM.fd_stn 32 r _ (by decide) hl
theorem whole_eq : (~~~ CrcM.stn 32 CrcM.ones) = 0x48674bc7#32 := by decide +kernel
theorem ofNat_num (q : List UInt8) (h : q.length = 4) (x : BitVec 32) : BitVec.ofNat 32 (CrcM.num q) = x ↔ q = four x := by
  constructor
  · intro e; rw [← e, four_num q h]
  · intro e; rw [e, num_four]; simp
theorem xor_ones_iff (r v : BitVec 32) : r ^^^ v = CrcM.ones ↔ v = ~~~ r := by
  rw [← BitVec.allOnes_xor, show BitVec.allOnes 32 = CrcM.ones from by decide]
  constructor
  · intro h; rw [← h, BitVec.xor_comm r v, BitVec.xor_assoc, BitVec.xor_self, BitVec.xor_zero]
  · intro h; rw [h, BitVec.xor_comm, BitVec.xor_assoc, BitVec.xor_self, BitVec.xor_zero]
theorem good_iff (p q : List UInt8) (h : q.length = 4) : CrcM.sum (p ++ q) = 0x48674bc7#32 ↔ q = four (CrcM.sum p) := by
  unfold CrcM.sum
  rw [CrcM.add_append, add_four _ q h, ← whole_eq, ← ofNat_num q h]
  rw [← xor_ones_iff (CrcM.add CrcM.ones p)]
  exact ⟨fun e => CrcM.stn_inj 32 (BitVec.not_inj.mp e), fun e => by rw [e]⟩
theorem cbytes_eq (s : ByteArray) (hs : s.size ≤ 140737488355328) : crc_Bytes.f s = some (strOfNums (bytes4 ((CrcM.sum s.data.toList).toNat : Int))) := by
  unfold crc_Bytes.f crcSum crcI
  rw [if_pos hs, show BitVec.ofInt 32 4294967295 = CrcM.ones from by decide, not32]
  rfl
theorem four_list (x : BitVec 32) : (strOfNums (bytes4 (x.toNat : Int))).toList = four x := Lib.strOfNums_toList _
theorem four_data (x : BitVec 32) : (strOfNums (bytes4 (x.toNat : Int))).data.toList = four x := by rw [← Lib.toList_data, four_list]
theorem good_eq (s : ByteArray) (hs : s.size ≤ 140737488355328) : crc_Good.f s = some (decide (4 ≤ s.size ∧ CrcM.sum s.data.toList = 0x48674bc7#32)) := by
  unfold crc_Good.f
  by_cases h : 4 ≤ s.size
  · rw [if_pos (by omega), sum_eq s hs]
    simp only [Option.bind_some, h, true_and]
    congr 1
    rw [Bool.eq_iff_iff, beq_iff_eq, decide_eq_true_iff]
    constructor
    · intro e
      apply BitVec.eq_of_toNat_eq
      rw [show (0x48674bc7#32).toNat = 1214729159 from rfl]; omega
    · intro e; rw [e]; decide
  · rw [if_neg (by omega), decide_eq_false (by omega)]
theorem good_four (s : ByteArray) (hs : s.size ≤ 140737488355328) (p q : List UInt8) (hd : s.data.toList = p ++ q) (hq : q.length = 4) : crc_Good.f s = some (decide (q = four (CrcM.sum p))) := by
  have hl : 4 ≤ s.size := by
    have := congrArg List.length hd
    rw [data_length, List.length_append] at this; omega
  rw [good_eq s hs, hd]
  congr 1
  rw [Bool.eq_iff_iff, decide_eq_true_iff, decide_eq_true_iff, good_iff p q hq]
  exact ⟨fun h => h.2, fun h => ⟨hl, h⟩⟩
theorem lives01 : caulklaw01_lives.f = some true := by
  unfold caulklaw01_lives.f
  have s1 : CrcM.sum [49, 50, 51, 52, 53, 54, 55, 56, 57] = 3808858755#32 := by decide +kernel
  have g1 := good_four ⟨#[49, 50, 51, 52, 53, 54, 55, 56, 57, 131, 146, 6, 227]⟩ (by decide) [49, 50, 51, 52, 53, 54, 55, 56, 57] [131, 146, 6, 227] rfl rfl
  rw [s1, four_eq, decide_eq_true (by decide)] at g1
  have g2 := good_eq ⟨#[97, 98, 99]⟩ (by decide)
  rw [decide_eq_false (fun h => absurd h.1 (by decide))] at g2
  rw [sum_eq ⟨#[49, 50, 51, 52, 53, 54, 55, 56, 57]⟩ (by decide), cbytes_eq ⟨#[49, 50, 51, 52, 53, 54, 55, 56, 57]⟩ (by decide), g1, g2, sum_eq ⟨#[]⟩ (by decide)]
  simp only [Option.bind_some, s1, four_list]
  rw [if_pos (by decide), if_pos (by rw [four_eq]; decide)]
  unfold crc_Start.f crc_End.f
  have e0 := not32 0#32
  rw [show (((0#32 : BitVec 32).toNat : Nat) : Int) = 0 from by decide] at e0
  simp only [Option.bind_some]
  rw [e0, show ((~~~ (0#32)).toNat : Int) = 4294967295 from by decide, show CrcM.sum [] = 0#32 from by decide]
  rfl
theorem shr_int (x : BitVec 32) : ((x >>> 1).toNat : Int) = (x.toNat : Int) / 2 := by
  rw [BitVec.toNat_ushiftRight, Nat.shiftRight_eq_div_pow]; omega
theorem bit_step (x : BitVec 32) (v : Nat) (hv : v < 2) : CrcM.st (x ^^^ BitVec.ofNat 32 v) = if x.toNat % 2 = v then x >>> 1 else (x >>> 1) ^^^ CrcM.poly := by
  unfold CrcM.st
  rw [BitVec.ushiftRight_xor_distrib, BitVec.getLsbD_xor, CrcM.getLsb0]
  rcases (by omega : v = 0 ∨ v = 1) with rfl | rfl
  · rw [show (BitVec.ofNat 32 0) >>> 1 = 0#32 from by decide, show (BitVec.ofNat 32 0).getLsbD 0 = false from by decide]
    rcases Nat.mod_two_eq_zero_or_one x.toNat with h | h <;> simp [h]
  · rw [show (BitVec.ofNat 32 1) >>> 1 = 0#32 from by decide, show (BitVec.ofNat 32 1).getLsbD 0 = true from by decide]
    rcases Nat.mod_two_eq_zero_or_one x.toNat with h | h <;> simp [h]
theorem bt_nat (s : ByteArray) (i : Nat) (h : i < s.size) : bt s i = (s[i].toNat : Int) := by
  unfold bt
  rw [dif_pos (by simpa using h)]
  simp
theorem ref_l1 (s : ByteArray) (i : Nat) (hi : i < s.size) (j : Nat) : ∀ (k b : Nat) (x : BitVec 32), b + j = 8 → j < k →
    caulkref01_Add.l1 k x.toNat s i b = caulkref01_Add.l0 (k - j - 1) ((CrcM.fd j x (s[i].toNat / 2 ^ b)).toNat : Int) s (wrap64 ((i : Int) + 1)) := by
  induction j with
  | zero =>
    intro k b x hb hk
    obtain ⟨k, rfl⟩ : ∃ m, k = m + 1 := ⟨k - 1, by omega⟩
    simp only [caulkref01_Add.l1]
    rw [if_neg (by omega)]
    simp [CrcM.fd]
  | succ j ih =>
    intro k b x hb hk
    obtain ⟨k, rfl⟩ : ∃ m, k = m + 1 := ⟨k - 1, by omega⟩
    have a1 : b + 1 + j = 8 := by omega
    have a2 : j < k := by omega
    have a3 : k + 1 - (j + 1) - 1 = k - j - 1 := by omega
    have hc := s[i].toNat_lt
    simp only [caulkref01_Add.l1]
    rw [if_pos (by omega), if_pos (by omega), if_pos (by omega), if_pos (by omega), bt_nat s i hi, and_one]
    have hv : shr .u32 ((s[i].toNat : Int) % 4294967296) (b : Int) = ((s[i].toNat / 2 ^ b : Nat) : Int) := by
      unfold shr
      rw [Int.emod_eq_of_lt (by omega) (by omega), Nat.min_eq_left (by simp [IntKind.bits]; omega)]
      simp
    rw [hv]
    have hlt : s[i].toNat / 2 ^ b < 2 ^ 32 := Nat.lt_of_le_of_lt (Nat.div_le_self _ _) (by omega)
    have ha := and_one (BitVec.ofNat 32 (s[i].toNat / 2 ^ b))
    rw [BitVec.toNat_ofNat, Nat.mod_eq_of_lt hlt] at ha
    rw [ha]
    have hd : s[i].toNat / 2 ^ b / 2 = s[i].toNat / 2 ^ (b + 1) := by rw [Nat.div_div_eq_div_mul, Nat.pow_succ]
    generalize s[i].toNat / 2 ^ b = v at *
    have hx : Int.tdiv (x.toNat : Int) (2 : Int) % (4294967296 : Int) = ((x >>> 1).toNat : Int) := by
      rw [Int.tdiv_eq_ediv_of_nonneg (by omega), shr_int]
      have := x.isLt; omega
    have hw : wrap64 ((b : Int) + 1) = ((b + 1 : Nat) : Int) := by unfold wrap64; omega
    rw [hx, hw]
    have hf : CrcM.fd (j + 1) x v = CrcM.fd j (if x.toNat % 2 = v % 2 then x >>> 1 else (x >>> 1) ^^^ CrcM.poly) (v / 2) := by
      simp only [CrcM.fd]
      rw [bit_step x (v % 2) (Nat.mod_lt _ (by decide))]
    rw [hf, hd]
    by_cases e : x.toNat % 2 = v % 2
    · rw [if_pos (by omega), if_pos e, ih k (b + 1) _ a1 a2]
      rw [a3]
    · have hp := bits_xor32 (x >>> 1) CrcM.poly
      rw [poly_toNat] at hp
      rw [if_neg (by omega), if_neg e, hp, ih k (b + 1) _ a1 a2]
      rw [a3]
theorem ref_l0 (s : ByteArray) (hs : s.size ≤ 140737488355328) (d : Nat) : ∀ (k i : Nat) (x : BitVec 32), i + d = s.size → 10 * d < k →
    caulkref01_Add.l0 k x.toNat s i = some ((CrcM.add x (s.data.toList.drop i)).toNat : Int) := by
  induction d with
  | zero =>
    intro k i x hi hk
    obtain ⟨k, rfl⟩ : ∃ m, k = m + 1 := ⟨k - 1, by omega⟩
    simp only [caulkref01_Add.l0]
    rw [if_neg (by omega), List.drop_eq_nil_of_le (by simp; omega)]
    simp [CrcM.add]
  | succ d ih =>
    intro k i x hi hk
    obtain ⟨k, rfl⟩ : ∃ m, k = m + 1 := ⟨k - 1, by omega⟩
    have hlt : i < s.size := by omega
    simp only [caulkref01_Add.l0]
    rw [if_pos (by omega)]
    have h1 := ref_l1 s i hlt 8 k 0 x (by omega) (by omega)
    rw [show ((0 : Nat) : Int) = 0 from rfl] at h1
    rw [h1]
    have hw : wrap64 ((i : Int) + 1) = ((i + 1 : Nat) : Int) := by unfold wrap64; omega
    rw [hw, ih _ (i + 1) _ (by omega) (by omega)]
    have hdr : s.data.toList.drop i = s[i] :: s.data.toList.drop (i + 1) := by
      rw [List.drop_eq_getElem_cons (by simpa using hlt)]; rfl
    rw [hdr, Nat.pow_zero, Nat.div_one, ← CrcM.byt_fd]
    rfl
theorem refadd_eq (k : Nat) (x : BitVec 32) (s : ByteArray) (hs : s.size ≤ 140737488355328) (hk : 10 * s.size < k) : caulkref01_Add.f k x.toNat s = some ((CrcM.add x s.data.toList).toNat : Int) := by
  unfold caulkref01_Add.f
  have h := ref_l0 s hs s.size k 0 x (by omega) hk
  rw [show ((0 : Nat) : Int) = 0 from rfl] at h
  rw [h]; simp
theorem CrcAdds : caulklaw01_CrcAdds.Pure := by
  intro a s ha hs
  have ba := bounds_u32 ha
  obtain ⟨x, rfl⟩ : ∃ x : BitVec 32, a = (x.toNat : Int) := ⟨BitVec.ofInt 32 a, by rw [BitVec.toNat_ofInt]; omega⟩
  refine ⟨10 * s.size + 1, ?_⟩
  unfold caulklaw01_CrcAdds.f
  rw [lives01]
  simp only [Option.bind_some, if_true]
  by_cases h : (s.size : Int) > 131072
  · rw [if_pos h]
  · rw [if_neg h, refadd_eq _ x s (by omega) (by omega)]
    unfold crc_Add.f crcI crc_End.f
    rw [if_pos ⟨by omega, by omega, by omega⟩]
    have e : BitVec.ofInt 32 (x.toNat : Int) = x := by simp
    rw [e]
    simp
end Go.Proofs.YtegfembmnnmnbaaDoor.Pure
