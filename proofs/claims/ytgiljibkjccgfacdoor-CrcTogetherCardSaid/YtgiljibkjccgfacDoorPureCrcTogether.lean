/- CrcTogether: the pure statement: numbers and lists alone. Conditions: those of the statement itself. -/
import Derived.Test.YtgiljibkjccgfacDoorGx1
import Derived.OpenShut
import Derived.Test.YtgiljibkjccgfacDoorTogether
namespace Go.Proofs.YtgiljibkjccgfacDoor.Pure
open Go.RowKit Go.Proofs.YtgiljibkjccgfacDoor.G Go.Proofs.YtgiljibkjccgfacDoorW.PrintWords Go.Proofs.YtgiljibkjccgfacDoorW.PrintLast Go.Proofs.YtgiljibkjccgfacDoorW.PrintMore Go.OpenShut
set_option linter.unusedVariables false
set_option linter.unusedSimpArgs false
theorem and_one (a : BitVec 32) : Go.bits .and .u32 (a.toNat : Int) 1 = ((a.toNat % 2 : Nat) : Int) := by
  have := Go.bits_mask .u32 32 (by decide) (fun n h0 h1 => by rw [IntKind.wrap_u32]; omega) 1 (by decide) (a.toNat : Int) (by omega) (by have := a.isLt; omega)
  simpa using this
theorem poly_toNat : ((CrcM.poly : BitVec 32).toNat : Int) = 2197175160 := by decide
theorem not32 (x : BitVec 32) : Go.bits .xor .u32 4294967295 (x.toNat : Int) = ((~~~ x).toNat : Int) := by
  have h := bits_xor32 CrcM.ones x
  have e : (((CrcM.ones : BitVec 32).toNat : Nat) : Int) = 4294967295 := by decide
  rw [e] at h
  rw [h, show CrcM.ones = BitVec.allOnes 32 from by decide, BitVec.allOnes_xor]
theorem sum_eq (s : ByteArray) (hs : s.size ≤ 140737488355328) : crc_Sum.f s = some ((CrcM.sum s.data.toList).toNat : Int) := by
  unfold crc_Sum.f crc_Start.f crc_Add.f crc_End.f
  simp only [Option.bind_some]
  rw [if_pos ⟨by decide, by decide, hs⟩]
  simp only [Option.bind_some]
  unfold crcI
  rw [show BitVec.ofInt 32 4294967295 = CrcM.ones from by decide, not32]
  rfl
theorem ones_int : (((CrcM.ones : BitVec 32).toNat : Nat) : Int) = 4294967295 := by decide
theorem not32r (x : BitVec 32) : Go.bits .xor .u32 (x.toNat : Int) 4294967295 = ((~~~ x).toNat : Int) := by
  have h := bits_xor32 x CrcM.ones
  rw [ones_int] at h
  rw [h, show CrcM.ones = BitVec.allOnes 32 from by decide, BitVec.xor_allOnes]
def four (x : BitVec 32) : List UInt8 := Lib.bytesOf (bytes4 (x.toNat : Int))
theorem four_length (x : BitVec 32) : (four x).length = 4 := rfl
theorem four_eq (x : BitVec 32) : four x = [UInt8.ofNat (x.toNat % 256), UInt8.ofNat (x.toNat / 256 % 256), UInt8.ofNat (x.toNat / 65536 % 256), UInt8.ofNat (x.toNat / 16777216 % 256)] := by
  unfold four bytes4 Lib.bytesOf
  simp only [List.map_cons, List.map_nil]
  congr 1
theorem num_four (x : BitVec 32) : CrcM.num (four x) = x.toNat := by
  have hx := x.isLt
  rw [four_eq]
  simp only [CrcM.num, UInt8.toNat_ofNat']
  omega
theorem four_num (q : List UInt8) (h : q.length = 4) : four (BitVec.ofNat 32 (CrcM.num q)) = q := by
  match q, h with
  | [a, b, c, d], _ =>
    have ha := a.toNat_lt
    have hb := b.toNat_lt
    have hc := c.toNat_lt
    have hd := d.toNat_lt
    rw [four_eq]
    simp only [CrcM.num, BitVec.toNat_ofNat]
    have e1 : (a.toNat + 256 * (b.toNat + 256 * (c.toNat + 256 * (d.toNat + 256 * 0)))) % 2 ^ 32 % 256 = a.toNat := by omega
    have e2 : (a.toNat + 256 * (b.toNat + 256 * (c.toNat + 256 * (d.toNat + 256 * 0)))) % 2 ^ 32 / 256 % 256 = b.toNat := by omega
    have e3 : (a.toNat + 256 * (b.toNat + 256 * (c.toNat + 256 * (d.toNat + 256 * 0)))) % 2 ^ 32 / 65536 % 256 = c.toNat := by omega
    have e4 : (a.toNat + 256 * (b.toNat + 256 * (c.toNat + 256 * (d.toNat + 256 * 0)))) % 2 ^ 32 / 16777216 % 256 = d.toNat := by omega
    rw [e1, e2, e3, e4]
    simp
theorem add_four (r : BitVec 32) (q : List UInt8) (h : q.length = 4) : CrcM.add r q = CrcM.stn 32 (r ^^^ BitVec.ofNat 32 (CrcM.num q)) := by
  have hl := CrcM.num_lt q
  rw [h] at hl
  rw [CrcM.add_fd, h]
  exact CrcM.fd_stn 32 r _ (by decide) hl
theorem whole_eq : (~~~ CrcM.stn 32 CrcM.ones) = 0x48674bc7#32 := by decide +kernel
theorem ofNat_num (q : List UInt8) (h : q.length = 4) (x : BitVec 32) : BitVec.ofNat 32 (CrcM.num q) = x ↔ q = four x := by
  constructor
  · intro e; rw [← e, four_num q h]
  · intro e; rw [e, num_four]; simp
theorem xor_ones_iff (r v : BitVec 32) : r ^^^ v = CrcM.ones ↔ v = ~~~ r := by
  rw [← BitVec.allOnes_xor, show BitVec.allOnes 32 = CrcM.ones from by decide]
  constructor
  · intro h; rw [← h, BitVec.xor_comm r v, BitVec.xor_assoc, BitVec.xor_self, BitVec.xor_zero]
  · intro h; rw [h, BitVec.xor_comm, BitVec.xor_assoc, BitVec.xor_self, BitVec.xor_zero]
theorem good_iff (p q : List UInt8) (h : q.length = 4) : CrcM.sum (p ++ q) = 0x48674bc7#32 ↔ q = four (CrcM.sum p) := by
  unfold CrcM.sum
  rw [CrcM.add_append, add_four _ q h, ← whole_eq, ← ofNat_num q h]
  rw [← xor_ones_iff (CrcM.add CrcM.ones p)]
  exact ⟨fun e => CrcM.stn_inj 32 (BitVec.not_inj.mp e), fun e => by rw [e]⟩
theorem cbytes_eq (s : ByteArray) (hs : s.size ≤ 140737488355328) : crc_Bytes.f s = some (strOfNums (bytes4 ((CrcM.sum s.data.toList).toNat : Int))) := by
  unfold crc_Bytes.f crcSum crcI
  rw [if_pos hs, show BitVec.ofInt 32 4294967295 = CrcM.ones from by decide, not32]
  rfl
theorem four_list (x : BitVec 32) : (strOfNums (bytes4 (x.toNat : Int))).toList = four x := Lib.strOfNums_toList _
theorem four_data (x : BitVec 32) : (strOfNums (bytes4 (x.toNat : Int))).data.toList = four x := by rw [← Lib.toList_data, four_list]
theorem good_eq (s : ByteArray) (hs : s.size ≤ 140737488355328) : crc_Good.f s = some (decide (4 ≤ s.size ∧ CrcM.sum s.data.toList = 0x48674bc7#32)) := by
  unfold crc_Good.f
  by_cases h : 4 ≤ s.size
  · rw [if_pos (by omega), sum_eq s hs]
    simp only [Option.bind_some, h, true_and]
    congr 1
    rw [Bool.eq_iff_iff, beq_iff_eq, decide_eq_true_iff]
    constructor
    · intro e
      apply BitVec.eq_of_toNat_eq
      rw [show (0x48674bc7#32).toNat = 1214729159 from rfl]; omega
    · intro e; rw [e]; decide
  · rw [if_neg (by omega), decide_eq_false (by omega)]
theorem good_four (s : ByteArray) (hs : s.size ≤ 140737488355328) (p q : List UInt8) (hd : s.data.toList = p ++ q) (hq : q.length = 4) : crc_Good.f s = some (decide (q = four (CrcM.sum p))) := by
  have hl : 4 ≤ s.size := by
    have := congrArg List.length hd
    rw [data_length, List.length_append] at this; omega
  rw [good_eq s hs, hd]
  congr 1
  rw [Bool.eq_iff_iff, decide_eq_true_iff, decide_eq_true_iff, good_iff p q hq]
  exact ⟨fun h => h.2, fun h => ⟨hl, h⟩⟩
theorem lives01 : caulklaw01_lives.f = some true := by
  unfold caulklaw01_lives.f
  have s1 : CrcM.sum [49, 50, 51, 52, 53, 54, 55, 56, 57] = 3808858755#32 := by decide +kernel
  have g1 := good_four ⟨#[49, 50, 51, 52, 53, 54, 55, 56, 57, 131, 146, 6, 227]⟩ (by decide) [49, 50, 51, 52, 53, 54, 55, 56, 57] [131, 146, 6, 227] rfl rfl
  rw [s1, four_eq, decide_eq_true (by decide)] at g1
  have g2 := good_eq ⟨#[97, 98, 99]⟩ (by decide)
  rw [decide_eq_false (fun h => absurd h.1 (by decide))] at g2
  rw [sum_eq ⟨#[49, 50, 51, 52, 53, 54, 55, 56, 57]⟩ (by decide), cbytes_eq ⟨#[49, 50, 51, 52, 53, 54, 55, 56, 57]⟩ (by decide), g1, g2, sum_eq ⟨#[]⟩ (by decide)]
  simp only [Option.bind_some, s1, four_list]
  rw [if_pos (by decide), if_pos (by rw [four_eq]; decide)]
  unfold crc_Start.f crc_End.f
  have e0 := not32 0#32
  rw [show (((0#32 : BitVec 32).toNat : Nat) : Int) = 0 from by decide] at e0
  simp only [Option.bind_some]
  rw [e0, show ((~~~ (0#32)).toNat : Int) = 4294967295 from by decide, show CrcM.sum [] = 0#32 from by decide]
  rfl
theorem bits_xor32 (x y : BitVec 32) : Go.bits .xor .u32 (x.toNat : Int) (y.toNat : Int) = ((x ^^^ y).toNat : Int) := by
  have ea : BitVec.ofInt 32 (x.toNat : Int) = x := by simp
  have eb : BitVec.ofInt 32 (y.toNat : Int) = y := by simp
  show IntKind.u32.wrap (((BitVec.ofInt 32 (x.toNat : Int)) ^^^ (BitVec.ofInt 32 (y.toNat : Int))).toNat : Int) = _
  rw [ea, eb, IntKind.wrap_u32]
  have := (x ^^^ y).isLt
  omega
theorem tg_bits_xor8 (a b : Nat) (ha : a < 256) (hb : b < 256) : Go.bits .xor .u8 (a : Int) (b : Int) = ((a ^^^ b : Nat) : Int) := by
  have hx : a ^^^ b < 2 ^ 8 := Nat.xor_lt_two_pow ha hb
  have ea : BitVec.ofInt 8 (a : Int) = BitVec.ofNat 8 a := by simp
  have eb : BitVec.ofInt 8 (b : Int) = BitVec.ofNat 8 b := by simp
  show IntKind.u8.wrap (((BitVec.ofInt 8 (a : Int)) ^^^ (BitVec.ofInt 8 (b : Int))).toNat : Int) = _
  rw [ea, eb, IntKind.wrap_u8, BitVec.toNat_xor, BitVec.toNat_ofNat, BitVec.toNat_ofNat, Nat.mod_eq_of_lt ha, Nat.mod_eq_of_lt hb]
  omega
theorem tg_xor_split (a a' b b' : Nat) (ha : a < 2 ^ 8) (ha' : a' < 2 ^ 8) : (2 ^ 8 * b + a) ^^^ (2 ^ 8 * b' + a') = 2 ^ 8 * (b ^^^ b') + (a ^^^ a') := by
  apply Nat.eq_of_testBit_eq
  intro j
  rw [Nat.testBit_xor, Nat.testBit_two_pow_mul_add _ ha, Nat.testBit_two_pow_mul_add _ ha', Nat.testBit_two_pow_mul_add _ (Nat.xor_lt_two_pow ha ha')]
  split <;> rw [Nat.testBit_xor]
theorem num_xor : ∀ (A B : List UInt8), A.length = B.length → CrcM.num (List.zipWith (· ^^^ ·) A B) = CrcM.num A ^^^ CrcM.num B
  | [], [], _ => rfl
  | c :: A, d :: B, h => by
    have ih := num_xor A B (by simpa using h)
    simp only [List.zipWith_cons_cons, CrcM.num, ih, UInt8.toNat_xor]
    have := tg_xor_split c.toNat d.toNat (CrcM.num A) (CrcM.num B) c.toNat_lt d.toNat_lt
    rw [Nat.add_comm c.toNat, Nat.add_comm d.toNat, show 256 = 2 ^ 8 from rfl, this, Nat.add_comm]
  | [], _ :: _, h => by simp at h
  | _ :: _, [], h => by simp at h
theorem num_zeros : ∀ (n : Nat), CrcM.num (List.replicate n 0) = 0
  | 0 => rfl
  | n + 1 => by simp [List.replicate_succ, CrcM.num, num_zeros n]
theorem crcSum_eq (s : ByteArray) : crcSum s = ((CrcM.sum s.data.toList).toNat : Int) := by
  unfold crcSum crcI
  rw [show BitVec.ofInt 32 4294967295 = CrcM.ones from by decide, not32]
  rfl
theorem sums_zero (A B : List UInt8) (h : A.length = B.length) : CrcM.sum A ^^^ CrcM.sum B ^^^ CrcM.sum (List.zipWith (· ^^^ ·) A B) ^^^ CrcM.sum (List.replicate A.length 0) = 0#32 := by
  have e1 : CrcM.add CrcM.ones A ^^^ CrcM.add CrcM.ones B = CrcM.add CrcM.ones (List.zipWith (· ^^^ ·) A B) ^^^ CrcM.add CrcM.ones (List.replicate A.length 0) := by
    rw [CrcM.add_fd, CrcM.add_fd, CrcM.add_fd, CrcM.add_fd, ← h, List.length_zipWith, ← h, Nat.min_self, List.length_replicate, ← CrcM.fd_xor, ← CrcM.fd_xor, num_xor A B h, num_zeros, Nat.xor_zero]
  show ~~~ CrcM.add CrcM.ones A ^^^ ~~~ CrcM.add CrcM.ones B ^^^ ~~~ CrcM.add CrcM.ones (List.zipWith (· ^^^ ·) A B) ^^^ ~~~ CrcM.add CrcM.ones (List.replicate A.length 0) = 0#32
  have e2 : ∀ x y z t : BitVec 32, x ^^^ y = z ^^^ t → ~~~ x ^^^ ~~~ y ^^^ ~~~ z ^^^ ~~~ t = 0#32 := by
    intro x y z t h
    have h2 : ~~~ x ^^^ ~~~ y = x ^^^ y := by ext i; simp
    have h3 : ~~~ z ^^^ ~~~ t = z ^^^ t := by ext i; simp
    rw [BitVec.xor_assoc, h2, h3, h, BitVec.xor_self]
  exact e2 _ _ _ _ e1
theorem take_data (a : ByteArray) (n : Nat) : (a.extract 0 n).data.toList = a.data.toList.take n := by
  simp [ByteArray.data_extract]
theorem both_data (a b : ByteArray) : (strOfNums (bothL a b (tN a b))).data.toList = List.zipWith (· ^^^ ·) (a.data.toList.take (tN a b)) (b.data.toList.take (tN a b)) := by
  have hn : tN a b ≤ a.size ∧ tN a b ≤ b.size := by unfold tN; omega
  have la : a.data.toList.length = a.size := data_length a
  have lb : b.data.toList.length = b.size := data_length b
  rw [strOfNums_data]
  apply List.ext_getElem
  · rw [List.length_map, bothL_length, List.length_zipWith, List.length_take, List.length_take]; omega
  · intro i h1 h2
    rw [List.length_map, bothL_length] at h1
    have ha : i < a.size := by omega
    have hb : i < b.size := by omega
    simp only [List.getElem_map, bothL, List.getElem_range, if_pos h1, List.getElem_zipWith, List.getElem_take]
    rw [← byteAt_get a i ha, ← byteAt_get b i hb, tg_bits_xor8 _ _ (UInt8.toNat_lt _) (UInt8.toNat_lt _), Int.toNat_natCast]
    apply UInt8.toNat_inj.1
    rw [UInt8.toNat_xor, UInt8.toNat_ofNat', Nat.mod_eq_of_lt (Nat.xor_lt_two_pow (UInt8.toNat_lt _) (UInt8.toNat_lt _))]
    rfl
theorem CrcTogether : caulklaw01_CrcTogether.Pure := by
  intro a b ha hb
  unfold caulklaw01_CrcTogether.f
  rw [if_pos ⟨by omega, by omega, lives01⟩]
  congr 1
  unfold togV
  rw [crcSum_eq, crcSum_eq, crcSum_eq, crcSum_eq, bits_xor32, bits_xor32, bits_xor32, take_data, take_data, both_data, strOfNums_data, List.map_replicate]
  have hn : tN a b ≤ a.size ∧ tN a b ≤ b.size := by unfold tN; omega
  have la : a.data.toList.length = a.size := data_length a
  have lb : b.data.toList.length = b.size := data_length b
  have e := sums_zero (a.data.toList.take (tN a b)) (b.data.toList.take (tN a b)) (by rw [List.length_take, List.length_take]; omega)
  rw [List.length_take, la, Nat.min_eq_left hn.1] at e
  have e0 : (UInt8.ofNat (0 : Int).toNat) = 0 := rfl
  rw [e0, e]
  rfl
end Go.Proofs.YtgiljibkjccgfacDoor.Pure
