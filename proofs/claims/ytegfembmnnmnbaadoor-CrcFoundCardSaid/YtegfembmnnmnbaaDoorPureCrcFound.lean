/- CrcFound: the pure statement: numbers and lists alone. Conditions: those of the statement itself. -/
import Derived.Test.YtegfembmnnmnbaaDoorGx2
import Derived.OpenShut
namespace Go.Proofs.YtegfembmnnmnbaaDoor.Pure
open Go.RowKit Go.Proofs.YtegfembmnnmnbaaDoor.G Go.Proofs.YtegfembmnnmnbaaDoorW.PrintWords Go.Proofs.YtegfembmnnmnbaaDoorW.PrintLast Go.Proofs.YtegfembmnnmnbaaDoorW.PrintMore Go.OpenShut
set_option linter.unusedVariables false
set_option linter.unusedSimpArgs false
theorem and_one (a : BitVec 32) : Go.bits .and .u32 (a.toNat : Int) 1 = ((a.toNat % 2 : Nat) : Int) := by
  have := Go.bits_mask .u32 32 (by decide) (fun n h0 h1 => by rw [IntKind.wrap_u32]; omega) 1 (by decide) (a.toNat : Int) (by omega) (by have := a.isLt; omega)
  simpa using this
theorem poly_toNat : ((CrcM.poly : BitVec 32).toNat : Int) = 2197175160 := by decide
theorem not32 (x : BitVec 32) : Go.bits .xor .u32 4294967295 (x.toNat : Int) = ((~~~ x).toNat : Int) := by
  have h := bits_xor32 CrcM.ones x
  have e : (((CrcM.ones : BitVec 32).toNat : Nat) : Int) = 4294967295 := by decide
  rw [e] at h
  rw [h, show CrcM.ones = BitVec.allOnes 32 from by decide, BitVec.allOnes_xor]
theorem sum_eq (s : ByteArray) (hs : s.size ≤ 140737488355328) : crc_Sum.f s = some ((CrcM.sum s.data.toList).toNat : Int) := by
  unfold crc_Sum.f crc_Start.f crc_Add.f crc_End.f
  simp only [Option.bind_some]
  rw [if_pos ⟨by decide, by decide, hs⟩]
  simp only [Option.bind_some]
  unfold crcI
  rw [show BitVec.ofInt 32 4294967295 = CrcM.ones from by decide, not32]
  rfl
theorem ones_int : (((CrcM.ones : BitVec 32).toNat : Nat) : Int) = 4294967295 := by decide
theorem not32r (x : BitVec 32) : Go.bits .xor .u32 (x.toNat : Int) 4294967295 = ((~~~ x).toNat : Int) := by
  have h := bits_xor32 x CrcM.ones
  rw [ones_int] at h
  rw [h, show CrcM.ones = BitVec.allOnes 32 from by decide, BitVec.xor_allOnes]
def four (x : BitVec 32) : List UInt8 := Lib.bytesOf (bytes4 (x.toNat : Int))
theorem four_length (x : BitVec 32) : (four x).length = 4 := rfl
theorem four_eq (x : BitVec 32) : four x = [UInt8.ofNat (x.toNat % 256), UInt8.ofNat (x.toNat / 256 % 256), UInt8.ofNat (x.toNat / 65536 % 256), UInt8.ofNat (x.toNat / 16777216 % 256)] := by
  unfold four bytes4 Lib.bytesOf
  simp only [List.map_cons, List.map_nil]
  congr 1
theorem num_four (x : BitVec 32) : CrcM.num (four x) = x.toNat := by
  have hx := x.isLt
  rw [four_eq]
  simp only [CrcM.num, UInt8.toNat_ofNat']
  omega
theorem four_num (q : List UInt8) (h : q.length = 4) : four (BitVec.ofNat 32 (CrcM.num q)) = q := by
  match q, h with
  | [a, b, c, d], _ =>
    have ha := a.toNat_lt
    have hb := b.toNat_lt
    have hc := c.toNat_lt
    have hd := d.toNat_lt
    rw [four_eq]
    simp only [CrcM.num, BitVec.toNat_ofNat]
    have e1 : (a.toNat + 256 * (b.toNat + 256 * (c.toNat + 256 * (d.toNat + 256 * 0)))) % 2 ^ 32 % 256 = a.toNat := by omega
    have e2 : (a.toNat + 256 * (b.toNat + 256 * (c.toNat + 256 * (d.toNat + 256 * 0)))) % 2 ^ 32 / 256 % 256 = b.toNat := by omega
    have e3 : (a.toNat + 256 * (b.toNat + 256 * (c.toNat + 256 * (d.toNat + 256 * 0)))) % 2 ^ 32 / 65536 % 256 = c.toNat := by omega
    have e4 : (a.toNat + 256 * (b.toNat + 256 * (c.toNat + 256 * (d.toNat + 256 * 0)))) % 2 ^ 32 / 16777216 % 256 = d.toNat := by omega
    rw [e1, e2, e3, e4]
    simp
theorem add_four (r : BitVec 32) (q : List UInt8) (h : q.length = 4) : CrcM.add r q = CrcM.stn 32 (r ^^^ BitVec.ofNat 32 (CrcM.num q)) := by
  have hl := CrcM.num_lt q
  rw [h] at hl
  rw [CrcM.add_fd, h]
  exact CrcM.fd_stn 32 r _ (by decide) hl
theorem whole_eq : (~~~ CrcM.stn 32 CrcM.ones) = 0x48674bc7#32 := by decide +kernel
theorem ofNat_num (q : List UInt8) (h : q.length = 4) (x : BitVec 32) : BitVec.ofNat 32 (CrcM.num q) = x ↔ q = four x := by
  constructor
  · intro e; rw [← e, four_num q h]
  · intro e; rw [e, num_four]; simp
theorem xor_ones_iff (r v : BitVec 32) : r ^^^ v = CrcM.ones ↔ v = ~~~ r := by
  rw [← BitVec.allOnes_xor, show BitVec.allOnes 32 = CrcM.ones from by decide]
  constructor
  · intro h; rw [← h, BitVec.xor_comm r v, BitVec.xor_assoc, BitVec.xor_self, BitVec.xor_zero]
  · intro h; rw [h, BitVec.xor_comm, BitVec.xor_assoc, BitVec.xor_self, BitVec.xor_zero]
theorem good_iff (p q : List UInt8) (h : q.length = 4) : CrcM.sum (p ++ q) = 0x48674bc7#32 ↔ q = four (CrcM.sum p) := by
  unfold CrcM.sum
  rw [CrcM.add_append, add_four _ q h, ← whole_eq, ← ofNat_num q h]
  rw [← xor_ones_iff (CrcM.add CrcM.ones p)]
  exact ⟨fun e => CrcM.stn_inj 32 (BitVec.not_inj.mp e), fun e => by rw [e]⟩
theorem cbytes_eq (s : ByteArray) (hs : s.size ≤ 140737488355328) : crc_Bytes.f s = some (strOfNums (bytes4 ((CrcM.sum s.data.toList).toNat : Int))) := by
  unfold crc_Bytes.f crcSum crcI
  rw [if_pos hs, show BitVec.ofInt 32 4294967295 = CrcM.ones from by decide, not32]
  rfl
theorem four_list (x : BitVec 32) : (strOfNums (bytes4 (x.toNat : Int))).toList = four x := Lib.strOfNums_toList _
theorem four_data (x : BitVec 32) : (strOfNums (bytes4 (x.toNat : Int))).data.toList = four x := by rw [← Lib.toList_data, four_list]
theorem good_eq (s : ByteArray) (hs : s.size ≤ 140737488355328) : crc_Good.f s = some (decide (4 ≤ s.size ∧ CrcM.sum s.data.toList = 0x48674bc7#32)) := by
  unfold crc_Good.f
  by_cases h : 4 ≤ s.size
  · rw [if_pos (by omega), sum_eq s hs]
    simp only [Option.bind_some, h, true_and]
    congr 1
    rw [Bool.eq_iff_iff, beq_iff_eq, decide_eq_true_iff]
    constructor
    · intro e
      apply BitVec.eq_of_toNat_eq
      rw [show (0x48674bc7#32).toNat = 1214729159 from rfl]; omega
    · intro e; rw [e]; decide
  · rw [if_neg (by omega), decide_eq_false (by omega)]
theorem good_four (s : ByteArray) (hs : s.size ≤ 140737488355328) (p q : List UInt8) (hd : s.data.toList = p ++ q) (hq : q.length = 4) : crc_Good.f s = some (decide (q = four (CrcM.sum p))) := by
  have hl : 4 ≤ s.size := by
    have := congrArg List.length hd
    rw [data_length, List.length_append] at this; omega
  rw [good_eq s hs, hd]
  congr 1
  rw [Bool.eq_iff_iff, decide_eq_true_iff, decide_eq_true_iff, good_iff p q hq]
  exact ⟨fun h => h.2, fun h => ⟨hl, h⟩⟩
theorem lives01 : caulklaw01_lives.f = some true := by
  unfold caulklaw01_lives.f
  have s1 : CrcM.sum [49, 50, 51, 52, 53, 54, 55, 56, 57] = 3808858755#32 := by decide +kernel
  have g1 := good_four ⟨#[49, 50, 51, 52, 53, 54, 55, 56, 57, 131, 146, 6, 227]⟩ (by decide) [49, 50, 51, 52, 53, 54, 55, 56, 57] [131, 146, 6, 227] rfl rfl
  rw [s1, four_eq, decide_eq_true (by decide)] at g1
  have g2 := good_eq ⟨#[97, 98, 99]⟩ (by decide)
  rw [decide_eq_false (fun h => absurd h.1 (by decide))] at g2
  rw [sum_eq ⟨#[49, 50, 51, 52, 53, 54, 55, 56, 57]⟩ (by decide), cbytes_eq ⟨#[49, 50, 51, 52, 53, 54, 55, 56, 57]⟩ (by decide), g1, g2, sum_eq ⟨#[]⟩ (by decide)]
  simp only [Option.bind_some, s1, four_list]
  rw [if_pos (by decide), if_pos (by rw [four_eq]; decide)]
  unfold crc_Start.f crc_End.f
  have e0 := not32 0#32
  rw [show (((0#32 : BitVec 32).toNat : Nat) : Int) = 0 from by decide] at e0
  simp only [Option.bind_some]
  rw [e0, show ((~~~ (0#32)).toNat : Int) = 4294967295 from by decide, show CrcM.sum [] = 0#32 from by decide]
  rfl
theorem xor_split (a a' b b' : Nat) (ha : a < 2 ^ 8) (ha' : a' < 2 ^ 8) : (2 ^ 8 * b + a) ^^^ (2 ^ 8 * b' + a') = 2 ^ 8 * (b ^^^ b') + (a ^^^ a') := by
  apply Nat.eq_of_testBit_eq
  intro j
  rw [Nat.testBit_xor, Nat.testBit_two_pow_mul_add _ ha, Nat.testBit_two_pow_mul_add _ ha', Nat.testBit_two_pow_mul_add _ (Nat.xor_lt_two_pow ha ha')]
  split <;> rw [Nat.testBit_xor]
theorem num_turn : ∀ (M : List UInt8) (p : Nat) (x : UInt8), M[p / 8]? = some x → CrcM.num (M.set (p / 8) (x ^^^ UInt8.ofNat (2 ^ (p % 8)))) = CrcM.num M ^^^ 2 ^ p
  | [], p, x, h => by simp at h
  | c :: l, p, x, h => by
    have hc := c.toNat_lt
    by_cases hp : p < 8
    · rw [show p / 8 = 0 from by omega] at h ⊢
      simp only [List.getElem?_cons_zero, Option.some.injEq] at h
      subst h
      rw [show p % 8 = p from by omega]
      have hp2 : 2 ^ p < 2 ^ 8 := Nat.pow_lt_pow_right (by decide) hp
      simp only [List.set_cons_zero, CrcM.num, UInt8.toNat_xor, UInt8.toNat_ofNat']
      rw [Nat.mod_eq_of_lt hp2]
      have := xor_split c.toNat (2 ^ p) (CrcM.num l) 0 hc hp2
      rw [Nat.xor_zero, Nat.mul_zero, Nat.zero_add] at this
      rw [Nat.add_comm c.toNat, show 256 = 2 ^ 8 from rfl, this, Nat.add_comm]
    · obtain ⟨q, rfl⟩ : ∃ q, p = q + 8 := ⟨p - 8, by omega⟩
      rw [show (q + 8) / 8 = q / 8 + 1 from by omega] at h ⊢
      rw [show (q + 8) % 8 = q % 8 from by omega]
      simp only [List.getElem?_cons_succ] at h
      have ih := num_turn l q x h
      simp only [List.set_cons_succ, CrcM.num]
      rw [ih]
      have := xor_split c.toNat 0 (CrcM.num l) (2 ^ q) hc (by decide)
      rw [Nat.xor_zero, Nat.add_zero] at this
      rw [Nat.add_comm c.toNat, show 256 = 2 ^ 8 from rfl, Nat.add_comm c.toNat, Nat.pow_add, Nat.mul_comm (2 ^ q), this]
theorem bits_xor8 (a b : Nat) (ha : a < 256) (hb : b < 256) : Go.bits .xor .u8 (a : Int) (b : Int) = ((a ^^^ b : Nat) : Int) := by
  have hx : a ^^^ b < 2 ^ 8 := Nat.xor_lt_two_pow ha hb
  have ea : BitVec.ofInt 8 (a : Int) = BitVec.ofNat 8 a := by simp
  have eb : BitVec.ofInt 8 (b : Int) = BitVec.ofNat 8 b := by simp
  show IntKind.u8.wrap (((BitVec.ofInt 8 (a : Int)) ^^^ (BitVec.ofInt 8 (b : Int))).toNat : Int) = _
  rw [ea, eb, IntKind.wrap_u8, BitVec.toNat_xor, BitVec.toNat_ofNat, BitVec.toNat_ofNat, Nat.mod_eq_of_lt ha, Nat.mod_eq_of_lt hb]
  omega
def numsL (M : List UInt8) : List Int := M.map fun b => (b.toNat : Int)
theorem turn_nums (M : List UInt8) (p : Nat) (x : UInt8) (h : M[p / 8]? = some x) : turn (numsL M) p = numsL (M.set (p / 8) (x ^^^ UInt8.ofNat (2 ^ (p % 8)))) := by
  unfold turn numsL
  rw [List.map_set]
  congr 1
  have hx := x.toNat_lt
  have hr : p % 8 < 8 := Nat.mod_lt _ (by decide)
  have hp2 : 2 ^ (p % 8) < 2 ^ 8 := Nat.pow_lt_pow_right (by decide) hr
  have e : (List.map (fun b : UInt8 => (b.toNat : Int)) M).getD (p / 8) 0 = (x.toNat : Int) := by
    rw [List.getD_eq_getElem?_getD, List.getElem?_map, h]; rfl
  rw [e, bits_xor8 _ _ hx hp2, UInt8.toNat_xor, UInt8.toNat_ofNat', Nat.mod_eq_of_lt hp2]
theorem mul_xor (n a b : Nat) : 2 ^ n * a ^^^ 2 ^ n * b = 2 ^ n * (a ^^^ b) := by
  have := Nat.shiftLeft_xor_distrib (a := a) (b := b) (i := n)
  rw [Nat.shiftLeft_eq, Nat.shiftLeft_eq, Nat.shiftLeft_eq, Nat.mul_comm _ (2 ^ n), Nat.mul_comm a, Nat.mul_comm b] at this
  exact this.symm
theorem turns_inv (c n : Nat) (L : List UInt8) (i : Nat) : ∃ (M : List UInt8) (B : Nat), turns c n (numsL L) i = numsL M ∧ M.length = L.length ∧ B < 2 ^ i ∧ CrcM.num M = CrcM.num L ^^^ 2 ^ n * B := by
  induction i with
  | zero => exact ⟨L, 0, rfl, rfl, by decide, by simp⟩
  | succ i ih =>
    obtain ⟨M, B, h1, h2, h3, h4⟩ := ih
    have hB : B < 2 ^ (i + 1) := Nat.lt_of_lt_of_le h3 (Nat.pow_le_pow_right (by decide) (by omega))
    by_cases hc : c / 2 ^ i % 2 = 1 ∧ n + i < 8 * (numsL L).length
    · have hlt : (n + i) / 8 < M.length := by
        have := hc.2
        simp only [numsL, List.length_map] at this
        omega
      have hx := List.getElem?_eq_getElem hlt
      refine ⟨M.set ((n + i) / 8) (M[(n + i) / 8] ^^^ UInt8.ofNat (2 ^ ((n + i) % 8))), B ^^^ 2 ^ i, ?_, ?_, ?_, ?_⟩
      · rw [turn_yes hc.1 hc.2, h1, turn_nums M _ _ hx]
      · rw [List.length_set, h2]
      · exact Nat.xor_lt_two_pow hB (Nat.pow_lt_pow_right (by decide) (by omega))
      · rw [num_turn M _ _ hx, h4, ← mul_xor, Nat.xor_assoc, Nat.pow_add]
    · exact ⟨M, B, by rw [turn_no hc, h1], h2, hB, h4⟩
theorem num_inj : ∀ (a b : List UInt8), a.length = b.length → CrcM.num a = CrcM.num b → a = b
  | [], [], _, _ => rfl
  | [], _ :: _, h, _ => by simp at h
  | _ :: _, [], h, _ => by simp at h
  | x :: a, y :: b, h, e => by
    have hx := x.toNat_lt
    have hy := y.toNat_lt
    simp only [CrcM.num] at e
    have e1 : x.toNat = y.toNat := by omega
    rw [num_inj a b (by simpa using h) (by omega), UInt8.toNat_inj.mp e1]
theorem found_iff (c n : Nat) (L M : List UInt8) (B : Nat) (hl : M.length = L.length) (hB : B < 2 ^ 32) (hn : CrcM.num M = CrcM.num L ^^^ 2 ^ n * B) : CrcM.sum M = CrcM.sum L ↔ M = L := by
  constructor
  · intro h
    have h1 : CrcM.add CrcM.ones M = CrcM.add CrcM.ones L := BitVec.not_inj.mp h
    rw [CrcM.add_fd, CrcM.add_fd, hl] at h1
    have h2 := CrcM.fd_xor (8 * L.length) CrcM.ones CrcM.ones (CrcM.num M) (CrcM.num L)
    rw [h1, BitVec.xor_self, BitVec.xor_self] at h2
    have hM := CrcM.num_lt M
    have hL := CrcM.num_lt L
    rw [hl] at hM
    have e : CrcM.num M ^^^ CrcM.num L = 2 ^ n * B := by rw [hn, Nat.xor_comm (CrcM.num L), Nat.xor_assoc, Nat.xor_self, Nat.xor_zero]
    have hlt := Nat.xor_lt_two_pow hM hL
    rw [e] at hlt h2
    have h0 := CrcM.burst_found _ n B hB hlt h2
    rw [h0, Nat.mul_zero, Nat.xor_zero] at hn
    exact num_inj _ _ hl hn
  · intro h; rw [h]
theorem bytesOf_numsL (M : List UInt8) : Lib.bytesOf (numsL M) = M := by
  unfold Lib.bytesOf numsL
  rw [List.map_map]
  conv => rhs; rw [← List.map_id M]
  congr 1
  funext b
  simp
theorem CrcFound : caulklaw01_CrcFound.Pure := by
  intro s bit b hs hbit hb
  have bb := bounds_u32 hb
  refine ⟨1, ?_⟩
  unfold caulklaw01_CrcFound.f
  rw [lives01]
  simp only [Option.bind_some, if_true, caulklaw01_CrcFound.j0]
  by_cases h1 : (s.size : Int) > 16384
  · rw [if_pos h1]
  rw [if_neg h1]
  by_cases h2 : bit < 0
  · rw [if_pos h2]
  rw [if_neg h2]
  have hw : wrap64 (8 * (s.size : Int)) = 8 * (s.size : Int) := by unfold wrap64; omega
  rw [hw]
  by_cases h3 : bit ≥ 8 * (s.size : Int)
  · rw [if_pos (decide_eq_true h3)]
  rw [if_neg (by simpa using h3)]
  unfold caulklaw01_burst.f
  rw [if_pos ⟨by omega, by omega, by omega, by omega, by omega⟩]
  obtain ⟨M, B, m1, m2, m3, m4⟩ := turns_inv b.toNat bit.toNat s.data.toList 32
  rw [show bytesOf s = numsL s.data.toList from rfl, m1]
  simp only [Option.bind_some]
  have hd : (strOfNums (numsL M)).data.toList = M := by rw [← Lib.toList_data, Lib.strOfNums_toList, bytesOf_numsL]
  have hsz : (strOfNums (numsL M)).size = s.size := by rw [← data_length, hd, m2, data_length]
  rw [sum_eq _ (by omega), sum_eq s (by omega)]
  simp only [Option.bind_some]
  rw [hd, Lib.toList_data, Lib.toList_data, hd]
  have hf := found_iff b.toNat bit.toNat s.data.toList M B m2 m3 m4
  congr 1
  by_cases e : M = s.data.toList
  · rw [e]; simp
  · have e2 : ¬ CrcM.sum M = CrcM.sum s.data.toList := fun h => e (hf.mp h)
    have e3 : ¬ ((CrcM.sum M).toNat : Int) = ((CrcM.sum s.data.toList).toNat : Int) := fun h => e2 (BitVec.eq_of_toNat_eq (by omega))
    rw [show (M == s.data.toList) = false from by simpa using e, show (((CrcM.sum M).toNat : Int) == ((CrcM.sum s.data.toList).toNat : Int)) = false from by simpa using e3]
    rfl
end Go.Proofs.YtegfembmnnmnbaaDoor.Pure
