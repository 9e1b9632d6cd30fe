/- CrcPieces: the pure statement: numbers and lists alone. Conditions: those of the statement itself. -/
import Derived.Test.YtegfembmnnmnbaaDoorGx2
import Derived.OpenShut
namespace Go.Proofs.YtegfembmnnmnbaaDoor.Pure
open Go.RowKit Go.Proofs.YtegfembmnnmnbaaDoor.G Go.Proofs.YtegfembmnnmnbaaDoorW.PrintWords Go.Proofs.YtegfembmnnmnbaaDoorW.PrintLast Go.Proofs.YtegfembmnnmnbaaDoorW.PrintMore Go.OpenShut
set_option linter.unusedVariables false
set_option linter.unusedSimpArgs false
theorem and_one (a : BitVec 32) : Go.bits .and .u32 (a.toNat : Int) 1 = ((a.toNat % 2 : Nat) : Int) := by
  have := Go.bits_mask .u32 32 (by decide) (fun n h0 h1 => by rw [IntKind.wrap_u32]; omega) 1 (by decide) (a.toNat : Int) (by omega) (by have := a.isLt; omega)
  simpa using this
theorem poly_toNat : ((CrcM.poly : BitVec 32).toNat : Int) = 2197175160 := by decide
theorem not32 (x : BitVec 32) : Go.bits .xor .u32 4294967295 (x.toNat : Int) = ((~~~ x).toNat : Int) := by
  have h := bits_xor32 CrcM.ones x
  have e : (((CrcM.ones : BitVec 32).toNat : Nat) : Int) = 4294967295 := by decide
  rw [e] at h
  rw [h, show CrcM.ones = BitVec.allOnes 32 from by decide, BitVec.allOnes_xor]
theorem sum_eq (s : ByteArray) (hs : s.size ≤ 140737488355328) : crc_Sum.f s = some ((CrcM.sum s.data.toList).toNat : Int) := by
  unfold crc_Sum.f crc_Start.f crc_Add.f crc_End.f
  simp only [Option.bind_some]
  rw [if_pos ⟨by decide, by decide, hs⟩]
  simp only [Option.bind_some]
  unfold crcI
  rw [show BitVec.ofInt 32 4294967295 = CrcM.ones from by decide, not32]
  rfl
theorem ones_int : (((CrcM.ones : BitVec 32).toNat : Nat) : Int) = 4294967295 := by decide
theorem not32r (x : BitVec 32) : Go.bits .xor .u32 (x.toNat : Int) 4294967295 = ((~~~ x).toNat : Int) := by
  have h := bits_xor32 x CrcM.ones
  rw [ones_int] at h
  rw [h, show CrcM.ones = BitVec.allOnes 32 from by decide, BitVec.xor_allOnes]
def four (x : BitVec 32) : List UInt8 := Lib.bytesOf (bytes4 (x.toNat : Int))
theorem four_length (x : BitVec 32) : (four x).length = 4 := rfl
theorem four_eq (x : BitVec 32) : four x = [UInt8.ofNat (x.toNat % 256), UInt8.ofNat (x.toNat / 256 % 256), UInt8.ofNat (x.toNat / 65536 % 256), UInt8.ofNat (x.toNat / 16777216 % 256)] := by
  unfold four bytes4 Lib.bytesOf
  simp only [List.map_cons, List.map_nil]
  congr 1
theorem num_four (x : BitVec 32) : CrcM.num (four x) = x.toNat := by
  have hx := x.isLt
  rw [four_eq]
  simp only [CrcM.num, UInt8.toNat_ofNat']
  omega
theorem four_num (q : List UInt8) (h : q.length = 4) : four (BitVec.ofNat 32 (CrcM.num q)) = q := by
  match q, h with
  | [a, b, c, d], _ =>
    have ha := a.toNat_lt
    have hb := b.toNat_lt
    have hc := c.toNat_lt
    have hd := d.toNat_lt
    rw [four_eq]
    simp only [CrcM.num, BitVec.toNat_ofNat]
    have e1 : (a.toNat + 256 * (b.toNat + 256 * (c.toNat + 256 * (d.toNat + 256 * 0)))) % 2 ^ 32 % 256 = a.toNat := by omega
    have e2 : (a.toNat + 256 * (b.toNat + 256 * (c.toNat + 256 * (d.toNat + 256 * 0)))) % 2 ^ 32 / 256 % 256 = b.toNat := by omega
    have e3 : (a.toNat + 256 * (b.toNat + 256 * (c.toNat + 256 * (d.toNat + 256 * 0)))) % 2 ^ 32 / 65536 % 256 = c.toNat := by omega
    have e4 : (a.toNat + 256 * (b.toNat + 256 * (c.toNat + 256 * (d.toNat + 256 * 0)))) % 2 ^ 32 / 16777216 % 256 = d.toNat := by omega
    rw [e1, e2, e3, e4]
    simp
theorem add_four (r : BitVec 32) (q : List UInt8) (h : q.length = 4) : CrcM.add r q = CrcM.stn 32 (r ^^^ BitVec.ofNat 32 (CrcM.num q)) := by
  have hl := CrcM.num_lt q
  rw [h] at hl
  rw [CrcM.add_fd, h]
  exact CrcM.fd_stn 32 r _ (by decide) hl
theorem whole_eq : (~~~ CrcM.stn 32 CrcM.ones) = 0x48674bc7#32 := by decide +kernel
theorem ofNat_num (q : List UInt8) (h : q.length = 4) (x : BitVec 32) : BitVec.ofNat 32 (CrcM.num q) = x ↔ q = four x := by
  constructor
  · intro e; rw [← e, four_num q h]
  · intro e; rw [e, num_four]; simp
theorem xor_ones_iff (r v : BitVec 32) : r ^^^ v = CrcM.ones ↔ v = ~~~ r := by
  rw [← BitVec.allOnes_xor, show BitVec.allOnes 32 = CrcM.ones from by decide]
  constructor
  · intro h; rw [← h, BitVec.xor_comm r v, BitVec.xor_assoc, BitVec.xor_self, BitVec.xor_zero]
  · intro h; rw [h, BitVec.xor_comm, BitVec.xor_assoc, BitVec.xor_self, BitVec.xor_zero]
theorem good_iff (p q : List UInt8) (h : q.length = 4) : CrcM.sum (p ++ q) = 0x48674bc7#32 ↔ q = four (CrcM.sum p) := by
  unfold CrcM.sum
  rw [CrcM.add_append, add_four _ q h, ← whole_eq, ← ofNat_num q h]
  rw [← xor_ones_iff (CrcM.add CrcM.ones p)]
  exact ⟨fun e => CrcM.stn_inj 32 (BitVec.not_inj.mp e), fun e => by rw [e]⟩
theorem cbytes_eq (s : ByteArray) (hs : s.size ≤ 140737488355328) : crc_Bytes.f s = some (strOfNums (bytes4 ((CrcM.sum s.data.toList).toNat : Int))) := by
  unfold crc_Bytes.f crcSum crcI
  rw [if_pos hs, show BitVec.ofInt 32 4294967295 = CrcM.ones from by decide, not32]
  rfl
theorem four_list (x : BitVec 32) : (strOfNums (bytes4 (x.toNat : Int))).toList = four x := Lib.strOfNums_toList _
theorem four_data (x : BitVec 32) : (strOfNums (bytes4 (x.toNat : Int))).data.toList = four x := by rw [← Lib.toList_data, four_list]
theorem good_eq (s : ByteArray) (hs : s.size ≤ 140737488355328) : crc_Good.f s = some (decide (4 ≤ s.size ∧ CrcM.sum s.data.toList = 0x48674bc7#32)) := by
  unfold crc_Good.f
  by_cases h : 4 ≤ s.size
  · rw [if_pos (by omega), sum_eq s hs]
    simp only [Option.bind_some, h, true_and]
    congr 1
    rw [Bool.eq_iff_iff, beq_iff_eq, decide_eq_true_iff]
    constructor
    · intro e
      apply BitVec.eq_of_toNat_eq
      rw [show (0x48674bc7#32).toNat = 1214729159 from rfl]; omega
    · intro e; rw [e]; decide
  · rw [if_neg (by omega), decide_eq_false (by omega)]
theorem good_four (s : ByteArray) (hs : s.size ≤ 140737488355328) (p q : List UInt8) (hd : s.data.toList = p ++ q) (hq : q.length = 4) : crc_Good.f s = some (decide (q = four (CrcM.sum p))) := by
  have hl : 4 ≤ s.size := by
    have := congrArg List.length hd
    rw [data_length, List.length_append] at this; omega
  rw [good_eq s hs, hd]
  congr 1
  rw [Bool.eq_iff_iff, decide_eq_true_iff, decide_eq_true_iff, good_iff p q hq]
  exact ⟨fun h => h.2, fun h => ⟨hl, h⟩⟩
theorem lives01 : caulklaw01_lives.f = some true := by
  unfold caulklaw01_lives.f
  have s1 : CrcM.sum [49, 50, 51, 52, 53, 54, 55, 56, 57] = 3808858755#32 := by decide +kernel
  have g1 := good_four ⟨#[49, 50, 51, 52, 53, 54, 55, 56, 57, 131, 146, 6, 227]⟩ (by decide) [49, 50, 51, 52, 53, 54, 55, 56, 57] [131, 146, 6, 227] rfl rfl
  rw [s1, four_eq, decide_eq_true (by decide)] at g1
  have g2 := good_eq ⟨#[97, 98, 99]⟩ (by decide)
  rw [decide_eq_false (fun h => absurd h.1 (by decide))] at g2
  rw [sum_eq ⟨#[49, 50, 51, 52, 53, 54, 55, 56, 57]⟩ (by decide), cbytes_eq ⟨#[49, 50, 51, 52, 53, 54, 55, 56, 57]⟩ (by decide), g1, g2, sum_eq ⟨#[]⟩ (by decide)]
  simp only [Option.bind_some, s1, four_list]
  rw [if_pos (by decide), if_pos (by rw [four_eq]; decide)]
  unfold crc_Start.f crc_End.f
  have e0 := not32 0#32
  rw [show (((0#32 : BitVec 32).toNat : Nat) : Int) = 0 from by decide] at e0
  simp only [Option.bind_some]
  rw [e0, show ((~~~ (0#32)).toNat : Int) = 4294967295 from by decide, show CrcM.sum [] = 0#32 from by decide]
  rfl
theorem pieces_j1 (k : Nat) (s : ByteArray) (hs : s.size ≤ 1000000) : caulklaw01_CrcPieces.j1 (k + 1) s ((CrcM.add CrcM.ones s.data.toList).toNat : Int) = some true := by
  simp only [caulklaw01_CrcPieces.j1]
  unfold crc_End.f
  rw [not32, sum_eq s (by omega), cbytes_eq s (by omega)]
  simp only [Option.bind_some]
  have h4 : (strOfNums (bytes4 ((CrcM.sum s.data.toList).toNat : Int))).size = 4 := by
    rw [← data_length, four_data]; rfl
  rw [show (~~~ CrcM.add CrcM.ones s.data.toList) = CrcM.sum s.data.toList from rfl, if_pos rfl, if_pos (by omega)]
  have hd : (s ++ strOfNums (bytes4 ((CrcM.sum s.data.toList).toNat : Int))).data.toList = s.data.toList ++ four (CrcM.sum s.data.toList) := by
    rw [ByteArray.data_append, Array.toList_append, four_data]
  rw [good_four _ (by rw [ByteArray.size_append]; omega) _ _ hd (four_length _), decide_eq_true rfl]
  rfl
theorem add_int (x : BitVec 32) (t : ByteArray) (h : t.size ≤ 140737488355328) : crc_Add.f (x.toNat : Int) t = some ((CrcM.add x t.data.toList).toNat : Int) := by
  have b := x.isLt
  unfold crc_Add.f crcI
  rw [if_pos ⟨by omega, by omega, by omega⟩]
  have e : BitVec.ofInt 32 (x.toNat : Int) = x := by simp
  rw [e]
theorem pieces_l0 (l : List ByteArray) (hl : l.length < 4611686018427387904) (d : Nat) : ∀ (k i : Nat) (s : ByteArray) (x : BitVec 32), i + d = l.length → d + 1 < k → s.size ≤ 262144 → x = CrcM.add CrcM.ones s.data.toList →
    caulklaw01_CrcPieces.l0 k s (x.toNat : Int) l (l.length : Int) (i : Int) = some true := by
  induction d with
  | zero =>
    intro k i s x hi hk hs hx
    obtain ⟨k, rfl⟩ : ∃ m, k = m + 1 := ⟨k - 1, by omega⟩
    have hj : caulklaw01_CrcPieces.j1 k s (x.toNat : Int) = some true := by
      obtain ⟨m, rfl⟩ : ∃ m, k = m + 1 := ⟨k - 1, by omega⟩
      rw [hx]
      exact pieces_j1 m s (by omega)
    simp only [caulklaw01_CrcPieces.l0]
    rw [if_neg (by omega)]
    exact hj
  | succ d ih =>
    intro k i s x hi hk hs hx
    obtain ⟨k, rfl⟩ : ∃ m, k = m + 1 := ⟨k - 1, by omega⟩
    have hj : caulklaw01_CrcPieces.j1 k s (x.toNat : Int) = some true := by
      obtain ⟨m, rfl⟩ : ∃ m, k = m + 1 := ⟨k - 1, by omega⟩
      rw [hx]
      exact pieces_j1 m s (by omega)
    have hw : wrap64 ((i : Int) + 1) = ((i + 1 : Nat) : Int) := by unfold wrap64; omega
    have a1 : i + 1 + d = l.length := by omega
    have a2 : d + 1 < k := by omega
    simp only [caulklaw01_CrcPieces.l0]
    rw [if_pos (by omega), if_pos (by omega), if_pos (by omega)]
    generalize rdOf ByteArray.empty l (i : Int) = t
    by_cases c1 : (i : Int) = 60
    · rw [if_pos c1]; exact hj
    · rw [if_neg c1]
      by_cases c2 : (s.size : Int) > 131072
      · rw [if_pos c2]; exact hj
      · rw [if_neg c2]
        by_cases c3 : (t.size : Int) > 131072
        · rw [if_pos c3]; exact hj
        · have a3 : (s ++ t).size ≤ 262144 := by rw [ByteArray.size_append]; omega
          have hd : (s ++ t).data.toList = s.data.toList ++ t.data.toList := by rw [ByteArray.data_append, Array.toList_append]
          have a4 : CrcM.add x t.data.toList = CrcM.add CrcM.ones (s ++ t).data.toList := by rw [hd, CrcM.add_append, hx]
          have a5 : t.size ≤ 140737488355328 := by omega
          have a6 : s.size + t.size ≤ 9223372036854775807 := by omega
          rw [if_neg c3, if_pos a6, add_int x t a5]
          simp only [Option.bind_some]
          rw [hw]
          exact ih k (i + 1) (s ++ t) _ a1 a2 a3 a4
theorem CrcPieces : caulklaw01_CrcPieces.Pure := by
  intro l hl
  refine ⟨l.length + 2, ?_⟩
  unfold caulklaw01_CrcPieces.f
  rw [lives01]
  unfold crc_Start.f
  simp only [Option.bind_some, if_true]
  have h := pieces_l0 l (by omega) l.length (l.length + 2) 0 ⟨#[]⟩ CrcM.ones (by omega) (by omega) (by decide) rfl
  rw [ones_int] at h
  exact h
end Go.Proofs.YtegfembmnnmnbaaDoor.Pure
