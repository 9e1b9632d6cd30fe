/- The contract of crc.Add over this seat's program: a rest that takes a text's bytes in is CrcM.add's; the table is read where the program's text lays it. Condition: the table's cells. -/
import Derived.Test.YtoglapodcejocaaDoorGx0
import Derived.Test.YtoglapodcejocaaDoorGTBoth
import Derived.Lib.Hide
namespace Go.Proofs.YtoglapodcejocaaDoor.G
open Go.RowKit Go.Proofs.YtoglapodcejocaaDoorW.PrintWords Go.Proofs.YtoglapodcejocaaDoorW.PrintLast Go.Proofs.YtoglapodcejocaaDoorW.PrintMore
set_option linter.unusedVariables false
set_option linter.unusedSimpArgs false


theorem bits_xor32 (a b : BitVec 32) : Go.bits .xor .u32 (a.toNat : Int) (b.toNat : Int) = ((a ^^^ b).toNat : Int) := by
  have h := (a ^^^ b).isLt
  have ea : BitVec.ofInt 32 (a.toNat : Int) = a := by simp
  have eb : BitVec.ofInt 32 (b.toNat : Int) = b := by simp
  show IntKind.u32.wrap (((BitVec.ofInt 32 (a.toNat : Int)) ^^^ (BitVec.ofInt 32 (b.toNat : Int))).toNat : Int) = _
  rw [ea, eb, IntKind.wrap_u32]
  omega
theorem bits_and15 (a : BitVec 32) : Go.bits .and .u32 (a.toNat : Int) 15 = ((a.toNat % 16 : Nat) : Int) := by
  have := Go.bits_mask .u32 32 (by decide) (fun n h0 h1 => by rw [IntKind.wrap_u32]; omega) 4 (by decide) (a.toNat : Int) (by omega) (by have := a.isLt; omega)
  simpa using this
theorem table_lt (i : Nat) : CrcM.table.getD i 0 < 4294967296 := by
  by_cases h : i < 16
  · revert i; decide
  · rw [List.getD_eq_getElem?_getD, List.getElem?_eq_none (by simp [CrcM.table]; omega)]; decide

def crcI (a : Int) (s : ByteArray) : Int := ((CrcM.add (BitVec.ofInt 32 a) s.data.toList).toNat : Int)
def crc_Add.f (a0 : Int) (a1 : ByteArray) : Option Int := if 0 ≤ a0 ∧ a0 ≤ 4294967295 ∧ a1.size ≤ 140737488355328 then some (crcI a0 a1) else none

theorem half_walk (x : BitVec 32) : Go.bits .xor .u32 ((x.toNat : Int) / 16) (tabI (x.toNat % 16)) = ((CrcM.stn 4 x).toNat : Int) := by
  unfold tabI
  have h1 := CrcM.half_step x
  have h2 := bits_xor32 (BitVec.ofNat 32 (x.toNat / 16)) (BitVec.ofNat 32 (CrcM.table.getD (x.toNat % 16) 0))
  rw [h1, BitVec.toNat_ofNat, BitVec.toNat_ofNat, Nat.mod_eq_of_lt (show x.toNat / 16 < 2 ^ 32 from by have := x.isLt; omega), Nat.mod_eq_of_lt (table_lt _)] at h2
  simpa using h2

theorem take_snoc (s : ByteArray) (k : Nat) (h : k < s.size) : s.data.toList.take (k + 1) = s.data.toList.take k ++ [s[k]] := by
  rw [List.take_succ_eq_append_getElem (by simpa using h)]; rfl
theorem add_snoc (r : BitVec 32) (l : List UInt8) (c : UInt8) : CrcM.add r (l ++ [c]) = CrcM.stn 4 (CrcM.stn 4 (CrcM.add r l ^^^ BitVec.ofNat 32 c.toNat)) := by
  rw [CrcM.add_append, ← CrcM.stn_add]; rfl

set_option maxHeartbeats 1000000 in
theorem crc_Add.calls (a0 : Int) (a1 : ByteArray) (r : Int) (w : World) (hG : GT w) (h : crc_Add.f a0 a1 = some r) :
    Calls Tryd.prog 42 #[.int .u32 a0, .string a1] w fun e w' => e = .returned (.int .u32 r) ∧ Drawn0 w w' := by
  unfold crc_Add.f at h
  by_cases hc : 0 ≤ a0 ∧ a0 ≤ 4294967295 ∧ a1.size ≤ 140737488355328
  · rw [if_pos hc] at h
    obtain rfl := Option.some.inj h
    obtain ⟨h0, h1, hs⟩ := hc
    clear h
    obtain ⟨r0, hr0⟩ : ∃ r0 : BitVec 32, r0 = BitVec.ofInt 32 a0 := ⟨_, rfl⟩
    have ha : a0 = (r0.toNat : Int) := by
      rw [hr0, BitVec.toNat_ofInt]; omega
    unfold crcI
    rw [← hr0]
    clear hr0 h0 h1
    subst ha
    go_enter Tryd.func42, Tryd.ntmps42
    go_wp2
    go_loop [0, 8] (fun q i => ∃ k : Nat, k ≤ a1.size ∧ i = .int .i64 k ∧ q = .int .u32 ((CrcM.add r0 (a1.data.toList.take k)).toNat : Int)) (fun _ i => a1.size - (intOf i).toNat)
    case atStart => exact ⟨0, Nat.zero_le _, rfl, by simp [CrcM.add]⟩
    case round =>
      obtain ⟨k, hk, rfl, rfl⟩ := hrel
      by_cases hlt : k < a1.size
      · obtain ⟨x, hx⟩ : ∃ x : BitVec 32, x = CrcM.add r0 (a1.data.toList.take k) ^^^ BitVec.ofNat 32 a1[k].toNat := ⟨_, rfl⟩
        have hN := add_snoc r0 (a1.data.toList.take k) a1[k]
        rw [← hx, ← take_snoc a1 k hlt] at hN
        have e1 : Go.bits .xor .u32 ((CrcM.add r0 (a1.data.toList.take k)).toNat : Int) ((a1[k].toNat : Int) % 4294967296) = (x.toNat : Int) := by
          rw [Int.emod_eq_of_lt (by omega) (by have := a1[k].toNat_lt; omega)]
          have := bits_xor32 (CrcM.add r0 (a1.data.toList.take k)) (BitVec.ofNat 32 a1[k].toNat)
          rw [← hx, BitVec.toNat_ofNat, Nat.mod_eq_of_lt (by have := a1[k].toNat_lt; omega)] at this
          exact this
        clear hx
        have HN := Lib.hid hN
        clear hN
        obtain ⟨y, hy⟩ : ∃ y : BitVec 32, y = CrcM.stn 4 x := ⟨_, rfl⟩
        obtain ⟨z, hz⟩ : ∃ z : BitVec 32, z = CrcM.stn 4 y := ⟨_, rfl⟩
        have e2 := bits_and15 x
        have e3 := half_walk x
        have e4 := bits_and15 y
        have e5 := half_walk y
        rw [← hy] at e3
        rw [← hz] at e5
        have b1 : x.toNat % 16 < 16 := Nat.mod_lt _ (by decide)
        have b2 : y.toNat % 16 < 16 := Nat.mod_lt _ (by decide)
        have c1 := hG.1 _ b1
        have c2 := hG.1 _ b2
        have HY := Lib.hid hy
        have HZ := Lib.hid hz
        clear hy hz
        generalize x.toNat % 16 = ix at *
        generalize y.toNat % 16 = iy at *
        go_wp2
        go_round
        case rel => exact ⟨k + 1, by omega, by go_num, by rw [HN.out, ← HY.out, ← HZ.out]⟩
        case measure => simp [intOf]; omega
      · have hle : a1.size ≤ k := by omega
        clear hlt
        go_wp2
        go_ret
        refine ⟨?_, Drawn0.refl _⟩
        rw [show a1.data.toList.take k = a1.data.toList from List.take_of_length_le (by simp; omega)]
        rfl
  · rw [if_neg hc] at h; cases h
end Go.Proofs.YtoglapodcejocaaDoor.G
