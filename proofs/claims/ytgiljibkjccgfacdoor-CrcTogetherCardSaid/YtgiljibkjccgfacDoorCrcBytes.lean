/- The contract of crc.Bytes over this seat's program: the four bytes of a text's sum. Condition: the table's cells. -/
import Derived.Test.YtgiljibkjccgfacDoorCrcAdd
import Derived.Deep.WholeRow
import Derived.Lib.SlBytesRow
import Derived.Great.Walk
namespace Go.Proofs.YtgiljibkjccgfacDoor.G
open Go.RowKit Go.Proofs.YtgiljibkjccgfacDoorW.PrintWords Go.Proofs.YtgiljibkjccgfacDoorW.PrintLast Go.Proofs.YtgiljibkjccgfacDoorW.PrintMore
set_option linter.unusedVariables false
set_option linter.unusedSimpArgs false

theorem store_new_row {P : Program} {ops : Array Oper} {rest : List Oper} {o : Oper} {a : Act} {W : World} {Q : Exit → Act → World → Prop} (hgd : o.guard = none) (ty : TypeId) (x y : Operand) (ho : o.op = .store ty x y)
    (g : Nat) (hgs : g = W.heap.size) (old cells : Array Value) (hx : a.eval x = .pointer (some ⟨g, 0, none⟩)) (hy : a.eval y = .agg cells) (t : TypeId) (hi : (P.info? ty).map (·.size) = some cells.size)
    (hold : old.size = cells.size) (h1 : cells.all (·.oneCell') = true) (h : wpList P ops Q rest (a.put o.dst undef) (W.alloc (.cells cells t))) : wpList P ops Q (o :: rest) a (W.alloc (.cells old t)) := by
  subst hgs
  refine wpList_store_row hgd ty x y ho W.heap.size cells hx hy t old (heap_alloc_last W _) hi hold h1 ?_
  rw [World.setRow_alloc_new]
  exact h
def crcSum (s : ByteArray) : Int := Go.bits .xor .u32 4294967295 (crcI 4294967295 s)
def bytes4 (x : Int) : List Int := [x % 256, (x / 256) % 256, (x / 65536) % 256, (x / 16777216) % 256]
def crc_Bytes.f (a0 : ByteArray) : Option ByteArray := if a0.size ≤ 140737488355328 then some (strOfNums (bytes4 (crcSum a0))) else none

set_option maxHeartbeats 4000000 in
theorem crcSum_calls (a0 : ByteArray) (hs : a0.size ≤ 140737488355328) (w : World) (hG : GT w) :
    Calls Tryd.prog 6 #[.string a0] w fun e w' => e = .returned (.int .u32 (crcSum a0)) ∧ Drawn0 w w' := by
  have HG := Aside0.mk hG
  clear hG
  have hA : crc_Add.f 4294967295 a0 = some (crcI 4294967295 a0) := by unfold crc_Add.f; rw [if_pos ⟨by decide, by decide, hs⟩]
  have A3 := Aside0.mk hA
  clear hA hs
  unfold crcSum
  generalize crcI 4294967295 a0 = t at *
  have start : ∀ w : World, Calls Tryd.prog 13 #[] w fun e w' => e = .returned (.int .u32 4294967295) ∧ Drawn0 w w' := by
    intro w
    go_enter Tryd.func13, Tryd.ntmps13
    go_wp2
    go_ret
    exact ⟨rfl, by repeat (first | exact Drawn0.refl _ | apply Drawn0.step)⟩
  have fin : ∀ w : World, Calls Tryd.prog 14 #[.int .u32 t] w fun e w' => e = .returned (.int .u32 (Go.bits .xor .u32 4294967295 t)) ∧ Drawn0 w w' := by
    intro w
    go_enter Tryd.func14, Tryd.ntmps14
    go_wp2
    go_ret
    exact ⟨by first | rfl | (simp; done), by repeat (first | exact Drawn0.refl _ | apply Drawn0.step)⟩
  have ST := Aside0.mk start
  have FI := Aside0.mk fin
  clear start fin
  go_enter Tryd.func6, Tryd.ntmps6
  go_wp2_with (first | (go_at_call 13; (with_reducible refine (ST.out _).mono ?_); rintro e w' ⟨rfl, ⟨nd, rfl⟩⟩) | (go_at_call 14; (with_reducible refine (FI.out _).mono ?_); rintro e w' ⟨rfl, ⟨nd, rfl⟩⟩) | (go_at_call 15; (with_reducible refine (crc_Add.calls 4294967295 a0 t _ ?side1 A3.out).mono ?_); (case side1 => repeat (first | exact HG.out | apply GT.drewN | apply GT.drew)); rintro e w' ⟨rfl, ⟨nd, rfl⟩⟩))
  go_ret
  exact ⟨by first | rfl | (simp; done) | (simp [*]; done), by repeat (first | exact Drawn0.refl _ | apply Drawn0.step)⟩

set_option maxHeartbeats 4000000 in
theorem crc_Bytes.calls (a0 : ByteArray) (r : ByteArray) (w : World) (hG : GT w) (h : crc_Bytes.f a0 = some r) :
    Calls Tryd.prog 12 #[.string a0] w fun e w' => e = .returned (.string r) ∧ Below w.heap.size w w' := by
  unfold crc_Bytes.f at h
  by_cases hs : a0.size ≤ 140737488355328
  · rw [if_pos hs] at h
    obtain rfl := Option.some.inj h
    clear h
    have SU := Aside0.mk (crcSum_calls a0 hs)
    have HG := Aside0.mk hG
    clear hG
    unfold bytes4
    generalize crcSum a0 = x at *
    have cv : ∀ nd : Nat, (convert 23 9 (.slice (some ⟨w.heap.size, 0, none⟩) 4 4)).run Tryd.prog ((w.drewN nd).alloc (.cells #[.int .u8 (x % 256), .int .u8 (x / 256 % 256), .int .u8 (x / 65536 % 256), .int .u8 (x / 16777216 % 256)] 45)) = .ok (.string (strOfNums [x % 256, x / 256 % 256, x / 65536 % 256, x / 16777216 % 256])) ((w.drewN nd).alloc (.cells #[.int .u8 (x % 256), .int .u8 (x / 256 % 256), .int .u8 (x / 65536 % 256), .int .u8 (x / 16777216 % 256)] 45)) := fun nd => by
      refine run_convert_bytes_arg _ 23 5 Tryd.underlying23 Tryd.underlying5 w.heap.size 0 4 4 [x % 256, x / 256 % 256, x / 65536 % 256, x / 16777216 % 256] rfl (fun i hi => ?_) 9 Tryd.underlying9
      have hh := heap_alloc_last (w.drewN nd) (.cells #[.int .u8 (x % 256), .int .u8 (x / 256 % 256), .int .u8 (x / 65536 % 256), .int .u8 (x / 16777216 % 256)] 45)
      rw [show (w.drewN nd).heap.size = w.heap.size from rfl] at hh
      rw [cell_of_row _ _ (0 + i) _ _ _ hh]
      rcases (by omega : i = 0 ∨ i = 1 ∨ i = 2 ∨ i = 3) with rfl | rfl | rfl | rfl <;> rfl
    have bu : ∀ W : World, (Instr.build 45 #[(0, .int .u8 (x % 256)), (1, .int .u8 (x / 256 % 256)), (2, .int .u8 (x / 65536 % 256)), (3, .int .u8 (x / 16777216 % 256))]).run Tryd.prog W = .ok (.agg #[.int .u8 (x % 256), .int .u8 (x / 256 % 256), .int .u8 (x / 65536 % 256), .int .u8 (x / 16777216 % 256)]) W := fun W => run_build W 45 _ _ (by kernel_rfl)
    have BU := Lib.hid bu
    clear bu
    go_enter Tryd.func12, Tryd.ntmps12
    go_wp2_with (first | ((with_reducible refine gate_dst (N := 18) rfl ?_); refine Go.RowKit.Hid.out ?_) | (go_at_call 6; (with_reducible refine (SU.out _ ?side1).mono ?_); (case side1 => repeat (first | exact HG.out | apply GT.drewN | apply GT.drew)); rintro e w' ⟨rfl, ⟨nd, rfl⟩⟩))
    refine Go.Lib.hid ?_
    refine Go.Great.wpList_runTo rfl (some 18) rfl (.agg #[.int .u8 (x % 256), .int .u8 (x / 256 % 256), .int .u8 (x / 65536 % 256), .int .u8 (x / 16777216 % 256)]) _ (by go_simp; first | done | rfl | exact BU.out _) ?_
    refine Go.Great.wpList_allocTo rfl (some 4) rfl (.pointer (some ⟨w.heap.size, 0, none⟩)) (.cells #[.int .u8 0, .int .u8 0, .int .u8 0, .int .u8 0] 45) (by go_simp; first | done | rfl) ?_
    refine store_new_row ?g1 45 (.tmp 4) (.tmp 18) ?g2 w.heap.size ?g0 #[.int .u8 0, .int .u8 0, .int .u8 0, .int .u8 0] #[.int .u8 (x % 256), .int .u8 (x / 256 % 256), .int .u8 (x / 65536 % 256), .int .u8 (x / 16777216 % 256)] ?g3 ?g4 45 (by kernel_rfl) rfl (by simp [Value.oneCell']) ?_
    case g0 => rfl
    case g1 => rfl
    case g2 => rfl
    case g3 => rfl
    case g4 => rfl
    simp only [Act.put, List.setIfInBounds_toArray, List.set_cons_zero, List.set_cons_succ]
    go_wp2
    go_ret
    have HB := Aside0.mk (Below.refl w.heap.size w)
    exact ⟨rfl, by repeat (first | (with_reducible first | exact HB.out | apply below_alloc | apply pw_below_drewN | apply below_drew1) | exact HB.out)⟩
  · rw [if_neg hs] at h; cases h
end Go.Proofs.YtgiljibkjccgfacDoor.G
