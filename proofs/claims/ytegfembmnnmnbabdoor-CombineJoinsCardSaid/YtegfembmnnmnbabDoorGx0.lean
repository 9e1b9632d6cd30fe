-- Written by a program of this session over the print of the translation (its own patch, foreign contracts, cut ways): not trusted: Lean checks it.
import Derived.Test.YtegfembmnnmnbabDoorProg
import Derived.Below
import Derived.Deep.Draws
import Derived.Deep.AppendLies
import Derived.Maps.AppendAt
import Derived.OwnWalk
import Derived.Laws.BytesArg
import Derived.Laws.MakeOwn
import Derived.Laws.OwnMore
import Derived.Deep.OwnRows
import Derived.Tactics
import Derived.Lib.ConvBytes
import Derived.Laws.Slices
import Derived.WalkKit
import Derived.KernelRfl
import Derived.RowKit3
import Derived.Deep.LoopGhost
import Derived.Deep.QuietTactic
import Derived.BigQuiet
import Derived.WideLaws
import Derived.Deep.DeepCutAuto
import Derived.Deep.CutBlock
import Derived.Deep.RegionHeld3
import Derived.Laws.Rows
import Derived.Lib.AppendStr
import Derived.ArgAppend
import Derived.Laws.IdiomCopy
import Derived.OrdersHeld
import Derived.Laws.BitsLemmas
import Derived.RowKit
import Derived.Test.YtegfembmnnmnbabDoorWWords
import Derived.Test.YtegfembmnnmnbabDoorWLast
import Derived.Test.YtegfembmnnmnbabDoorWTab
import Derived.Test.YtegfembmnnmnbabDoorWFour
import Derived.Test.YtegfembmnnmnbabDoorWQPut
import Derived.Test.YtegfembmnnmnbabDoorWApart
import Derived.Test.YtegfembmnnmnbabDoorWArr
import Derived.Test.YtegfembmnnmnbabDoorWZeros
import Derived.Test.YtegfembmnnmnbabDoorWFoot
import Derived.Test.YtegfembmnnmnbabDoorWKept
import Derived.Test.YtegfembmnnmnbabDoorWShare
import Derived.Test.YtegfembmnnmnbabDoorWN
import Derived.Test.YtegfembmnnmnbabDoorWFootNe
import Derived.Test.YtegfembmnnmnbabDoorWAt
import Derived.Test.YtegfembmnnmnbabDoorWEqStruct
import Derived.Test.YtegfembmnnmnbabDoorWRepsOne
import Derived.Test.YtegfembmnnmnbabDoorWInv
import Derived.Test.YtegfembmnnmnbabDoorWInvWords
import Derived.Test.YtegfembmnnmnbabDoorWGuard
import Derived.Test.YtegfembmnnmnbabDoorWNEv
import Derived.Test.YtegfembmnnmnbabDoorWMore
namespace Go.Proofs.YtegfembmnnmnbabDoor.G
open Go.RowKit Go.Proofs.YtegfembmnnmnbabDoorW.PrintWords Go.Proofs.YtegfembmnnmnbabDoorW.PrintLast Go.Proofs.YtegfembmnnmnbabDoorW.PrintMore
attribute [local go_sem] max2_int min2_int max_two min_two max_three min_three max_four min_four   -- for this text's walks alone
set_option linter.unusedVariables false
set_option linter.unusedSimpArgs false

section
variable {P : Program} {ops : Array Oper} {rest : List Oper} {o : Oper} {a : Act} {Q : Exit → Act → World → Prop} {W : World}
/-- An operation that comes to a value, the world staying as it was. -/
theorem step_val {v : Value} (hw : Region.wanted o (yielded ops a.tmps) = true) (hr : (execOp a.eval o).run P W = .ok (.value v) W) (h : wpList P ops Q rest (a.put o.dst v) W) : wpList P ops Q (o :: rest) a W := by
  unfold wpList
  rw [if_pos hw]
  left
  unfold Oper.wp
  rw [hr]
  exact h
theorem step_unit {W1 : World} (hw : Region.wanted o (yielded ops a.tmps) = true) (hr : (execOp a.eval o).run P W = .ok .skip W1) (h : wpList P ops Q rest (a.put o.dst undef) W1) : wpList P ops Q (o :: rest) a W := by
  unfold wpList
  rw [if_pos hw]
  left
  unfold Oper.wp
  rw [hr]
  exact h
theorem gate_bin {b : BinOp} {t u : TypeId} {x y : Operand} (_ho : o.op = .binOp b t x y u) (h : wpList P ops Q (o :: rest) a W) : wpList P ops Q (o :: rest) a W := h
end



def errW : Option Int → Value
  | none => .nilIface
  | some c => .iface 0 (.int .i64 c)
theorem errW_none : errW none = .nilIface := rfl
theorem errW_some (c : Int) : errW (some c) = .iface 0 (.int .i64 c) := rfl

-- the values' own types

end Go.Proofs.YtegfembmnnmnbabDoor.G
