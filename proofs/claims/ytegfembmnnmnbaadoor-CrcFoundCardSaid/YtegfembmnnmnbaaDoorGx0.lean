-- Written by a program of this session over the print of the translation (its own patch, foreign contracts, cut ways): not trusted: Lean checks it.
import Derived.Test.YtegfembmnnmnbaaDoorProg
import Derived.Below
import Derived.Deep.Draws
import Derived.Deep.AppendLies
import Derived.Maps.AppendAt
import Derived.OwnWalk
import Derived.Laws.BytesArg
import Derived.Laws.MakeOwn
import Derived.Laws.OwnMore
import Derived.Deep.OwnRows
import Derived.Tactics
import Derived.Lib.ConvBytes
import Derived.Laws.Slices
import Derived.WalkKit
import Derived.KernelRfl
import Derived.RowKit3
import Derived.Deep.LoopGhost
import Derived.Deep.QuietTactic
import Derived.BigQuiet
import Derived.WideLaws
import Derived.Deep.DeepCutAuto
import Derived.Deep.CutBlock
import Derived.Deep.RegionHeld3
import Derived.Laws.Rows
import Derived.Lib.AppendStr
import Derived.ArgAppend
import Derived.Laws.IdiomCopy
import Derived.OrdersHeld
import Derived.Laws.BitsLemmas
import Derived.RowKit
import Derived.Test.YtegfembmnnmnbaaDoorWWords
import Derived.Test.YtegfembmnnmnbaaDoorWLast
import Derived.Test.YtegfembmnnmnbaaDoorWTab
import Derived.Test.YtegfembmnnmnbaaDoorWFour
import Derived.Test.YtegfembmnnmnbaaDoorWQPut
import Derived.Test.YtegfembmnnmnbaaDoorWApart
import Derived.Test.YtegfembmnnmnbaaDoorWArr
import Derived.Test.YtegfembmnnmnbaaDoorWZeros
import Derived.Test.YtegfembmnnmnbaaDoorWFoot
import Derived.Test.YtegfembmnnmnbaaDoorWKept
import Derived.Test.YtegfembmnnmnbaaDoorWShare
import Derived.Test.YtegfembmnnmnbaaDoorWN
import Derived.Test.YtegfembmnnmnbaaDoorWFootNe
import Derived.Test.YtegfembmnnmnbaaDoorWAt
import Derived.Test.YtegfembmnnmnbaaDoorWEqStruct
import Derived.Test.YtegfembmnnmnbaaDoorWRepsOne
import Derived.Test.YtegfembmnnmnbaaDoorWInv
import Derived.Test.YtegfembmnnmnbaaDoorWInvWords
import Derived.Test.YtegfembmnnmnbaaDoorWGuard
import Derived.Test.YtegfembmnnmnbaaDoorWNEv
import Derived.Test.YtegfembmnnmnbaaDoorWMore
namespace Go.Proofs.YtegfembmnnmnbaaDoor.G
open Go.RowKit Go.Proofs.YtegfembmnnmnbaaDoorW.PrintWords Go.Proofs.YtegfembmnnmnbaaDoorW.PrintLast Go.Proofs.YtegfembmnnmnbaaDoorW.PrintMore
attribute [local go_sem] max2_int min2_int max_two min_two max_three min_three max_four min_four   -- for this text's walks alone
set_option linter.unusedVariables false
set_option linter.unusedSimpArgs false

section
variable {P : Program} {ops : Array Oper} {rest : List Oper} {o : Oper} {a : Act} {Q : Exit → Act → World → Prop} {W : World}
/-- An operation that comes to a value, the world staying as it was. -/
theorem step_val {v : Value} (hw : Region.wanted o (yielded ops a.tmps) = true) (hr : (execOp a.eval o).run P W = .ok (.value v) W) (h : wpList P ops Q rest (a.put o.dst v) W) : wpList P ops Q (o :: rest) a W := by
  unfold wpList
  rw [if_pos hw]
  left
  unfold Oper.wp
  rw [hr]
  exact h
theorem step_unit {W1 : World} (hw : Region.wanted o (yielded ops a.tmps) = true) (hr : (execOp a.eval o).run P W = .ok .skip W1) (h : wpList P ops Q rest (a.put o.dst undef) W1) : wpList P ops Q (o :: rest) a W := by
  unfold wpList
  rw [if_pos hw]
  left
  unfold Oper.wp
  rw [hr]
  exact h
theorem gate_bin {b : BinOp} {t u : TypeId} {x y : Operand} (_ho : o.op = .binOp b t x y u) (h : wpList P ops Q (o :: rest) a W) : wpList P ops Q (o :: rest) a W := h
end



def errW : Option Int → Value
  | none => .nilIface
  | some c => .iface 0 (.int .i64 c)
theorem errW_none : errW none = .nilIface := rfl
theorem errW_some (c : Int) : errW (some c) = .iface 0 (.int .i64 c) := rfl

theorem info5 : (Tryd.prog.info? 5).map (fun i => (i.zero, i.size, i.bytes)) = some (some (.int .u8 0), 1, 1) := by kernel_rfl
-- the values' own types

end Go.Proofs.YtegfembmnnmnbaaDoor.G
