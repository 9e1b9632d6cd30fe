/-
  NARROWER THAN 'FOR EVERY INPUT', by the rows' own cells (each row's printed sentence says how): CombineJoins: laid · CombineSteps: laid · CombineOne: laid.
  DERIVED. THE GIVEN ROWS OF THIS SEAT. 3 by the template 'for every input the law returns true; each argument reads behind the call as it read before'; 0 by the template 'total and deterministic' (their statements: YtegfembmnnmnbabDoorTotals.lean).
  GIVEN WITH THE SEED: the statements are not yours to turn. If you find one false, say at which input.
  Laid BY PROGRAM, IN A SANDBOX (cutbox-rows.mjs): the forced cells as the released guide's own fill.sh prints them over the translation d2ca3566cf121d9c… (all of the seat's roots in one cut). By AI agents, Wed Nov 11 2026. No macro, syntax, notation, axiom, sorry.
-/
import Derived.Test.YtegfembmnnmnbabDoorChecked
import GoSem.Claim
import GoSem.ClaimJoined
import GoSem.ClaimMapViews
import Derived.JoinedTies
import Derived.KernelRfl
namespace Go.Proofs.YtegfembmnnmnbabDoor
/- THE CELL 'sum', in the pinned program and in every row, IS THE sha256 OF THE DUMP (.gsa) THAT YtegfembmnnmnbabDoorProg.lean LOADS. Nothing in Lean hashes anything: it is a label: what it is worth is what the hold of that sum in a sandbox is worth. -/
noncomputable def Tryd.pinned : Pinned := { name := "ytegfembmnnmnbabdoor", sum := "d2ca3566cf121d9c651aadd5bf55b7227dd81bef9ea57e4cd6f1b4d1a4adaf31", checked := Tryd.checked }
namespace Rows
def none {H : Type} : Left H := { results := [], args := [] }

/- WHAT THE LISTED PACKAGE-LEVEL VARIABLES READ AS WHEN THE CALL BEGINS. Each datum BY PROGRAM (the guide's laid-datum.mjs) off the statement by which the dump's own 'gosem.cut.vars' lays the variable. In a bare row this is a premise. The card (YtegfembmnnmnbabDoorCards.lean) ties it to the program's text. -/
def laid_caulk_crc_table {H : Type} : DataW H := .agg [.lit (.int .u32 0), .lit (.int .u32 274646895), .lit (.int .u32 549293790), .lit (.int .u32 820201905), .lit (.int .u32 1098587580), .lit (.int .u32 1361435347), .lit (.int .u32 1640403810), .lit (.int .u32 1905808397), .lit (.int .u32 2197175160), .lit (.int .u32 2460548119), .lit (.int .u32 2722870694), .lit (.int .u32 2987750089), .lit (.int .u32 3280807620), .lit (.int .u32 3553878443), .lit (.int .u32 3811616794), .lit (.int .u32 4084100981)]

/-- 'caulklaw33.CombineJoins': WHATEVER THE INPUT: true; the input reads as it did. -/
def combineJoinsSpec : ChangeSpec := { name := "combineJoins", fn := fun _ => fun
  | [d1, d2] => { results := [.lit (.bool true)], args := [d1, d2] }
  | _ => none }
def combineJoinsRow : OpenClaim := { program := "ytegfembmnnmnbabdoor", sum := "d2ca3566cf121d9c651aadd5bf55b7227dd81bef9ea57e4cd6f1b4d1a4adaf31", func := "caulk/caulklaw33.CombineJoins", spec := "combineJoins", named := ["caulk/crc.table"], apart := false, laid := [("caulk/crc.table", laid_caulk_crc_table)] }
def CombineJoinsSaid : Prop := combineJoinsRow.holds Tryd.pinned (OpenSpec.ofChange combineJoinsSpec)

/-- ITS FALSE NEIGHBOUR: 'it returns false'. Refute it at one input. -/
def combineJoinsWrong : ChangeSpec := { name := "combineJoins", fn := fun _ => fun
  | [d1, d2] => { results := [.lit (.bool false)], args := [d1, d2] }
  | _ => none }
def CombineJoinsWrongFalsely : Prop := combineJoinsRow.holds Tryd.pinned (OpenSpec.ofChange combineJoinsWrong)

/-- 'caulklaw33.CombineSteps': WHATEVER THE INPUT: true; the input reads as it did. -/
def combineStepsSpec : ChangeSpec := { name := "combineSteps", fn := fun _ => fun
  | [d1, d2, d3] => { results := [.lit (.bool true)], args := [d1, d2, d3] }
  | _ => none }
def combineStepsRow : OpenClaim := { program := "ytegfembmnnmnbabdoor", sum := "d2ca3566cf121d9c651aadd5bf55b7227dd81bef9ea57e4cd6f1b4d1a4adaf31", func := "caulk/caulklaw33.CombineSteps", spec := "combineSteps", named := ["caulk/crc.table"], apart := false, laid := [("caulk/crc.table", laid_caulk_crc_table)] }
def CombineStepsSaid : Prop := combineStepsRow.holds Tryd.pinned (OpenSpec.ofChange combineStepsSpec)

/-- ITS FALSE NEIGHBOUR: 'it returns false'. Refute it at one input. -/
def combineStepsWrong : ChangeSpec := { name := "combineSteps", fn := fun _ => fun
  | [d1, d2, d3] => { results := [.lit (.bool false)], args := [d1, d2, d3] }
  | _ => none }
def CombineStepsWrongFalsely : Prop := combineStepsRow.holds Tryd.pinned (OpenSpec.ofChange combineStepsWrong)

/-- 'caulklaw33.CombineOne': WHATEVER THE INPUT: true; the input reads as it did. -/
def combineOneSpec : ChangeSpec := { name := "combineOne", fn := fun _ => fun
  | [d1, d2, d3] => { results := [.lit (.bool true)], args := [d1, d2, d3] }
  | _ => none }
def combineOneRow : OpenClaim := { program := "ytegfembmnnmnbabdoor", sum := "d2ca3566cf121d9c651aadd5bf55b7227dd81bef9ea57e4cd6f1b4d1a4adaf31", func := "caulk/caulklaw33.CombineOne", spec := "combineOne", named := ["caulk/crc.table"], apart := false, laid := [("caulk/crc.table", laid_caulk_crc_table)] }
def CombineOneSaid : Prop := combineOneRow.holds Tryd.pinned (OpenSpec.ofChange combineOneSpec)

/-- ITS FALSE NEIGHBOUR: 'it returns false'. Refute it at one input. -/
def combineOneWrong : ChangeSpec := { name := "combineOne", fn := fun _ => fun
  | [d1, d2, d3] => { results := [.lit (.bool false)], args := [d1, d2, d3] }
  | _ => none }
def CombineOneWrongFalsely : Prop := combineOneRow.holds Tryd.pinned (OpenSpec.ofChange combineOneWrong)

/- THE SECOND FORM. 'bulk': how many values and letters a reading holds, each counted each time it is reached (what is shared counts as often as it is met; a slice's spare places count too). A statement '..UptoSaid' is the law's where the arguments, and the package variables that the reading takes, are together of bulk at most 1048576: NARROWER than '..Said'. Prove '..Said' where nothing that the law and all that it calls make is longer than what came in: it says more and counts as full. Else prove '..UptoSaid'. A law counts once. -/
mutual
def uptoBulk {H : Type} : DataW H → Nat
  | .lit (.string bytes) => bytes.length + 1
  | .lit _ => 1
  | .nil => 1
  | .ptr d => uptoBulk d + 1
  | .slice elems spare => uptoBulkAll elems + uptoBulkAll spare + 1
  | .agg parts => uptoBulkAll parts + 1
  | .iface _ d => uptoBulk d + 1
  | .map entries => uptoBulkEntries entries + 1
  | .held _ => 1
def uptoBulkAll {H : Type} : List (DataW H) → Nat
  | [] => 0
  | d :: r => uptoBulk d + uptoBulkAll r
def uptoBulkEntries {H : Type} : List (Lit × DataW H) → Nat
  | [] => 0
  | x :: r => uptoBulkEntry x + uptoBulkEntries r
def uptoBulkEntry {H : Type} : Lit × DataW H → Nat
  | (.string bytes, d) => bytes.length + uptoBulk d + 1
  | (_, d) => uptoBulk d + 1
 end
def uptoSmall : (H : Type) → List (DataW H) → Bool := fun _ ds => decide (uptoBulkAll ds ≤ 1048576)
def OpenSpec.upto (s : _root_.Go.ChangeSpec) : _root_.Go.OpenSpec := { _root_.Go.OpenSpec.ofChange s with cond := some uptoSmall }

/-- 'caulklaw33.CombineJoins', WHERE WHAT IT READS IS OF BULK AT MOST 1048576: true; the input reads as it did. -/
def combineJoinsUptoRow : OpenClaim := { program := "ytegfembmnnmnbabdoor", sum := "d2ca3566cf121d9c651aadd5bf55b7227dd81bef9ea57e4cd6f1b4d1a4adaf31", func := "caulk/caulklaw33.CombineJoins", spec := "combineJoins", named := ["caulk/crc.table"], apart := false, laid := [("caulk/crc.table", laid_caulk_crc_table)], narrowed := true }
def CombineJoinsUptoSaid : Prop := combineJoinsUptoRow.holds Tryd.pinned (OpenSpec.upto combineJoinsSpec)

/-- 'caulklaw33.CombineSteps', WHERE WHAT IT READS IS OF BULK AT MOST 1048576: true; the input reads as it did. -/
def combineStepsUptoRow : OpenClaim := { program := "ytegfembmnnmnbabdoor", sum := "d2ca3566cf121d9c651aadd5bf55b7227dd81bef9ea57e4cd6f1b4d1a4adaf31", func := "caulk/caulklaw33.CombineSteps", spec := "combineSteps", named := ["caulk/crc.table"], apart := false, laid := [("caulk/crc.table", laid_caulk_crc_table)], narrowed := true }
def CombineStepsUptoSaid : Prop := combineStepsUptoRow.holds Tryd.pinned (OpenSpec.upto combineStepsSpec)

/-- 'caulklaw33.CombineOne', WHERE WHAT IT READS IS OF BULK AT MOST 1048576: true; the input reads as it did. -/
def combineOneUptoRow : OpenClaim := { program := "ytegfembmnnmnbabdoor", sum := "d2ca3566cf121d9c651aadd5bf55b7227dd81bef9ea57e4cd6f1b4d1a4adaf31", func := "caulk/caulklaw33.CombineOne", spec := "combineOne", named := ["caulk/crc.table"], apart := false, laid := [("caulk/crc.table", laid_caulk_crc_table)], narrowed := true }
def CombineOneUptoSaid : Prop := combineOneUptoRow.holds Tryd.pinned (OpenSpec.upto combineOneSpec)

end Rows
end Go.Proofs.YtegfembmnnmnbabDoor
