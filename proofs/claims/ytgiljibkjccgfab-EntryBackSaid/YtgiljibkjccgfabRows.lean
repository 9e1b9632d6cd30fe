/-
  No cell of these rows narrows 'for every input' (looked for: loops, veiled, ifaces, maps, wideKeys, modest, calm, conditions, laid).
  DERIVED. THE GIVEN ROWS OF THIS SEAT. 7 by the template 'for every input the law returns true; each argument reads behind the call as it read before'; 0 by the template 'total and deterministic' (their statements: YtgiljibkjccgfabTotals.lean).
  GIVEN WITH THE SEED: the statements are not yours to turn. If you find one false, say at which input.
  Laid BY PROGRAM, IN A SANDBOX (cutbox-rows.mjs): the forced cells as the released guide's own fill.sh prints them over the translation 7bc636634543cc0c… (all of the seat's roots in one cut). By AI agents, Wed Nov 11 2026. No macro, syntax, notation, axiom, sorry.
-/
import Derived.Test.YtgiljibkjccgfabChecked
import GoSem.Claim
import GoSem.ClaimJoined
import GoSem.ClaimMapViews
import Derived.JoinedTies
import Derived.KernelRfl
namespace Go.Proofs.Ytgiljibkjccgfab
/- THE CELL 'sum', in the pinned program and in every row, IS THE sha256 OF THE DUMP (.gsa) THAT YtgiljibkjccgfabProg.lean LOADS. Nothing in Lean hashes anything: it is a label: what it is worth is what the hold of that sum in a sandbox is worth. -/
noncomputable def Try.pinned : Pinned := { name := "ytgiljibkjccgfab", sum := "7bc636634543cc0c38bae179e319698f4d26f93d09b76b9e682bfcdf184f8790", checked := Try.checked }
namespace Rows
def none {H : Type} : Left H := { results := [], args := [] }

/-- 'caulklaw02.GfTells': WHATEVER THE INPUT: true; the input reads as it did. -/
def gfTellsSpec : ChangeSpec := { name := "gfTells", fn := fun _ => fun
  | [d1, d2, d3] => { results := [.lit (.bool true)], args := [d1, d2, d3] }
  | _ => none }
def gfTellsRow : OpenClaim := { program := "ytgiljibkjccgfab", sum := "7bc636634543cc0c38bae179e319698f4d26f93d09b76b9e682bfcdf184f8790", func := "caulk/caulklaw02.GfTells", spec := "gfTells", unfollowed := true, recurses := true, apart := false }
def GfTellsSaid : Prop := gfTellsRow.holds Try.pinned (OpenSpec.ofChange gfTellsSpec)

/-- ITS FALSE NEIGHBOUR: 'it returns false'. Refute it at one input. -/
def gfTellsWrong : ChangeSpec := { name := "gfTells", fn := fun _ => fun
  | [d1, d2, d3] => { results := [.lit (.bool false)], args := [d1, d2, d3] }
  | _ => none }
def GfTellsWrongFalsely : Prop := gfTellsRow.holds Try.pinned (OpenSpec.ofChange gfTellsWrong)

/-- 'caulklaw02.GfScales': WHATEVER THE INPUT: true; the input reads as it did. -/
def gfScalesSpec : ChangeSpec := { name := "gfScales", fn := fun _ => fun
  | [d1, d2, d3] => { results := [.lit (.bool true)], args := [d1, d2, d3] }
  | _ => none }
def gfScalesRow : OpenClaim := { program := "ytgiljibkjccgfab", sum := "7bc636634543cc0c38bae179e319698f4d26f93d09b76b9e682bfcdf184f8790", func := "caulk/caulklaw02.GfScales", spec := "gfScales", unfollowed := true, recurses := true, apart := false }
def GfScalesSaid : Prop := gfScalesRow.holds Try.pinned (OpenSpec.ofChange gfScalesSpec)

/-- ITS FALSE NEIGHBOUR: 'it returns false'. Refute it at one input. -/
def gfScalesWrong : ChangeSpec := { name := "gfScales", fn := fun _ => fun
  | [d1, d2, d3] => { results := [.lit (.bool false)], args := [d1, d2, d3] }
  | _ => none }
def GfScalesWrongFalsely : Prop := gfScalesRow.holds Try.pinned (OpenSpec.ofChange gfScalesWrong)

/-- 'caulklaw02.GfField': WHATEVER THE INPUT: true; the input reads as it did. -/
def gfFieldSpec : ChangeSpec := { name := "gfField", fn := fun _ => fun
  | [d1, d2, d3] => { results := [.lit (.bool true)], args := [d1, d2, d3] }
  | _ => none }
def gfFieldRow : OpenClaim := { program := "ytgiljibkjccgfab", sum := "7bc636634543cc0c38bae179e319698f4d26f93d09b76b9e682bfcdf184f8790", func := "caulk/caulklaw02.GfField", spec := "gfField", unfollowed := true, recurses := true, apart := false }
def GfFieldSaid : Prop := gfFieldRow.holds Try.pinned (OpenSpec.ofChange gfFieldSpec)

/-- ITS FALSE NEIGHBOUR: 'it returns false'. Refute it at one input. -/
def gfFieldWrong : ChangeSpec := { name := "gfField", fn := fun _ => fun
  | [d1, d2, d3] => { results := [.lit (.bool false)], args := [d1, d2, d3] }
  | _ => none }
def GfFieldWrongFalsely : Prop := gfFieldRow.holds Try.pinned (OpenSpec.ofChange gfFieldWrong)

/-- 'caulklaw02.GfLogs': WHATEVER THE INPUT: true; the input reads as it did. -/
def gfLogsSpec : ChangeSpec := { name := "gfLogs", fn := fun _ => fun
  | [d1, d2, d3] => { results := [.lit (.bool true)], args := [d1, d2, d3] }
  | _ => none }
def gfLogsRow : OpenClaim := { program := "ytgiljibkjccgfab", sum := "7bc636634543cc0c38bae179e319698f4d26f93d09b76b9e682bfcdf184f8790", func := "caulk/caulklaw02.GfLogs", spec := "gfLogs", unfollowed := true, recurses := true, apart := false }
def GfLogsSaid : Prop := gfLogsRow.holds Try.pinned (OpenSpec.ofChange gfLogsSpec)

/-- ITS FALSE NEIGHBOUR: 'it returns false'. Refute it at one input. -/
def gfLogsWrong : ChangeSpec := { name := "gfLogs", fn := fun _ => fun
  | [d1, d2, d3] => { results := [.lit (.bool false)], args := [d1, d2, d3] }
  | _ => none }
def GfLogsWrongFalsely : Prop := gfLogsRow.holds Try.pinned (OpenSpec.ofChange gfLogsWrong)

/-- 'caulklaw13.EntryTells': WHATEVER THE INPUT: true; the input reads as it did. -/
def entryTellsSpec : ChangeSpec := { name := "entryTells", fn := fun _ => fun
  | [d1, d2] => { results := [.lit (.bool true)], args := [d1, d2] }
  | _ => none }
def entryTellsRow : OpenClaim := { program := "ytgiljibkjccgfab", sum := "7bc636634543cc0c38bae179e319698f4d26f93d09b76b9e682bfcdf184f8790", func := "caulk/caulklaw13.EntryTells", spec := "entryTells", apart := false }
def EntryTellsSaid : Prop := entryTellsRow.holds Try.pinned (OpenSpec.ofChange entryTellsSpec)

/-- ITS FALSE NEIGHBOUR: 'it returns false'. Refute it at one input. -/
def entryTellsWrong : ChangeSpec := { name := "entryTells", fn := fun _ => fun
  | [d1, d2] => { results := [.lit (.bool false)], args := [d1, d2] }
  | _ => none }
def EntryTellsWrongFalsely : Prop := entryTellsRow.holds Try.pinned (OpenSpec.ofChange entryTellsWrong)

/-- 'caulklaw13.EntryTables': WHATEVER THE INPUT: true; the input reads as it did. -/
def entryTablesSpec : ChangeSpec := { name := "entryTables", fn := fun _ => fun
  | [d1, d2] => { results := [.lit (.bool true)], args := [d1, d2] }
  | _ => none }
def entryTablesRow : OpenClaim := { program := "ytgiljibkjccgfab", sum := "7bc636634543cc0c38bae179e319698f4d26f93d09b76b9e682bfcdf184f8790", func := "caulk/caulklaw13.EntryTables", spec := "entryTables", apart := false }
def EntryTablesSaid : Prop := entryTablesRow.holds Try.pinned (OpenSpec.ofChange entryTablesSpec)

/-- ITS FALSE NEIGHBOUR: 'it returns false'. Refute it at one input. -/
def entryTablesWrong : ChangeSpec := { name := "entryTables", fn := fun _ => fun
  | [d1, d2] => { results := [.lit (.bool false)], args := [d1, d2] }
  | _ => none }
def EntryTablesWrongFalsely : Prop := entryTablesRow.holds Try.pinned (OpenSpec.ofChange entryTablesWrong)

/-- 'caulklaw13.EntryBack': WHATEVER THE INPUT: true; the input reads as it did. -/
def entryBackSpec : ChangeSpec := { name := "entryBack", fn := fun _ => fun
  | [d1, d2] => { results := [.lit (.bool true)], args := [d1, d2] }
  | _ => none }
def entryBackRow : OpenClaim := { program := "ytgiljibkjccgfab", sum := "7bc636634543cc0c38bae179e319698f4d26f93d09b76b9e682bfcdf184f8790", func := "caulk/caulklaw13.EntryBack", spec := "entryBack", apart := false }
def EntryBackSaid : Prop := entryBackRow.holds Try.pinned (OpenSpec.ofChange entryBackSpec)

/-- ITS FALSE NEIGHBOUR: 'it returns false'. Refute it at one input. -/
def entryBackWrong : ChangeSpec := { name := "entryBack", fn := fun _ => fun
  | [d1, d2] => { results := [.lit (.bool false)], args := [d1, d2] }
  | _ => none }
def EntryBackWrongFalsely : Prop := entryBackRow.holds Try.pinned (OpenSpec.ofChange entryBackWrong)

/- THE SECOND FORM. 'bulk': how many values and letters a reading holds, each counted each time it is reached (what is shared counts as often as it is met; a slice's spare places count too). A statement '..UptoSaid' is the law's where the arguments, and the package variables that the reading takes, are together of bulk at most 1048576: NARROWER than '..Said'. Prove '..Said' where nothing that the law and all that it calls make is longer than what came in: it says more and counts as full. Else prove '..UptoSaid'. A law counts once. -/
mutual
def uptoBulk {H : Type} : DataW H → Nat
  | .lit (.string bytes) => bytes.length + 1
  | .lit _ => 1
  | .nil => 1
  | .ptr d => uptoBulk d + 1
  | .slice elems spare => uptoBulkAll elems + uptoBulkAll spare + 1
  | .agg parts => uptoBulkAll parts + 1
  | .iface _ d => uptoBulk d + 1
  | .map entries => uptoBulkEntries entries + 1
  | .held _ => 1
def uptoBulkAll {H : Type} : List (DataW H) → Nat
  | [] => 0
  | d :: r => uptoBulk d + uptoBulkAll r
def uptoBulkEntries {H : Type} : List (Lit × DataW H) → Nat
  | [] => 0
  | x :: r => uptoBulkEntry x + uptoBulkEntries r
def uptoBulkEntry {H : Type} : Lit × DataW H → Nat
  | (.string bytes, d) => bytes.length + uptoBulk d + 1
  | (_, d) => uptoBulk d + 1
 end
def uptoSmall : (H : Type) → List (DataW H) → Bool := fun _ ds => decide (uptoBulkAll ds ≤ 1048576)
def OpenSpec.upto (s : _root_.Go.ChangeSpec) : _root_.Go.OpenSpec := { _root_.Go.OpenSpec.ofChange s with cond := some uptoSmall }

/-- 'caulklaw02.GfTells', WHERE WHAT IT READS IS OF BULK AT MOST 1048576: true; the input reads as it did. -/
def gfTellsUptoRow : OpenClaim := { program := "ytgiljibkjccgfab", sum := "7bc636634543cc0c38bae179e319698f4d26f93d09b76b9e682bfcdf184f8790", func := "caulk/caulklaw02.GfTells", spec := "gfTells", unfollowed := true, recurses := true, apart := false, narrowed := true }
def GfTellsUptoSaid : Prop := gfTellsUptoRow.holds Try.pinned (OpenSpec.upto gfTellsSpec)

/-- 'caulklaw02.GfScales', WHERE WHAT IT READS IS OF BULK AT MOST 1048576: true; the input reads as it did. -/
def gfScalesUptoRow : OpenClaim := { program := "ytgiljibkjccgfab", sum := "7bc636634543cc0c38bae179e319698f4d26f93d09b76b9e682bfcdf184f8790", func := "caulk/caulklaw02.GfScales", spec := "gfScales", unfollowed := true, recurses := true, apart := false, narrowed := true }
def GfScalesUptoSaid : Prop := gfScalesUptoRow.holds Try.pinned (OpenSpec.upto gfScalesSpec)

/-- 'caulklaw02.GfField', WHERE WHAT IT READS IS OF BULK AT MOST 1048576: true; the input reads as it did. -/
def gfFieldUptoRow : OpenClaim := { program := "ytgiljibkjccgfab", sum := "7bc636634543cc0c38bae179e319698f4d26f93d09b76b9e682bfcdf184f8790", func := "caulk/caulklaw02.GfField", spec := "gfField", unfollowed := true, recurses := true, apart := false, narrowed := true }
def GfFieldUptoSaid : Prop := gfFieldUptoRow.holds Try.pinned (OpenSpec.upto gfFieldSpec)

/-- 'caulklaw02.GfLogs', WHERE WHAT IT READS IS OF BULK AT MOST 1048576: true; the input reads as it did. -/
def gfLogsUptoRow : OpenClaim := { program := "ytgiljibkjccgfab", sum := "7bc636634543cc0c38bae179e319698f4d26f93d09b76b9e682bfcdf184f8790", func := "caulk/caulklaw02.GfLogs", spec := "gfLogs", unfollowed := true, recurses := true, apart := false, narrowed := true }
def GfLogsUptoSaid : Prop := gfLogsUptoRow.holds Try.pinned (OpenSpec.upto gfLogsSpec)

/-- 'caulklaw13.EntryTells', WHERE WHAT IT READS IS OF BULK AT MOST 1048576: true; the input reads as it did. -/
def entryTellsUptoRow : OpenClaim := { program := "ytgiljibkjccgfab", sum := "7bc636634543cc0c38bae179e319698f4d26f93d09b76b9e682bfcdf184f8790", func := "caulk/caulklaw13.EntryTells", spec := "entryTells", apart := false, narrowed := true }
def EntryTellsUptoSaid : Prop := entryTellsUptoRow.holds Try.pinned (OpenSpec.upto entryTellsSpec)

/-- 'caulklaw13.EntryTables', WHERE WHAT IT READS IS OF BULK AT MOST 1048576: true; the input reads as it did. -/
def entryTablesUptoRow : OpenClaim := { program := "ytgiljibkjccgfab", sum := "7bc636634543cc0c38bae179e319698f4d26f93d09b76b9e682bfcdf184f8790", func := "caulk/caulklaw13.EntryTables", spec := "entryTables", apart := false, narrowed := true }
def EntryTablesUptoSaid : Prop := entryTablesUptoRow.holds Try.pinned (OpenSpec.upto entryTablesSpec)

/-- 'caulklaw13.EntryBack', WHERE WHAT IT READS IS OF BULK AT MOST 1048576: true; the input reads as it did. -/
def entryBackUptoRow : OpenClaim := { program := "ytgiljibkjccgfab", sum := "7bc636634543cc0c38bae179e319698f4d26f93d09b76b9e682bfcdf184f8790", func := "caulk/caulklaw13.EntryBack", spec := "entryBack", apart := false, narrowed := true }
def EntryBackUptoSaid : Prop := entryBackUptoRow.holds Try.pinned (OpenSpec.upto entryBackSpec)

end Rows
end Go.Proofs.Ytgiljibkjccgfab
