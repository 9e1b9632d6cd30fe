/-
  NARROWER THAN 'FOR EVERY INPUT', by the rows' own cells (each row's printed sentence says how): CrcSums: laid · CrcAdds: laid · CrcPieces: laid · CrcFound: laid · CrcTogether: laid · CombineTells: laid.
  DERIVED. THE GIVEN ROWS OF THIS SEAT. 6 by the template 'for every input the law returns true; each argument reads behind the call as it read before'; 0 by the template 'total and deterministic' (their statements: YtegfembmnnmnbaaDoorTotals.lean).
  GIVEN WITH THE SEED: the statements are not yours to turn. If you find one false, say at which input.
  Laid BY PROGRAM, IN A SANDBOX (cutbox-rows.mjs): the forced cells as the released guide's own fill.sh prints them over the translation 4a68e83854649ba8… (all of the seat's roots in one cut). By AI agents, Wed Nov 11 2026. No macro, syntax, notation, axiom, sorry.
-/
import Derived.Test.YtegfembmnnmnbaaDoorChecked
import GoSem.Claim
import GoSem.ClaimJoined
import GoSem.ClaimMapViews
import Derived.JoinedTies
import Derived.KernelRfl
namespace Go.Proofs.YtegfembmnnmnbaaDoor
/- THE CELL 'sum', in the pinned program and in every row, IS THE sha256 OF THE DUMP (.gsa) THAT YtegfembmnnmnbaaDoorProg.lean LOADS. Nothing in Lean hashes anything: it is a label: what it is worth is what the hold of that sum in a sandbox is worth. -/
noncomputable def Tryd.pinned : Pinned := { name := "ytegfembmnnmnbaadoor", sum := "4a68e83854649ba8faab8837cd96f81e3050ab9ed7b5828d88bdd925642e81b9", checked := Tryd.checked }
namespace Rows
def none {H : Type} : Left H := { results := [], args := [] }

/- WHAT THE LISTED PACKAGE-LEVEL VARIABLES READ AS WHEN THE CALL BEGINS. Each datum BY PROGRAM (the guide's laid-datum.mjs) off the statement by which the dump's own 'gosem.cut.vars' lays the variable. In a bare row this is a premise. The card (YtegfembmnnmnbaaDoorCards.lean) ties it to the program's text. -/
def laid_caulk_crc_table {H : Type} : DataW H := .agg [.lit (.int .u32 0), .lit (.int .u32 274646895), .lit (.int .u32 549293790), .lit (.int .u32 820201905), .lit (.int .u32 1098587580), .lit (.int .u32 1361435347), .lit (.int .u32 1640403810), .lit (.int .u32 1905808397), .lit (.int .u32 2197175160), .lit (.int .u32 2460548119), .lit (.int .u32 2722870694), .lit (.int .u32 2987750089), .lit (.int .u32 3280807620), .lit (.int .u32 3553878443), .lit (.int .u32 3811616794), .lit (.int .u32 4084100981)]

/-- 'caulklaw01.CrcSums': WHATEVER THE INPUT: true; the input reads as it did. -/
def crcSumsSpec : ChangeSpec := { name := "crcSums", fn := fun _ => fun
  | [d] => { results := [.lit (.bool true)], args := [d] }
  | _ => none }
def crcSumsRow : OpenClaim := { program := "ytegfembmnnmnbaadoor", sum := "4a68e83854649ba8faab8837cd96f81e3050ab9ed7b5828d88bdd925642e81b9", func := "caulk/caulklaw01.CrcSums", spec := "crcSums", named := ["caulk/crc.table"], apart := false, laid := [("caulk/crc.table", laid_caulk_crc_table)] }
def CrcSumsSaid : Prop := crcSumsRow.holds Tryd.pinned (OpenSpec.ofChange crcSumsSpec)

/-- ITS FALSE NEIGHBOUR: 'it returns false'. Refute it at one input. -/
def crcSumsWrong : ChangeSpec := { name := "crcSums", fn := fun _ => fun
  | [d] => { results := [.lit (.bool false)], args := [d] }
  | _ => none }
def CrcSumsWrongFalsely : Prop := crcSumsRow.holds Tryd.pinned (OpenSpec.ofChange crcSumsWrong)

/-- 'caulklaw01.CrcAdds': WHATEVER THE INPUT: true; the input reads as it did. -/
def crcAddsSpec : ChangeSpec := { name := "crcAdds", fn := fun _ => fun
  | [d1, d2] => { results := [.lit (.bool true)], args := [d1, d2] }
  | _ => none }
def crcAddsRow : OpenClaim := { program := "ytegfembmnnmnbaadoor", sum := "4a68e83854649ba8faab8837cd96f81e3050ab9ed7b5828d88bdd925642e81b9", func := "caulk/caulklaw01.CrcAdds", spec := "crcAdds", named := ["caulk/crc.table"], apart := false, laid := [("caulk/crc.table", laid_caulk_crc_table)] }
def CrcAddsSaid : Prop := crcAddsRow.holds Tryd.pinned (OpenSpec.ofChange crcAddsSpec)

/-- ITS FALSE NEIGHBOUR: 'it returns false'. Refute it at one input. -/
def crcAddsWrong : ChangeSpec := { name := "crcAdds", fn := fun _ => fun
  | [d1, d2] => { results := [.lit (.bool false)], args := [d1, d2] }
  | _ => none }
def CrcAddsWrongFalsely : Prop := crcAddsRow.holds Tryd.pinned (OpenSpec.ofChange crcAddsWrong)

/-- 'caulklaw01.CrcPieces': WHATEVER THE INPUT: true; the input reads as it did. -/
def crcPiecesSpec : ChangeSpec := { name := "crcPieces", fn := fun _ => fun
  | [d] => { results := [.lit (.bool true)], args := [d] }
  | _ => none }
def crcPiecesRow : OpenClaim := { program := "ytegfembmnnmnbaadoor", sum := "4a68e83854649ba8faab8837cd96f81e3050ab9ed7b5828d88bdd925642e81b9", func := "caulk/caulklaw01.CrcPieces", spec := "crcPieces", named := ["caulk/crc.table"], apart := false, laid := [("caulk/crc.table", laid_caulk_crc_table)] }
def CrcPiecesSaid : Prop := crcPiecesRow.holds Tryd.pinned (OpenSpec.ofChange crcPiecesSpec)

/-- ITS FALSE NEIGHBOUR: 'it returns false'. Refute it at one input. -/
def crcPiecesWrong : ChangeSpec := { name := "crcPieces", fn := fun _ => fun
  | [d] => { results := [.lit (.bool false)], args := [d] }
  | _ => none }
def CrcPiecesWrongFalsely : Prop := crcPiecesRow.holds Tryd.pinned (OpenSpec.ofChange crcPiecesWrong)

/-- 'caulklaw01.CrcFound': WHATEVER THE INPUT: true; the input reads as it did. -/
def crcFoundSpec : ChangeSpec := { name := "crcFound", fn := fun _ => fun
  | [d1, d2, d3] => { results := [.lit (.bool true)], args := [d1, d2, d3] }
  | _ => none }
def crcFoundRow : OpenClaim := { program := "ytegfembmnnmnbaadoor", sum := "4a68e83854649ba8faab8837cd96f81e3050ab9ed7b5828d88bdd925642e81b9", func := "caulk/caulklaw01.CrcFound", spec := "crcFound", named := ["caulk/crc.table"], apart := false, laid := [("caulk/crc.table", laid_caulk_crc_table)] }
def CrcFoundSaid : Prop := crcFoundRow.holds Tryd.pinned (OpenSpec.ofChange crcFoundSpec)

/-- ITS FALSE NEIGHBOUR: 'it returns false'. Refute it at one input. -/
def crcFoundWrong : ChangeSpec := { name := "crcFound", fn := fun _ => fun
  | [d1, d2, d3] => { results := [.lit (.bool false)], args := [d1, d2, d3] }
  | _ => none }
def CrcFoundWrongFalsely : Prop := crcFoundRow.holds Tryd.pinned (OpenSpec.ofChange crcFoundWrong)

/-- 'caulklaw01.CrcTogether': WHATEVER THE INPUT: true; the input reads as it did. -/
def crcTogetherSpec : ChangeSpec := { name := "crcTogether", fn := fun _ => fun
  | [d1, d2] => { results := [.lit (.bool true)], args := [d1, d2] }
  | _ => none }
def crcTogetherRow : OpenClaim := { program := "ytegfembmnnmnbaadoor", sum := "4a68e83854649ba8faab8837cd96f81e3050ab9ed7b5828d88bdd925642e81b9", func := "caulk/caulklaw01.CrcTogether", spec := "crcTogether", named := ["caulk/crc.table"], apart := false, laid := [("caulk/crc.table", laid_caulk_crc_table)] }
def CrcTogetherSaid : Prop := crcTogetherRow.holds Tryd.pinned (OpenSpec.ofChange crcTogetherSpec)

/-- ITS FALSE NEIGHBOUR: 'it returns false'. Refute it at one input. -/
def crcTogetherWrong : ChangeSpec := { name := "crcTogether", fn := fun _ => fun
  | [d1, d2] => { results := [.lit (.bool false)], args := [d1, d2] }
  | _ => none }
def CrcTogetherWrongFalsely : Prop := crcTogetherRow.holds Tryd.pinned (OpenSpec.ofChange crcTogetherWrong)

/-- 'caulklaw33.CombineTells': WHATEVER THE INPUT: true; the input reads as it did. -/
def combineTellsSpec : ChangeSpec := { name := "combineTells", fn := fun _ => fun
  | [d1, d2, d3] => { results := [.lit (.bool true)], args := [d1, d2, d3] }
  | _ => none }
def combineTellsRow : OpenClaim := { program := "ytegfembmnnmnbaadoor", sum := "4a68e83854649ba8faab8837cd96f81e3050ab9ed7b5828d88bdd925642e81b9", func := "caulk/caulklaw33.CombineTells", spec := "combineTells", named := ["caulk/crc.table"], apart := false, laid := [("caulk/crc.table", laid_caulk_crc_table)] }
def CombineTellsSaid : Prop := combineTellsRow.holds Tryd.pinned (OpenSpec.ofChange combineTellsSpec)

/-- ITS FALSE NEIGHBOUR: 'it returns false'. Refute it at one input. -/
def combineTellsWrong : ChangeSpec := { name := "combineTells", fn := fun _ => fun
  | [d1, d2, d3] => { results := [.lit (.bool false)], args := [d1, d2, d3] }
  | _ => none }
def CombineTellsWrongFalsely : Prop := combineTellsRow.holds Tryd.pinned (OpenSpec.ofChange combineTellsWrong)

/- THE SECOND FORM. 'bulk': how many values and letters a reading holds, each counted each time it is reached (what is shared counts as often as it is met; a slice's spare places count too). A statement '..UptoSaid' is the law's where the arguments, and the package variables that the reading takes, are together of bulk at most 1048576: NARROWER than '..Said'. Prove '..Said' where nothing that the law and all that it calls make is longer than what came in: it says more and counts as full. Else prove '..UptoSaid'. A law counts once. -/
mutual
def uptoBulk {H : Type} : DataW H → Nat
  | .lit (.string bytes) => bytes.length + 1
  | .lit _ => 1
  | .nil => 1
  | .ptr d => uptoBulk d + 1
  | .slice elems spare => uptoBulkAll elems + uptoBulkAll spare + 1
  | .agg parts => uptoBulkAll parts + 1
  | .iface _ d => uptoBulk d + 1
  | .map entries => uptoBulkEntries entries + 1
  | .held _ => 1
def uptoBulkAll {H : Type} : List (DataW H) → Nat
  | [] => 0
  | d :: r => uptoBulk d + uptoBulkAll r
def uptoBulkEntries {H : Type} : List (Lit × DataW H) → Nat
  | [] => 0
  | x :: r => uptoBulkEntry x + uptoBulkEntries r
def uptoBulkEntry {H : Type} : Lit × DataW H → Nat
  | (.string bytes, d) => bytes.length + uptoBulk d + 1
  | (_, d) => uptoBulk d + 1
 end
def uptoSmall : (H : Type) → List (DataW H) → Bool := fun _ ds => decide (uptoBulkAll ds ≤ 1048576)
def OpenSpec.upto (s : _root_.Go.ChangeSpec) : _root_.Go.OpenSpec := { _root_.Go.OpenSpec.ofChange s with cond := some uptoSmall }

/-- 'caulklaw01.CrcSums', WHERE WHAT IT READS IS OF BULK AT MOST 1048576: true; the input reads as it did. -/
def crcSumsUptoRow : OpenClaim := { program := "ytegfembmnnmnbaadoor", sum := "4a68e83854649ba8faab8837cd96f81e3050ab9ed7b5828d88bdd925642e81b9", func := "caulk/caulklaw01.CrcSums", spec := "crcSums", named := ["caulk/crc.table"], apart := false, laid := [("caulk/crc.table", laid_caulk_crc_table)], narrowed := true }
def CrcSumsUptoSaid : Prop := crcSumsUptoRow.holds Tryd.pinned (OpenSpec.upto crcSumsSpec)

/-- 'caulklaw01.CrcAdds', WHERE WHAT IT READS IS OF BULK AT MOST 1048576: true; the input reads as it did. -/
def crcAddsUptoRow : OpenClaim := { program := "ytegfembmnnmnbaadoor", sum := "4a68e83854649ba8faab8837cd96f81e3050ab9ed7b5828d88bdd925642e81b9", func := "caulk/caulklaw01.CrcAdds", spec := "crcAdds", named := ["caulk/crc.table"], apart := false, laid := [("caulk/crc.table", laid_caulk_crc_table)], narrowed := true }
def CrcAddsUptoSaid : Prop := crcAddsUptoRow.holds Tryd.pinned (OpenSpec.upto crcAddsSpec)

/-- 'caulklaw01.CrcPieces', WHERE WHAT IT READS IS OF BULK AT MOST 1048576: true; the input reads as it did. -/
def crcPiecesUptoRow : OpenClaim := { program := "ytegfembmnnmnbaadoor", sum := "4a68e83854649ba8faab8837cd96f81e3050ab9ed7b5828d88bdd925642e81b9", func := "caulk/caulklaw01.CrcPieces", spec := "crcPieces", named := ["caulk/crc.table"], apart := false, laid := [("caulk/crc.table", laid_caulk_crc_table)], narrowed := true }
def CrcPiecesUptoSaid : Prop := crcPiecesUptoRow.holds Tryd.pinned (OpenSpec.upto crcPiecesSpec)

/-- 'caulklaw01.CrcFound', WHERE WHAT IT READS IS OF BULK AT MOST 1048576: true; the input reads as it did. -/
def crcFoundUptoRow : OpenClaim := { program := "ytegfembmnnmnbaadoor", sum := "4a68e83854649ba8faab8837cd96f81e3050ab9ed7b5828d88bdd925642e81b9", func := "caulk/caulklaw01.CrcFound", spec := "crcFound", named := ["caulk/crc.table"], apart := false, laid := [("caulk/crc.table", laid_caulk_crc_table)], narrowed := true }
def CrcFoundUptoSaid : Prop := crcFoundUptoRow.holds Tryd.pinned (OpenSpec.upto crcFoundSpec)

/-- 'caulklaw01.CrcTogether', WHERE WHAT IT READS IS OF BULK AT MOST 1048576: true; the input reads as it did. -/
def crcTogetherUptoRow : OpenClaim := { program := "ytegfembmnnmnbaadoor", sum := "4a68e83854649ba8faab8837cd96f81e3050ab9ed7b5828d88bdd925642e81b9", func := "caulk/caulklaw01.CrcTogether", spec := "crcTogether", named := ["caulk/crc.table"], apart := false, laid := [("caulk/crc.table", laid_caulk_crc_table)], narrowed := true }
def CrcTogetherUptoSaid : Prop := crcTogetherUptoRow.holds Tryd.pinned (OpenSpec.upto crcTogetherSpec)

/-- 'caulklaw33.CombineTells', WHERE WHAT IT READS IS OF BULK AT MOST 1048576: true; the input reads as it did. -/
def combineTellsUptoRow : OpenClaim := { program := "ytegfembmnnmnbaadoor", sum := "4a68e83854649ba8faab8837cd96f81e3050ab9ed7b5828d88bdd925642e81b9", func := "caulk/caulklaw33.CombineTells", spec := "combineTells", named := ["caulk/crc.table"], apart := false, laid := [("caulk/crc.table", laid_caulk_crc_table)], narrowed := true }
def CombineTellsUptoSaid : Prop := combineTellsUptoRow.holds Tryd.pinned (OpenSpec.upto combineTellsSpec)

end Rows
end Go.Proofs.YtegfembmnnmnbaaDoor
