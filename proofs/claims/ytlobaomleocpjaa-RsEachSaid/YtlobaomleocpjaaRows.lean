/-
  No cell of these rows narrows 'for every input' (looked for: loops, veiled, ifaces, maps, wideKeys, modest, calm, conditions, laid).
  DERIVED. THE GIVEN ROWS OF THIS SEAT. 9 by the template 'for every input the law returns true; each argument reads behind the call as it read before'; 0 by the template 'total and deterministic' (their statements: YtlobaomleocpjaaTotals.lean).
  GIVEN WITH THE SEED: the statements are not yours to turn. If you find one false, say at which input.
  Laid BY PROGRAM, IN A SANDBOX (cutbox-rows.mjs): the forced cells as the released guide's own fill.sh prints them over the translation d2b2ceb3a514cdf6… (all of the seat's roots in one cut). By AI agents, Wed Nov 11 2026. No macro, syntax, notation, axiom, sorry.
-/
import Derived.Test.YtlobaomleocpjaaChecked
import GoSem.Claim
import GoSem.ClaimJoined
import GoSem.ClaimMapViews
import Derived.JoinedTies
import Derived.KernelRfl
namespace Go.Proofs.Ytlobaomleocpjaa
/- THE CELL 'sum', in the pinned program and in every row, IS THE sha256 OF THE DUMP (.gsa) THAT YtlobaomleocpjaaProg.lean LOADS. Nothing in Lean hashes anything: it is a label: what it is worth is what the hold of that sum in a sandbox is worth. -/
noncomputable def Try.pinned : Pinned := { name := "ytlobaomleocpjaa", sum := "d2b2ceb3a514cdf6ed9e410e82fb0385b2090275c0020e08a975de8482885654", checked := Try.checked }
namespace Rows
def none {H : Type} : Left H := { results := [], args := [] }

/-- 'caulklaw03.MatrixTells': WHATEVER THE INPUT: true; the input reads as it did. -/
def matrixTellsSpec : ChangeSpec := { name := "matrixTells", fn := fun _ => fun
  | [d1, d2, d3, d4, d5] => { results := [.lit (.bool true)], args := [d1, d2, d3, d4, d5] }
  | _ => none }
def matrixTellsRow : OpenClaim := { program := "ytlobaomleocpjaa", sum := "d2b2ceb3a514cdf6ed9e410e82fb0385b2090275c0020e08a975de8482885654", func := "caulk/caulklaw03.MatrixTells", spec := "matrixTells", apart := false }
def MatrixTellsSaid : Prop := matrixTellsRow.holds Try.pinned (OpenSpec.ofChange matrixTellsSpec)

/-- ITS FALSE NEIGHBOUR: 'it returns false'. Refute it at one input. -/
def matrixTellsWrong : ChangeSpec := { name := "matrixTells", fn := fun _ => fun
  | [d1, d2, d3, d4, d5] => { results := [.lit (.bool false)], args := [d1, d2, d3, d4, d5] }
  | _ => none }
def MatrixTellsWrongFalsely : Prop := matrixTellsRow.holds Try.pinned (OpenSpec.ofChange matrixTellsWrong)

/-- 'caulklaw03.MatrixInverts': WHATEVER THE INPUT: true; the input reads as it did. -/
def matrixInvertsSpec : ChangeSpec := { name := "matrixInverts", fn := fun _ => fun
  | [d] => { results := [.lit (.bool true)], args := [d] }
  | _ => none }
def matrixInvertsRow : OpenClaim := { program := "ytlobaomleocpjaa", sum := "d2b2ceb3a514cdf6ed9e410e82fb0385b2090275c0020e08a975de8482885654", func := "caulk/caulklaw03.MatrixInverts", spec := "matrixInverts", apart := false }
def MatrixInvertsSaid : Prop := matrixInvertsRow.holds Try.pinned (OpenSpec.ofChange matrixInvertsSpec)

/-- ITS FALSE NEIGHBOUR: 'it returns false'. Refute it at one input. -/
def matrixInvertsWrong : ChangeSpec := { name := "matrixInverts", fn := fun _ => fun
  | [d] => { results := [.lit (.bool false)], args := [d] }
  | _ => none }
def MatrixInvertsWrongFalsely : Prop := matrixInvertsRow.holds Try.pinned (OpenSpec.ofChange matrixInvertsWrong)

/-- 'caulklaw03.MatrixEither': WHATEVER THE INPUT: true; the input reads as it did. -/
def matrixEitherSpec : ChangeSpec := { name := "matrixEither", fn := fun _ => fun
  | [d1, d2] => { results := [.lit (.bool true)], args := [d1, d2] }
  | _ => none }
def matrixEitherRow : OpenClaim := { program := "ytlobaomleocpjaa", sum := "d2b2ceb3a514cdf6ed9e410e82fb0385b2090275c0020e08a975de8482885654", func := "caulk/caulklaw03.MatrixEither", spec := "matrixEither", apart := false }
def MatrixEitherSaid : Prop := matrixEitherRow.holds Try.pinned (OpenSpec.ofChange matrixEitherSpec)

/-- ITS FALSE NEIGHBOUR: 'it returns false'. Refute it at one input. -/
def matrixEitherWrong : ChangeSpec := { name := "matrixEither", fn := fun _ => fun
  | [d1, d2] => { results := [.lit (.bool false)], args := [d1, d2] }
  | _ => none }
def MatrixEitherWrongFalsely : Prop := matrixEitherRow.holds Try.pinned (OpenSpec.ofChange matrixEitherWrong)

/-- 'caulklaw03.MatrixAny': WHATEVER THE INPUT: true; the input reads as it did. -/
def matrixAnySpec : ChangeSpec := { name := "matrixAny", fn := fun _ => fun
  | [d1, d2, d3] => { results := [.lit (.bool true)], args := [d1, d2, d3] }
  | _ => none }
def matrixAnyRow : OpenClaim := { program := "ytlobaomleocpjaa", sum := "d2b2ceb3a514cdf6ed9e410e82fb0385b2090275c0020e08a975de8482885654", func := "caulk/caulklaw03.MatrixAny", spec := "matrixAny", apart := false }
def MatrixAnySaid : Prop := matrixAnyRow.holds Try.pinned (OpenSpec.ofChange matrixAnySpec)

/-- ITS FALSE NEIGHBOUR: 'it returns false'. Refute it at one input. -/
def matrixAnyWrong : ChangeSpec := { name := "matrixAny", fn := fun _ => fun
  | [d1, d2, d3] => { results := [.lit (.bool false)], args := [d1, d2, d3] }
  | _ => none }
def MatrixAnyWrongFalsely : Prop := matrixAnyRow.holds Try.pinned (OpenSpec.ofChange matrixAnyWrong)

/-- 'caulklaw04.RsEncodes': WHATEVER THE INPUT: true; the input reads as it did. -/
def rsEncodesSpec : ChangeSpec := { name := "rsEncodes", fn := fun _ => fun
  | [d1, d2, d3] => { results := [.lit (.bool true)], args := [d1, d2, d3] }
  | _ => none }
def rsEncodesRow : OpenClaim := { program := "ytlobaomleocpjaa", sum := "d2b2ceb3a514cdf6ed9e410e82fb0385b2090275c0020e08a975de8482885654", func := "caulk/caulklaw04.RsEncodes", spec := "rsEncodes", apart := false }
def RsEncodesSaid : Prop := rsEncodesRow.holds Try.pinned (OpenSpec.ofChange rsEncodesSpec)

/-- ITS FALSE NEIGHBOUR: 'it returns false'. Refute it at one input. -/
def rsEncodesWrong : ChangeSpec := { name := "rsEncodes", fn := fun _ => fun
  | [d1, d2, d3] => { results := [.lit (.bool false)], args := [d1, d2, d3] }
  | _ => none }
def RsEncodesWrongFalsely : Prop := rsEncodesRow.holds Try.pinned (OpenSpec.ofChange rsEncodesWrong)

/-- 'caulklaw04.RsDecodes': WHATEVER THE INPUT: true; the input reads as it did. -/
def rsDecodesSpec : ChangeSpec := { name := "rsDecodes", fn := fun _ => fun
  | [d1, d2, d3] => { results := [.lit (.bool true)], args := [d1, d2, d3] }
  | _ => none }
def rsDecodesRow : OpenClaim := { program := "ytlobaomleocpjaa", sum := "d2b2ceb3a514cdf6ed9e410e82fb0385b2090275c0020e08a975de8482885654", func := "caulk/caulklaw04.RsDecodes", spec := "rsDecodes", apart := false }
def RsDecodesSaid : Prop := rsDecodesRow.holds Try.pinned (OpenSpec.ofChange rsDecodesSpec)

/-- ITS FALSE NEIGHBOUR: 'it returns false'. Refute it at one input. -/
def rsDecodesWrong : ChangeSpec := { name := "rsDecodes", fn := fun _ => fun
  | [d1, d2, d3] => { results := [.lit (.bool false)], args := [d1, d2, d3] }
  | _ => none }
def RsDecodesWrongFalsely : Prop := rsDecodesRow.holds Try.pinned (OpenSpec.ofChange rsDecodesWrong)

/-- 'caulklaw04.RsBack': WHATEVER THE INPUT: true; the input reads as it did. -/
def rsBackSpec : ChangeSpec := { name := "rsBack", fn := fun _ => fun
  | [d1, d2, d3, d4] => { results := [.lit (.bool true)], args := [d1, d2, d3, d4] }
  | _ => none }
def rsBackRow : OpenClaim := { program := "ytlobaomleocpjaa", sum := "d2b2ceb3a514cdf6ed9e410e82fb0385b2090275c0020e08a975de8482885654", func := "caulk/caulklaw04.RsBack", spec := "rsBack", apart := false }
def RsBackSaid : Prop := rsBackRow.holds Try.pinned (OpenSpec.ofChange rsBackSpec)

/-- ITS FALSE NEIGHBOUR: 'it returns false'. Refute it at one input. -/
def rsBackWrong : ChangeSpec := { name := "rsBack", fn := fun _ => fun
  | [d1, d2, d3, d4] => { results := [.lit (.bool false)], args := [d1, d2, d3, d4] }
  | _ => none }
def RsBackWrongFalsely : Prop := rsBackRow.holds Try.pinned (OpenSpec.ofChange rsBackWrong)

/-- 'caulklaw04.RsTogether': WHATEVER THE INPUT: true; the input reads as it did. -/
def rsTogetherSpec : ChangeSpec := { name := "rsTogether", fn := fun _ => fun
  | [d1, d2, d3, d4] => { results := [.lit (.bool true)], args := [d1, d2, d3, d4] }
  | _ => none }
def rsTogetherRow : OpenClaim := { program := "ytlobaomleocpjaa", sum := "d2b2ceb3a514cdf6ed9e410e82fb0385b2090275c0020e08a975de8482885654", func := "caulk/caulklaw04.RsTogether", spec := "rsTogether", apart := false }
def RsTogetherSaid : Prop := rsTogetherRow.holds Try.pinned (OpenSpec.ofChange rsTogetherSpec)

/-- ITS FALSE NEIGHBOUR: 'it returns false'. Refute it at one input. -/
def rsTogetherWrong : ChangeSpec := { name := "rsTogether", fn := fun _ => fun
  | [d1, d2, d3, d4] => { results := [.lit (.bool false)], args := [d1, d2, d3, d4] }
  | _ => none }
def RsTogetherWrongFalsely : Prop := rsTogetherRow.holds Try.pinned (OpenSpec.ofChange rsTogetherWrong)

/-- 'caulklaw04.RsEach': WHATEVER THE INPUT: true; the input reads as it did. -/
def rsEachSpec : ChangeSpec := { name := "rsEach", fn := fun _ => fun
  | [d1, d2, d3, d4, d5, d6] => { results := [.lit (.bool true)], args := [d1, d2, d3, d4, d5, d6] }
  | _ => none }
def rsEachRow : OpenClaim := { program := "ytlobaomleocpjaa", sum := "d2b2ceb3a514cdf6ed9e410e82fb0385b2090275c0020e08a975de8482885654", func := "caulk/caulklaw04.RsEach", spec := "rsEach", apart := false }
def RsEachSaid : Prop := rsEachRow.holds Try.pinned (OpenSpec.ofChange rsEachSpec)

/-- ITS FALSE NEIGHBOUR: 'it returns false'. Refute it at one input. -/
def rsEachWrong : ChangeSpec := { name := "rsEach", fn := fun _ => fun
  | [d1, d2, d3, d4, d5, d6] => { results := [.lit (.bool false)], args := [d1, d2, d3, d4, d5, d6] }
  | _ => none }
def RsEachWrongFalsely : Prop := rsEachRow.holds Try.pinned (OpenSpec.ofChange rsEachWrong)

/- THE SECOND FORM. 'bulk': how many values and letters a reading holds, each counted each time it is reached (what is shared counts as often as it is met; a slice's spare places count too). A statement '..UptoSaid' is the law's where the arguments, and the package variables that the reading takes, are together of bulk at most 1048576: NARROWER than '..Said'. Prove '..Said' where nothing that the law and all that it calls make is longer than what came in: it says more and counts as full. Else prove '..UptoSaid'. A law counts once. -/
mutual
def uptoBulk {H : Type} : DataW H → Nat
  | .lit (.string bytes) => bytes.length + 1
  | .lit _ => 1
  | .nil => 1
  | .ptr d => uptoBulk d + 1
  | .slice elems spare => uptoBulkAll elems + uptoBulkAll spare + 1
  | .agg parts => uptoBulkAll parts + 1
  | .iface _ d => uptoBulk d + 1
  | .map entries => uptoBulkEntries entries + 1
  | .held _ => 1
def uptoBulkAll {H : Type} : List (DataW H) → Nat
  | [] => 0
  | d :: r => uptoBulk d + uptoBulkAll r
def uptoBulkEntries {H : Type} : List (Lit × DataW H) → Nat
  | [] => 0
  | x :: r => uptoBulkEntry x + uptoBulkEntries r
def uptoBulkEntry {H : Type} : Lit × DataW H → Nat
  | (.string bytes, d) => bytes.length + uptoBulk d + 1
  | (_, d) => uptoBulk d + 1
 end
def uptoSmall : (H : Type) → List (DataW H) → Bool := fun _ ds => decide (uptoBulkAll ds ≤ 1048576)
def OpenSpec.upto (s : _root_.Go.ChangeSpec) : _root_.Go.OpenSpec := { _root_.Go.OpenSpec.ofChange s with cond := some uptoSmall }

/-- 'caulklaw03.MatrixTells', WHERE WHAT IT READS IS OF BULK AT MOST 1048576: true; the input reads as it did. -/
def matrixTellsUptoRow : OpenClaim := { program := "ytlobaomleocpjaa", sum := "d2b2ceb3a514cdf6ed9e410e82fb0385b2090275c0020e08a975de8482885654", func := "caulk/caulklaw03.MatrixTells", spec := "matrixTells", apart := false, narrowed := true }
def MatrixTellsUptoSaid : Prop := matrixTellsUptoRow.holds Try.pinned (OpenSpec.upto matrixTellsSpec)

/-- 'caulklaw03.MatrixInverts', WHERE WHAT IT READS IS OF BULK AT MOST 1048576: true; the input reads as it did. -/
def matrixInvertsUptoRow : OpenClaim := { program := "ytlobaomleocpjaa", sum := "d2b2ceb3a514cdf6ed9e410e82fb0385b2090275c0020e08a975de8482885654", func := "caulk/caulklaw03.MatrixInverts", spec := "matrixInverts", apart := false, narrowed := true }
def MatrixInvertsUptoSaid : Prop := matrixInvertsUptoRow.holds Try.pinned (OpenSpec.upto matrixInvertsSpec)

/-- 'caulklaw03.MatrixEither', WHERE WHAT IT READS IS OF BULK AT MOST 1048576: true; the input reads as it did. -/
def matrixEitherUptoRow : OpenClaim := { program := "ytlobaomleocpjaa", sum := "d2b2ceb3a514cdf6ed9e410e82fb0385b2090275c0020e08a975de8482885654", func := "caulk/caulklaw03.MatrixEither", spec := "matrixEither", apart := false, narrowed := true }
def MatrixEitherUptoSaid : Prop := matrixEitherUptoRow.holds Try.pinned (OpenSpec.upto matrixEitherSpec)

/-- 'caulklaw03.MatrixAny', WHERE WHAT IT READS IS OF BULK AT MOST 1048576: true; the input reads as it did. -/
def matrixAnyUptoRow : OpenClaim := { program := "ytlobaomleocpjaa", sum := "d2b2ceb3a514cdf6ed9e410e82fb0385b2090275c0020e08a975de8482885654", func := "caulk/caulklaw03.MatrixAny", spec := "matrixAny", apart := false, narrowed := true }
def MatrixAnyUptoSaid : Prop := matrixAnyUptoRow.holds Try.pinned (OpenSpec.upto matrixAnySpec)

/-- 'caulklaw04.RsEncodes', WHERE WHAT IT READS IS OF BULK AT MOST 1048576: true; the input reads as it did. -/
def rsEncodesUptoRow : OpenClaim := { program := "ytlobaomleocpjaa", sum := "d2b2ceb3a514cdf6ed9e410e82fb0385b2090275c0020e08a975de8482885654", func := "caulk/caulklaw04.RsEncodes", spec := "rsEncodes", apart := false, narrowed := true }
def RsEncodesUptoSaid : Prop := rsEncodesUptoRow.holds Try.pinned (OpenSpec.upto rsEncodesSpec)

/-- 'caulklaw04.RsDecodes', WHERE WHAT IT READS IS OF BULK AT MOST 1048576: true; the input reads as it did. -/
def rsDecodesUptoRow : OpenClaim := { program := "ytlobaomleocpjaa", sum := "d2b2ceb3a514cdf6ed9e410e82fb0385b2090275c0020e08a975de8482885654", func := "caulk/caulklaw04.RsDecodes", spec := "rsDecodes", apart := false, narrowed := true }
def RsDecodesUptoSaid : Prop := rsDecodesUptoRow.holds Try.pinned (OpenSpec.upto rsDecodesSpec)

/-- 'caulklaw04.RsBack', WHERE WHAT IT READS IS OF BULK AT MOST 1048576: true; the input reads as it did. -/
def rsBackUptoRow : OpenClaim := { program := "ytlobaomleocpjaa", sum := "d2b2ceb3a514cdf6ed9e410e82fb0385b2090275c0020e08a975de8482885654", func := "caulk/caulklaw04.RsBack", spec := "rsBack", apart := false, narrowed := true }
def RsBackUptoSaid : Prop := rsBackUptoRow.holds Try.pinned (OpenSpec.upto rsBackSpec)

/-- 'caulklaw04.RsTogether', WHERE WHAT IT READS IS OF BULK AT MOST 1048576: true; the input reads as it did. -/
def rsTogetherUptoRow : OpenClaim := { program := "ytlobaomleocpjaa", sum := "d2b2ceb3a514cdf6ed9e410e82fb0385b2090275c0020e08a975de8482885654", func := "caulk/caulklaw04.RsTogether", spec := "rsTogether", apart := false, narrowed := true }
def RsTogetherUptoSaid : Prop := rsTogetherUptoRow.holds Try.pinned (OpenSpec.upto rsTogetherSpec)

/-- 'caulklaw04.RsEach', WHERE WHAT IT READS IS OF BULK AT MOST 1048576: true; the input reads as it did. -/
def rsEachUptoRow : OpenClaim := { program := "ytlobaomleocpjaa", sum := "d2b2ceb3a514cdf6ed9e410e82fb0385b2090275c0020e08a975de8482885654", func := "caulk/caulklaw04.RsEach", spec := "rsEach", apart := false, narrowed := true }
def RsEachUptoSaid : Prop := rsEachUptoRow.holds Try.pinned (OpenSpec.upto rsEachSpec)

end Rows
end Go.Proofs.Ytlobaomleocpjaa
