/-
  DERIVED. GIVEN WITH THE SEED: THE CARDS: each row of YtegfembmnnmnbabDoorRows.lean that lists a variable, with what it lists TIED to the program's text (the seventh form; the later family's looks); each row that meets fmt, with fmt's text TOLD by the authors' own Lean function (tested against real Go, not proved from fmt's source: count such statements apart). THE CARD IS WHAT COUNTS. Prove the row's statement (the work); the ties are given (YtegfembmnnmnbabDoorTie.lean); close each card by the builder's one call (the guide's Derived/Test/ToyasCard.lean, 'card_holds'). Laid BY PROGRAM, IN A SANDBOX (cutbox-door.mjs). By AI agents, Wed Nov 11 2026. No macro, syntax, notation, axiom, sorry.
-/
import Derived.Test.YtegfembmnnmnbabDoorRows
import GoSem.ClaimSeven
namespace Go.Proofs.YtegfembmnnmnbabDoor
namespace Rows

/-- THE TIED CARD OF 'caulklaw33.CombineJoins'. -/
def combineJoinsCard : Claim7 := { stood := { row := combineJoinsRow, standIns := [], harness := (true, "531d6c87f9a992889dd5ba6a96e5c5cdf1c3eef5458ffe714628d0e2d11446c4"), looks := false }, kinds := [], alts := [], laidByText := true, laidKinds := [.data], laidTests := true, laidLooks := .later }
def CombineJoinsCardSaid : Prop := Claim7.holds Tryd.pinned (.plain (OpenSpec.ofChange combineJoinsSpec)) combineJoinsCard

/-- THE TIED CARD OF 'caulklaw33.CombineSteps'. -/
def combineStepsCard : Claim7 := { stood := { row := combineStepsRow, standIns := [], harness := (true, "531d6c87f9a992889dd5ba6a96e5c5cdf1c3eef5458ffe714628d0e2d11446c4"), looks := false }, kinds := [], alts := [], laidByText := true, laidKinds := [.data], laidTests := true, laidLooks := .later }
def CombineStepsCardSaid : Prop := Claim7.holds Tryd.pinned (.plain (OpenSpec.ofChange combineStepsSpec)) combineStepsCard

/-- THE TIED CARD OF 'caulklaw33.CombineOne'. -/
def combineOneCard : Claim7 := { stood := { row := combineOneRow, standIns := [], harness := (true, "531d6c87f9a992889dd5ba6a96e5c5cdf1c3eef5458ffe714628d0e2d11446c4"), looks := false }, kinds := [], alts := [], laidByText := true, laidKinds := [.data], laidTests := true, laidLooks := .later }
def CombineOneCardSaid : Prop := Claim7.holds Tryd.pinned (.plain (OpenSpec.ofChange combineOneSpec)) combineOneCard

/-- THE SECOND FORM's CARD OF 'caulklaw33.CombineJoins'. -/
def combineJoinsUptoCard : Claim7 := { stood := { row := combineJoinsUptoRow, standIns := [], harness := (true, "531d6c87f9a992889dd5ba6a96e5c5cdf1c3eef5458ffe714628d0e2d11446c4"), looks := false }, kinds := [], alts := [], laidByText := true, laidKinds := [.data], laidTests := true, laidLooks := .later }
def CombineJoinsUptoCardSaid : Prop := Claim7.holds Tryd.pinned (.plain (OpenSpec.upto combineJoinsSpec)) combineJoinsUptoCard

/-- THE SECOND FORM's CARD OF 'caulklaw33.CombineSteps'. -/
def combineStepsUptoCard : Claim7 := { stood := { row := combineStepsUptoRow, standIns := [], harness := (true, "531d6c87f9a992889dd5ba6a96e5c5cdf1c3eef5458ffe714628d0e2d11446c4"), looks := false }, kinds := [], alts := [], laidByText := true, laidKinds := [.data], laidTests := true, laidLooks := .later }
def CombineStepsUptoCardSaid : Prop := Claim7.holds Tryd.pinned (.plain (OpenSpec.upto combineStepsSpec)) combineStepsUptoCard

/-- THE SECOND FORM's CARD OF 'caulklaw33.CombineOne'. -/
def combineOneUptoCard : Claim7 := { stood := { row := combineOneUptoRow, standIns := [], harness := (true, "531d6c87f9a992889dd5ba6a96e5c5cdf1c3eef5458ffe714628d0e2d11446c4"), looks := false }, kinds := [], alts := [], laidByText := true, laidKinds := [.data], laidTests := true, laidLooks := .later }
def CombineOneUptoCardSaid : Prop := Claim7.holds Tryd.pinned (.plain (OpenSpec.upto combineOneSpec)) combineOneUptoCard
end Rows
end Go.Proofs.YtegfembmnnmnbabDoor
