/-
  DERIVED. GIVEN WITH THE SEED: THE CARDS: each row of YtlobaomleocpjabDoorRows.lean that lists a variable, with what it lists TIED to the program's text (the seventh form; the later family's looks); each row that meets fmt, with fmt's text TOLD by the authors' own Lean function (tested against real Go, not proved from fmt's source: count such statements apart). THE CARD IS WHAT COUNTS. Prove the row's statement (the work); the ties are given (YtlobaomleocpjabDoorTie.lean); close each card by the builder's one call (the guide's Derived/Test/ToyasCard.lean, 'card_holds'). Laid BY PROGRAM, IN A SANDBOX (cutbox-door.mjs). By AI agents, Wed Nov 11 2026. No macro, syntax, notation, axiom, sorry.
-/
import Derived.Test.YtlobaomleocpjabDoorRows
import GoSem.ClaimSeven
namespace Go.Proofs.YtlobaomleocpjabDoor
namespace Rows

/-- THE TIED CARD OF 'caulktop.TopSolved'. -/
def topSolvedCard : Claim7 := { stood := { row := topSolvedRow, standIns := [], harness := (true, "47a35649e23c3cf3cb2bee1b34f04cd0196dd29ac0de29677c907ef8839d76d9"), looks := false }, kinds := [], alts := [], laidByText := true, laidKinds := [.data], laidTests := true, laidLooks := .later }
def TopSolvedCardSaid : Prop := Claim7.holds Tryd.pinned (.plain (OpenSpec.ofChange topSolvedSpec)) topSolvedCard

/-- THE TIED CARD OF 'caulklaw35.ZerosBack'. -/
def zerosBackCard : Claim7 := { stood := { row := zerosBackRow, standIns := [], harness := (true, "47a35649e23c3cf3cb2bee1b34f04cd0196dd29ac0de29677c907ef8839d76d9"), looks := false }, kinds := [], alts := [], laidByText := true, laidKinds := [.data, .pinned], laidTests := true, laidLooks := .later }
def ZerosBackCardSaid : Prop := Claim7.holds Tryd.pinned (.plain (OpenSpec.ofChange zerosBackSpec)) zerosBackCard

/-- THE TIED CARD OF 'caulklaw35.ZerosRows'. -/
def zerosRowsCard : Claim7 := { stood := { row := zerosRowsRow, standIns := [], harness := (true, "47a35649e23c3cf3cb2bee1b34f04cd0196dd29ac0de29677c907ef8839d76d9"), looks := false }, kinds := [], alts := [], laidByText := true, laidKinds := [.data, .pinned], laidTests := true, laidLooks := .later }
def ZerosRowsCardSaid : Prop := Claim7.holds Tryd.pinned (.plain (OpenSpec.ofChange zerosRowsSpec)) zerosRowsCard

/-- THE TIED CARD OF 'caulklaw34.LocateTells'. -/
def locateTellsCard : Claim7 := { stood := { row := locateTellsRow, standIns := [], harness := (true, "47a35649e23c3cf3cb2bee1b34f04cd0196dd29ac0de29677c907ef8839d76d9"), looks := false }, kinds := [], alts := [], laidByText := true, laidKinds := [.data, .pinned], laidTests := true, laidLooks := .later }
def LocateTellsCardSaid : Prop := Claim7.holds Tryd.pinned (.plain (OpenSpec.ofChange locateTellsSpec)) locateTellsCard

/-- THE TIED CARD OF 'caulklaw34.LocateFinds'. -/
def locateFindsCard : Claim7 := { stood := { row := locateFindsRow, standIns := [], harness := (true, "47a35649e23c3cf3cb2bee1b34f04cd0196dd29ac0de29677c907ef8839d76d9"), looks := false }, kinds := [], alts := [], laidByText := true, laidKinds := [.data, .pinned], laidTests := true, laidLooks := .later }
def LocateFindsCardSaid : Prop := Claim7.holds Tryd.pinned (.plain (OpenSpec.ofChange locateFindsSpec)) locateFindsCard

/-- THE TIED CARD OF 'caulklaw34.LocateFixes'. -/
def locateFixesCard : Claim7 := { stood := { row := locateFixesRow, standIns := [], harness := (true, "47a35649e23c3cf3cb2bee1b34f04cd0196dd29ac0de29677c907ef8839d76d9"), looks := false }, kinds := [], alts := [], laidByText := true, laidKinds := [.data, .pinned], laidTests := true, laidLooks := .later }
def LocateFixesCardSaid : Prop := Claim7.holds Tryd.pinned (.plain (OpenSpec.ofChange locateFixesSpec)) locateFixesCard

/-- THE SECOND FORM's CARD OF 'caulktop.TopSolved'. -/
def topSolvedUptoCard : Claim7 := { stood := { row := topSolvedUptoRow, standIns := [], harness := (true, "47a35649e23c3cf3cb2bee1b34f04cd0196dd29ac0de29677c907ef8839d76d9"), looks := false }, kinds := [], alts := [], laidByText := true, laidKinds := [.data], laidTests := true, laidLooks := .later }
def TopSolvedUptoCardSaid : Prop := Claim7.holds Tryd.pinned (.plain (OpenSpec.upto topSolvedSpec)) topSolvedUptoCard

/-- THE SECOND FORM's CARD OF 'caulklaw35.ZerosBack'. -/
def zerosBackUptoCard : Claim7 := { stood := { row := zerosBackUptoRow, standIns := [], harness := (true, "47a35649e23c3cf3cb2bee1b34f04cd0196dd29ac0de29677c907ef8839d76d9"), looks := false }, kinds := [], alts := [], laidByText := true, laidKinds := [.data, .pinned], laidTests := true, laidLooks := .later }
def ZerosBackUptoCardSaid : Prop := Claim7.holds Tryd.pinned (.plain (OpenSpec.upto zerosBackSpec)) zerosBackUptoCard

/-- THE SECOND FORM's CARD OF 'caulklaw35.ZerosRows'. -/
def zerosRowsUptoCard : Claim7 := { stood := { row := zerosRowsUptoRow, standIns := [], harness := (true, "47a35649e23c3cf3cb2bee1b34f04cd0196dd29ac0de29677c907ef8839d76d9"), looks := false }, kinds := [], alts := [], laidByText := true, laidKinds := [.data, .pinned], laidTests := true, laidLooks := .later }
def ZerosRowsUptoCardSaid : Prop := Claim7.holds Tryd.pinned (.plain (OpenSpec.upto zerosRowsSpec)) zerosRowsUptoCard

/-- THE SECOND FORM's CARD OF 'caulklaw34.LocateTells'. -/
def locateTellsUptoCard : Claim7 := { stood := { row := locateTellsUptoRow, standIns := [], harness := (true, "47a35649e23c3cf3cb2bee1b34f04cd0196dd29ac0de29677c907ef8839d76d9"), looks := false }, kinds := [], alts := [], laidByText := true, laidKinds := [.data, .pinned], laidTests := true, laidLooks := .later }
def LocateTellsUptoCardSaid : Prop := Claim7.holds Tryd.pinned (.plain (OpenSpec.upto locateTellsSpec)) locateTellsUptoCard

/-- THE SECOND FORM's CARD OF 'caulklaw34.LocateFinds'. -/
def locateFindsUptoCard : Claim7 := { stood := { row := locateFindsUptoRow, standIns := [], harness := (true, "47a35649e23c3cf3cb2bee1b34f04cd0196dd29ac0de29677c907ef8839d76d9"), looks := false }, kinds := [], alts := [], laidByText := true, laidKinds := [.data, .pinned], laidTests := true, laidLooks := .later }
def LocateFindsUptoCardSaid : Prop := Claim7.holds Tryd.pinned (.plain (OpenSpec.upto locateFindsSpec)) locateFindsUptoCard

/-- THE SECOND FORM's CARD OF 'caulklaw34.LocateFixes'. -/
def locateFixesUptoCard : Claim7 := { stood := { row := locateFixesUptoRow, standIns := [], harness := (true, "47a35649e23c3cf3cb2bee1b34f04cd0196dd29ac0de29677c907ef8839d76d9"), looks := false }, kinds := [], alts := [], laidByText := true, laidKinds := [.data, .pinned], laidTests := true, laidLooks := .later }
def LocateFixesUptoCardSaid : Prop := Claim7.holds Tryd.pinned (.plain (OpenSpec.upto locateFixesSpec)) locateFixesUptoCard
end Rows
end Go.Proofs.YtlobaomleocpjabDoor
