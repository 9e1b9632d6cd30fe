/-
  DERIVED. GIVEN WITH THE SEED: THE CARDS: each row of YteiiaonpdamkhaaDoorRows.lean that lists a variable, with what it lists TIED to the program's text (the seventh form; the later family's looks); each row that meets fmt, with fmt's text TOLD by the authors' own Lean function (tested against real Go, not proved from fmt's source: count such statements apart). THE CARD IS WHAT COUNTS. Prove the row's statement (the work); the ties are given (YteiiaonpdamkhaaDoorTie.lean); close each card by the builder's one call (the guide's Derived/Test/ToyasCard.lean, 'card_holds'). Laid BY PROGRAM, IN A SANDBOX (cutbox-door.mjs). By AI agents, Wed Nov 11 2026. No macro, syntax, notation, axiom, sorry.
-/
import Derived.Test.YteiiaonpdamkhaaDoorRows
import GoSem.ClaimSeven
namespace Go.Proofs.YteiiaonpdamkhaaDoor
namespace Rows

/-- THE TIED CARD OF 'caulklaw34.LocateTells'. -/
def locateTellsCard : Claim7 := { stood := { row := locateTellsRow, standIns := [], harness := (true, "f62bdd1dfa7c927a59d5d82e6554e5b590c5d9b102507ff3865b1c43fff05bf7"), looks := false }, kinds := [], alts := [], laidByText := true, laidKinds := [.data, .pinned], laidTests := true, laidLooks := .later }
def LocateTellsCardSaid : Prop := Claim7.holds Tryd.pinned (.plain (OpenSpec.ofChange locateTellsSpec)) locateTellsCard

/-- THE TIED CARD OF 'caulklaw34.LocateFinds'. -/
def locateFindsCard : Claim7 := { stood := { row := locateFindsRow, standIns := [], harness := (true, "f62bdd1dfa7c927a59d5d82e6554e5b590c5d9b102507ff3865b1c43fff05bf7"), looks := false }, kinds := [], alts := [], laidByText := true, laidKinds := [.data, .pinned], laidTests := true, laidLooks := .later }
def LocateFindsCardSaid : Prop := Claim7.holds Tryd.pinned (.plain (OpenSpec.ofChange locateFindsSpec)) locateFindsCard

/-- THE TIED CARD OF 'caulklaw34.LocateFixes'. -/
def locateFixesCard : Claim7 := { stood := { row := locateFixesRow, standIns := [], harness := (true, "f62bdd1dfa7c927a59d5d82e6554e5b590c5d9b102507ff3865b1c43fff05bf7"), looks := false }, kinds := [], alts := [], laidByText := true, laidKinds := [.data, .pinned], laidTests := true, laidLooks := .later }
def LocateFixesCardSaid : Prop := Claim7.holds Tryd.pinned (.plain (OpenSpec.ofChange locateFixesSpec)) locateFixesCard

/-- THE TIED CARD OF 'caulktop.TopMended'. -/
def topMendedCard : Claim7 := { stood := { row := topMendedRow, standIns := [], harness := (true, "f62bdd1dfa7c927a59d5d82e6554e5b590c5d9b102507ff3865b1c43fff05bf7"), looks := false }, kinds := [], alts := [], laidByText := true, laidKinds := [.data, .data, .pinned], laidTests := true, laidLooks := .later }
def TopMendedCardSaid : Prop := Claim7.holds Tryd.pinned (.plain (OpenSpec.ofChange topMendedSpec)) topMendedCard

/-- THE SECOND FORM's CARD OF 'caulklaw34.LocateTells'. -/
def locateTellsUptoCard : Claim7 := { stood := { row := locateTellsUptoRow, standIns := [], harness := (true, "f62bdd1dfa7c927a59d5d82e6554e5b590c5d9b102507ff3865b1c43fff05bf7"), looks := false }, kinds := [], alts := [], laidByText := true, laidKinds := [.data, .pinned], laidTests := true, laidLooks := .later }
def LocateTellsUptoCardSaid : Prop := Claim7.holds Tryd.pinned (.plain (OpenSpec.upto locateTellsSpec)) locateTellsUptoCard

/-- THE SECOND FORM's CARD OF 'caulklaw34.LocateFinds'. -/
def locateFindsUptoCard : Claim7 := { stood := { row := locateFindsUptoRow, standIns := [], harness := (true, "f62bdd1dfa7c927a59d5d82e6554e5b590c5d9b102507ff3865b1c43fff05bf7"), looks := false }, kinds := [], alts := [], laidByText := true, laidKinds := [.data, .pinned], laidTests := true, laidLooks := .later }
def LocateFindsUptoCardSaid : Prop := Claim7.holds Tryd.pinned (.plain (OpenSpec.upto locateFindsSpec)) locateFindsUptoCard

/-- THE SECOND FORM's CARD OF 'caulklaw34.LocateFixes'. -/
def locateFixesUptoCard : Claim7 := { stood := { row := locateFixesUptoRow, standIns := [], harness := (true, "f62bdd1dfa7c927a59d5d82e6554e5b590c5d9b102507ff3865b1c43fff05bf7"), looks := false }, kinds := [], alts := [], laidByText := true, laidKinds := [.data, .pinned], laidTests := true, laidLooks := .later }
def LocateFixesUptoCardSaid : Prop := Claim7.holds Tryd.pinned (.plain (OpenSpec.upto locateFixesSpec)) locateFixesUptoCard

/-- THE SECOND FORM's CARD OF 'caulktop.TopMended'. -/
def topMendedUptoCard : Claim7 := { stood := { row := topMendedUptoRow, standIns := [], harness := (true, "f62bdd1dfa7c927a59d5d82e6554e5b590c5d9b102507ff3865b1c43fff05bf7"), looks := false }, kinds := [], alts := [], laidByText := true, laidKinds := [.data, .data, .pinned], laidTests := true, laidLooks := .later }
def TopMendedUptoCardSaid : Prop := Claim7.holds Tryd.pinned (.plain (OpenSpec.upto topMendedSpec)) topMendedUptoCard
end Rows
end Go.Proofs.YteiiaonpdamkhaaDoor
