/-
  DERIVED. GIVEN WITH THE SEED: THE CARDS: each row of YtoglapodcejocaaDoorRows.lean that lists a variable, with what it lists TIED to the program's text (the seventh form; the later family's looks); each row that meets fmt, with fmt's text TOLD by the authors' own Lean function (tested against real Go, not proved from fmt's source: count such statements apart). THE CARD IS WHAT COUNTS. Prove the row's statement (the work); the ties are given (YtoglapodcejocaaDoorTie.lean); close each card by the builder's one call (the guide's Derived/Test/ToyasCard.lean, 'card_holds'). Laid BY PROGRAM, IN A SANDBOX (cutbox-door.mjs). By AI agents, Wed Nov 11 2026. No macro, syntax, notation, axiom, sorry.
-/
import Derived.Test.YtoglapodcejocaaDoorRows
import GoSem.ClaimSeven
namespace Go.Proofs.YtoglapodcejocaaDoor
namespace Rows

/-- THE TIED CARD OF 'caulktop.TopTables'. -/
def topTablesCard : Claim7 := { stood := { row := topTablesRow, standIns := [], harness := (true, "ab09afb5a33915a58c88d3b0f3b29883c482f3d4296127ffb339aee3a9ab3383"), looks := false }, kinds := [], alts := [], laidByText := true, laidKinds := [.data], laidTests := true, laidLooks := .later }
def TopTablesCardSaid : Prop := Claim7.holds Tryd.pinned (.plain (OpenSpec.ofChange topTablesSpec)) topTablesCard

/-- THE TIED CARD OF 'caulktop.TopPacked'. -/
def topPackedCard : Claim7 := { stood := { row := topPackedRow, standIns := [], harness := (true, "ab09afb5a33915a58c88d3b0f3b29883c482f3d4296127ffb339aee3a9ab3383"), looks := false }, kinds := [], alts := [], laidByText := true, laidKinds := [.data, .data, .pinned], laidTests := true, laidLooks := .later }
def TopPackedCardSaid : Prop := Claim7.holds Tryd.pinned (.plain (OpenSpec.ofChange topPackedSpec)) topPackedCard

/-- THE SECOND FORM's CARD OF 'caulktop.TopTables'. -/
def topTablesUptoCard : Claim7 := { stood := { row := topTablesUptoRow, standIns := [], harness := (true, "ab09afb5a33915a58c88d3b0f3b29883c482f3d4296127ffb339aee3a9ab3383"), looks := false }, kinds := [], alts := [], laidByText := true, laidKinds := [.data], laidTests := true, laidLooks := .later }
def TopTablesUptoCardSaid : Prop := Claim7.holds Tryd.pinned (.plain (OpenSpec.upto topTablesSpec)) topTablesUptoCard

/-- THE SECOND FORM's CARD OF 'caulktop.TopPacked'. -/
def topPackedUptoCard : Claim7 := { stood := { row := topPackedUptoRow, standIns := [], harness := (true, "ab09afb5a33915a58c88d3b0f3b29883c482f3d4296127ffb339aee3a9ab3383"), looks := false }, kinds := [], alts := [], laidByText := true, laidKinds := [.data, .data, .pinned], laidTests := true, laidLooks := .later }
def TopPackedUptoCardSaid : Prop := Claim7.holds Tryd.pinned (.plain (OpenSpec.upto topPackedSpec)) topPackedUptoCard
end Rows
end Go.Proofs.YtoglapodcejocaaDoor
