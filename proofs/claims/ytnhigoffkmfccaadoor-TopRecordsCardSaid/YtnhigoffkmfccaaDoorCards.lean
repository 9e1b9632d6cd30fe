/-
  DERIVED. GIVEN WITH THE SEED: THE CARDS: each row of YtnhigoffkmfccaaDoorRows.lean that lists a variable, with what it lists TIED to the program's text (the seventh form; the later family's looks); each row that meets fmt, with fmt's text TOLD by the authors' own Lean function (tested against real Go, not proved from fmt's source: count such statements apart). THE CARD IS WHAT COUNTS. Prove the row's statement (the work); the ties are given (YtnhigoffkmfccaaDoorTie.lean); close each card by the builder's one call (the guide's Derived/Test/ToyasCard.lean, 'card_holds'). Laid BY PROGRAM, IN A SANDBOX (cutbox-door.mjs). By AI agents, Wed Nov 11 2026. No macro, syntax, notation, axiom, sorry.
-/
import Derived.Test.YtnhigoffkmfccaaDoorRows
import GoSem.ClaimSeven
namespace Go.Proofs.YtnhigoffkmfccaaDoor
namespace Rows

/-- THE TIED CARD OF 'caulktop.TopSectors'. -/
def topSectorsCard : Claim7 := { stood := { row := topSectorsRow, standIns := [], harness := (true, "705c07764a3c8dba62dc885b982cdd89c1eb4a57a33462b5ef21dfd44104a2d8"), looks := false }, kinds := [], alts := [], laidByText := true, laidKinds := [.data], laidTests := true, laidLooks := .later }
def TopSectorsCardSaid : Prop := Claim7.holds Tryd.pinned (.plain (OpenSpec.ofChange topSectorsSpec)) topSectorsCard

/-- THE TIED CARD OF 'caulktop.TopRecords'. -/
def topRecordsCard : Claim7 := { stood := { row := topRecordsRow, standIns := [], harness := (true, "705c07764a3c8dba62dc885b982cdd89c1eb4a57a33462b5ef21dfd44104a2d8"), looks := false }, kinds := [], alts := [], laidByText := true, laidKinds := [.data], laidTests := true, laidLooks := .later }
def TopRecordsCardSaid : Prop := Claim7.holds Tryd.pinned (.plain (OpenSpec.ofChange topRecordsSpec)) topRecordsCard

/-- THE TIED CARD OF 'caulktop.TopClusters'. -/
def topClustersCard : Claim7 := { stood := { row := topClustersRow, standIns := [], harness := (true, "705c07764a3c8dba62dc885b982cdd89c1eb4a57a33462b5ef21dfd44104a2d8"), looks := false }, kinds := [], alts := [], laidByText := true, laidKinds := [.data], laidTests := true, laidLooks := .later }
def TopClustersCardSaid : Prop := Claim7.holds Tryd.pinned (.plain (OpenSpec.ofChange topClustersSpec)) topClustersCard

/-- THE SECOND FORM's CARD OF 'caulktop.TopSectors'. -/
def topSectorsUptoCard : Claim7 := { stood := { row := topSectorsUptoRow, standIns := [], harness := (true, "705c07764a3c8dba62dc885b982cdd89c1eb4a57a33462b5ef21dfd44104a2d8"), looks := false }, kinds := [], alts := [], laidByText := true, laidKinds := [.data], laidTests := true, laidLooks := .later }
def TopSectorsUptoCardSaid : Prop := Claim7.holds Tryd.pinned (.plain (OpenSpec.upto topSectorsSpec)) topSectorsUptoCard

/-- THE SECOND FORM's CARD OF 'caulktop.TopRecords'. -/
def topRecordsUptoCard : Claim7 := { stood := { row := topRecordsUptoRow, standIns := [], harness := (true, "705c07764a3c8dba62dc885b982cdd89c1eb4a57a33462b5ef21dfd44104a2d8"), looks := false }, kinds := [], alts := [], laidByText := true, laidKinds := [.data], laidTests := true, laidLooks := .later }
def TopRecordsUptoCardSaid : Prop := Claim7.holds Tryd.pinned (.plain (OpenSpec.upto topRecordsSpec)) topRecordsUptoCard

/-- THE SECOND FORM's CARD OF 'caulktop.TopClusters'. -/
def topClustersUptoCard : Claim7 := { stood := { row := topClustersUptoRow, standIns := [], harness := (true, "705c07764a3c8dba62dc885b982cdd89c1eb4a57a33462b5ef21dfd44104a2d8"), looks := false }, kinds := [], alts := [], laidByText := true, laidKinds := [.data], laidTests := true, laidLooks := .later }
def TopClustersUptoCardSaid : Prop := Claim7.holds Tryd.pinned (.plain (OpenSpec.upto topClustersSpec)) topClustersUptoCard
end Rows
end Go.Proofs.YtnhigoffkmfccaaDoor
