/-
  DERIVED. GIVEN WITH THE SEED: THE CARDS: each row of YtgiaopmakkdojaaDoorRows.lean that lists a variable, with what it lists TIED to the program's text (the seventh form; the later family's looks); each row that meets fmt, with fmt's text TOLD by the authors' own Lean function (tested against real Go, not proved from fmt's source: count such statements apart). THE CARD IS WHAT COUNTS. Prove the row's statement (the work); the ties are given (YtgiaopmakkdojaaDoorTie.lean); close each card by the builder's one call (the guide's Derived/Test/ToyasCard.lean, 'card_holds'). Laid BY PROGRAM, IN A SANDBOX (cutbox-door.mjs). By AI agents, Wed Nov 11 2026. No macro, syntax, notation, axiom, sorry.
-/
import Derived.Test.YtgiaopmakkdojaaDoorRows
import GoSem.ClaimSeven
namespace Go.Proofs.YtgiaopmakkdojaaDoor
namespace Rows

/-- THE TIED CARD OF 'caulklaw38.DedupeTells'. -/
def dedupeTellsCard : Claim7 := { stood := { row := dedupeTellsRow, standIns := [], harness := (true, "13a4fe43ec46f29dce828777e399a67cb211720237b4dd685c1f4cf205aa34c1"), looks := false }, kinds := [], alts := [], laidByText := true, laidKinds := [.data, .data, .pinned], laidTests := true, laidLooks := .later }
def DedupeTellsCardSaid : Prop := Claim7.holds Tryd.pinned (.plain (OpenSpec.ofChange dedupeTellsSpec)) dedupeTellsCard

/-- THE TIED CARD OF 'caulklaw38.DedupeAlike'. -/
def dedupeAlikeCard : Claim7 := { stood := { row := dedupeAlikeRow, standIns := [], harness := (true, "13a4fe43ec46f29dce828777e399a67cb211720237b4dd685c1f4cf205aa34c1"), looks := false }, kinds := [], alts := [], laidByText := true, laidKinds := [.data, .data, .pinned], laidTests := true, laidLooks := .later }
def DedupeAlikeCardSaid : Prop := Claim7.holds Tryd.pinned (.plain (OpenSpec.ofChange dedupeAlikeSpec)) dedupeAlikeCard

/-- THE TIED CARD OF 'caulklaw38.DedupeAgain'. -/
def dedupeAgainCard : Claim7 := { stood := { row := dedupeAgainRow, standIns := [], harness := (true, "13a4fe43ec46f29dce828777e399a67cb211720237b4dd685c1f4cf205aa34c1"), looks := false }, kinds := [], alts := [], laidByText := true, laidKinds := [.data, .data, .pinned], laidTests := true, laidLooks := .later }
def DedupeAgainCardSaid : Prop := Claim7.holds Tryd.pinned (.plain (OpenSpec.ofChange dedupeAgainSpec)) dedupeAgainCard

/-- THE SECOND FORM's CARD OF 'caulklaw38.DedupeTells'. -/
def dedupeTellsUptoCard : Claim7 := { stood := { row := dedupeTellsUptoRow, standIns := [], harness := (true, "13a4fe43ec46f29dce828777e399a67cb211720237b4dd685c1f4cf205aa34c1"), looks := false }, kinds := [], alts := [], laidByText := true, laidKinds := [.data, .data, .pinned], laidTests := true, laidLooks := .later }
def DedupeTellsUptoCardSaid : Prop := Claim7.holds Tryd.pinned (.plain (OpenSpec.upto dedupeTellsSpec)) dedupeTellsUptoCard

/-- THE SECOND FORM's CARD OF 'caulklaw38.DedupeAlike'. -/
def dedupeAlikeUptoCard : Claim7 := { stood := { row := dedupeAlikeUptoRow, standIns := [], harness := (true, "13a4fe43ec46f29dce828777e399a67cb211720237b4dd685c1f4cf205aa34c1"), looks := false }, kinds := [], alts := [], laidByText := true, laidKinds := [.data, .data, .pinned], laidTests := true, laidLooks := .later }
def DedupeAlikeUptoCardSaid : Prop := Claim7.holds Tryd.pinned (.plain (OpenSpec.upto dedupeAlikeSpec)) dedupeAlikeUptoCard

/-- THE SECOND FORM's CARD OF 'caulklaw38.DedupeAgain'. -/
def dedupeAgainUptoCard : Claim7 := { stood := { row := dedupeAgainUptoRow, standIns := [], harness := (true, "13a4fe43ec46f29dce828777e399a67cb211720237b4dd685c1f4cf205aa34c1"), looks := false }, kinds := [], alts := [], laidByText := true, laidKinds := [.data, .data, .pinned], laidTests := true, laidLooks := .later }
def DedupeAgainUptoCardSaid : Prop := Claim7.holds Tryd.pinned (.plain (OpenSpec.upto dedupeAgainSpec)) dedupeAgainUptoCard
end Rows
end Go.Proofs.YtgiaopmakkdojaaDoor
