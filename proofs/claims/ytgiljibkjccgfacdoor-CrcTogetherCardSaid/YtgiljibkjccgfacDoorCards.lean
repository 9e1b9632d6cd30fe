/-
  DERIVED. GIVEN WITH THE SEED: THE CARDS: each row of YtgiljibkjccgfacDoorRows.lean that lists a variable, with what it lists TIED to the program's text (the seventh form; the later family's looks); each row that meets fmt, with fmt's text TOLD by the authors' own Lean function (tested against real Go, not proved from fmt's source: count such statements apart). THE CARD IS WHAT COUNTS. Prove the row's statement (the work); the ties are given (YtgiljibkjccgfacDoorTie.lean); close each card by the builder's one call (the guide's Derived/Test/ToyasCard.lean, 'card_holds'). Laid BY PROGRAM, IN A SANDBOX (cutbox-door.mjs). By AI agents, Wed Nov 11 2026. No macro, syntax, notation, axiom, sorry.
-/
import Derived.Test.YtgiljibkjccgfacDoorRows
import GoSem.ClaimSeven
namespace Go.Proofs.YtgiljibkjccgfacDoor
namespace Rows

/-- THE TIED CARD OF 'caulklaw01.CrcTogether'. -/
def crcTogetherCard : Claim7 := { stood := { row := crcTogetherRow, standIns := [], harness := (true, "d28e5412f8dee95d9e5a24c2ab9601cb21bc6cc7427d2c970688e41e9dbbcba3"), looks := false }, kinds := [], alts := [], laidByText := true, laidKinds := [.data], laidTests := true, laidLooks := .later }
def CrcTogetherCardSaid : Prop := Claim7.holds Tryd.pinned (.plain (OpenSpec.ofChange crcTogetherSpec)) crcTogetherCard

/-- THE TIED CARD OF 'caulktop.TopUndone'. -/
def topUndoneCard : Claim7 := { stood := { row := topUndoneRow, standIns := [], harness := (true, "d28e5412f8dee95d9e5a24c2ab9601cb21bc6cc7427d2c970688e41e9dbbcba3"), looks := false }, kinds := [], alts := [], laidByText := true, laidKinds := [.data], laidTests := true, laidLooks := .later }
def TopUndoneCardSaid : Prop := Claim7.holds Tryd.pinned (.plain (OpenSpec.ofChange topUndoneSpec)) topUndoneCard

/-- THE SECOND FORM's CARD OF 'caulklaw01.CrcTogether'. -/
def crcTogetherUptoCard : Claim7 := { stood := { row := crcTogetherUptoRow, standIns := [], harness := (true, "d28e5412f8dee95d9e5a24c2ab9601cb21bc6cc7427d2c970688e41e9dbbcba3"), looks := false }, kinds := [], alts := [], laidByText := true, laidKinds := [.data], laidTests := true, laidLooks := .later }
def CrcTogetherUptoCardSaid : Prop := Claim7.holds Tryd.pinned (.plain (OpenSpec.upto crcTogetherSpec)) crcTogetherUptoCard

/-- THE SECOND FORM's CARD OF 'caulktop.TopUndone'. -/
def topUndoneUptoCard : Claim7 := { stood := { row := topUndoneUptoRow, standIns := [], harness := (true, "d28e5412f8dee95d9e5a24c2ab9601cb21bc6cc7427d2c970688e41e9dbbcba3"), looks := false }, kinds := [], alts := [], laidByText := true, laidKinds := [.data], laidTests := true, laidLooks := .later }
def TopUndoneUptoCardSaid : Prop := Claim7.holds Tryd.pinned (.plain (OpenSpec.upto topUndoneSpec)) topUndoneUptoCard
end Rows
end Go.Proofs.YtgiljibkjccgfacDoor
