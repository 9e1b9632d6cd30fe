/-
  DERIVED. GIVEN WITH THE SEED: THE CARDS: each row of YtegfembmnnmnbaaDoorRows.lean that lists a variable, with what it lists TIED to the program's text (the seventh form; the later family's looks); each row that meets fmt, with fmt's text TOLD by the authors' own Lean function (tested against real Go, not proved from fmt's source: count such statements apart). THE CARD IS WHAT COUNTS. Prove the row's statement (the work); the ties are given (YtegfembmnnmnbaaDoorTie.lean); close each card by the builder's one call (the guide's Derived/Test/ToyasCard.lean, 'card_holds'). Laid BY PROGRAM, IN A SANDBOX (cutbox-door.mjs). By AI agents, Wed Nov 11 2026. No macro, syntax, notation, axiom, sorry.
-/
import Derived.Test.YtegfembmnnmnbaaDoorRows
import GoSem.ClaimSeven
namespace Go.Proofs.YtegfembmnnmnbaaDoor
namespace Rows

/-- THE TIED CARD OF 'caulklaw01.CrcSums'. -/
def crcSumsCard : Claim7 := { stood := { row := crcSumsRow, standIns := [], harness := (true, "55da1204f68189af4b18504edec81ecb13d324d6ea1f318dfde4e21094e507a7"), looks := false }, kinds := [], alts := [], laidByText := true, laidKinds := [.data], laidTests := true, laidLooks := .later }
def CrcSumsCardSaid : Prop := Claim7.holds Tryd.pinned (.plain (OpenSpec.ofChange crcSumsSpec)) crcSumsCard

/-- THE TIED CARD OF 'caulklaw01.CrcAdds'. -/
def crcAddsCard : Claim7 := { stood := { row := crcAddsRow, standIns := [], harness := (true, "55da1204f68189af4b18504edec81ecb13d324d6ea1f318dfde4e21094e507a7"), looks := false }, kinds := [], alts := [], laidByText := true, laidKinds := [.data], laidTests := true, laidLooks := .later }
def CrcAddsCardSaid : Prop := Claim7.holds Tryd.pinned (.plain (OpenSpec.ofChange crcAddsSpec)) crcAddsCard

/-- THE TIED CARD OF 'caulklaw01.CrcPieces'. -/
def crcPiecesCard : Claim7 := { stood := { row := crcPiecesRow, standIns := [], harness := (true, "55da1204f68189af4b18504edec81ecb13d324d6ea1f318dfde4e21094e507a7"), looks := false }, kinds := [], alts := [], laidByText := true, laidKinds := [.data], laidTests := true, laidLooks := .later }
def CrcPiecesCardSaid : Prop := Claim7.holds Tryd.pinned (.plain (OpenSpec.ofChange crcPiecesSpec)) crcPiecesCard

/-- THE TIED CARD OF 'caulklaw01.CrcFound'. -/
def crcFoundCard : Claim7 := { stood := { row := crcFoundRow, standIns := [], harness := (true, "55da1204f68189af4b18504edec81ecb13d324d6ea1f318dfde4e21094e507a7"), looks := false }, kinds := [], alts := [], laidByText := true, laidKinds := [.data], laidTests := true, laidLooks := .later }
def CrcFoundCardSaid : Prop := Claim7.holds Tryd.pinned (.plain (OpenSpec.ofChange crcFoundSpec)) crcFoundCard

/-- THE TIED CARD OF 'caulklaw01.CrcTogether'. -/
def crcTogetherCard : Claim7 := { stood := { row := crcTogetherRow, standIns := [], harness := (true, "55da1204f68189af4b18504edec81ecb13d324d6ea1f318dfde4e21094e507a7"), looks := false }, kinds := [], alts := [], laidByText := true, laidKinds := [.data], laidTests := true, laidLooks := .later }
def CrcTogetherCardSaid : Prop := Claim7.holds Tryd.pinned (.plain (OpenSpec.ofChange crcTogetherSpec)) crcTogetherCard

/-- THE TIED CARD OF 'caulklaw33.CombineTells'. -/
def combineTellsCard : Claim7 := { stood := { row := combineTellsRow, standIns := [], harness := (true, "55da1204f68189af4b18504edec81ecb13d324d6ea1f318dfde4e21094e507a7"), looks := false }, kinds := [], alts := [], laidByText := true, laidKinds := [.data], laidTests := true, laidLooks := .later }
def CombineTellsCardSaid : Prop := Claim7.holds Tryd.pinned (.plain (OpenSpec.ofChange combineTellsSpec)) combineTellsCard

/-- THE SECOND FORM's CARD OF 'caulklaw01.CrcSums'. -/
def crcSumsUptoCard : Claim7 := { stood := { row := crcSumsUptoRow, standIns := [], harness := (true, "55da1204f68189af4b18504edec81ecb13d324d6ea1f318dfde4e21094e507a7"), looks := false }, kinds := [], alts := [], laidByText := true, laidKinds := [.data], laidTests := true, laidLooks := .later }
def CrcSumsUptoCardSaid : Prop := Claim7.holds Tryd.pinned (.plain (OpenSpec.upto crcSumsSpec)) crcSumsUptoCard

/-- THE SECOND FORM's CARD OF 'caulklaw01.CrcAdds'. -/
def crcAddsUptoCard : Claim7 := { stood := { row := crcAddsUptoRow, standIns := [], harness := (true, "55da1204f68189af4b18504edec81ecb13d324d6ea1f318dfde4e21094e507a7"), looks := false }, kinds := [], alts := [], laidByText := true, laidKinds := [.data], laidTests := true, laidLooks := .later }
def CrcAddsUptoCardSaid : Prop := Claim7.holds Tryd.pinned (.plain (OpenSpec.upto crcAddsSpec)) crcAddsUptoCard

/-- THE SECOND FORM's CARD OF 'caulklaw01.CrcPieces'. -/
def crcPiecesUptoCard : Claim7 := { stood := { row := crcPiecesUptoRow, standIns := [], harness := (true, "55da1204f68189af4b18504edec81ecb13d324d6ea1f318dfde4e21094e507a7"), looks := false }, kinds := [], alts := [], laidByText := true, laidKinds := [.data], laidTests := true, laidLooks := .later }
def CrcPiecesUptoCardSaid : Prop := Claim7.holds Tryd.pinned (.plain (OpenSpec.upto crcPiecesSpec)) crcPiecesUptoCard

/-- THE SECOND FORM's CARD OF 'caulklaw01.CrcFound'. -/
def crcFoundUptoCard : Claim7 := { stood := { row := crcFoundUptoRow, standIns := [], harness := (true, "55da1204f68189af4b18504edec81ecb13d324d6ea1f318dfde4e21094e507a7"), looks := false }, kinds := [], alts := [], laidByText := true, laidKinds := [.data], laidTests := true, laidLooks := .later }
def CrcFoundUptoCardSaid : Prop := Claim7.holds Tryd.pinned (.plain (OpenSpec.upto crcFoundSpec)) crcFoundUptoCard

/-- THE SECOND FORM's CARD OF 'caulklaw01.CrcTogether'. -/
def crcTogetherUptoCard : Claim7 := { stood := { row := crcTogetherUptoRow, standIns := [], harness := (true, "55da1204f68189af4b18504edec81ecb13d324d6ea1f318dfde4e21094e507a7"), looks := false }, kinds := [], alts := [], laidByText := true, laidKinds := [.data], laidTests := true, laidLooks := .later }
def CrcTogetherUptoCardSaid : Prop := Claim7.holds Tryd.pinned (.plain (OpenSpec.upto crcTogetherSpec)) crcTogetherUptoCard

/-- THE SECOND FORM's CARD OF 'caulklaw33.CombineTells'. -/
def combineTellsUptoCard : Claim7 := { stood := { row := combineTellsUptoRow, standIns := [], harness := (true, "55da1204f68189af4b18504edec81ecb13d324d6ea1f318dfde4e21094e507a7"), looks := false }, kinds := [], alts := [], laidByText := true, laidKinds := [.data], laidTests := true, laidLooks := .later }
def CombineTellsUptoCardSaid : Prop := Claim7.holds Tryd.pinned (.plain (OpenSpec.upto combineTellsSpec)) combineTellsUptoCard
end Rows
end Go.Proofs.YtegfembmnnmnbaaDoor
