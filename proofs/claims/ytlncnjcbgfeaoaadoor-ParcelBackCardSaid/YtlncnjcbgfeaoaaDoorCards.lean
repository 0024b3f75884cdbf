/-
  DERIVED. GIVEN WITH THE SEED: THE CARDS: each row of YtlncnjcbgfeaoaaDoorRows.lean that lists a variable, with what it lists TIED to the program's text (the seventh form; the later family's looks); each row that meets fmt, with fmt's text TOLD by the authors' own Lean function (tested against real Go, not proved from fmt's source: count such statements apart). THE CARD IS WHAT COUNTS. Prove the row's statement (the work); the ties are given (YtlncnjcbgfeaoaaDoorTie.lean); close each card by the builder's one call (the guide's Derived/Test/ToyasCard.lean, 'card_holds'). Laid BY PROGRAM, IN A SANDBOX (cutbox-door.mjs). By AI agents, Wed Nov 11 2026. No macro, syntax, notation, axiom, sorry.
-/
import Derived.Test.YtlncnjcbgfeaoaaDoorRows
import GoSem.ClaimSeven
namespace Go.Proofs.YtlncnjcbgfeaoaaDoor
namespace Rows

/-- THE TIED CARD OF 'colonnadelaw06.ParcelKeys'. -/
def parcelKeysCard : Claim7 := { stood := { row := parcelKeysRow, standIns := [], harness := (true, "e045814950328277209fc9aa9618fef6e641331e638b5e0b5abbd99b51e534b8"), looks := false }, kinds := [], alts := [], laidByText := true, laidKinds := [.data, .widerDeep], laidTests := true, laidLooks := .later }
def ParcelKeysCardSaid : Prop := Claim7.holds Tryd.pinned (.plain (OpenSpec.ofChange parcelKeysSpec)) parcelKeysCard

/-- THE TIED CARD OF 'colonnadelaw06.ParcelOpens'. -/
def parcelOpensCard : Claim7 := { stood := { row := parcelOpensRow, standIns := [], harness := (true, "e045814950328277209fc9aa9618fef6e641331e638b5e0b5abbd99b51e534b8"), looks := false }, kinds := [], alts := [], laidByText := true, laidKinds := [.data, .data, .widerDeep], laidTests := true, laidLooks := .later }
def ParcelOpensCardSaid : Prop := Claim7.holds Tryd.pinned (.plain (OpenSpec.ofChange parcelOpensSpec)) parcelOpensCard

/-- THE TIED CARD OF 'colonnadelaw06.ParcelBack'. -/
def parcelBackCard : Claim7 := { stood := { row := parcelBackRow, standIns := [], harness := (true, "e045814950328277209fc9aa9618fef6e641331e638b5e0b5abbd99b51e534b8"), looks := false }, kinds := [], alts := [], laidByText := true, laidKinds := [.data, .data, .widerDeep], laidTests := true, laidLooks := .later }
def ParcelBackCardSaid : Prop := Claim7.holds Tryd.pinned (.plain (OpenSpec.ofChange parcelBackSpec)) parcelBackCard

/-- THE TIED CARD OF 'colonnadelaw06.ParcelTwo'. -/
def parcelTwoCard : Claim7 := { stood := { row := parcelTwoRow, standIns := [], harness := (true, "e045814950328277209fc9aa9618fef6e641331e638b5e0b5abbd99b51e534b8"), looks := false }, kinds := [], alts := [], laidByText := true, laidKinds := [.data, .data, .widerDeep], laidTests := true, laidLooks := .later }
def ParcelTwoCardSaid : Prop := Claim7.holds Tryd.pinned (.plain (OpenSpec.ofChange parcelTwoSpec)) parcelTwoCard

/-- THE TIED CARD OF 'colonnadelaw06.ParcelTurns'. -/
def parcelTurnsCard : Claim7 := { stood := { row := parcelTurnsRow, standIns := [], harness := (true, "e045814950328277209fc9aa9618fef6e641331e638b5e0b5abbd99b51e534b8"), looks := false }, kinds := [], alts := [], laidByText := true, laidKinds := [.data, .data, .widerDeep], laidTests := true, laidLooks := .later }
def ParcelTurnsCardSaid : Prop := Claim7.holds Tryd.pinned (.plain (OpenSpec.ofChange parcelTurnsSpec)) parcelTurnsCard

/-- THE SECOND FORM's CARD OF 'colonnadelaw06.ParcelKeys'. -/
def parcelKeysUptoCard : Claim7 := { stood := { row := parcelKeysUptoRow, standIns := [], harness := (true, "e045814950328277209fc9aa9618fef6e641331e638b5e0b5abbd99b51e534b8"), looks := false }, kinds := [], alts := [], laidByText := true, laidKinds := [.data, .widerDeep], laidTests := true, laidLooks := .later }
def ParcelKeysUptoCardSaid : Prop := Claim7.holds Tryd.pinned (.plain (OpenSpec.upto parcelKeysSpec)) parcelKeysUptoCard

/-- THE SECOND FORM's CARD OF 'colonnadelaw06.ParcelOpens'. -/
def parcelOpensUptoCard : Claim7 := { stood := { row := parcelOpensUptoRow, standIns := [], harness := (true, "e045814950328277209fc9aa9618fef6e641331e638b5e0b5abbd99b51e534b8"), looks := false }, kinds := [], alts := [], laidByText := true, laidKinds := [.data, .data, .widerDeep], laidTests := true, laidLooks := .later }
def ParcelOpensUptoCardSaid : Prop := Claim7.holds Tryd.pinned (.plain (OpenSpec.upto parcelOpensSpec)) parcelOpensUptoCard

/-- THE SECOND FORM's CARD OF 'colonnadelaw06.ParcelBack'. -/
def parcelBackUptoCard : Claim7 := { stood := { row := parcelBackUptoRow, standIns := [], harness := (true, "e045814950328277209fc9aa9618fef6e641331e638b5e0b5abbd99b51e534b8"), looks := false }, kinds := [], alts := [], laidByText := true, laidKinds := [.data, .data, .widerDeep], laidTests := true, laidLooks := .later }
def ParcelBackUptoCardSaid : Prop := Claim7.holds Tryd.pinned (.plain (OpenSpec.upto parcelBackSpec)) parcelBackUptoCard

/-- THE SECOND FORM's CARD OF 'colonnadelaw06.ParcelTwo'. -/
def parcelTwoUptoCard : Claim7 := { stood := { row := parcelTwoUptoRow, standIns := [], harness := (true, "e045814950328277209fc9aa9618fef6e641331e638b5e0b5abbd99b51e534b8"), looks := false }, kinds := [], alts := [], laidByText := true, laidKinds := [.data, .data, .widerDeep], laidTests := true, laidLooks := .later }
def ParcelTwoUptoCardSaid : Prop := Claim7.holds Tryd.pinned (.plain (OpenSpec.upto parcelTwoSpec)) parcelTwoUptoCard

/-- THE SECOND FORM's CARD OF 'colonnadelaw06.ParcelTurns'. -/
def parcelTurnsUptoCard : Claim7 := { stood := { row := parcelTurnsUptoRow, standIns := [], harness := (true, "e045814950328277209fc9aa9618fef6e641331e638b5e0b5abbd99b51e534b8"), looks := false }, kinds := [], alts := [], laidByText := true, laidKinds := [.data, .data, .widerDeep], laidTests := true, laidLooks := .later }
def ParcelTurnsUptoCardSaid : Prop := Claim7.holds Tryd.pinned (.plain (OpenSpec.upto parcelTurnsSpec)) parcelTurnsUptoCard
end Rows
end Go.Proofs.YtlncnjcbgfeaoaaDoor
