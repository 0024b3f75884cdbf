/-
  DERIVED. GIVEN WITH THE SEED: THE CARDS: each row of YtdfachjgnhljfaaDoorRows.lean that lists a variable, with what it lists TIED to the program's text (the seventh form; the later family's looks); each row that meets fmt, with fmt's text TOLD by the authors' own Lean function (tested against real Go, not proved from fmt's source: count such statements apart). THE CARD IS WHAT COUNTS. Prove the row's statement (the work); the ties are given (YtdfachjgnhljfaaDoorTie.lean); close each card by the builder's one call (the guide's Derived/Test/ToyasCard.lean, 'card_holds'). Laid BY PROGRAM, IN A SANDBOX (cutbox-door.mjs). By AI agents, Wed Nov 11 2026. No macro, syntax, notation, axiom, sorry.
-/
import Derived.Test.YtdfachjgnhljfaaDoorRows
import GoSem.ClaimSeven
namespace Go.Proofs.YtdfachjgnhljfaaDoor
namespace Rows

/-- THE TIED CARD OF 'colonnadelaw02.RingParts'. -/
def ringPartsCard : Claim7 := { stood := { row := ringPartsRow, standIns := [], harness := (true, "f6297ac8bbb3ddd3c3d5b0bcd3bcff296a0c7eaafaf03cdc793a2483f456a505"), looks := false }, kinds := [], alts := [], laidByText := true, laidKinds := [.data], laidTests := true, laidLooks := .later }
def RingPartsCardSaid : Prop := Claim7.holds Tryd.pinned (.plain (OpenSpec.ofChange ringPartsSpec)) ringPartsCard

/-- THE TIED CARD OF 'colonnadelaw02.RingSums'. -/
def ringSumsCard : Claim7 := { stood := { row := ringSumsRow, standIns := [], harness := (true, "f6297ac8bbb3ddd3c3d5b0bcd3bcff296a0c7eaafaf03cdc793a2483f456a505"), looks := false }, kinds := [], alts := [], laidByText := true, laidKinds := [.data], laidTests := true, laidLooks := .later }
def RingSumsCardSaid : Prop := Claim7.holds Tryd.pinned (.plain (OpenSpec.ofChange ringSumsSpec)) ringSumsCard

/-- THE TIED CARD OF 'colonnadelaw02.RingBegins'. -/
def ringBeginsCard : Claim7 := { stood := { row := ringBeginsRow, standIns := [], harness := (true, "f6297ac8bbb3ddd3c3d5b0bcd3bcff296a0c7eaafaf03cdc793a2483f456a505"), looks := false }, kinds := [], alts := [], laidByText := true, laidKinds := [.data], laidTests := true, laidLooks := .later }
def RingBeginsCardSaid : Prop := Claim7.holds Tryd.pinned (.plain (OpenSpec.ofChange ringBeginsSpec)) ringBeginsCard

/-- THE TIED CARD OF 'colonnadelaw04.HeadReads'. -/
def headReadsCard : Claim7 := { stood := { row := headReadsRow, standIns := [], harness := (true, "f6297ac8bbb3ddd3c3d5b0bcd3bcff296a0c7eaafaf03cdc793a2483f456a505"), looks := false }, kinds := [], alts := [], laidByText := true, laidKinds := [.data], laidTests := true, laidLooks := .later }
def HeadReadsCardSaid : Prop := Claim7.holds Tryd.pinned (.plain (OpenSpec.ofChange headReadsSpec)) headReadsCard

/-- THE TIED CARD OF 'colonnadelaw04.HeadCuts'. -/
def headCutsCard : Claim7 := { stood := { row := headCutsRow, standIns := [], harness := (true, "f6297ac8bbb3ddd3c3d5b0bcd3bcff296a0c7eaafaf03cdc793a2483f456a505"), looks := false }, kinds := [], alts := [], laidByText := true, laidKinds := [.data], laidTests := true, laidLooks := .later }
def HeadCutsCardSaid : Prop := Claim7.holds Tryd.pinned (.plain (OpenSpec.ofChange headCutsSpec)) headCutsCard

/-- THE TIED CARD OF 'colonnadelaw04.HeadTwo'. -/
def headTwoCard : Claim7 := { stood := { row := headTwoRow, standIns := [], harness := (true, "f6297ac8bbb3ddd3c3d5b0bcd3bcff296a0c7eaafaf03cdc793a2483f456a505"), looks := false }, kinds := [], alts := [], laidByText := true, laidKinds := [.data], laidTests := true, laidLooks := .later }
def HeadTwoCardSaid : Prop := Claim7.holds Tryd.pinned (.plain (OpenSpec.ofChange headTwoSpec)) headTwoCard

/-- THE TIED CARD OF 'colonnadelaw04.HeadShort'. -/
def headShortCard : Claim7 := { stood := { row := headShortRow, standIns := [], harness := (true, "f6297ac8bbb3ddd3c3d5b0bcd3bcff296a0c7eaafaf03cdc793a2483f456a505"), looks := false }, kinds := [], alts := [], laidByText := true, laidKinds := [.data], laidTests := true, laidLooks := .later }
def HeadShortCardSaid : Prop := Claim7.holds Tryd.pinned (.plain (OpenSpec.ofChange headShortSpec)) headShortCard

/-- THE TIED CARD OF 'colonnadelaw02.RingKeys'. -/
def ringKeysCard : Claim7 := { stood := { row := ringKeysRow, standIns := [], harness := (true, "f6297ac8bbb3ddd3c3d5b0bcd3bcff296a0c7eaafaf03cdc793a2483f456a505"), looks := false }, kinds := [], alts := [], laidByText := true, laidKinds := [.data], laidTests := true, laidLooks := .later }
def RingKeysCardSaid : Prop := Claim7.holds Tryd.pinned (.plain (OpenSpec.ofChange ringKeysSpec)) ringKeysCard

/-- THE TIED CARD OF 'colonnadelaw02.RingLabels'. -/
def ringLabelsCard : Claim7 := { stood := { row := ringLabelsRow, standIns := [], harness := (true, "f6297ac8bbb3ddd3c3d5b0bcd3bcff296a0c7eaafaf03cdc793a2483f456a505"), looks := false }, kinds := [], alts := [], laidByText := true, laidKinds := [.data], laidTests := true, laidLooks := .later }
def RingLabelsCardSaid : Prop := Claim7.holds Tryd.pinned (.plain (OpenSpec.ofChange ringLabelsSpec)) ringLabelsCard

/-- THE TIED CARD OF 'colonnadelaw04.HeadBytes'. -/
def headBytesCard : Claim7 := { stood := { row := headBytesRow, standIns := [], harness := (true, "f6297ac8bbb3ddd3c3d5b0bcd3bcff296a0c7eaafaf03cdc793a2483f456a505"), looks := false }, kinds := [], alts := [], laidByText := true, laidKinds := [.data], laidTests := true, laidLooks := .later }
def HeadBytesCardSaid : Prop := Claim7.holds Tryd.pinned (.plain (OpenSpec.ofChange headBytesSpec)) headBytesCard

/-- THE SECOND FORM's CARD OF 'colonnadelaw02.RingParts'. -/
def ringPartsUptoCard : Claim7 := { stood := { row := ringPartsUptoRow, standIns := [], harness := (true, "f6297ac8bbb3ddd3c3d5b0bcd3bcff296a0c7eaafaf03cdc793a2483f456a505"), looks := false }, kinds := [], alts := [], laidByText := true, laidKinds := [.data], laidTests := true, laidLooks := .later }
def RingPartsUptoCardSaid : Prop := Claim7.holds Tryd.pinned (.plain (OpenSpec.upto ringPartsSpec)) ringPartsUptoCard

/-- THE SECOND FORM's CARD OF 'colonnadelaw02.RingSums'. -/
def ringSumsUptoCard : Claim7 := { stood := { row := ringSumsUptoRow, standIns := [], harness := (true, "f6297ac8bbb3ddd3c3d5b0bcd3bcff296a0c7eaafaf03cdc793a2483f456a505"), looks := false }, kinds := [], alts := [], laidByText := true, laidKinds := [.data], laidTests := true, laidLooks := .later }
def RingSumsUptoCardSaid : Prop := Claim7.holds Tryd.pinned (.plain (OpenSpec.upto ringSumsSpec)) ringSumsUptoCard

/-- THE SECOND FORM's CARD OF 'colonnadelaw02.RingBegins'. -/
def ringBeginsUptoCard : Claim7 := { stood := { row := ringBeginsUptoRow, standIns := [], harness := (true, "f6297ac8bbb3ddd3c3d5b0bcd3bcff296a0c7eaafaf03cdc793a2483f456a505"), looks := false }, kinds := [], alts := [], laidByText := true, laidKinds := [.data], laidTests := true, laidLooks := .later }
def RingBeginsUptoCardSaid : Prop := Claim7.holds Tryd.pinned (.plain (OpenSpec.upto ringBeginsSpec)) ringBeginsUptoCard

/-- THE SECOND FORM's CARD OF 'colonnadelaw04.HeadReads'. -/
def headReadsUptoCard : Claim7 := { stood := { row := headReadsUptoRow, standIns := [], harness := (true, "f6297ac8bbb3ddd3c3d5b0bcd3bcff296a0c7eaafaf03cdc793a2483f456a505"), looks := false }, kinds := [], alts := [], laidByText := true, laidKinds := [.data], laidTests := true, laidLooks := .later }
def HeadReadsUptoCardSaid : Prop := Claim7.holds Tryd.pinned (.plain (OpenSpec.upto headReadsSpec)) headReadsUptoCard

/-- THE SECOND FORM's CARD OF 'colonnadelaw04.HeadCuts'. -/
def headCutsUptoCard : Claim7 := { stood := { row := headCutsUptoRow, standIns := [], harness := (true, "f6297ac8bbb3ddd3c3d5b0bcd3bcff296a0c7eaafaf03cdc793a2483f456a505"), looks := false }, kinds := [], alts := [], laidByText := true, laidKinds := [.data], laidTests := true, laidLooks := .later }
def HeadCutsUptoCardSaid : Prop := Claim7.holds Tryd.pinned (.plain (OpenSpec.upto headCutsSpec)) headCutsUptoCard

/-- THE SECOND FORM's CARD OF 'colonnadelaw04.HeadTwo'. -/
def headTwoUptoCard : Claim7 := { stood := { row := headTwoUptoRow, standIns := [], harness := (true, "f6297ac8bbb3ddd3c3d5b0bcd3bcff296a0c7eaafaf03cdc793a2483f456a505"), looks := false }, kinds := [], alts := [], laidByText := true, laidKinds := [.data], laidTests := true, laidLooks := .later }
def HeadTwoUptoCardSaid : Prop := Claim7.holds Tryd.pinned (.plain (OpenSpec.upto headTwoSpec)) headTwoUptoCard

/-- THE SECOND FORM's CARD OF 'colonnadelaw04.HeadShort'. -/
def headShortUptoCard : Claim7 := { stood := { row := headShortUptoRow, standIns := [], harness := (true, "f6297ac8bbb3ddd3c3d5b0bcd3bcff296a0c7eaafaf03cdc793a2483f456a505"), looks := false }, kinds := [], alts := [], laidByText := true, laidKinds := [.data], laidTests := true, laidLooks := .later }
def HeadShortUptoCardSaid : Prop := Claim7.holds Tryd.pinned (.plain (OpenSpec.upto headShortSpec)) headShortUptoCard

/-- THE SECOND FORM's CARD OF 'colonnadelaw02.RingKeys'. -/
def ringKeysUptoCard : Claim7 := { stood := { row := ringKeysUptoRow, standIns := [], harness := (true, "f6297ac8bbb3ddd3c3d5b0bcd3bcff296a0c7eaafaf03cdc793a2483f456a505"), looks := false }, kinds := [], alts := [], laidByText := true, laidKinds := [.data], laidTests := true, laidLooks := .later }
def RingKeysUptoCardSaid : Prop := Claim7.holds Tryd.pinned (.plain (OpenSpec.upto ringKeysSpec)) ringKeysUptoCard

/-- THE SECOND FORM's CARD OF 'colonnadelaw02.RingLabels'. -/
def ringLabelsUptoCard : Claim7 := { stood := { row := ringLabelsUptoRow, standIns := [], harness := (true, "f6297ac8bbb3ddd3c3d5b0bcd3bcff296a0c7eaafaf03cdc793a2483f456a505"), looks := false }, kinds := [], alts := [], laidByText := true, laidKinds := [.data], laidTests := true, laidLooks := .later }
def RingLabelsUptoCardSaid : Prop := Claim7.holds Tryd.pinned (.plain (OpenSpec.upto ringLabelsSpec)) ringLabelsUptoCard

/-- THE SECOND FORM's CARD OF 'colonnadelaw04.HeadBytes'. -/
def headBytesUptoCard : Claim7 := { stood := { row := headBytesUptoRow, standIns := [], harness := (true, "f6297ac8bbb3ddd3c3d5b0bcd3bcff296a0c7eaafaf03cdc793a2483f456a505"), looks := false }, kinds := [], alts := [], laidByText := true, laidKinds := [.data], laidTests := true, laidLooks := .later }
def HeadBytesUptoCardSaid : Prop := Claim7.holds Tryd.pinned (.plain (OpenSpec.upto headBytesSpec)) headBytesUptoCard
end Rows
end Go.Proofs.YtdfachjgnhljfaaDoor
