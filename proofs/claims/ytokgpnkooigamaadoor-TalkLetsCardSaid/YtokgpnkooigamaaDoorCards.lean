/-
  DERIVED. GIVEN WITH THE SEED: THE CARDS: each row of YtokgpnkooigamaaDoorRows.lean that lists a variable, with what it lists TIED to the program's text (the seventh form; the later family's looks); each row that meets fmt, with fmt's text TOLD by the authors' own Lean function (tested against real Go, not proved from fmt's source: count such statements apart). THE CARD IS WHAT COUNTS. Prove the row's statement (the work); the ties are given (YtokgpnkooigamaaDoorTie.lean); close each card by the builder's one call (the guide's Derived/Test/ToyasCard.lean, 'card_holds'). Laid BY PROGRAM, IN A SANDBOX (cutbox-door.mjs). By AI agents, Wed Nov 11 2026. No macro, syntax, notation, axiom, sorry.
-/
import Derived.Test.YtokgpnkooigamaaDoorRows
import GoSem.ClaimSeven
namespace Go.Proofs.YtokgpnkooigamaaDoor
namespace Rows

/-- THE TIED CARD OF 'colonnadelaw17.TalkSetups'. -/
def talkSetupsCard : Claim7 := { stood := { row := talkSetupsRow, standIns := [], harness := (true, "5f6a46b5e502c829c55dd60d49983b8e7074a2cd14fb652641a8f03df6a6d05c"), looks := false }, kinds := [], alts := [], laidByText := true, laidKinds := [.widerDeep], laidTests := true, laidLooks := .later }
def TalkSetupsCardSaid : Prop := Claim7.holds Tryd.pinned (.plain (OpenSpec.ofChange talkSetupsSpec)) talkSetupsCard

/-- THE TIED CARD OF 'colonnadelaw17.TalkOnce'. -/
def talkOnceCard : Claim7 := { stood := { row := talkOnceRow, standIns := [], harness := (true, "5f6a46b5e502c829c55dd60d49983b8e7074a2cd14fb652641a8f03df6a6d05c"), looks := false }, kinds := [], alts := [], laidByText := true, laidKinds := [.widerDeep], laidTests := true, laidLooks := .later }
def TalkOnceCardSaid : Prop := Claim7.holds Tryd.pinned (.plain (OpenSpec.ofChange talkOnceSpec)) talkOnceCard

/-- THE TIED CARD OF 'colonnadelaw17.TalkLets'. -/
def talkLetsCard : Claim7 := { stood := { row := talkLetsRow, standIns := [], harness := (true, "5f6a46b5e502c829c55dd60d49983b8e7074a2cd14fb652641a8f03df6a6d05c"), looks := false }, kinds := [], alts := [], laidByText := true, laidKinds := [.widerDeep], laidTests := true, laidLooks := .later }
def TalkLetsCardSaid : Prop := Claim7.holds Tryd.pinned (.plain (OpenSpec.ofChange talkLetsSpec)) talkLetsCard

/-- THE TIED CARD OF 'colonnadelaw17.TalkNil'. -/
def talkNilCard : Claim7 := { stood := { row := talkNilRow, standIns := [], harness := (true, "5f6a46b5e502c829c55dd60d49983b8e7074a2cd14fb652641a8f03df6a6d05c"), looks := false }, kinds := [], alts := [], laidByText := true, laidKinds := [.widerDeep], laidTests := true, laidLooks := .later }
def TalkNilCardSaid : Prop := Claim7.holds Tryd.pinned (.plain (OpenSpec.ofChange talkNilSpec)) talkNilCard

/-- THE SECOND FORM's CARD OF 'colonnadelaw17.TalkSetups'. -/
def talkSetupsUptoCard : Claim7 := { stood := { row := talkSetupsUptoRow, standIns := [], harness := (true, "5f6a46b5e502c829c55dd60d49983b8e7074a2cd14fb652641a8f03df6a6d05c"), looks := false }, kinds := [], alts := [], laidByText := true, laidKinds := [.widerDeep], laidTests := true, laidLooks := .later }
def TalkSetupsUptoCardSaid : Prop := Claim7.holds Tryd.pinned (.plain (OpenSpec.upto talkSetupsSpec)) talkSetupsUptoCard

/-- THE SECOND FORM's CARD OF 'colonnadelaw17.TalkOnce'. -/
def talkOnceUptoCard : Claim7 := { stood := { row := talkOnceUptoRow, standIns := [], harness := (true, "5f6a46b5e502c829c55dd60d49983b8e7074a2cd14fb652641a8f03df6a6d05c"), looks := false }, kinds := [], alts := [], laidByText := true, laidKinds := [.widerDeep], laidTests := true, laidLooks := .later }
def TalkOnceUptoCardSaid : Prop := Claim7.holds Tryd.pinned (.plain (OpenSpec.upto talkOnceSpec)) talkOnceUptoCard

/-- THE SECOND FORM's CARD OF 'colonnadelaw17.TalkLets'. -/
def talkLetsUptoCard : Claim7 := { stood := { row := talkLetsUptoRow, standIns := [], harness := (true, "5f6a46b5e502c829c55dd60d49983b8e7074a2cd14fb652641a8f03df6a6d05c"), looks := false }, kinds := [], alts := [], laidByText := true, laidKinds := [.widerDeep], laidTests := true, laidLooks := .later }
def TalkLetsUptoCardSaid : Prop := Claim7.holds Tryd.pinned (.plain (OpenSpec.upto talkLetsSpec)) talkLetsUptoCard

/-- THE SECOND FORM's CARD OF 'colonnadelaw17.TalkNil'. -/
def talkNilUptoCard : Claim7 := { stood := { row := talkNilUptoRow, standIns := [], harness := (true, "5f6a46b5e502c829c55dd60d49983b8e7074a2cd14fb652641a8f03df6a6d05c"), looks := false }, kinds := [], alts := [], laidByText := true, laidKinds := [.widerDeep], laidTests := true, laidLooks := .later }
def TalkNilUptoCardSaid : Prop := Claim7.holds Tryd.pinned (.plain (OpenSpec.upto talkNilSpec)) talkNilUptoCard
end Rows
end Go.Proofs.YtokgpnkooigamaaDoor
