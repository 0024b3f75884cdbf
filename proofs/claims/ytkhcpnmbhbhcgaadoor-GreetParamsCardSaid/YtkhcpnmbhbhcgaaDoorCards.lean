/-
  DERIVED. GIVEN WITH THE SEED: THE CARDS: each row of YtkhcpnmbhbhcgaaDoorRows.lean that lists a variable, with what it lists TIED to the program's text (the seventh form; the later family's looks); each row that meets fmt, with fmt's text TOLD by the authors' own Lean function (tested against real Go, not proved from fmt's source: count such statements apart). THE CARD IS WHAT COUNTS. Prove the row's statement (the work); the ties are given (YtkhcpnmbhbhcgaaDoorTie.lean); close each card by the builder's one call (the guide's Derived/Test/ToyasCard.lean, 'card_holds'). Laid BY PROGRAM, IN A SANDBOX (cutbox-door.mjs). By AI agents, Wed Nov 11 2026. No macro, syntax, notation, axiom, sorry.
-/
import Derived.Test.YtkhcpnmbhbhcgaaDoorRows
import GoSem.ClaimSeven
namespace Go.Proofs.YtkhcpnmbhbhcgaaDoor
namespace Rows

/-- THE TIED CARD OF 'colonnadelaw13.GreetWhole'. -/
def greetWholeCard : Claim7 := { stood := { row := greetWholeRow, standIns := [], harness := (true, "5a60d73fc8474fbbde131b722a1fd03d3466c758fa9bd53d6d34490644fb9728"), looks := false }, kinds := [], alts := [], laidByText := true, laidKinds := [.data], laidTests := true, laidLooks := .later }
def GreetWholeCardSaid : Prop := Claim7.holds Tryd.pinned (.plain (OpenSpec.ofChange greetWholeSpec)) greetWholeCard

/-- THE TIED CARD OF 'colonnadelaw13.GreetMeets'. -/
def greetMeetsCard : Claim7 := { stood := { row := greetMeetsRow, standIns := [], harness := (true, "5a60d73fc8474fbbde131b722a1fd03d3466c758fa9bd53d6d34490644fb9728"), looks := false }, kinds := [], alts := [], laidByText := true, laidKinds := [.data], laidTests := true, laidLooks := .later }
def GreetMeetsCardSaid : Prop := Claim7.holds Tryd.pinned (.plain (OpenSpec.ofChange greetMeetsSpec)) greetMeetsCard

/-- THE TIED CARD OF 'colonnadelaw13.GreetParts'. -/
def greetPartsCard : Claim7 := { stood := { row := greetPartsRow, standIns := [], harness := (true, "5a60d73fc8474fbbde131b722a1fd03d3466c758fa9bd53d6d34490644fb9728"), looks := false }, kinds := [], alts := [], laidByText := true, laidKinds := [.data], laidTests := true, laidLooks := .later }
def GreetPartsCardSaid : Prop := Claim7.holds Tryd.pinned (.plain (OpenSpec.ofChange greetPartsSpec)) greetPartsCard

/-- THE TIED CARD OF 'colonnadelaw13.GreetHears'. -/
def greetHearsCard : Claim7 := { stood := { row := greetHearsRow, standIns := [], harness := (true, "5a60d73fc8474fbbde131b722a1fd03d3466c758fa9bd53d6d34490644fb9728"), looks := false }, kinds := [], alts := [], laidByText := true, laidKinds := [.data], laidTests := true, laidLooks := .later }
def GreetHearsCardSaid : Prop := Claim7.holds Tryd.pinned (.plain (OpenSpec.ofChange greetHearsSpec)) greetHearsCard

/-- THE TIED CARD OF 'colonnadelaw13.GreetParams'. -/
def greetParamsCard : Claim7 := { stood := { row := greetParamsRow, standIns := [], harness := (true, "5a60d73fc8474fbbde131b722a1fd03d3466c758fa9bd53d6d34490644fb9728"), looks := false }, kinds := [], alts := [], laidByText := true, laidKinds := [.data, .data, .data], laidTests := true, laidLooks := .later }
def GreetParamsCardSaid : Prop := Claim7.holds Tryd.pinned (.plain (OpenSpec.ofChange greetParamsSpec)) greetParamsCard

/-- THE SECOND FORM's CARD OF 'colonnadelaw13.GreetWhole'. -/
def greetWholeUptoCard : Claim7 := { stood := { row := greetWholeUptoRow, standIns := [], harness := (true, "5a60d73fc8474fbbde131b722a1fd03d3466c758fa9bd53d6d34490644fb9728"), looks := false }, kinds := [], alts := [], laidByText := true, laidKinds := [.data], laidTests := true, laidLooks := .later }
def GreetWholeUptoCardSaid : Prop := Claim7.holds Tryd.pinned (.plain (OpenSpec.upto greetWholeSpec)) greetWholeUptoCard

/-- THE SECOND FORM's CARD OF 'colonnadelaw13.GreetMeets'. -/
def greetMeetsUptoCard : Claim7 := { stood := { row := greetMeetsUptoRow, standIns := [], harness := (true, "5a60d73fc8474fbbde131b722a1fd03d3466c758fa9bd53d6d34490644fb9728"), looks := false }, kinds := [], alts := [], laidByText := true, laidKinds := [.data], laidTests := true, laidLooks := .later }
def GreetMeetsUptoCardSaid : Prop := Claim7.holds Tryd.pinned (.plain (OpenSpec.upto greetMeetsSpec)) greetMeetsUptoCard

/-- THE SECOND FORM's CARD OF 'colonnadelaw13.GreetParts'. -/
def greetPartsUptoCard : Claim7 := { stood := { row := greetPartsUptoRow, standIns := [], harness := (true, "5a60d73fc8474fbbde131b722a1fd03d3466c758fa9bd53d6d34490644fb9728"), looks := false }, kinds := [], alts := [], laidByText := true, laidKinds := [.data], laidTests := true, laidLooks := .later }
def GreetPartsUptoCardSaid : Prop := Claim7.holds Tryd.pinned (.plain (OpenSpec.upto greetPartsSpec)) greetPartsUptoCard

/-- THE SECOND FORM's CARD OF 'colonnadelaw13.GreetHears'. -/
def greetHearsUptoCard : Claim7 := { stood := { row := greetHearsUptoRow, standIns := [], harness := (true, "5a60d73fc8474fbbde131b722a1fd03d3466c758fa9bd53d6d34490644fb9728"), looks := false }, kinds := [], alts := [], laidByText := true, laidKinds := [.data], laidTests := true, laidLooks := .later }
def GreetHearsUptoCardSaid : Prop := Claim7.holds Tryd.pinned (.plain (OpenSpec.upto greetHearsSpec)) greetHearsUptoCard

/-- THE SECOND FORM's CARD OF 'colonnadelaw13.GreetParams'. -/
def greetParamsUptoCard : Claim7 := { stood := { row := greetParamsUptoRow, standIns := [], harness := (true, "5a60d73fc8474fbbde131b722a1fd03d3466c758fa9bd53d6d34490644fb9728"), looks := false }, kinds := [], alts := [], laidByText := true, laidKinds := [.data, .data, .data], laidTests := true, laidLooks := .later }
def GreetParamsUptoCardSaid : Prop := Claim7.holds Tryd.pinned (.plain (OpenSpec.upto greetParamsSpec)) greetParamsUptoCard
end Rows
end Go.Proofs.YtkhcpnmbhbhcgaaDoor
