/-
  DERIVED. GIVEN WITH THE SEED: THE PROGRAM's TIES (one call each: nine closed facts by the kernel) AND EACH ROW's TIE, after the 31st guide's Derived/Test/Toyas{Tie, Card}.lean. No idea stands in it: it is a product of the set-up. Laid BY PROGRAM, IN A SANDBOX (cutbox-door.mjs). By AI agents, Wed Nov 11 2026. No macro, syntax, notation, axiom, sorry.
-/
import Derived.Test.YtkhcpnmbhbhcgaaDoorRows
import Derived.LaidByTextLater
import Derived.SevenTiedAt
import Derived.LaidSub
import Derived.LaidOnce
namespace Go.Proofs.YtkhcpnmbhbhcgaaDoor
open Go
set_option maxRecDepth 100000
theorem seatTie1 : Tryd.prog.laidByTextLater [("colonnade/colonnaderef13.order", Rows.laid_colonnade_colonnaderef13_order), ("colonnade/ring.round", Rows.laid_colonnade_ring_round), ("colonnade/greet.ids", Rows.laid_colonnade_greet_ids)] [.data, .data, .data] true :=
  Program.laidByTextLater_by_one 24 8 65 (by kernel_rfl) (by kernel_rfl) (by kernel_rfl) (by kernel_rfl) (by kernel_rfl) (by kernel_rfl) (fun _ _ => by kernel_rfl)
theorem noOwnUnsafe : Tryd.pinned.checked.prog.headLifts.contains "ownunsafe" = false := by kernel_rfl
theorem tie : Tryd.prog.laidByTextLater [("colonnade/ring.round", Rows.laid_colonnade_ring_round)] [.data] true :=
  Program.laidByTextLater.sub seatTie1 ["colonnade/ring.round"] (by kernel_rfl) (by kernel_rfl)
theorem greetWhole_row_tie : Rows.greetWholeRow.laidByTextAt .later Tryd.pinned [.data] true :=
  OpenClaim.laidByTextAt_later rfl rfl tie noOwnUnsafe
theorem greetMeets_row_tie : Rows.greetMeetsRow.laidByTextAt .later Tryd.pinned [.data] true :=
  OpenClaim.laidByTextAt_later rfl rfl tie noOwnUnsafe
theorem greetParts_row_tie : Rows.greetPartsRow.laidByTextAt .later Tryd.pinned [.data] true :=
  OpenClaim.laidByTextAt_later rfl rfl tie noOwnUnsafe
theorem greetHears_row_tie : Rows.greetHearsRow.laidByTextAt .later Tryd.pinned [.data] true :=
  OpenClaim.laidByTextAt_later rfl rfl tie noOwnUnsafe
theorem tie2 : Tryd.prog.laidByTextLater [("colonnade/colonnaderef13.order", Rows.laid_colonnade_colonnaderef13_order), ("colonnade/ring.round", Rows.laid_colonnade_ring_round), ("colonnade/greet.ids", Rows.laid_colonnade_greet_ids)] [.data, .data, .data] true :=
  Program.laidByTextLater.sub seatTie1 ["colonnade/colonnaderef13.order", "colonnade/ring.round", "colonnade/greet.ids"] (by kernel_rfl) (by kernel_rfl)
theorem greetParams_row_tie : Rows.greetParamsRow.laidByTextAt .later Tryd.pinned [.data, .data, .data] true :=
  OpenClaim.laidByTextAt_later rfl rfl tie2 noOwnUnsafe
theorem greetWholeUpto_row_tie : Rows.greetWholeUptoRow.laidByTextAt .later Tryd.pinned [.data] true :=
  OpenClaim.laidByTextAt_later rfl rfl tie noOwnUnsafe
theorem greetMeetsUpto_row_tie : Rows.greetMeetsUptoRow.laidByTextAt .later Tryd.pinned [.data] true :=
  OpenClaim.laidByTextAt_later rfl rfl tie noOwnUnsafe
theorem greetPartsUpto_row_tie : Rows.greetPartsUptoRow.laidByTextAt .later Tryd.pinned [.data] true :=
  OpenClaim.laidByTextAt_later rfl rfl tie noOwnUnsafe
theorem greetHearsUpto_row_tie : Rows.greetHearsUptoRow.laidByTextAt .later Tryd.pinned [.data] true :=
  OpenClaim.laidByTextAt_later rfl rfl tie noOwnUnsafe
theorem greetParamsUpto_row_tie : Rows.greetParamsUptoRow.laidByTextAt .later Tryd.pinned [.data, .data, .data] true :=
  OpenClaim.laidByTextAt_later rfl rfl tie2 noOwnUnsafe
end Go.Proofs.YtkhcpnmbhbhcgaaDoor
