/-
  DERIVED. GIVEN WITH THE SEED: THE PROGRAM's TIES (one call each: nine closed facts by the kernel) AND EACH ROW's TIE, after the 31st guide's Derived/Test/Toyas{Tie, Card}.lean. No idea stands in it: it is a product of the set-up. Laid BY PROGRAM, IN A SANDBOX (cutbox-door.mjs). By AI agents, Wed Nov 11 2026. No macro, syntax, notation, axiom, sorry.
-/
import Derived.Test.YtlncnjcbgfeaoaaDoorRows
import Derived.LaidByTextLater
import Derived.SevenTiedAt
import Derived.LaidSub
import Derived.LaidOnce
namespace Go.Proofs.YtlncnjcbgfeaoaaDoor
open Go
set_option maxRecDepth 100000
theorem seatTie1 : Tryd.prog.laidByTextLater [("colonnade/ring.round", Rows.laid_colonnade_ring_round), ("colonnade/head.kinds", Rows.laid_colonnade_head_kinds), ("colonnade/parcel.first", Rows.laid_colonnade_parcel_first)] [.data, .data, .widerDeep] true :=
  Program.laidByTextLater_by_one 24 8 65 (by kernel_rfl) (by kernel_rfl) (by kernel_rfl) (by kernel_rfl) (by kernel_rfl) (by kernel_rfl) (fun _ _ => by kernel_rfl)
theorem noOwnUnsafe : Tryd.pinned.checked.prog.headLifts.contains "ownunsafe" = false := by kernel_rfl
theorem tie : Tryd.prog.laidByTextLater [("colonnade/ring.round", Rows.laid_colonnade_ring_round), ("colonnade/parcel.first", Rows.laid_colonnade_parcel_first)] [.data, .widerDeep] true :=
  Program.laidByTextLater.sub seatTie1 ["colonnade/ring.round", "colonnade/parcel.first"] (by kernel_rfl) (by kernel_rfl)
theorem parcelKeys_row_tie : Rows.parcelKeysRow.laidByTextAt .later Tryd.pinned [.data, .widerDeep] true :=
  OpenClaim.laidByTextAt_later rfl rfl tie noOwnUnsafe
theorem tie2 : Tryd.prog.laidByTextLater [("colonnade/ring.round", Rows.laid_colonnade_ring_round), ("colonnade/head.kinds", Rows.laid_colonnade_head_kinds), ("colonnade/parcel.first", Rows.laid_colonnade_parcel_first)] [.data, .data, .widerDeep] true :=
  Program.laidByTextLater.sub seatTie1 ["colonnade/ring.round", "colonnade/head.kinds", "colonnade/parcel.first"] (by kernel_rfl) (by kernel_rfl)
theorem parcelOpens_row_tie : Rows.parcelOpensRow.laidByTextAt .later Tryd.pinned [.data, .data, .widerDeep] true :=
  OpenClaim.laidByTextAt_later rfl rfl tie2 noOwnUnsafe
theorem parcelBack_row_tie : Rows.parcelBackRow.laidByTextAt .later Tryd.pinned [.data, .data, .widerDeep] true :=
  OpenClaim.laidByTextAt_later rfl rfl tie2 noOwnUnsafe
theorem parcelTwo_row_tie : Rows.parcelTwoRow.laidByTextAt .later Tryd.pinned [.data, .data, .widerDeep] true :=
  OpenClaim.laidByTextAt_later rfl rfl tie2 noOwnUnsafe
theorem parcelTurns_row_tie : Rows.parcelTurnsRow.laidByTextAt .later Tryd.pinned [.data, .data, .widerDeep] true :=
  OpenClaim.laidByTextAt_later rfl rfl tie2 noOwnUnsafe
theorem parcelKeysUpto_row_tie : Rows.parcelKeysUptoRow.laidByTextAt .later Tryd.pinned [.data, .widerDeep] true :=
  OpenClaim.laidByTextAt_later rfl rfl tie noOwnUnsafe
theorem parcelOpensUpto_row_tie : Rows.parcelOpensUptoRow.laidByTextAt .later Tryd.pinned [.data, .data, .widerDeep] true :=
  OpenClaim.laidByTextAt_later rfl rfl tie2 noOwnUnsafe
theorem parcelBackUpto_row_tie : Rows.parcelBackUptoRow.laidByTextAt .later Tryd.pinned [.data, .data, .widerDeep] true :=
  OpenClaim.laidByTextAt_later rfl rfl tie2 noOwnUnsafe
theorem parcelTwoUpto_row_tie : Rows.parcelTwoUptoRow.laidByTextAt .later Tryd.pinned [.data, .data, .widerDeep] true :=
  OpenClaim.laidByTextAt_later rfl rfl tie2 noOwnUnsafe
theorem parcelTurnsUpto_row_tie : Rows.parcelTurnsUptoRow.laidByTextAt .later Tryd.pinned [.data, .data, .widerDeep] true :=
  OpenClaim.laidByTextAt_later rfl rfl tie2 noOwnUnsafe
end Go.Proofs.YtlncnjcbgfeaoaaDoor
