/-
  DERIVED. GIVEN WITH THE SEED: THE CARDS: each row of YtmmcendgdcmlkaaGreatDoorRows.lean that lists a variable, with what it lists TIED to the program's text (the seventh form; the later family's looks); each row that meets fmt, with fmt's text TOLD by the authors' own Lean function (tested against real Go, not proved from fmt's source: count such statements apart). THE CARD IS WHAT COUNTS. Prove the row's statement (the work); the ties are given (YtmmcendgdcmlkaaGreatDoorTie.lean); close each card by the builder's one call (the guide's Derived/Test/ToyasCard.lean, 'card_holds'). Laid BY PROGRAM, IN A SANDBOX (cutbox-door.mjs). By AI agents, Wed Nov 11 2026. No macro, syntax, notation, axiom, sorry.
-/
import Derived.Test.YtmmcendgdcmlkaaGreatDoorRows
import GoSem.ClaimSeven
namespace Go.Proofs.YtmmcendgdcmlkaaGreatDoor
namespace Rows

/-- THE TIED CARD OF 'gauntletlaw20.OrdersSubsumes'. -/
def ordersSubsumesCard : Claim7 := { stood := { row := ordersSubsumesRow, standIns := [], harness := (true, "e6ff016c4f2ccf0278521ac34d8ed2747e1313938378c3cc012f36ea8a6123ff"), looks := false }, kinds := [], alts := [], laidByText := true, laidKinds := [.widerDeep], laidTests := true, laidLooks := .later }
def OrdersSubsumesCardSaid : Prop := Claim7.holds Tryz.pinned (.plain (OpenSpec.ofChange ordersSubsumesSpec)) ordersSubsumesCard

/-- THE SECOND FORM's CARD OF 'gauntletlaw20.OrdersSubsumes'. -/
def ordersSubsumesUptoCard : Claim7 := { stood := { row := ordersSubsumesUptoRow, standIns := [], harness := (true, "e6ff016c4f2ccf0278521ac34d8ed2747e1313938378c3cc012f36ea8a6123ff"), looks := false }, kinds := [], alts := [], laidByText := true, laidKinds := [.widerDeep], laidTests := true, laidLooks := .later }
def OrdersSubsumesUptoCardSaid : Prop := Claim7.holds Tryz.pinned (.plain (OpenSpec.upto ordersSubsumesSpec)) ordersSubsumesUptoCard
end Rows
end Go.Proofs.YtmmcendgdcmlkaaGreatDoor
