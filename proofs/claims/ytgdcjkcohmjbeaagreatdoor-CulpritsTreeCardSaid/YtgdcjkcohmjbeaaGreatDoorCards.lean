/-
  DERIVED. GIVEN WITH THE SEED: THE CARDS: each row of YtgdcjkcohmjbeaaGreatDoorRows.lean that lists a variable, with what it lists TIED to the program's text (the seventh form; the later family's looks); each row that meets fmt, with fmt's text TOLD by the authors' own Lean function (tested against real Go, not proved from fmt's source: count such statements apart). THE CARD IS WHAT COUNTS. Prove the row's statement (the work); the ties are given (YtgdcjkcohmjbeaaGreatDoorTie.lean); close each card by the builder's one call (the guide's Derived/Test/ToyasCard.lean, 'card_holds'). Laid BY PROGRAM, IN A SANDBOX (cutbox-door.mjs). By AI agents, Wed Nov 11 2026. No macro, syntax, notation, axiom, sorry.
-/
import Derived.Test.YtgdcjkcohmjbeaaGreatDoorRows
import GoSem.ClaimSeven
namespace Go.Proofs.YtgdcjkcohmjbeaaGreatDoor
namespace Rows

/-- THE TIED CARD OF 'gauntletlaw41.CulpritsTree'. -/
def culpritsTreeCard : Claim7 := { stood := { row := culpritsTreeRow, standIns := [], harness := (true, "2623cfec39a36d341945cfca3521fe549cd096bcf5f21e1d0eeb208ab7d22040"), looks := false }, kinds := [], alts := [], laidByText := true, laidKinds := [.widerDeep], laidTests := true, laidLooks := .later }
def CulpritsTreeCardSaid : Prop := Claim7.holds Tryz.pinned (.plain (OpenSpec.ofChange culpritsTreeSpec)) culpritsTreeCard

/-- THE SECOND FORM's CARD OF 'gauntletlaw41.CulpritsTree'. -/
def culpritsTreeUptoCard : Claim7 := { stood := { row := culpritsTreeUptoRow, standIns := [], harness := (true, "2623cfec39a36d341945cfca3521fe549cd096bcf5f21e1d0eeb208ab7d22040"), looks := false }, kinds := [], alts := [], laidByText := true, laidKinds := [.widerDeep], laidTests := true, laidLooks := .later }
def CulpritsTreeUptoCardSaid : Prop := Claim7.holds Tryz.pinned (.plain (OpenSpec.upto culpritsTreeSpec)) culpritsTreeUptoCard
end Rows
end Go.Proofs.YtgdcjkcohmjbeaaGreatDoor
