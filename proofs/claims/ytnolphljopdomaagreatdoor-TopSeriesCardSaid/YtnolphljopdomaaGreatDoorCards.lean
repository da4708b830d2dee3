/-
  DERIVED. GIVEN WITH THE SEED: THE CARDS: each row of YtnolphljopdomaaGreatDoorRows.lean that lists a variable, with what it lists TIED to the program's text (the seventh form; the later family's looks); each row that meets fmt, with fmt's text TOLD by the authors' own Lean function (tested against real Go, not proved from fmt's source: count such statements apart). THE CARD IS WHAT COUNTS. Prove the row's statement (the work); the ties are given (YtnolphljopdomaaGreatDoorTie.lean); close each card by the builder's one call (the guide's Derived/Test/ToyasCard.lean, 'card_holds'). Laid BY PROGRAM, IN A SANDBOX (cutbox-door.mjs). By AI agents, Wed Nov 11 2026. No macro, syntax, notation, axiom, sorry.
-/
import Derived.Test.YtnolphljopdomaaGreatDoorRows
import GoSem.ClaimSeven
namespace Go.Proofs.YtnolphljopdomaaGreatDoor
namespace Rows

/-- THE TIED CARD OF 'gauntlettop.TopRank'. -/
def topRankCard : Claim7 := { stood := { row := topRankRow, standIns := [], harness := (true, "3a8568ae2447b8e3a6fc357e14d4f8b3c72af6eb502955d74fcab49e24b353c9"), looks := true }, kinds := [], alts := [], laidByText := true, laidKinds := [.data, .data, .data, .data, .data, .pinned], laidTests := true, laidLooks := .later }
def TopRankCardSaid : Prop := Claim7.holds Tryz.pinned (.plain (OpenSpec.ofChange topRankSpec)) topRankCard

/-- THE TIED CARD OF 'gauntlettop.TopSeries'. -/
def topSeriesCard : Claim7 := { stood := { row := topSeriesRow, standIns := [], harness := (true, "3a8568ae2447b8e3a6fc357e14d4f8b3c72af6eb502955d74fcab49e24b353c9"), looks := true }, kinds := [], alts := [], laidByText := true, laidKinds := [.data, .data, .data, .data, .data, .pinned], laidTests := true, laidLooks := .later }
def TopSeriesCardSaid : Prop := Claim7.holds Tryz.pinned (.plain (OpenSpec.ofChange topSeriesSpec)) topSeriesCard

/-- THE SECOND FORM's CARD OF 'gauntlettop.TopRank'. -/
def topRankUptoCard : Claim7 := { stood := { row := topRankUptoRow, standIns := [], harness := (true, "3a8568ae2447b8e3a6fc357e14d4f8b3c72af6eb502955d74fcab49e24b353c9"), looks := true }, kinds := [], alts := [], laidByText := true, laidKinds := [.data, .data, .data, .data, .data, .pinned], laidTests := true, laidLooks := .later }
def TopRankUptoCardSaid : Prop := Claim7.holds Tryz.pinned (.plain (OpenSpec.upto topRankSpec)) topRankUptoCard

/-- THE SECOND FORM's CARD OF 'gauntlettop.TopSeries'. -/
def topSeriesUptoCard : Claim7 := { stood := { row := topSeriesUptoRow, standIns := [], harness := (true, "3a8568ae2447b8e3a6fc357e14d4f8b3c72af6eb502955d74fcab49e24b353c9"), looks := true }, kinds := [], alts := [], laidByText := true, laidKinds := [.data, .data, .data, .data, .data, .pinned], laidTests := true, laidLooks := .later }
def TopSeriesUptoCardSaid : Prop := Claim7.holds Tryz.pinned (.plain (OpenSpec.upto topSeriesSpec)) topSeriesUptoCard
end Rows
end Go.Proofs.YtnolphljopdomaaGreatDoor
