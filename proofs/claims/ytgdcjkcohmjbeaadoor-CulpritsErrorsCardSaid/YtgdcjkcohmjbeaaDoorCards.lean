/-
  DERIVED. GIVEN WITH THE SEED: THE CARDS: each row of YtgdcjkcohmjbeaaDoorRows.lean that lists a variable, with what it lists TIED to the program's text (the seventh form; the later family's looks); each row that meets fmt, with fmt's text TOLD by the authors' own Lean function (tested against real Go, not proved from fmt's source: count such statements apart). THE CARD IS WHAT COUNTS. Prove the row's statement (the work); the ties are given (YtgdcjkcohmjbeaaDoorTie.lean); close each card by the builder's one call (the guide's Derived/Test/ToyasCard.lean, 'card_holds'). Laid BY PROGRAM, IN A SANDBOX (cutbox-door.mjs). By AI agents, Wed Nov 11 2026. No macro, syntax, notation, axiom, sorry.
-/
import Derived.Test.YtgdcjkcohmjbeaaDoorRows
import GoSem.ClaimSeven
namespace Go.Proofs.YtgdcjkcohmjbeaaDoor
namespace Rows

/-- THE TIED CARD OF 'gauntletlaw41.CulpritsSuspects'. -/
def culpritsSuspectsCard : Claim7 := { stood := { row := culpritsSuspectsRow, standIns := [], harness := (true, "51f813250da31b42dc1a3d3ec51c85cb333c07c9a890cc3a7b9fbfd303598b75"), looks := false }, kinds := [], alts := [], laidByText := true, laidKinds := [.widerDeep], laidTests := true, laidLooks := .later }
def CulpritsSuspectsCardSaid : Prop := Claim7.holds Tryd.pinned (.plain (OpenSpec.ofChange culpritsSuspectsSpec)) culpritsSuspectsCard

/-- THE TIED CARD OF 'gauntletlaw41.CulpritsClasses'. -/
def culpritsClassesCard : Claim7 := { stood := { row := culpritsClassesRow, standIns := [], harness := (true, "51f813250da31b42dc1a3d3ec51c85cb333c07c9a890cc3a7b9fbfd303598b75"), looks := false }, kinds := [], alts := [], laidByText := true, laidKinds := [.widerDeep], laidTests := true, laidLooks := .later }
def CulpritsClassesCardSaid : Prop := Claim7.holds Tryd.pinned (.plain (OpenSpec.ofChange culpritsClassesSpec)) culpritsClassesCard

/-- THE TIED CARD OF 'gauntletlaw41.CulpritsNext'. -/
def culpritsNextCard : Claim7 := { stood := { row := culpritsNextRow, standIns := [], harness := (true, "51f813250da31b42dc1a3d3ec51c85cb333c07c9a890cc3a7b9fbfd303598b75"), looks := false }, kinds := [], alts := [], laidByText := true, laidKinds := [.widerDeep], laidTests := true, laidLooks := .later }
def CulpritsNextCardSaid : Prop := Claim7.holds Tryd.pinned (.plain (OpenSpec.ofChange culpritsNextSpec)) culpritsNextCard

/-- THE TIED CARD OF 'gauntletlaw41.CulpritsWalk'. -/
def culpritsWalkCard : Claim7 := { stood := { row := culpritsWalkRow, standIns := [], harness := (true, "51f813250da31b42dc1a3d3ec51c85cb333c07c9a890cc3a7b9fbfd303598b75"), looks := false }, kinds := [], alts := [], laidByText := true, laidKinds := [.widerDeep], laidTests := true, laidLooks := .later }
def CulpritsWalkCardSaid : Prop := Claim7.holds Tryd.pinned (.plain (OpenSpec.ofChange culpritsWalkSpec)) culpritsWalkCard

/-- THE TIED CARD OF 'gauntletlaw41.CulpritsTrees'. -/
def culpritsTreesCard : Claim7 := { stood := { row := culpritsTreesRow, standIns := [], harness := (true, "51f813250da31b42dc1a3d3ec51c85cb333c07c9a890cc3a7b9fbfd303598b75"), looks := false }, kinds := [], alts := [], laidByText := true, laidKinds := [.widerDeep], laidTests := true, laidLooks := .later }
def CulpritsTreesCardSaid : Prop := Claim7.holds Tryd.pinned (.plain (OpenSpec.ofChange culpritsTreesSpec)) culpritsTreesCard

/-- THE TIED CARD OF 'gauntletlaw41.CulpritsErrors'. -/
def culpritsErrorsCard : Claim7 := { stood := { row := culpritsErrorsRow, standIns := [], harness := (true, "51f813250da31b42dc1a3d3ec51c85cb333c07c9a890cc3a7b9fbfd303598b75"), looks := false }, kinds := [], alts := [], laidByText := true, laidKinds := [.widerDeep], laidTests := true, laidLooks := .later }
def CulpritsErrorsCardSaid : Prop := Claim7.holds Tryd.pinned (.plain (OpenSpec.ofChange culpritsErrorsSpec)) culpritsErrorsCard

/-- THE TIED CARD OF 'gauntletlaw41.CulpritsKnown'. -/
def culpritsKnownCard : Claim7 := { stood := { row := culpritsKnownRow, standIns := [], harness := (true, "51f813250da31b42dc1a3d3ec51c85cb333c07c9a890cc3a7b9fbfd303598b75"), looks := false }, kinds := [], alts := [], laidByText := true, laidKinds := [.widerDeep], laidTests := true, laidLooks := .later }
def CulpritsKnownCardSaid : Prop := Claim7.holds Tryd.pinned (.plain (OpenSpec.ofChange culpritsKnownSpec)) culpritsKnownCard

/-- THE SECOND FORM's CARD OF 'gauntletlaw41.CulpritsSuspects'. -/
def culpritsSuspectsUptoCard : Claim7 := { stood := { row := culpritsSuspectsUptoRow, standIns := [], harness := (true, "51f813250da31b42dc1a3d3ec51c85cb333c07c9a890cc3a7b9fbfd303598b75"), looks := false }, kinds := [], alts := [], laidByText := true, laidKinds := [.widerDeep], laidTests := true, laidLooks := .later }
def CulpritsSuspectsUptoCardSaid : Prop := Claim7.holds Tryd.pinned (.plain (OpenSpec.upto culpritsSuspectsSpec)) culpritsSuspectsUptoCard

/-- THE SECOND FORM's CARD OF 'gauntletlaw41.CulpritsClasses'. -/
def culpritsClassesUptoCard : Claim7 := { stood := { row := culpritsClassesUptoRow, standIns := [], harness := (true, "51f813250da31b42dc1a3d3ec51c85cb333c07c9a890cc3a7b9fbfd303598b75"), looks := false }, kinds := [], alts := [], laidByText := true, laidKinds := [.widerDeep], laidTests := true, laidLooks := .later }
def CulpritsClassesUptoCardSaid : Prop := Claim7.holds Tryd.pinned (.plain (OpenSpec.upto culpritsClassesSpec)) culpritsClassesUptoCard

/-- THE SECOND FORM's CARD OF 'gauntletlaw41.CulpritsNext'. -/
def culpritsNextUptoCard : Claim7 := { stood := { row := culpritsNextUptoRow, standIns := [], harness := (true, "51f813250da31b42dc1a3d3ec51c85cb333c07c9a890cc3a7b9fbfd303598b75"), looks := false }, kinds := [], alts := [], laidByText := true, laidKinds := [.widerDeep], laidTests := true, laidLooks := .later }
def CulpritsNextUptoCardSaid : Prop := Claim7.holds Tryd.pinned (.plain (OpenSpec.upto culpritsNextSpec)) culpritsNextUptoCard

/-- THE SECOND FORM's CARD OF 'gauntletlaw41.CulpritsWalk'. -/
def culpritsWalkUptoCard : Claim7 := { stood := { row := culpritsWalkUptoRow, standIns := [], harness := (true, "51f813250da31b42dc1a3d3ec51c85cb333c07c9a890cc3a7b9fbfd303598b75"), looks := false }, kinds := [], alts := [], laidByText := true, laidKinds := [.widerDeep], laidTests := true, laidLooks := .later }
def CulpritsWalkUptoCardSaid : Prop := Claim7.holds Tryd.pinned (.plain (OpenSpec.upto culpritsWalkSpec)) culpritsWalkUptoCard

/-- THE SECOND FORM's CARD OF 'gauntletlaw41.CulpritsTrees'. -/
def culpritsTreesUptoCard : Claim7 := { stood := { row := culpritsTreesUptoRow, standIns := [], harness := (true, "51f813250da31b42dc1a3d3ec51c85cb333c07c9a890cc3a7b9fbfd303598b75"), looks := false }, kinds := [], alts := [], laidByText := true, laidKinds := [.widerDeep], laidTests := true, laidLooks := .later }
def CulpritsTreesUptoCardSaid : Prop := Claim7.holds Tryd.pinned (.plain (OpenSpec.upto culpritsTreesSpec)) culpritsTreesUptoCard

/-- THE SECOND FORM's CARD OF 'gauntletlaw41.CulpritsErrors'. -/
def culpritsErrorsUptoCard : Claim7 := { stood := { row := culpritsErrorsUptoRow, standIns := [], harness := (true, "51f813250da31b42dc1a3d3ec51c85cb333c07c9a890cc3a7b9fbfd303598b75"), looks := false }, kinds := [], alts := [], laidByText := true, laidKinds := [.widerDeep], laidTests := true, laidLooks := .later }
def CulpritsErrorsUptoCardSaid : Prop := Claim7.holds Tryd.pinned (.plain (OpenSpec.upto culpritsErrorsSpec)) culpritsErrorsUptoCard

/-- THE SECOND FORM's CARD OF 'gauntletlaw41.CulpritsKnown'. -/
def culpritsKnownUptoCard : Claim7 := { stood := { row := culpritsKnownUptoRow, standIns := [], harness := (true, "51f813250da31b42dc1a3d3ec51c85cb333c07c9a890cc3a7b9fbfd303598b75"), looks := false }, kinds := [], alts := [], laidByText := true, laidKinds := [.widerDeep], laidTests := true, laidLooks := .later }
def CulpritsKnownUptoCardSaid : Prop := Claim7.holds Tryd.pinned (.plain (OpenSpec.upto culpritsKnownSpec)) culpritsKnownUptoCard
end Rows
end Go.Proofs.YtgdcjkcohmjbeaaDoor
