/-
  DERIVED. GIVEN WITH THE SEED: THE CARDS: each row of YthdaggogdocmfaaDoorRows.lean that lists a variable, with what it lists TIED to the program's text (the seventh form; the later family's looks); each row that meets fmt, with fmt's text TOLD by the authors' own Lean function (tested against real Go, not proved from fmt's source: count such statements apart). THE CARD IS WHAT COUNTS. Prove the row's statement (the work); the ties are given (YthdaggogdocmfaaDoorTie.lean); close each card by the builder's one call (the guide's Derived/Test/ToyasCard.lean, 'card_holds'). Laid BY PROGRAM, IN A SANDBOX (cutbox-door.mjs). By AI agents, Wed Nov 11 2026. No macro, syntax, notation, axiom, sorry.
-/
import Derived.Test.YthdaggogdocmfaaDoorRows
import GoSem.ClaimSeven
namespace Go.Proofs.YthdaggogdocmfaaDoor
namespace Rows

/-- THE TIED CARD OF 'gauntletlaw43.PlansCheck'. -/
def plansCheckCard : Claim7 := { stood := { row := plansCheckRow, standIns := [], harness := (true, "6d3ff7fe0d9779fedb791cf0751605ad5cd5bfdc42f52104730e367675225e7a"), looks := false }, kinds := [], alts := [], laidByText := true, laidKinds := [.widerDeep], laidTests := true, laidLooks := .later }
def PlansCheckCardSaid : Prop := Claim7.holds Tryd.pinned (.plain (OpenSpec.ofChange plansCheckSpec)) plansCheckCard

/-- THE TIED CARD OF 'gauntletlaw43.PlansItems'. -/
def plansItemsCard : Claim7 := { stood := { row := plansItemsRow, standIns := [], harness := (true, "6d3ff7fe0d9779fedb791cf0751605ad5cd5bfdc42f52104730e367675225e7a"), looks := false }, kinds := [], alts := [], laidByText := true, laidKinds := [.widerDeep], laidTests := true, laidLooks := .later }
def PlansItemsCardSaid : Prop := Claim7.holds Tryd.pinned (.plain (OpenSpec.ofChange plansItemsSpec)) plansItemsCard

/-- THE TIED CARD OF 'gauntletlaw43.PlansOrder'. -/
def plansOrderCard : Claim7 := { stood := { row := plansOrderRow, standIns := [], harness := (true, "6d3ff7fe0d9779fedb791cf0751605ad5cd5bfdc42f52104730e367675225e7a"), looks := false }, kinds := [], alts := [], laidByText := true, laidKinds := [.widerDeep], laidTests := true, laidLooks := .later }
def PlansOrderCardSaid : Prop := Claim7.holds Tryd.pinned (.plain (OpenSpec.ofChange plansOrderSpec)) plansOrderCard

/-- THE TIED CARD OF 'gauntletlaw43.PlansCurve'. -/
def plansCurveCard : Claim7 := { stood := { row := plansCurveRow, standIns := [], harness := (true, "6d3ff7fe0d9779fedb791cf0751605ad5cd5bfdc42f52104730e367675225e7a"), looks := false }, kinds := [], alts := [], laidByText := true, laidKinds := [.widerDeep], laidTests := true, laidLooks := .later }
def PlansCurveCardSaid : Prop := Claim7.holds Tryd.pinned (.plain (OpenSpec.ofChange plansCurveSpec)) plansCurveCard

/-- THE TIED CARD OF 'gauntletlaw43.PlansLate'. -/
def plansLateCard : Claim7 := { stood := { row := plansLateRow, standIns := [], harness := (true, "6d3ff7fe0d9779fedb791cf0751605ad5cd5bfdc42f52104730e367675225e7a"), looks := false }, kinds := [], alts := [], laidByText := true, laidKinds := [.widerDeep], laidTests := true, laidLooks := .later }
def PlansLateCardSaid : Prop := Claim7.holds Tryd.pinned (.plain (OpenSpec.ofChange plansLateSpec)) plansLateCard

/-- THE TIED CARD OF 'gauntletlaw43.PlansBest'. -/
def plansBestCard : Claim7 := { stood := { row := plansBestRow, standIns := [], harness := (true, "6d3ff7fe0d9779fedb791cf0751605ad5cd5bfdc42f52104730e367675225e7a"), looks := false }, kinds := [], alts := [], laidByText := true, laidKinds := [.widerDeep], laidTests := true, laidLooks := .later }
def PlansBestCardSaid : Prop := Claim7.holds Tryd.pinned (.plain (OpenSpec.ofChange plansBestSpec)) plansBestCard

/-- THE TIED CARD OF 'gauntletlaw43.PlansChains'. -/
def plansChainsCard : Claim7 := { stood := { row := plansChainsRow, standIns := [], harness := (true, "6d3ff7fe0d9779fedb791cf0751605ad5cd5bfdc42f52104730e367675225e7a"), looks := false }, kinds := [], alts := [], laidByText := true, laidKinds := [.widerDeep], laidTests := true, laidLooks := .later }
def PlansChainsCardSaid : Prop := Claim7.holds Tryd.pinned (.plain (OpenSpec.ofChange plansChainsSpec)) plansChainsCard

/-- THE TIED CARD OF 'gauntletlaw43.PlansErrors'. -/
def plansErrorsCard : Claim7 := { stood := { row := plansErrorsRow, standIns := [], harness := (true, "6d3ff7fe0d9779fedb791cf0751605ad5cd5bfdc42f52104730e367675225e7a"), looks := false }, kinds := [], alts := [], laidByText := true, laidKinds := [.widerDeep], laidTests := true, laidLooks := .later }
def PlansErrorsCardSaid : Prop := Claim7.holds Tryd.pinned (.plain (OpenSpec.ofChange plansErrorsSpec)) plansErrorsCard

/-- THE TIED CARD OF 'gauntletlaw43.PlansKnown'. -/
def plansKnownCard : Claim7 := { stood := { row := plansKnownRow, standIns := [], harness := (true, "6d3ff7fe0d9779fedb791cf0751605ad5cd5bfdc42f52104730e367675225e7a"), looks := false }, kinds := [], alts := [], laidByText := true, laidKinds := [.widerDeep], laidTests := true, laidLooks := .later }
def PlansKnownCardSaid : Prop := Claim7.holds Tryd.pinned (.plain (OpenSpec.ofChange plansKnownSpec)) plansKnownCard

/-- THE SECOND FORM's CARD OF 'gauntletlaw43.PlansCheck'. -/
def plansCheckUptoCard : Claim7 := { stood := { row := plansCheckUptoRow, standIns := [], harness := (true, "6d3ff7fe0d9779fedb791cf0751605ad5cd5bfdc42f52104730e367675225e7a"), looks := false }, kinds := [], alts := [], laidByText := true, laidKinds := [.widerDeep], laidTests := true, laidLooks := .later }
def PlansCheckUptoCardSaid : Prop := Claim7.holds Tryd.pinned (.plain (OpenSpec.upto plansCheckSpec)) plansCheckUptoCard

/-- THE SECOND FORM's CARD OF 'gauntletlaw43.PlansItems'. -/
def plansItemsUptoCard : Claim7 := { stood := { row := plansItemsUptoRow, standIns := [], harness := (true, "6d3ff7fe0d9779fedb791cf0751605ad5cd5bfdc42f52104730e367675225e7a"), looks := false }, kinds := [], alts := [], laidByText := true, laidKinds := [.widerDeep], laidTests := true, laidLooks := .later }
def PlansItemsUptoCardSaid : Prop := Claim7.holds Tryd.pinned (.plain (OpenSpec.upto plansItemsSpec)) plansItemsUptoCard

/-- THE SECOND FORM's CARD OF 'gauntletlaw43.PlansOrder'. -/
def plansOrderUptoCard : Claim7 := { stood := { row := plansOrderUptoRow, standIns := [], harness := (true, "6d3ff7fe0d9779fedb791cf0751605ad5cd5bfdc42f52104730e367675225e7a"), looks := false }, kinds := [], alts := [], laidByText := true, laidKinds := [.widerDeep], laidTests := true, laidLooks := .later }
def PlansOrderUptoCardSaid : Prop := Claim7.holds Tryd.pinned (.plain (OpenSpec.upto plansOrderSpec)) plansOrderUptoCard

/-- THE SECOND FORM's CARD OF 'gauntletlaw43.PlansCurve'. -/
def plansCurveUptoCard : Claim7 := { stood := { row := plansCurveUptoRow, standIns := [], harness := (true, "6d3ff7fe0d9779fedb791cf0751605ad5cd5bfdc42f52104730e367675225e7a"), looks := false }, kinds := [], alts := [], laidByText := true, laidKinds := [.widerDeep], laidTests := true, laidLooks := .later }
def PlansCurveUptoCardSaid : Prop := Claim7.holds Tryd.pinned (.plain (OpenSpec.upto plansCurveSpec)) plansCurveUptoCard

/-- THE SECOND FORM's CARD OF 'gauntletlaw43.PlansLate'. -/
def plansLateUptoCard : Claim7 := { stood := { row := plansLateUptoRow, standIns := [], harness := (true, "6d3ff7fe0d9779fedb791cf0751605ad5cd5bfdc42f52104730e367675225e7a"), looks := false }, kinds := [], alts := [], laidByText := true, laidKinds := [.widerDeep], laidTests := true, laidLooks := .later }
def PlansLateUptoCardSaid : Prop := Claim7.holds Tryd.pinned (.plain (OpenSpec.upto plansLateSpec)) plansLateUptoCard

/-- THE SECOND FORM's CARD OF 'gauntletlaw43.PlansBest'. -/
def plansBestUptoCard : Claim7 := { stood := { row := plansBestUptoRow, standIns := [], harness := (true, "6d3ff7fe0d9779fedb791cf0751605ad5cd5bfdc42f52104730e367675225e7a"), looks := false }, kinds := [], alts := [], laidByText := true, laidKinds := [.widerDeep], laidTests := true, laidLooks := .later }
def PlansBestUptoCardSaid : Prop := Claim7.holds Tryd.pinned (.plain (OpenSpec.upto plansBestSpec)) plansBestUptoCard

/-- THE SECOND FORM's CARD OF 'gauntletlaw43.PlansChains'. -/
def plansChainsUptoCard : Claim7 := { stood := { row := plansChainsUptoRow, standIns := [], harness := (true, "6d3ff7fe0d9779fedb791cf0751605ad5cd5bfdc42f52104730e367675225e7a"), looks := false }, kinds := [], alts := [], laidByText := true, laidKinds := [.widerDeep], laidTests := true, laidLooks := .later }
def PlansChainsUptoCardSaid : Prop := Claim7.holds Tryd.pinned (.plain (OpenSpec.upto plansChainsSpec)) plansChainsUptoCard

/-- THE SECOND FORM's CARD OF 'gauntletlaw43.PlansErrors'. -/
def plansErrorsUptoCard : Claim7 := { stood := { row := plansErrorsUptoRow, standIns := [], harness := (true, "6d3ff7fe0d9779fedb791cf0751605ad5cd5bfdc42f52104730e367675225e7a"), looks := false }, kinds := [], alts := [], laidByText := true, laidKinds := [.widerDeep], laidTests := true, laidLooks := .later }
def PlansErrorsUptoCardSaid : Prop := Claim7.holds Tryd.pinned (.plain (OpenSpec.upto plansErrorsSpec)) plansErrorsUptoCard

/-- THE SECOND FORM's CARD OF 'gauntletlaw43.PlansKnown'. -/
def plansKnownUptoCard : Claim7 := { stood := { row := plansKnownUptoRow, standIns := [], harness := (true, "6d3ff7fe0d9779fedb791cf0751605ad5cd5bfdc42f52104730e367675225e7a"), looks := false }, kinds := [], alts := [], laidByText := true, laidKinds := [.widerDeep], laidTests := true, laidLooks := .later }
def PlansKnownUptoCardSaid : Prop := Claim7.holds Tryd.pinned (.plain (OpenSpec.upto plansKnownSpec)) plansKnownUptoCard
end Rows
end Go.Proofs.YthdaggogdocmfaaDoor
