/-
  DERIVED. GIVEN WITH THE SEED: THE CARDS: each row of YtmmcendgdcmlkaaDoorRows.lean that lists a variable, with what it lists TIED to the program's text (the seventh form; the later family's looks); each row that meets fmt, with fmt's text TOLD by the authors' own Lean function (tested against real Go, not proved from fmt's source: count such statements apart). THE CARD IS WHAT COUNTS. Prove the row's statement (the work); the ties are given (YtmmcendgdcmlkaaDoorTie.lean); close each card by the builder's one call (the guide's Derived/Test/ToyasCard.lean, 'card_holds'). Laid BY PROGRAM, IN A SANDBOX (cutbox-door.mjs). By AI agents, Wed Nov 11 2026. No macro, syntax, notation, axiom, sorry.
-/
import Derived.Test.YtmmcendgdcmlkaaDoorRows
import GoSem.ClaimSeven
namespace Go.Proofs.YtmmcendgdcmlkaaDoor
namespace Rows

/-- THE TIED CARD OF 'gauntletlaw20.OrdersPairs'. -/
def ordersPairsCard : Claim7 := { stood := { row := ordersPairsRow, standIns := [], harness := (true, "2f390ce771829cbd27759193fb57834b50ce5af7ed1f6d99774bb62237233fc4"), looks := false }, kinds := [], alts := [], laidByText := true, laidKinds := [.widerDeep], laidTests := true, laidLooks := .later }
def OrdersPairsCardSaid : Prop := Claim7.holds Tryd.pinned (.plain (OpenSpec.ofChange ordersPairsSpec)) ordersPairsCard

/-- THE TIED CARD OF 'gauntletlaw20.OrdersEquals'. -/
def ordersEqualsCard : Claim7 := { stood := { row := ordersEqualsRow, standIns := [], harness := (true, "2f390ce771829cbd27759193fb57834b50ce5af7ed1f6d99774bb62237233fc4"), looks := false }, kinds := [], alts := [], laidByText := true, laidKinds := [.widerDeep], laidTests := true, laidLooks := .later }
def OrdersEqualsCardSaid : Prop := Claim7.holds Tryd.pinned (.plain (OpenSpec.ofChange ordersEqualsSpec)) ordersEqualsCard

/-- THE TIED CARD OF 'gauntletlaw20.OrdersLeast'. -/
def ordersLeastCard : Claim7 := { stood := { row := ordersLeastRow, standIns := [], harness := (true, "2f390ce771829cbd27759193fb57834b50ce5af7ed1f6d99774bb62237233fc4"), looks := false }, kinds := [], alts := [], laidByText := true, laidKinds := [.widerDeep], laidTests := true, laidLooks := .later }
def OrdersLeastCardSaid : Prop := Claim7.holds Tryd.pinned (.plain (OpenSpec.ofChange ordersLeastSpec)) ordersLeastCard

/-- THE TIED CARD OF 'gauntletlaw20.OrdersAny'. -/
def ordersAnyCard : Claim7 := { stood := { row := ordersAnyRow, standIns := [], harness := (true, "2f390ce771829cbd27759193fb57834b50ce5af7ed1f6d99774bb62237233fc4"), looks := false }, kinds := [], alts := [], laidByText := true, laidKinds := [.widerDeep], laidTests := true, laidLooks := .later }
def OrdersAnyCardSaid : Prop := Claim7.holds Tryd.pinned (.plain (OpenSpec.ofChange ordersAnySpec)) ordersAnyCard

/-- THE TIED CARD OF 'gauntletlaw20.OrdersKnown'. -/
def ordersKnownCard : Claim7 := { stood := { row := ordersKnownRow, standIns := [], harness := (true, "2f390ce771829cbd27759193fb57834b50ce5af7ed1f6d99774bb62237233fc4"), looks := false }, kinds := [], alts := [], laidByText := true, laidKinds := [.widerDeep], laidTests := true, laidLooks := .later }
def OrdersKnownCardSaid : Prop := Claim7.holds Tryd.pinned (.plain (OpenSpec.ofChange ordersKnownSpec)) ordersKnownCard

/-- THE SECOND FORM's CARD OF 'gauntletlaw20.OrdersPairs'. -/
def ordersPairsUptoCard : Claim7 := { stood := { row := ordersPairsUptoRow, standIns := [], harness := (true, "2f390ce771829cbd27759193fb57834b50ce5af7ed1f6d99774bb62237233fc4"), looks := false }, kinds := [], alts := [], laidByText := true, laidKinds := [.widerDeep], laidTests := true, laidLooks := .later }
def OrdersPairsUptoCardSaid : Prop := Claim7.holds Tryd.pinned (.plain (OpenSpec.upto ordersPairsSpec)) ordersPairsUptoCard

/-- THE SECOND FORM's CARD OF 'gauntletlaw20.OrdersEquals'. -/
def ordersEqualsUptoCard : Claim7 := { stood := { row := ordersEqualsUptoRow, standIns := [], harness := (true, "2f390ce771829cbd27759193fb57834b50ce5af7ed1f6d99774bb62237233fc4"), looks := false }, kinds := [], alts := [], laidByText := true, laidKinds := [.widerDeep], laidTests := true, laidLooks := .later }
def OrdersEqualsUptoCardSaid : Prop := Claim7.holds Tryd.pinned (.plain (OpenSpec.upto ordersEqualsSpec)) ordersEqualsUptoCard

/-- THE SECOND FORM's CARD OF 'gauntletlaw20.OrdersLeast'. -/
def ordersLeastUptoCard : Claim7 := { stood := { row := ordersLeastUptoRow, standIns := [], harness := (true, "2f390ce771829cbd27759193fb57834b50ce5af7ed1f6d99774bb62237233fc4"), looks := false }, kinds := [], alts := [], laidByText := true, laidKinds := [.widerDeep], laidTests := true, laidLooks := .later }
def OrdersLeastUptoCardSaid : Prop := Claim7.holds Tryd.pinned (.plain (OpenSpec.upto ordersLeastSpec)) ordersLeastUptoCard

/-- THE SECOND FORM's CARD OF 'gauntletlaw20.OrdersAny'. -/
def ordersAnyUptoCard : Claim7 := { stood := { row := ordersAnyUptoRow, standIns := [], harness := (true, "2f390ce771829cbd27759193fb57834b50ce5af7ed1f6d99774bb62237233fc4"), looks := false }, kinds := [], alts := [], laidByText := true, laidKinds := [.widerDeep], laidTests := true, laidLooks := .later }
def OrdersAnyUptoCardSaid : Prop := Claim7.holds Tryd.pinned (.plain (OpenSpec.upto ordersAnySpec)) ordersAnyUptoCard

/-- THE SECOND FORM's CARD OF 'gauntletlaw20.OrdersKnown'. -/
def ordersKnownUptoCard : Claim7 := { stood := { row := ordersKnownUptoRow, standIns := [], harness := (true, "2f390ce771829cbd27759193fb57834b50ce5af7ed1f6d99774bb62237233fc4"), looks := false }, kinds := [], alts := [], laidByText := true, laidKinds := [.widerDeep], laidTests := true, laidLooks := .later }
def OrdersKnownUptoCardSaid : Prop := Claim7.holds Tryd.pinned (.plain (OpenSpec.upto ordersKnownSpec)) ordersKnownUptoCard
end Rows
end Go.Proofs.YtmmcendgdcmlkaaDoor
