/-
  NARROWER THAN 'FOR EVERY INPUT', by the rows' own cells (each row's printed sentence says how): OrdersPairs: laid · OrdersEquals: laid · OrdersLeast: laid · OrdersAny: laid · OrdersKnown: laid.
  DERIVED. THE GIVEN ROWS OF THIS SEAT. 5 by the template 'for every input the law returns true; each argument reads behind the call as it read before'; 0 by the template 'total and deterministic' (their statements: YtmmcendgdcmlkaaDoorTotals.lean).
  GIVEN WITH THE SEED: the statements are not yours to turn. If you find one false, say at which input.
  Laid BY PROGRAM, IN A SANDBOX (cutbox-rows.mjs): the forced cells as the released guide's own fill.sh prints them over the translation 36e60042e15d8596… (all of the seat's roots in one cut). By AI agents, Wed Nov 11 2026. No macro, syntax, notation, axiom, sorry.
-/
import Derived.Test.YtmmcendgdcmlkaaDoorChecked
import GoSem.Claim
import GoSem.ClaimJoined
import GoSem.ClaimMapViews
import Derived.JoinedTies
import Derived.KernelRfl
namespace Go.Proofs.YtmmcendgdcmlkaaDoor
/- THE CELL 'sum', in the pinned program and in every row, IS THE sha256 OF THE DUMP (.gsa) THAT YtmmcendgdcmlkaaDoorProg.lean LOADS. Nothing in Lean hashes anything: it is a label: what it is worth is what the hold of that sum in a sandbox is worth. -/
noncomputable def Tryd.pinned : Pinned := { name := "ytmmcendgdcmlkaadoor", sum := "36e60042e15d8596bc2e4ed74cc3c88de6cbd33cb1ba903d40c5c6023707d39b", checked := Tryd.checked }
namespace Rows
def none {H : Type} : Left H := { results := [], args := [] }

/- WHAT THE LISTED PACKAGE-LEVEL VARIABLES READ AS WHEN THE CALL BEGINS. Each datum BY PROGRAM (the guide's laid-datum.mjs) off the statement by which the dump's own 'gosem.cut.vars' lays the variable. In a bare row this is a premise. The card (YtmmcendgdcmlkaaDoorCards.lean) ties it to the program's text. -/
def laid_gauntlet_faults_table {H : Type} : DataW H := .agg [.agg [.lit (.string [111, 117, 116, 112, 117, 116]), .lit (.bool false), .lit (.bool false), .lit (.bool true)], .agg [.lit (.string [116, 114, 97, 110, 115, 102, 101, 114]), .lit (.bool true), .lit (.bool false), .lit (.bool false)], .agg [.lit (.string [109, 105, 115, 115, 105, 110, 103]), .lit (.bool false), .lit (.bool false), .lit (.bool false)], .agg [.lit (.string [101, 120, 116, 114, 97]), .lit (.bool true), .lit (.bool false), .lit (.bool false)], .agg [.lit (.string [100, 101, 101, 112]), .lit (.bool false), .lit (.bool true), .lit (.bool true)]]

/-- 'gauntletlaw20.OrdersPairs': WHATEVER THE INPUT: true; the input reads as it did. -/
def ordersPairsSpec : ChangeSpec := { name := "ordersPairs", fn := fun _ => fun
  | [d1, d2, d3] => { results := [.lit (.bool true)], args := [d1, d2, d3] }
  | _ => none }
def ordersPairsRow : OpenClaim := { program := "ytmmcendgdcmlkaadoor", sum := "36e60042e15d8596bc2e4ed74cc3c88de6cbd33cb1ba903d40c5c6023707d39b", func := "gauntlet/gauntletlaw20.OrdersPairs", spec := "ordersPairs", unfollowed := true, recurses := true, named := ["gauntlet/faults.table"], plainKeys := false, apart := false, laid := [("gauntlet/faults.table", laid_gauntlet_faults_table)] }
def OrdersPairsSaid : Prop := ordersPairsRow.holds Tryd.pinned (OpenSpec.ofChange ordersPairsSpec)

/-- ITS FALSE NEIGHBOUR: 'it returns false'. Refute it at one input. -/
def ordersPairsWrong : ChangeSpec := { name := "ordersPairs", fn := fun _ => fun
  | [d1, d2, d3] => { results := [.lit (.bool false)], args := [d1, d2, d3] }
  | _ => none }
def OrdersPairsWrongFalsely : Prop := ordersPairsRow.holds Tryd.pinned (OpenSpec.ofChange ordersPairsWrong)

/-- 'gauntletlaw20.OrdersEquals': WHATEVER THE INPUT: true; the input reads as it did. -/
def ordersEqualsSpec : ChangeSpec := { name := "ordersEquals", fn := fun _ => fun
  | [d1, d2] => { results := [.lit (.bool true)], args := [d1, d2] }
  | _ => none }
def ordersEqualsRow : OpenClaim := { program := "ytmmcendgdcmlkaadoor", sum := "36e60042e15d8596bc2e4ed74cc3c88de6cbd33cb1ba903d40c5c6023707d39b", func := "gauntlet/gauntletlaw20.OrdersEquals", spec := "ordersEquals", unfollowed := true, recurses := true, named := ["gauntlet/faults.table"], plainKeys := false, apart := false, laid := [("gauntlet/faults.table", laid_gauntlet_faults_table)] }
def OrdersEqualsSaid : Prop := ordersEqualsRow.holds Tryd.pinned (OpenSpec.ofChange ordersEqualsSpec)

/-- ITS FALSE NEIGHBOUR: 'it returns false'. Refute it at one input. -/
def ordersEqualsWrong : ChangeSpec := { name := "ordersEquals", fn := fun _ => fun
  | [d1, d2] => { results := [.lit (.bool false)], args := [d1, d2] }
  | _ => none }
def OrdersEqualsWrongFalsely : Prop := ordersEqualsRow.holds Tryd.pinned (OpenSpec.ofChange ordersEqualsWrong)

/-- 'gauntletlaw20.OrdersLeast': WHATEVER THE INPUT: true; the input reads as it did. -/
def ordersLeastSpec : ChangeSpec := { name := "ordersLeast", fn := fun _ => fun
  | [d1, d2, d3] => { results := [.lit (.bool true)], args := [d1, d2, d3] }
  | _ => none }
def ordersLeastRow : OpenClaim := { program := "ytmmcendgdcmlkaadoor", sum := "36e60042e15d8596bc2e4ed74cc3c88de6cbd33cb1ba903d40c5c6023707d39b", func := "gauntlet/gauntletlaw20.OrdersLeast", spec := "ordersLeast", unfollowed := true, recurses := true, named := ["gauntlet/faults.table"], plainKeys := false, apart := false, laid := [("gauntlet/faults.table", laid_gauntlet_faults_table)] }
def OrdersLeastSaid : Prop := ordersLeastRow.holds Tryd.pinned (OpenSpec.ofChange ordersLeastSpec)

/-- ITS FALSE NEIGHBOUR: 'it returns false'. Refute it at one input. -/
def ordersLeastWrong : ChangeSpec := { name := "ordersLeast", fn := fun _ => fun
  | [d1, d2, d3] => { results := [.lit (.bool false)], args := [d1, d2, d3] }
  | _ => none }
def OrdersLeastWrongFalsely : Prop := ordersLeastRow.holds Tryd.pinned (OpenSpec.ofChange ordersLeastWrong)

/-- 'gauntletlaw20.OrdersAny': WHATEVER THE INPUT: true; the input reads as it did. -/
def ordersAnySpec : ChangeSpec := { name := "ordersAny", fn := fun _ => fun
  | [d1, d2] => { results := [.lit (.bool true)], args := [d1, d2] }
  | _ => none }
def ordersAnyRow : OpenClaim := { program := "ytmmcendgdcmlkaadoor", sum := "36e60042e15d8596bc2e4ed74cc3c88de6cbd33cb1ba903d40c5c6023707d39b", func := "gauntlet/gauntletlaw20.OrdersAny", spec := "ordersAny", unfollowed := true, recurses := true, named := ["gauntlet/faults.table"], plainKeys := false, apart := false, laid := [("gauntlet/faults.table", laid_gauntlet_faults_table)] }
def OrdersAnySaid : Prop := ordersAnyRow.holds Tryd.pinned (OpenSpec.ofChange ordersAnySpec)

/-- ITS FALSE NEIGHBOUR: 'it returns false'. Refute it at one input. -/
def ordersAnyWrong : ChangeSpec := { name := "ordersAny", fn := fun _ => fun
  | [d1, d2] => { results := [.lit (.bool false)], args := [d1, d2] }
  | _ => none }
def OrdersAnyWrongFalsely : Prop := ordersAnyRow.holds Tryd.pinned (OpenSpec.ofChange ordersAnyWrong)

/-- 'gauntletlaw20.OrdersKnown': WHATEVER THE INPUT: true; the input reads as it did. -/
def ordersKnownSpec : ChangeSpec := { name := "ordersKnown", fn := fun _ => fun
  | [] => { results := [.lit (.bool true)], args := [] }
  | _ => none }
def ordersKnownRow : OpenClaim := { program := "ytmmcendgdcmlkaadoor", sum := "36e60042e15d8596bc2e4ed74cc3c88de6cbd33cb1ba903d40c5c6023707d39b", func := "gauntlet/gauntletlaw20.OrdersKnown", spec := "ordersKnown", unfollowed := true, recurses := true, named := ["gauntlet/faults.table"], plainKeys := false, apart := false, laid := [("gauntlet/faults.table", laid_gauntlet_faults_table)] }
def OrdersKnownSaid : Prop := ordersKnownRow.holds Tryd.pinned (OpenSpec.ofChange ordersKnownSpec)

/-- ITS FALSE NEIGHBOUR: 'it returns false'. Refute it at one input. -/
def ordersKnownWrong : ChangeSpec := { name := "ordersKnown", fn := fun _ => fun
  | [] => { results := [.lit (.bool false)], args := [] }
  | _ => none }
def OrdersKnownWrongFalsely : Prop := ordersKnownRow.holds Tryd.pinned (OpenSpec.ofChange ordersKnownWrong)

/- THE SECOND FORM. 'bulk': how many values and letters a reading holds, each counted each time it is reached (what is shared counts as often as it is met; a slice's spare places count too). A statement '..UptoSaid' is the law's where the arguments, and the package variables that the reading takes, are together of bulk at most 1048576: NARROWER than '..Said'. Prove '..Said' where nothing that the law and all that it calls make is longer than what came in: it says more and counts as full. Else prove '..UptoSaid'. A law counts once. -/
mutual
def uptoBulk {H : Type} : DataW H → Nat
  | .lit (.string bytes) => bytes.length + 1
  | .lit _ => 1
  | .nil => 1
  | .ptr d => uptoBulk d + 1
  | .slice elems spare => uptoBulkAll elems + uptoBulkAll spare + 1
  | .agg parts => uptoBulkAll parts + 1
  | .iface _ d => uptoBulk d + 1
  | .map entries => uptoBulkEntries entries + 1
  | .held _ => 1
def uptoBulkAll {H : Type} : List (DataW H) → Nat
  | [] => 0
  | d :: r => uptoBulk d + uptoBulkAll r
def uptoBulkEntries {H : Type} : List (Lit × DataW H) → Nat
  | [] => 0
  | x :: r => uptoBulkEntry x + uptoBulkEntries r
def uptoBulkEntry {H : Type} : Lit × DataW H → Nat
  | (.string bytes, d) => bytes.length + uptoBulk d + 1
  | (_, d) => uptoBulk d + 1
 end
def uptoSmall : (H : Type) → List (DataW H) → Bool := fun _ ds => decide (uptoBulkAll ds ≤ 1048576)
def OpenSpec.upto (s : _root_.Go.ChangeSpec) : _root_.Go.OpenSpec := { _root_.Go.OpenSpec.ofChange s with cond := some uptoSmall }

/-- 'gauntletlaw20.OrdersPairs', WHERE WHAT IT READS IS OF BULK AT MOST 1048576: true; the input reads as it did. -/
def ordersPairsUptoRow : OpenClaim := { program := "ytmmcendgdcmlkaadoor", sum := "36e60042e15d8596bc2e4ed74cc3c88de6cbd33cb1ba903d40c5c6023707d39b", func := "gauntlet/gauntletlaw20.OrdersPairs", spec := "ordersPairs", unfollowed := true, recurses := true, named := ["gauntlet/faults.table"], plainKeys := false, apart := false, laid := [("gauntlet/faults.table", laid_gauntlet_faults_table)], narrowed := true }
def OrdersPairsUptoSaid : Prop := ordersPairsUptoRow.holds Tryd.pinned (OpenSpec.upto ordersPairsSpec)

/-- 'gauntletlaw20.OrdersEquals', WHERE WHAT IT READS IS OF BULK AT MOST 1048576: true; the input reads as it did. -/
def ordersEqualsUptoRow : OpenClaim := { program := "ytmmcendgdcmlkaadoor", sum := "36e60042e15d8596bc2e4ed74cc3c88de6cbd33cb1ba903d40c5c6023707d39b", func := "gauntlet/gauntletlaw20.OrdersEquals", spec := "ordersEquals", unfollowed := true, recurses := true, named := ["gauntlet/faults.table"], plainKeys := false, apart := false, laid := [("gauntlet/faults.table", laid_gauntlet_faults_table)], narrowed := true }
def OrdersEqualsUptoSaid : Prop := ordersEqualsUptoRow.holds Tryd.pinned (OpenSpec.upto ordersEqualsSpec)

/-- 'gauntletlaw20.OrdersLeast', WHERE WHAT IT READS IS OF BULK AT MOST 1048576: true; the input reads as it did. -/
def ordersLeastUptoRow : OpenClaim := { program := "ytmmcendgdcmlkaadoor", sum := "36e60042e15d8596bc2e4ed74cc3c88de6cbd33cb1ba903d40c5c6023707d39b", func := "gauntlet/gauntletlaw20.OrdersLeast", spec := "ordersLeast", unfollowed := true, recurses := true, named := ["gauntlet/faults.table"], plainKeys := false, apart := false, laid := [("gauntlet/faults.table", laid_gauntlet_faults_table)], narrowed := true }
def OrdersLeastUptoSaid : Prop := ordersLeastUptoRow.holds Tryd.pinned (OpenSpec.upto ordersLeastSpec)

/-- 'gauntletlaw20.OrdersAny', WHERE WHAT IT READS IS OF BULK AT MOST 1048576: true; the input reads as it did. -/
def ordersAnyUptoRow : OpenClaim := { program := "ytmmcendgdcmlkaadoor", sum := "36e60042e15d8596bc2e4ed74cc3c88de6cbd33cb1ba903d40c5c6023707d39b", func := "gauntlet/gauntletlaw20.OrdersAny", spec := "ordersAny", unfollowed := true, recurses := true, named := ["gauntlet/faults.table"], plainKeys := false, apart := false, laid := [("gauntlet/faults.table", laid_gauntlet_faults_table)], narrowed := true }
def OrdersAnyUptoSaid : Prop := ordersAnyUptoRow.holds Tryd.pinned (OpenSpec.upto ordersAnySpec)

/-- 'gauntletlaw20.OrdersKnown', WHERE WHAT IT READS IS OF BULK AT MOST 1048576: true; the input reads as it did. -/
def ordersKnownUptoRow : OpenClaim := { program := "ytmmcendgdcmlkaadoor", sum := "36e60042e15d8596bc2e4ed74cc3c88de6cbd33cb1ba903d40c5c6023707d39b", func := "gauntlet/gauntletlaw20.OrdersKnown", spec := "ordersKnown", unfollowed := true, recurses := true, named := ["gauntlet/faults.table"], plainKeys := false, apart := false, laid := [("gauntlet/faults.table", laid_gauntlet_faults_table)], narrowed := true }
def OrdersKnownUptoSaid : Prop := ordersKnownUptoRow.holds Tryd.pinned (OpenSpec.upto ordersKnownSpec)

end Rows
end Go.Proofs.YtmmcendgdcmlkaaDoor
