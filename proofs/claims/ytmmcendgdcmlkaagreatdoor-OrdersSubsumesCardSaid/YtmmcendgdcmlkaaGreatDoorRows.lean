/-
  NARROWER THAN 'FOR EVERY INPUT', by the rows' own cells (each row's printed sentence says how): OrdersSubsumes: laid.
  DERIVED. THE GIVEN ROWS OF THIS SEAT. 1 by the template 'for every input the law returns true; each argument reads behind the call as it read before'; 0 by the template 'total and deterministic' (their statements: YtmmcendgdcmlkaaGreatDoorTotals.lean).
  GIVEN WITH THE SEED: the statements are not yours to turn. If you find one false, say at which input.
  Laid BY PROGRAM, IN A SANDBOX (cutbox-rows.mjs): the forced cells as the released guide's own fill.sh prints them over the translation b9502d947bde5320… (all of the seat's roots in one cut). By AI agents, Wed Nov 11 2026. No macro, syntax, notation, axiom, sorry.
-/
import Derived.Test.YtmmcendgdcmlkaaGreatDoorChecked
import GoSem.Claim
import GoSem.ClaimJoined
import GoSem.ClaimMapViews
import Derived.JoinedTies
import Derived.KernelRfl
namespace Go.Proofs.YtmmcendgdcmlkaaGreatDoor
/- THE CELL 'sum', in the pinned program and in every row, IS THE sha256 OF THE DUMP (.gsa) THAT YtmmcendgdcmlkaaGreatDoorProg.lean LOADS. Nothing in Lean hashes anything: it is a label: what it is worth is what the hold of that sum in a sandbox is worth. -/
noncomputable def Tryz.pinned : Pinned := { name := "ytmmcendgdcmlkaagreatdoor", sum := "b9502d947bde532039ad5a44ab261f5f423f6751254d746cfeeca7e70c465d0f", checked := Tryz.checked }
namespace Rows
def none {H : Type} : Left H := { results := [], args := [] }

/- WHAT THE LISTED PACKAGE-LEVEL VARIABLES READ AS WHEN THE CALL BEGINS. Each datum BY PROGRAM (the guide's laid-datum.mjs) off the statement by which the dump's own 'gosem.cut.vars' lays the variable. In a bare row this is a premise. The card (YtmmcendgdcmlkaaGreatDoorCards.lean) ties it to the program's text. -/
def laid_gauntlet_faults_table {H : Type} : DataW H := .agg [.agg [.lit (.string [111, 117, 116, 112, 117, 116]), .lit (.bool false), .lit (.bool false), .lit (.bool true)], .agg [.lit (.string [116, 114, 97, 110, 115, 102, 101, 114]), .lit (.bool true), .lit (.bool false), .lit (.bool false)], .agg [.lit (.string [109, 105, 115, 115, 105, 110, 103]), .lit (.bool false), .lit (.bool false), .lit (.bool false)], .agg [.lit (.string [101, 120, 116, 114, 97]), .lit (.bool true), .lit (.bool false), .lit (.bool false)], .agg [.lit (.string [100, 101, 101, 112]), .lit (.bool false), .lit (.bool true), .lit (.bool true)]]

/-- 'gauntletlaw20.OrdersSubsumes': WHATEVER THE INPUT: true; the input reads as it did. -/
def ordersSubsumesSpec : ChangeSpec := { name := "ordersSubsumes", fn := fun _ => fun
  | [d1, d2, d3] => { results := [.lit (.bool true)], args := [d1, d2, d3] }
  | _ => none }
def ordersSubsumesRow : OpenClaim := { program := "ytmmcendgdcmlkaagreatdoor", sum := "b9502d947bde532039ad5a44ab261f5f423f6751254d746cfeeca7e70c465d0f", func := "gauntlet/gauntletlaw20.OrdersSubsumes", spec := "ordersSubsumes", unfollowed := true, recurses := true, named := ["gauntlet/faults.table"], plainKeys := false, apart := false, laid := [("gauntlet/faults.table", laid_gauntlet_faults_table)] }
def OrdersSubsumesSaid : Prop := ordersSubsumesRow.holds Tryz.pinned (OpenSpec.ofChange ordersSubsumesSpec)

/-- ITS FALSE NEIGHBOUR: 'it returns false'. Refute it at one input. -/
def ordersSubsumesWrong : ChangeSpec := { name := "ordersSubsumes", fn := fun _ => fun
  | [d1, d2, d3] => { results := [.lit (.bool false)], args := [d1, d2, d3] }
  | _ => none }
def OrdersSubsumesWrongFalsely : Prop := ordersSubsumesRow.holds Tryz.pinned (OpenSpec.ofChange ordersSubsumesWrong)

/- THE SECOND FORM. 'bulk': how many values and letters a reading holds, each counted each time it is reached (what is shared counts as often as it is met; a slice's spare places count too). A statement '..UptoSaid' is the law's where the arguments, and the package variables that the reading takes, are together of bulk at most 1048576: NARROWER than '..Said'. Prove '..Said' where nothing that the law and all that it calls make is longer than what came in: it says more and counts as full. Else prove '..UptoSaid'. A law counts once. -/
mutual
def uptoBulk {H : Type} : DataW H → Nat
  | .lit (.string bytes) => bytes.length + 1
  | .lit _ => 1
  | .nil => 1
  | .ptr d => uptoBulk d + 1
  | .slice elems spare => uptoBulkAll elems + uptoBulkAll spare + 1
  | .agg parts => uptoBulkAll parts + 1
  | .iface _ d => uptoBulk d + 1
  | .map entries => uptoBulkEntries entries + 1
  | .held _ => 1
def uptoBulkAll {H : Type} : List (DataW H) → Nat
  | [] => 0
  | d :: r => uptoBulk d + uptoBulkAll r
def uptoBulkEntries {H : Type} : List (Lit × DataW H) → Nat
  | [] => 0
  | x :: r => uptoBulkEntry x + uptoBulkEntries r
def uptoBulkEntry {H : Type} : Lit × DataW H → Nat
  | (.string bytes, d) => bytes.length + uptoBulk d + 1
  | (_, d) => uptoBulk d + 1
 end
def uptoSmall : (H : Type) → List (DataW H) → Bool := fun _ ds => decide (uptoBulkAll ds ≤ 1048576)
def OpenSpec.upto (s : _root_.Go.ChangeSpec) : _root_.Go.OpenSpec := { _root_.Go.OpenSpec.ofChange s with cond := some uptoSmall }

/-- 'gauntletlaw20.OrdersSubsumes', WHERE WHAT IT READS IS OF BULK AT MOST 1048576: true; the input reads as it did. -/
def ordersSubsumesUptoRow : OpenClaim := { program := "ytmmcendgdcmlkaagreatdoor", sum := "b9502d947bde532039ad5a44ab261f5f423f6751254d746cfeeca7e70c465d0f", func := "gauntlet/gauntletlaw20.OrdersSubsumes", spec := "ordersSubsumes", unfollowed := true, recurses := true, named := ["gauntlet/faults.table"], plainKeys := false, apart := false, laid := [("gauntlet/faults.table", laid_gauntlet_faults_table)], narrowed := true }
def OrdersSubsumesUptoSaid : Prop := ordersSubsumesUptoRow.holds Tryz.pinned (OpenSpec.upto ordersSubsumesSpec)

end Rows
end Go.Proofs.YtmmcendgdcmlkaaGreatDoor
