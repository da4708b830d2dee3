/-
  NARROWER THAN 'FOR EVERY INPUT', by the rows' own cells (each row's printed sentence says how): PlansCheck: laid · PlansItems: laid · PlansOrder: laid · PlansCurve: laid · PlansLate: laid · PlansBest: laid · PlansChains: laid · PlansErrors: laid · PlansKnown: laid.
  DERIVED. THE GIVEN ROWS OF THIS SEAT. 9 by the template 'for every input the law returns true; each argument reads behind the call as it read before'; 0 by the template 'total and deterministic' (their statements: YthdaggogdocmfaaDoorTotals.lean).
  GIVEN WITH THE SEED: the statements are not yours to turn. If you find one false, say at which input.
  Laid BY PROGRAM, IN A SANDBOX (cutbox-rows.mjs): the forced cells as the released guide's own fill.sh prints them over the translation 577718e561fcb84b… (all of the seat's roots in one cut). By AI agents, Wed Nov 11 2026. No macro, syntax, notation, axiom, sorry.
-/
import Derived.Test.YthdaggogdocmfaaDoorChecked
import GoSem.Claim
import GoSem.ClaimJoined
import GoSem.ClaimMapViews
import Derived.JoinedTies
import Derived.KernelRfl
namespace Go.Proofs.YthdaggogdocmfaaDoor
/- THE CELL 'sum', in the pinned program and in every row, IS THE sha256 OF THE DUMP (.gsa) THAT YthdaggogdocmfaaDoorProg.lean LOADS. Nothing in Lean hashes anything: it is a label: what it is worth is what the hold of that sum in a sandbox is worth. -/
noncomputable def Tryd.pinned : Pinned := { name := "ythdaggogdocmfaadoor", sum := "577718e561fcb84bb0827f0349f6f95cf318e3c80ccb622f358429be68c0e32d", checked := Tryd.checked }
namespace Rows
def none {H : Type} : Left H := { results := [], args := [] }

/- WHAT THE LISTED PACKAGE-LEVEL VARIABLES READ AS WHEN THE CALL BEGINS. Each datum BY PROGRAM (the guide's laid-datum.mjs) off the statement by which the dump's own 'gosem.cut.vars' lays the variable. In a bare row this is a premise. The card (YthdaggogdocmfaaDoorCards.lean) ties it to the program's text. -/
def laid_gauntlet_faults_table {H : Type} : DataW H := .agg [.agg [.lit (.string [111, 117, 116, 112, 117, 116]), .lit (.bool false), .lit (.bool false), .lit (.bool true)], .agg [.lit (.string [116, 114, 97, 110, 115, 102, 101, 114]), .lit (.bool true), .lit (.bool false), .lit (.bool false)], .agg [.lit (.string [109, 105, 115, 115, 105, 110, 103]), .lit (.bool false), .lit (.bool false), .lit (.bool false)], .agg [.lit (.string [101, 120, 116, 114, 97]), .lit (.bool true), .lit (.bool false), .lit (.bool false)], .agg [.lit (.string [100, 101, 101, 112]), .lit (.bool false), .lit (.bool true), .lit (.bool true)]]

/-- 'gauntletlaw43.PlansCheck': WHATEVER THE INPUT: true; the input reads as it did. -/
def plansCheckSpec : ChangeSpec := { name := "plansCheck", fn := fun _ => fun
  | [d] => { results := [.lit (.bool true)], args := [d] }
  | _ => none }
def plansCheckRow : OpenClaim := { program := "ythdaggogdocmfaadoor", sum := "577718e561fcb84bb0827f0349f6f95cf318e3c80ccb622f358429be68c0e32d", func := "gauntlet/gauntletlaw43.PlansCheck", spec := "plansCheck", unfollowed := true, recurses := true, named := ["gauntlet/faults.table"], apart := false, laid := [("gauntlet/faults.table", laid_gauntlet_faults_table)] }
def PlansCheckSaid : Prop := plansCheckRow.holds Tryd.pinned (OpenSpec.ofChange plansCheckSpec)

/-- ITS FALSE NEIGHBOUR: 'it returns false'. Refute it at one input. -/
def plansCheckWrong : ChangeSpec := { name := "plansCheck", fn := fun _ => fun
  | [d] => { results := [.lit (.bool false)], args := [d] }
  | _ => none }
def PlansCheckWrongFalsely : Prop := plansCheckRow.holds Tryd.pinned (OpenSpec.ofChange plansCheckWrong)

/-- 'gauntletlaw43.PlansItems': WHATEVER THE INPUT: true; the input reads as it did. -/
def plansItemsSpec : ChangeSpec := { name := "plansItems", fn := fun _ => fun
  | [d1, d2, d3] => { results := [.lit (.bool true)], args := [d1, d2, d3] }
  | _ => none }
def plansItemsRow : OpenClaim := { program := "ythdaggogdocmfaadoor", sum := "577718e561fcb84bb0827f0349f6f95cf318e3c80ccb622f358429be68c0e32d", func := "gauntlet/gauntletlaw43.PlansItems", spec := "plansItems", unfollowed := true, recurses := true, named := ["gauntlet/faults.table"], apart := false, laid := [("gauntlet/faults.table", laid_gauntlet_faults_table)] }
def PlansItemsSaid : Prop := plansItemsRow.holds Tryd.pinned (OpenSpec.ofChange plansItemsSpec)

/-- ITS FALSE NEIGHBOUR: 'it returns false'. Refute it at one input. -/
def plansItemsWrong : ChangeSpec := { name := "plansItems", fn := fun _ => fun
  | [d1, d2, d3] => { results := [.lit (.bool false)], args := [d1, d2, d3] }
  | _ => none }
def PlansItemsWrongFalsely : Prop := plansItemsRow.holds Tryd.pinned (OpenSpec.ofChange plansItemsWrong)

/-- 'gauntletlaw43.PlansOrder': WHATEVER THE INPUT: true; the input reads as it did. -/
def plansOrderSpec : ChangeSpec := { name := "plansOrder", fn := fun _ => fun
  | [d] => { results := [.lit (.bool true)], args := [d] }
  | _ => none }
def plansOrderRow : OpenClaim := { program := "ythdaggogdocmfaadoor", sum := "577718e561fcb84bb0827f0349f6f95cf318e3c80ccb622f358429be68c0e32d", func := "gauntlet/gauntletlaw43.PlansOrder", spec := "plansOrder", unfollowed := true, recurses := true, named := ["gauntlet/faults.table"], apart := false, laid := [("gauntlet/faults.table", laid_gauntlet_faults_table)] }
def PlansOrderSaid : Prop := plansOrderRow.holds Tryd.pinned (OpenSpec.ofChange plansOrderSpec)

/-- ITS FALSE NEIGHBOUR: 'it returns false'. Refute it at one input. -/
def plansOrderWrong : ChangeSpec := { name := "plansOrder", fn := fun _ => fun
  | [d] => { results := [.lit (.bool false)], args := [d] }
  | _ => none }
def PlansOrderWrongFalsely : Prop := plansOrderRow.holds Tryd.pinned (OpenSpec.ofChange plansOrderWrong)

/-- 'gauntletlaw43.PlansCurve': WHATEVER THE INPUT: true; the input reads as it did. -/
def plansCurveSpec : ChangeSpec := { name := "plansCurve", fn := fun _ => fun
  | [d1, d2, d3] => { results := [.lit (.bool true)], args := [d1, d2, d3] }
  | _ => none }
def plansCurveRow : OpenClaim := { program := "ythdaggogdocmfaadoor", sum := "577718e561fcb84bb0827f0349f6f95cf318e3c80ccb622f358429be68c0e32d", func := "gauntlet/gauntletlaw43.PlansCurve", spec := "plansCurve", unfollowed := true, recurses := true, named := ["gauntlet/faults.table"], apart := false, laid := [("gauntlet/faults.table", laid_gauntlet_faults_table)] }
def PlansCurveSaid : Prop := plansCurveRow.holds Tryd.pinned (OpenSpec.ofChange plansCurveSpec)

/-- ITS FALSE NEIGHBOUR: 'it returns false'. Refute it at one input. -/
def plansCurveWrong : ChangeSpec := { name := "plansCurve", fn := fun _ => fun
  | [d1, d2, d3] => { results := [.lit (.bool false)], args := [d1, d2, d3] }
  | _ => none }
def PlansCurveWrongFalsely : Prop := plansCurveRow.holds Tryd.pinned (OpenSpec.ofChange plansCurveWrong)

/-- 'gauntletlaw43.PlansLate': WHATEVER THE INPUT: true; the input reads as it did. -/
def plansLateSpec : ChangeSpec := { name := "plansLate", fn := fun _ => fun
  | [d1, d2] => { results := [.lit (.bool true)], args := [d1, d2] }
  | _ => none }
def plansLateRow : OpenClaim := { program := "ythdaggogdocmfaadoor", sum := "577718e561fcb84bb0827f0349f6f95cf318e3c80ccb622f358429be68c0e32d", func := "gauntlet/gauntletlaw43.PlansLate", spec := "plansLate", unfollowed := true, recurses := true, named := ["gauntlet/faults.table"], apart := false, laid := [("gauntlet/faults.table", laid_gauntlet_faults_table)] }
def PlansLateSaid : Prop := plansLateRow.holds Tryd.pinned (OpenSpec.ofChange plansLateSpec)

/-- ITS FALSE NEIGHBOUR: 'it returns false'. Refute it at one input. -/
def plansLateWrong : ChangeSpec := { name := "plansLate", fn := fun _ => fun
  | [d1, d2] => { results := [.lit (.bool false)], args := [d1, d2] }
  | _ => none }
def PlansLateWrongFalsely : Prop := plansLateRow.holds Tryd.pinned (OpenSpec.ofChange plansLateWrong)

/-- 'gauntletlaw43.PlansBest': WHATEVER THE INPUT: true; the input reads as it did. -/
def plansBestSpec : ChangeSpec := { name := "plansBest", fn := fun _ => fun
  | [d1, d2, d3] => { results := [.lit (.bool true)], args := [d1, d2, d3] }
  | _ => none }
def plansBestRow : OpenClaim := { program := "ythdaggogdocmfaadoor", sum := "577718e561fcb84bb0827f0349f6f95cf318e3c80ccb622f358429be68c0e32d", func := "gauntlet/gauntletlaw43.PlansBest", spec := "plansBest", unfollowed := true, recurses := true, named := ["gauntlet/faults.table"], apart := false, laid := [("gauntlet/faults.table", laid_gauntlet_faults_table)] }
def PlansBestSaid : Prop := plansBestRow.holds Tryd.pinned (OpenSpec.ofChange plansBestSpec)

/-- ITS FALSE NEIGHBOUR: 'it returns false'. Refute it at one input. -/
def plansBestWrong : ChangeSpec := { name := "plansBest", fn := fun _ => fun
  | [d1, d2, d3] => { results := [.lit (.bool false)], args := [d1, d2, d3] }
  | _ => none }
def PlansBestWrongFalsely : Prop := plansBestRow.holds Tryd.pinned (OpenSpec.ofChange plansBestWrong)

/-- 'gauntletlaw43.PlansChains': WHATEVER THE INPUT: true; the input reads as it did. -/
def plansChainsSpec : ChangeSpec := { name := "plansChains", fn := fun _ => fun
  | [d1, d2] => { results := [.lit (.bool true)], args := [d1, d2] }
  | _ => none }
def plansChainsRow : OpenClaim := { program := "ythdaggogdocmfaadoor", sum := "577718e561fcb84bb0827f0349f6f95cf318e3c80ccb622f358429be68c0e32d", func := "gauntlet/gauntletlaw43.PlansChains", spec := "plansChains", unfollowed := true, recurses := true, named := ["gauntlet/faults.table"], apart := false, laid := [("gauntlet/faults.table", laid_gauntlet_faults_table)] }
def PlansChainsSaid : Prop := plansChainsRow.holds Tryd.pinned (OpenSpec.ofChange plansChainsSpec)

/-- ITS FALSE NEIGHBOUR: 'it returns false'. Refute it at one input. -/
def plansChainsWrong : ChangeSpec := { name := "plansChains", fn := fun _ => fun
  | [d1, d2] => { results := [.lit (.bool false)], args := [d1, d2] }
  | _ => none }
def PlansChainsWrongFalsely : Prop := plansChainsRow.holds Tryd.pinned (OpenSpec.ofChange plansChainsWrong)

/-- 'gauntletlaw43.PlansErrors': WHATEVER THE INPUT: true; the input reads as it did. -/
def plansErrorsSpec : ChangeSpec := { name := "plansErrors", fn := fun _ => fun
  | [d1, d2] => { results := [.lit (.bool true)], args := [d1, d2] }
  | _ => none }
def plansErrorsRow : OpenClaim := { program := "ythdaggogdocmfaadoor", sum := "577718e561fcb84bb0827f0349f6f95cf318e3c80ccb622f358429be68c0e32d", func := "gauntlet/gauntletlaw43.PlansErrors", spec := "plansErrors", unfollowed := true, recurses := true, named := ["gauntlet/faults.table"], apart := false, laid := [("gauntlet/faults.table", laid_gauntlet_faults_table)] }
def PlansErrorsSaid : Prop := plansErrorsRow.holds Tryd.pinned (OpenSpec.ofChange plansErrorsSpec)

/-- ITS FALSE NEIGHBOUR: 'it returns false'. Refute it at one input. -/
def plansErrorsWrong : ChangeSpec := { name := "plansErrors", fn := fun _ => fun
  | [d1, d2] => { results := [.lit (.bool false)], args := [d1, d2] }
  | _ => none }
def PlansErrorsWrongFalsely : Prop := plansErrorsRow.holds Tryd.pinned (OpenSpec.ofChange plansErrorsWrong)

/-- 'gauntletlaw43.PlansKnown': WHATEVER THE INPUT: true; the input reads as it did. -/
def plansKnownSpec : ChangeSpec := { name := "plansKnown", fn := fun _ => fun
  | [] => { results := [.lit (.bool true)], args := [] }
  | _ => none }
def plansKnownRow : OpenClaim := { program := "ythdaggogdocmfaadoor", sum := "577718e561fcb84bb0827f0349f6f95cf318e3c80ccb622f358429be68c0e32d", func := "gauntlet/gauntletlaw43.PlansKnown", spec := "plansKnown", unfollowed := true, recurses := true, named := ["gauntlet/faults.table"], apart := false, laid := [("gauntlet/faults.table", laid_gauntlet_faults_table)] }
def PlansKnownSaid : Prop := plansKnownRow.holds Tryd.pinned (OpenSpec.ofChange plansKnownSpec)

/-- ITS FALSE NEIGHBOUR: 'it returns false'. Refute it at one input. -/
def plansKnownWrong : ChangeSpec := { name := "plansKnown", fn := fun _ => fun
  | [] => { results := [.lit (.bool false)], args := [] }
  | _ => none }
def PlansKnownWrongFalsely : Prop := plansKnownRow.holds Tryd.pinned (OpenSpec.ofChange plansKnownWrong)

/- THE SECOND FORM. 'bulk': how many values and letters a reading holds, each counted each time it is reached (what is shared counts as often as it is met; a slice's spare places count too). A statement '..UptoSaid' is the law's where the arguments, and the package variables that the reading takes, are together of bulk at most 1048576: NARROWER than '..Said'. Prove '..Said' where nothing that the law and all that it calls make is longer than what came in: it says more and counts as full. Else prove '..UptoSaid'. A law counts once. -/
mutual
def uptoBulk {H : Type} : DataW H → Nat
  | .lit (.string bytes) => bytes.length + 1
  | .lit _ => 1
  | .nil => 1
  | .ptr d => uptoBulk d + 1
  | .slice elems spare => uptoBulkAll elems + uptoBulkAll spare + 1
  | .agg parts => uptoBulkAll parts + 1
  | .iface _ d => uptoBulk d + 1
  | .map entries => uptoBulkEntries entries + 1
  | .held _ => 1
def uptoBulkAll {H : Type} : List (DataW H) → Nat
  | [] => 0
  | d :: r => uptoBulk d + uptoBulkAll r
def uptoBulkEntries {H : Type} : List (Lit × DataW H) → Nat
  | [] => 0
  | x :: r => uptoBulkEntry x + uptoBulkEntries r
def uptoBulkEntry {H : Type} : Lit × DataW H → Nat
  | (.string bytes, d) => bytes.length + uptoBulk d + 1
  | (_, d) => uptoBulk d + 1
 end
def uptoSmall : (H : Type) → List (DataW H) → Bool := fun _ ds => decide (uptoBulkAll ds ≤ 1048576)
def OpenSpec.upto (s : _root_.Go.ChangeSpec) : _root_.Go.OpenSpec := { _root_.Go.OpenSpec.ofChange s with cond := some uptoSmall }

/-- 'gauntletlaw43.PlansCheck', WHERE WHAT IT READS IS OF BULK AT MOST 1048576: true; the input reads as it did. -/
def plansCheckUptoRow : OpenClaim := { program := "ythdaggogdocmfaadoor", sum := "577718e561fcb84bb0827f0349f6f95cf318e3c80ccb622f358429be68c0e32d", func := "gauntlet/gauntletlaw43.PlansCheck", spec := "plansCheck", unfollowed := true, recurses := true, named := ["gauntlet/faults.table"], apart := false, laid := [("gauntlet/faults.table", laid_gauntlet_faults_table)], narrowed := true }
def PlansCheckUptoSaid : Prop := plansCheckUptoRow.holds Tryd.pinned (OpenSpec.upto plansCheckSpec)

/-- 'gauntletlaw43.PlansItems', WHERE WHAT IT READS IS OF BULK AT MOST 1048576: true; the input reads as it did. -/
def plansItemsUptoRow : OpenClaim := { program := "ythdaggogdocmfaadoor", sum := "577718e561fcb84bb0827f0349f6f95cf318e3c80ccb622f358429be68c0e32d", func := "gauntlet/gauntletlaw43.PlansItems", spec := "plansItems", unfollowed := true, recurses := true, named := ["gauntlet/faults.table"], apart := false, laid := [("gauntlet/faults.table", laid_gauntlet_faults_table)], narrowed := true }
def PlansItemsUptoSaid : Prop := plansItemsUptoRow.holds Tryd.pinned (OpenSpec.upto plansItemsSpec)

/-- 'gauntletlaw43.PlansOrder', WHERE WHAT IT READS IS OF BULK AT MOST 1048576: true; the input reads as it did. -/
def plansOrderUptoRow : OpenClaim := { program := "ythdaggogdocmfaadoor", sum := "577718e561fcb84bb0827f0349f6f95cf318e3c80ccb622f358429be68c0e32d", func := "gauntlet/gauntletlaw43.PlansOrder", spec := "plansOrder", unfollowed := true, recurses := true, named := ["gauntlet/faults.table"], apart := false, laid := [("gauntlet/faults.table", laid_gauntlet_faults_table)], narrowed := true }
def PlansOrderUptoSaid : Prop := plansOrderUptoRow.holds Tryd.pinned (OpenSpec.upto plansOrderSpec)

/-- 'gauntletlaw43.PlansCurve', WHERE WHAT IT READS IS OF BULK AT MOST 1048576: true; the input reads as it did. -/
def plansCurveUptoRow : OpenClaim := { program := "ythdaggogdocmfaadoor", sum := "577718e561fcb84bb0827f0349f6f95cf318e3c80ccb622f358429be68c0e32d", func := "gauntlet/gauntletlaw43.PlansCurve", spec := "plansCurve", unfollowed := true, recurses := true, named := ["gauntlet/faults.table"], apart := false, laid := [("gauntlet/faults.table", laid_gauntlet_faults_table)], narrowed := true }
def PlansCurveUptoSaid : Prop := plansCurveUptoRow.holds Tryd.pinned (OpenSpec.upto plansCurveSpec)

/-- 'gauntletlaw43.PlansLate', WHERE WHAT IT READS IS OF BULK AT MOST 1048576: true; the input reads as it did. -/
def plansLateUptoRow : OpenClaim := { program := "ythdaggogdocmfaadoor", sum := "577718e561fcb84bb0827f0349f6f95cf318e3c80ccb622f358429be68c0e32d", func := "gauntlet/gauntletlaw43.PlansLate", spec := "plansLate", unfollowed := true, recurses := true, named := ["gauntlet/faults.table"], apart := false, laid := [("gauntlet/faults.table", laid_gauntlet_faults_table)], narrowed := true }
def PlansLateUptoSaid : Prop := plansLateUptoRow.holds Tryd.pinned (OpenSpec.upto plansLateSpec)

/-- 'gauntletlaw43.PlansBest', WHERE WHAT IT READS IS OF BULK AT MOST 1048576: true; the input reads as it did. -/
def plansBestUptoRow : OpenClaim := { program := "ythdaggogdocmfaadoor", sum := "577718e561fcb84bb0827f0349f6f95cf318e3c80ccb622f358429be68c0e32d", func := "gauntlet/gauntletlaw43.PlansBest", spec := "plansBest", unfollowed := true, recurses := true, named := ["gauntlet/faults.table"], apart := false, laid := [("gauntlet/faults.table", laid_gauntlet_faults_table)], narrowed := true }
def PlansBestUptoSaid : Prop := plansBestUptoRow.holds Tryd.pinned (OpenSpec.upto plansBestSpec)

/-- 'gauntletlaw43.PlansChains', WHERE WHAT IT READS IS OF BULK AT MOST 1048576: true; the input reads as it did. -/
def plansChainsUptoRow : OpenClaim := { program := "ythdaggogdocmfaadoor", sum := "577718e561fcb84bb0827f0349f6f95cf318e3c80ccb622f358429be68c0e32d", func := "gauntlet/gauntletlaw43.PlansChains", spec := "plansChains", unfollowed := true, recurses := true, named := ["gauntlet/faults.table"], apart := false, laid := [("gauntlet/faults.table", laid_gauntlet_faults_table)], narrowed := true }
def PlansChainsUptoSaid : Prop := plansChainsUptoRow.holds Tryd.pinned (OpenSpec.upto plansChainsSpec)

/-- 'gauntletlaw43.PlansErrors', WHERE WHAT IT READS IS OF BULK AT MOST 1048576: true; the input reads as it did. -/
def plansErrorsUptoRow : OpenClaim := { program := "ythdaggogdocmfaadoor", sum := "577718e561fcb84bb0827f0349f6f95cf318e3c80ccb622f358429be68c0e32d", func := "gauntlet/gauntletlaw43.PlansErrors", spec := "plansErrors", unfollowed := true, recurses := true, named := ["gauntlet/faults.table"], apart := false, laid := [("gauntlet/faults.table", laid_gauntlet_faults_table)], narrowed := true }
def PlansErrorsUptoSaid : Prop := plansErrorsUptoRow.holds Tryd.pinned (OpenSpec.upto plansErrorsSpec)

/-- 'gauntletlaw43.PlansKnown', WHERE WHAT IT READS IS OF BULK AT MOST 1048576: true; the input reads as it did. -/
def plansKnownUptoRow : OpenClaim := { program := "ythdaggogdocmfaadoor", sum := "577718e561fcb84bb0827f0349f6f95cf318e3c80ccb622f358429be68c0e32d", func := "gauntlet/gauntletlaw43.PlansKnown", spec := "plansKnown", unfollowed := true, recurses := true, named := ["gauntlet/faults.table"], apart := false, laid := [("gauntlet/faults.table", laid_gauntlet_faults_table)], narrowed := true }
def PlansKnownUptoSaid : Prop := plansKnownUptoRow.holds Tryd.pinned (OpenSpec.upto plansKnownSpec)

end Rows
end Go.Proofs.YthdaggogdocmfaaDoor
