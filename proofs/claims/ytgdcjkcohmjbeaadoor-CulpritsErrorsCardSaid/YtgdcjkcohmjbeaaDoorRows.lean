/-
  NARROWER THAN 'FOR EVERY INPUT', by the rows' own cells (each row's printed sentence says how): CulpritsSuspects: laid · CulpritsClasses: laid · CulpritsNext: laid · CulpritsWalk: laid · CulpritsTrees: laid · CulpritsErrors: laid · CulpritsKnown: laid.
  DERIVED. THE GIVEN ROWS OF THIS SEAT. 7 by the template 'for every input the law returns true; each argument reads behind the call as it read before'; 0 by the template 'total and deterministic' (their statements: YtgdcjkcohmjbeaaDoorTotals.lean).
  GIVEN WITH THE SEED: the statements are not yours to turn. If you find one false, say at which input.
  Laid BY PROGRAM, IN A SANDBOX (cutbox-rows.mjs): the forced cells as the released guide's own fill.sh prints them over the translation 6eef0ff9bd6289e5… (all of the seat's roots in one cut). By AI agents, Wed Nov 11 2026. No macro, syntax, notation, axiom, sorry.
-/
import Derived.Test.YtgdcjkcohmjbeaaDoorChecked
import GoSem.Claim
import GoSem.ClaimJoined
import GoSem.ClaimMapViews
import Derived.JoinedTies
import Derived.KernelRfl
namespace Go.Proofs.YtgdcjkcohmjbeaaDoor
/- THE CELL 'sum', in the pinned program and in every row, IS THE sha256 OF THE DUMP (.gsa) THAT YtgdcjkcohmjbeaaDoorProg.lean LOADS. Nothing in Lean hashes anything: it is a label: what it is worth is what the hold of that sum in a sandbox is worth. -/
noncomputable def Tryd.pinned : Pinned := { name := "ytgdcjkcohmjbeaadoor", sum := "6eef0ff9bd6289e56d96d23531fa0abb75dc671ade4742feed5f8a411791fab6", checked := Tryd.checked }
namespace Rows
def none {H : Type} : Left H := { results := [], args := [] }

/- WHAT THE LISTED PACKAGE-LEVEL VARIABLES READ AS WHEN THE CALL BEGINS. Each datum BY PROGRAM (the guide's laid-datum.mjs) off the statement by which the dump's own 'gosem.cut.vars' lays the variable. In a bare row this is a premise. The card (YtgdcjkcohmjbeaaDoorCards.lean) ties it to the program's text. -/
def laid_gauntlet_faults_table {H : Type} : DataW H := .agg [.agg [.lit (.string [111, 117, 116, 112, 117, 116]), .lit (.bool false), .lit (.bool false), .lit (.bool true)], .agg [.lit (.string [116, 114, 97, 110, 115, 102, 101, 114]), .lit (.bool true), .lit (.bool false), .lit (.bool false)], .agg [.lit (.string [109, 105, 115, 115, 105, 110, 103]), .lit (.bool false), .lit (.bool false), .lit (.bool false)], .agg [.lit (.string [101, 120, 116, 114, 97]), .lit (.bool true), .lit (.bool false), .lit (.bool false)], .agg [.lit (.string [100, 101, 101, 112]), .lit (.bool false), .lit (.bool true), .lit (.bool true)]]

/-- 'gauntletlaw41.CulpritsSuspects': WHATEVER THE INPUT: true; the input reads as it did. -/
def culpritsSuspectsSpec : ChangeSpec := { name := "culpritsSuspects", fn := fun _ => fun
  | [d] => { results := [.lit (.bool true)], args := [d] }
  | _ => none }
def culpritsSuspectsRow : OpenClaim := { program := "ytgdcjkcohmjbeaadoor", sum := "6eef0ff9bd6289e56d96d23531fa0abb75dc671ade4742feed5f8a411791fab6", func := "gauntlet/gauntletlaw41.CulpritsSuspects", spec := "culpritsSuspects", unfollowed := true, recurses := true, named := ["gauntlet/faults.table"], plainKeys := false, apart := false, laid := [("gauntlet/faults.table", laid_gauntlet_faults_table)] }
def CulpritsSuspectsSaid : Prop := culpritsSuspectsRow.holds Tryd.pinned (OpenSpec.ofChange culpritsSuspectsSpec)

/-- ITS FALSE NEIGHBOUR: 'it returns false'. Refute it at one input. -/
def culpritsSuspectsWrong : ChangeSpec := { name := "culpritsSuspects", fn := fun _ => fun
  | [d] => { results := [.lit (.bool false)], args := [d] }
  | _ => none }
def CulpritsSuspectsWrongFalsely : Prop := culpritsSuspectsRow.holds Tryd.pinned (OpenSpec.ofChange culpritsSuspectsWrong)

/-- 'gauntletlaw41.CulpritsClasses': WHATEVER THE INPUT: true; the input reads as it did. -/
def culpritsClassesSpec : ChangeSpec := { name := "culpritsClasses", fn := fun _ => fun
  | [d] => { results := [.lit (.bool true)], args := [d] }
  | _ => none }
def culpritsClassesRow : OpenClaim := { program := "ytgdcjkcohmjbeaadoor", sum := "6eef0ff9bd6289e56d96d23531fa0abb75dc671ade4742feed5f8a411791fab6", func := "gauntlet/gauntletlaw41.CulpritsClasses", spec := "culpritsClasses", unfollowed := true, recurses := true, named := ["gauntlet/faults.table"], plainKeys := false, apart := false, laid := [("gauntlet/faults.table", laid_gauntlet_faults_table)] }
def CulpritsClassesSaid : Prop := culpritsClassesRow.holds Tryd.pinned (OpenSpec.ofChange culpritsClassesSpec)

/-- ITS FALSE NEIGHBOUR: 'it returns false'. Refute it at one input. -/
def culpritsClassesWrong : ChangeSpec := { name := "culpritsClasses", fn := fun _ => fun
  | [d] => { results := [.lit (.bool false)], args := [d] }
  | _ => none }
def CulpritsClassesWrongFalsely : Prop := culpritsClassesRow.holds Tryd.pinned (OpenSpec.ofChange culpritsClassesWrong)

/-- 'gauntletlaw41.CulpritsNext': WHATEVER THE INPUT: true; the input reads as it did. -/
def culpritsNextSpec : ChangeSpec := { name := "culpritsNext", fn := fun _ => fun
  | [d1, d2] => { results := [.lit (.bool true)], args := [d1, d2] }
  | _ => none }
def culpritsNextRow : OpenClaim := { program := "ytgdcjkcohmjbeaadoor", sum := "6eef0ff9bd6289e56d96d23531fa0abb75dc671ade4742feed5f8a411791fab6", func := "gauntlet/gauntletlaw41.CulpritsNext", spec := "culpritsNext", unfollowed := true, recurses := true, named := ["gauntlet/faults.table"], plainKeys := false, apart := false, laid := [("gauntlet/faults.table", laid_gauntlet_faults_table)] }
def CulpritsNextSaid : Prop := culpritsNextRow.holds Tryd.pinned (OpenSpec.ofChange culpritsNextSpec)

/-- ITS FALSE NEIGHBOUR: 'it returns false'. Refute it at one input. -/
def culpritsNextWrong : ChangeSpec := { name := "culpritsNext", fn := fun _ => fun
  | [d1, d2] => { results := [.lit (.bool false)], args := [d1, d2] }
  | _ => none }
def CulpritsNextWrongFalsely : Prop := culpritsNextRow.holds Tryd.pinned (OpenSpec.ofChange culpritsNextWrong)

/-- 'gauntletlaw41.CulpritsWalk': WHATEVER THE INPUT: true; the input reads as it did. -/
def culpritsWalkSpec : ChangeSpec := { name := "culpritsWalk", fn := fun _ => fun
  | [d1, d2] => { results := [.lit (.bool true)], args := [d1, d2] }
  | _ => none }
def culpritsWalkRow : OpenClaim := { program := "ytgdcjkcohmjbeaadoor", sum := "6eef0ff9bd6289e56d96d23531fa0abb75dc671ade4742feed5f8a411791fab6", func := "gauntlet/gauntletlaw41.CulpritsWalk", spec := "culpritsWalk", unfollowed := true, recurses := true, named := ["gauntlet/faults.table"], plainKeys := false, apart := false, laid := [("gauntlet/faults.table", laid_gauntlet_faults_table)] }
def CulpritsWalkSaid : Prop := culpritsWalkRow.holds Tryd.pinned (OpenSpec.ofChange culpritsWalkSpec)

/-- ITS FALSE NEIGHBOUR: 'it returns false'. Refute it at one input. -/
def culpritsWalkWrong : ChangeSpec := { name := "culpritsWalk", fn := fun _ => fun
  | [d1, d2] => { results := [.lit (.bool false)], args := [d1, d2] }
  | _ => none }
def CulpritsWalkWrongFalsely : Prop := culpritsWalkRow.holds Tryd.pinned (OpenSpec.ofChange culpritsWalkWrong)

/-- 'gauntletlaw41.CulpritsTrees': WHATEVER THE INPUT: true; the input reads as it did. -/
def culpritsTreesSpec : ChangeSpec := { name := "culpritsTrees", fn := fun _ => fun
  | [d1, d2] => { results := [.lit (.bool true)], args := [d1, d2] }
  | _ => none }
def culpritsTreesRow : OpenClaim := { program := "ytgdcjkcohmjbeaadoor", sum := "6eef0ff9bd6289e56d96d23531fa0abb75dc671ade4742feed5f8a411791fab6", func := "gauntlet/gauntletlaw41.CulpritsTrees", spec := "culpritsTrees", unfollowed := true, recurses := true, named := ["gauntlet/faults.table"], plainKeys := false, apart := false, laid := [("gauntlet/faults.table", laid_gauntlet_faults_table)] }
def CulpritsTreesSaid : Prop := culpritsTreesRow.holds Tryd.pinned (OpenSpec.ofChange culpritsTreesSpec)

/-- ITS FALSE NEIGHBOUR: 'it returns false'. Refute it at one input. -/
def culpritsTreesWrong : ChangeSpec := { name := "culpritsTrees", fn := fun _ => fun
  | [d1, d2] => { results := [.lit (.bool false)], args := [d1, d2] }
  | _ => none }
def CulpritsTreesWrongFalsely : Prop := culpritsTreesRow.holds Tryd.pinned (OpenSpec.ofChange culpritsTreesWrong)

/-- 'gauntletlaw41.CulpritsErrors': WHATEVER THE INPUT: true; the input reads as it did. -/
def culpritsErrorsSpec : ChangeSpec := { name := "culpritsErrors", fn := fun _ => fun
  | [d1, d2, d3] => { results := [.lit (.bool true)], args := [d1, d2, d3] }
  | _ => none }
def culpritsErrorsRow : OpenClaim := { program := "ytgdcjkcohmjbeaadoor", sum := "6eef0ff9bd6289e56d96d23531fa0abb75dc671ade4742feed5f8a411791fab6", func := "gauntlet/gauntletlaw41.CulpritsErrors", spec := "culpritsErrors", unfollowed := true, recurses := true, named := ["gauntlet/faults.table"], plainKeys := false, apart := false, laid := [("gauntlet/faults.table", laid_gauntlet_faults_table)] }
def CulpritsErrorsSaid : Prop := culpritsErrorsRow.holds Tryd.pinned (OpenSpec.ofChange culpritsErrorsSpec)

/-- ITS FALSE NEIGHBOUR: 'it returns false'. Refute it at one input. -/
def culpritsErrorsWrong : ChangeSpec := { name := "culpritsErrors", fn := fun _ => fun
  | [d1, d2, d3] => { results := [.lit (.bool false)], args := [d1, d2, d3] }
  | _ => none }
def CulpritsErrorsWrongFalsely : Prop := culpritsErrorsRow.holds Tryd.pinned (OpenSpec.ofChange culpritsErrorsWrong)

/-- 'gauntletlaw41.CulpritsKnown': WHATEVER THE INPUT: true; the input reads as it did. -/
def culpritsKnownSpec : ChangeSpec := { name := "culpritsKnown", fn := fun _ => fun
  | [] => { results := [.lit (.bool true)], args := [] }
  | _ => none }
def culpritsKnownRow : OpenClaim := { program := "ytgdcjkcohmjbeaadoor", sum := "6eef0ff9bd6289e56d96d23531fa0abb75dc671ade4742feed5f8a411791fab6", func := "gauntlet/gauntletlaw41.CulpritsKnown", spec := "culpritsKnown", unfollowed := true, recurses := true, named := ["gauntlet/faults.table"], plainKeys := false, apart := false, laid := [("gauntlet/faults.table", laid_gauntlet_faults_table)] }
def CulpritsKnownSaid : Prop := culpritsKnownRow.holds Tryd.pinned (OpenSpec.ofChange culpritsKnownSpec)

/-- ITS FALSE NEIGHBOUR: 'it returns false'. Refute it at one input. -/
def culpritsKnownWrong : ChangeSpec := { name := "culpritsKnown", fn := fun _ => fun
  | [] => { results := [.lit (.bool false)], args := [] }
  | _ => none }
def CulpritsKnownWrongFalsely : Prop := culpritsKnownRow.holds Tryd.pinned (OpenSpec.ofChange culpritsKnownWrong)

/- THE SECOND FORM. 'bulk': how many values and letters a reading holds, each counted each time it is reached (what is shared counts as often as it is met; a slice's spare places count too). A statement '..UptoSaid' is the law's where the arguments, and the package variables that the reading takes, are together of bulk at most 1048576: NARROWER than '..Said'. Prove '..Said' where nothing that the law and all that it calls make is longer than what came in: it says more and counts as full. Else prove '..UptoSaid'. A law counts once. -/
mutual
def uptoBulk {H : Type} : DataW H → Nat
  | .lit (.string bytes) => bytes.length + 1
  | .lit _ => 1
  | .nil => 1
  | .ptr d => uptoBulk d + 1
  | .slice elems spare => uptoBulkAll elems + uptoBulkAll spare + 1
  | .agg parts => uptoBulkAll parts + 1
  | .iface _ d => uptoBulk d + 1
  | .map entries => uptoBulkEntries entries + 1
  | .held _ => 1
def uptoBulkAll {H : Type} : List (DataW H) → Nat
  | [] => 0
  | d :: r => uptoBulk d + uptoBulkAll r
def uptoBulkEntries {H : Type} : List (Lit × DataW H) → Nat
  | [] => 0
  | x :: r => uptoBulkEntry x + uptoBulkEntries r
def uptoBulkEntry {H : Type} : Lit × DataW H → Nat
  | (.string bytes, d) => bytes.length + uptoBulk d + 1
  | (_, d) => uptoBulk d + 1
 end
def uptoSmall : (H : Type) → List (DataW H) → Bool := fun _ ds => decide (uptoBulkAll ds ≤ 1048576)
def OpenSpec.upto (s : _root_.Go.ChangeSpec) : _root_.Go.OpenSpec := { _root_.Go.OpenSpec.ofChange s with cond := some uptoSmall }

/-- 'gauntletlaw41.CulpritsSuspects', WHERE WHAT IT READS IS OF BULK AT MOST 1048576: true; the input reads as it did. -/
def culpritsSuspectsUptoRow : OpenClaim := { program := "ytgdcjkcohmjbeaadoor", sum := "6eef0ff9bd6289e56d96d23531fa0abb75dc671ade4742feed5f8a411791fab6", func := "gauntlet/gauntletlaw41.CulpritsSuspects", spec := "culpritsSuspects", unfollowed := true, recurses := true, named := ["gauntlet/faults.table"], plainKeys := false, apart := false, laid := [("gauntlet/faults.table", laid_gauntlet_faults_table)], narrowed := true }
def CulpritsSuspectsUptoSaid : Prop := culpritsSuspectsUptoRow.holds Tryd.pinned (OpenSpec.upto culpritsSuspectsSpec)

/-- 'gauntletlaw41.CulpritsClasses', WHERE WHAT IT READS IS OF BULK AT MOST 1048576: true; the input reads as it did. -/
def culpritsClassesUptoRow : OpenClaim := { program := "ytgdcjkcohmjbeaadoor", sum := "6eef0ff9bd6289e56d96d23531fa0abb75dc671ade4742feed5f8a411791fab6", func := "gauntlet/gauntletlaw41.CulpritsClasses", spec := "culpritsClasses", unfollowed := true, recurses := true, named := ["gauntlet/faults.table"], plainKeys := false, apart := false, laid := [("gauntlet/faults.table", laid_gauntlet_faults_table)], narrowed := true }
def CulpritsClassesUptoSaid : Prop := culpritsClassesUptoRow.holds Tryd.pinned (OpenSpec.upto culpritsClassesSpec)

/-- 'gauntletlaw41.CulpritsNext', WHERE WHAT IT READS IS OF BULK AT MOST 1048576: true; the input reads as it did. -/
def culpritsNextUptoRow : OpenClaim := { program := "ytgdcjkcohmjbeaadoor", sum := "6eef0ff9bd6289e56d96d23531fa0abb75dc671ade4742feed5f8a411791fab6", func := "gauntlet/gauntletlaw41.CulpritsNext", spec := "culpritsNext", unfollowed := true, recurses := true, named := ["gauntlet/faults.table"], plainKeys := false, apart := false, laid := [("gauntlet/faults.table", laid_gauntlet_faults_table)], narrowed := true }
def CulpritsNextUptoSaid : Prop := culpritsNextUptoRow.holds Tryd.pinned (OpenSpec.upto culpritsNextSpec)

/-- 'gauntletlaw41.CulpritsWalk', WHERE WHAT IT READS IS OF BULK AT MOST 1048576: true; the input reads as it did. -/
def culpritsWalkUptoRow : OpenClaim := { program := "ytgdcjkcohmjbeaadoor", sum := "6eef0ff9bd6289e56d96d23531fa0abb75dc671ade4742feed5f8a411791fab6", func := "gauntlet/gauntletlaw41.CulpritsWalk", spec := "culpritsWalk", unfollowed := true, recurses := true, named := ["gauntlet/faults.table"], plainKeys := false, apart := false, laid := [("gauntlet/faults.table", laid_gauntlet_faults_table)], narrowed := true }
def CulpritsWalkUptoSaid : Prop := culpritsWalkUptoRow.holds Tryd.pinned (OpenSpec.upto culpritsWalkSpec)

/-- 'gauntletlaw41.CulpritsTrees', WHERE WHAT IT READS IS OF BULK AT MOST 1048576: true; the input reads as it did. -/
def culpritsTreesUptoRow : OpenClaim := { program := "ytgdcjkcohmjbeaadoor", sum := "6eef0ff9bd6289e56d96d23531fa0abb75dc671ade4742feed5f8a411791fab6", func := "gauntlet/gauntletlaw41.CulpritsTrees", spec := "culpritsTrees", unfollowed := true, recurses := true, named := ["gauntlet/faults.table"], plainKeys := false, apart := false, laid := [("gauntlet/faults.table", laid_gauntlet_faults_table)], narrowed := true }
def CulpritsTreesUptoSaid : Prop := culpritsTreesUptoRow.holds Tryd.pinned (OpenSpec.upto culpritsTreesSpec)

/-- 'gauntletlaw41.CulpritsErrors', WHERE WHAT IT READS IS OF BULK AT MOST 1048576: true; the input reads as it did. -/
def culpritsErrorsUptoRow : OpenClaim := { program := "ytgdcjkcohmjbeaadoor", sum := "6eef0ff9bd6289e56d96d23531fa0abb75dc671ade4742feed5f8a411791fab6", func := "gauntlet/gauntletlaw41.CulpritsErrors", spec := "culpritsErrors", unfollowed := true, recurses := true, named := ["gauntlet/faults.table"], plainKeys := false, apart := false, laid := [("gauntlet/faults.table", laid_gauntlet_faults_table)], narrowed := true }
def CulpritsErrorsUptoSaid : Prop := culpritsErrorsUptoRow.holds Tryd.pinned (OpenSpec.upto culpritsErrorsSpec)

/-- 'gauntletlaw41.CulpritsKnown', WHERE WHAT IT READS IS OF BULK AT MOST 1048576: true; the input reads as it did. -/
def culpritsKnownUptoRow : OpenClaim := { program := "ytgdcjkcohmjbeaadoor", sum := "6eef0ff9bd6289e56d96d23531fa0abb75dc671ade4742feed5f8a411791fab6", func := "gauntlet/gauntletlaw41.CulpritsKnown", spec := "culpritsKnown", unfollowed := true, recurses := true, named := ["gauntlet/faults.table"], plainKeys := false, apart := false, laid := [("gauntlet/faults.table", laid_gauntlet_faults_table)], narrowed := true }
def CulpritsKnownUptoSaid : Prop := culpritsKnownUptoRow.holds Tryd.pinned (OpenSpec.upto culpritsKnownSpec)

end Rows
end Go.Proofs.YtgdcjkcohmjbeaaDoor
