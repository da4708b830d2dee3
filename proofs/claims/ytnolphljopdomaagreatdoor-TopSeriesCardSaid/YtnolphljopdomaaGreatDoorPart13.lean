/-
  Calls of live11, by the evaluator (4).
-/
import Derived.Test.YtnolphljopdomaaGreatDoorPart12
set_option linter.unusedSimpArgs false
set_option linter.unusedVariables false
set_option linter.unnecessarySimpa false
set_option linter.deprecated false
namespace Go.Avl
open Go Go.Proofs
set_option maxRecDepth 100000
def kn14 : Kn := ⟨14, [.ag [.sc (.int .i64 1), .sc (.int .i64 2), .sl false [[.sl false [[.sc (.int .i64 1), .sc (.int .i64 0)]] .full], [.sl false [[.sc (.int .i64 2), .sc (.int .i64 1)]] .full], [.sl false [[.sc (.int .i64 3), .sc (.int .i64 0)]] .full], [.sl false [[.sc (.int .i64 0), .sc (.int .i64 1)]] .full]] .full]],
 .tu [.ag [.sc (.int .i64 1), .sc (.int .i64 2), .sl false [[.sl false [[.sc (.int .i64 1), .sc (.int .i64 0)]] .full], [.sl false [[.sc (.int .i64 0), .sc (.int .i64 1)]] .full]] .full], .sc (.int .i64 0)]⟩
theorem kn14_ev : evP Tryz.prog tab1 3000 16 kn14.f kn14.xs = some kn14.r := by kernel_rfl
theorem kn14_ok : PureIs Tryz.prog kn14.f kn14.xs kn14.r := .ev tab1_ok noNum mixedOk kn14_ev
end Go.Avl
