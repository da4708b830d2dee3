/-
  Calls of live11, by the evaluator (3).
-/
import Derived.Test.YtnolphljopdomaaGreatDoorPart11
set_option linter.unusedSimpArgs false
set_option linter.unusedVariables false
set_option linter.unnecessarySimpa false
set_option linter.deprecated false
namespace Go.Avl
open Go Go.Proofs
set_option maxRecDepth 100000
def kn30 : Kn := ⟨30, [.sc (.string ⟨⟨[109, 97, 99, 104, 105, 110, 101, 32, 108, 97, 109, 112, 32, 59, 32, 105, 110, 112, 117, 116, 115, 32, 112, 114, 101, 115, 115, 32, 59, 32, 111, 117, 116, 112, 117, 116, 115, 32, 111, 110, 32, 44, 32, 111, 102, 102, 32, 59, 32, 115, 116, 97, 116, 101, 115, 32, 100, 97, 114, 107, 32, 44, 32, 108, 105, 116, 32, 44, 32, 100, 105, 109, 32, 44, 32, 103, 108, 111, 119, 32, 59, 32, 100, 97, 114, 107, 32, 112, 114, 101, 115, 115, 32, 47, 32, 111, 110, 32, 45, 62, 32, 108, 105, 116, 32, 59, 32, 108, 105, 116, 32, 112, 114, 101, 115, 115, 32, 47, 32, 111, 102, 102, 32, 45, 62, 32, 100, 105, 109, 32, 59, 32, 100, 105, 109, 32, 112, 114, 101, 115, 115, 32, 47, 32, 111, 110, 32, 45, 62, 32, 103, 108, 111, 119, 32, 59, 32, 103, 108, 111, 119, 32, 112, 114, 101, 115, 115, 32, 47, 32, 111, 102, 102, 32, 45, 62, 32, 100, 97, 114, 107, 32, 59, 32, 101, 110, 100, 32, 59]⟩⟩)],
 .tu [.ag [.sc (.string ⟨⟨[108, 97, 109, 112]⟩⟩), .sc (.int .i64 1), .sc (.int .i64 2), .sl false [[.sl false [[.sc (.int .i64 1), .sc (.int .i64 0)]] .full], [.sl false [[.sc (.int .i64 2), .sc (.int .i64 1)]] .full], [.sl false [[.sc (.int .i64 3), .sc (.int .i64 0)]] .full], [.sl false [[.sc (.int .i64 0), .sc (.int .i64 1)]] .full]] .full, .sl false [[.sc (.string ⟨⟨[112, 114, 101, 115, 115]⟩⟩)]] .full, .sl false [[.sc (.string ⟨⟨[111, 110]⟩⟩)], [.sc (.string ⟨⟨[111, 102, 102]⟩⟩)]] .full, .sl false [[.sc (.string ⟨⟨[100, 97, 114, 107]⟩⟩)], [.sc (.string ⟨⟨[108, 105, 116]⟩⟩)], [.sc (.string ⟨⟨[100, 105, 109]⟩⟩)], [.sc (.string ⟨⟨[103, 108, 111, 119]⟩⟩)]] .full], .sc (.int .i64 0), .sc (.int .i64 0), .sc (.int .i64 0)]⟩
theorem kn30_ev : evP Tryz.prog tab1 3000 16 kn30.f kn30.xs = some kn30.r := by kernel_rfl
theorem kn30_ok : PureIs Tryz.prog kn30.f kn30.xs kn30.r := .ev tab1_ok noNum mixedOk kn30_ev
end Go.Avl
