/-
  Calls of live11, by the evaluator (5).
-/
import Derived.Test.YtnolphljopdomaaGreatDoorPart13
set_option linter.unusedSimpArgs false
set_option linter.unusedVariables false
set_option linter.unnecessarySimpa false
set_option linter.deprecated false
namespace Go.Avl
open Go Go.Proofs
set_option maxRecDepth 100000
def kn31 : Kn := ⟨31, [.ag [.sc (.int .i64 1), .sc (.int .i64 2), .sl false [[.sl false [[.sc (.int .i64 1), .sc (.int .i64 0)]] .full], [.sl false [[.sc (.int .i64 2), .sc (.int .i64 1)]] .full], [.sl false [[.sc (.int .i64 3), .sc (.int .i64 0)]] .full], [.sl false [[.sc (.int .i64 0), .sc (.int .i64 1)]] .full]] .full]],
 .tu [.sl false [[.sc (.int .i64 0)], [.sc (.int .i64 1)], [.sc (.int .i64 0)], [.sc (.int .i64 1)]] .full, .sc (.int .i64 1), .sc (.int .i64 0)]⟩
theorem kn31_ev : evP Tryz.prog tab1 3000 16 kn31.f kn31.xs = some kn31.r := by kernel_rfl
theorem kn31_ok : PureIs Tryz.prog kn31.f kn31.xs kn31.r := .ev tab1_ok noNum mixedOk kn31_ev
def kn32 : Kn := ⟨32, [.sl false [[.sc (.int .i64 0)], [.sc (.int .i64 1)], [.sc (.int .i64 0)], [.sc (.int .i64 1)]] .full],
 .tu [.sc (.string ⟨⟨[48, 32, 50, 32, 124, 32, 49, 32, 51]⟩⟩), .sc (.int .i64 0)]⟩
theorem kn32_ev : evP Tryz.prog tab1 3000 16 kn32.f kn32.xs = some kn32.r := by kernel_rfl
theorem kn32_ok : PureIs Tryz.prog kn32.f kn32.xs kn32.r := .ev tab1_ok noNum mixedOk kn32_ev
def kn33 : Kn := ⟨33, [.ag [.sc (.int .i64 1), .sc (.int .i64 2), .sl false [[.sl false [[.sc (.int .i64 1), .sc (.int .i64 0)]] .full], [.sl false [[.sc (.int .i64 2), .sc (.int .i64 1)]] .full], [.sl false [[.sc (.int .i64 3), .sc (.int .i64 0)]] .full], [.sl false [[.sc (.int .i64 0), .sc (.int .i64 1)]] .full]] .full]],
 .tu [.ag [.sc (.int .i64 1), .sc (.int .i64 2), .sl false [[.sl false [[.sc (.int .i64 1), .sc (.int .i64 0)]] .full], [.sl false [[.sc (.int .i64 2), .sc (.int .i64 1)]] .full], [.sl false [[.sc (.int .i64 3), .sc (.int .i64 0)]] .full], [.sl false [[.sc (.int .i64 0), .sc (.int .i64 1)]] .full]] .full], .sc (.int .i64 0)]⟩
theorem kn33_ev : evP Tryz.prog tab1 3000 16 kn33.f kn33.xs = some kn33.r := by kernel_rfl
theorem kn33_ok : PureIs Tryz.prog kn33.f kn33.xs kn33.r := .ev tab1_ok noNum mixedOk kn33_ev
def kn34 : Kn := ⟨34, [.ag [.sc (.int .i64 1), .sc (.int .i64 2), .sl false [[.sl false [[.sc (.int .i64 1), .sc (.int .i64 0)]] .full], [.sl false [[.sc (.int .i64 2), .sc (.int .i64 1)]] .full], [.sl false [[.sc (.int .i64 3), .sc (.int .i64 0)]] .full], [.sl false [[.sc (.int .i64 0), .sc (.int .i64 1)]] .full]] .full], .sc (.int .i64 0), .sc (.int .i64 1)],
 .tu [.sl false [[.sc (.int .i64 0)]] .full, .sc (.bool true), .sc (.int .i64 0)]⟩
theorem kn34_ev : evP Tryz.prog tab1 3000 16 kn34.f kn34.xs = some kn34.r := by kernel_rfl
theorem kn34_ok : PureIs Tryz.prog kn34.f kn34.xs kn34.r := .ev tab1_ok noNum mixedOk kn34_ev
def kn8 : Kn := ⟨8, [.ag [.sc (.int .i64 1), .sc (.int .i64 2), .sl false [[.sl false [[.sc (.int .i64 1), .sc (.int .i64 0)]] .full], [.sl false [[.sc (.int .i64 0), .sc (.int .i64 1)]] .full]] .full], .sc (.int .i64 0), .sl false [[.sc (.int .i64 0)], [.sc (.int .i64 0)], [.sc (.int .i64 0)]] .unk],
 .tu [.sl false [[.sc (.int .i64 0)], [.sc (.int .i64 1)], [.sc (.int .i64 0)]] .full, .sc (.int .i64 0)]⟩
theorem kn8_ev : evP Tryz.prog tab1 3000 16 kn8.f kn8.xs = some kn8.r := by kernel_rfl
theorem kn8_ok : PureIs Tryz.prog kn8.f kn8.xs kn8.r := .ev tab1_ok noNum mixedOk kn8_ev
end Go.Avl
