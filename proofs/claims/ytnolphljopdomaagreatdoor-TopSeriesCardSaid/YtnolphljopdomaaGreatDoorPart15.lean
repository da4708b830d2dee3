/-
  Calls of live11, by the evaluator (6).
-/
import Derived.Test.YtnolphljopdomaaGreatDoorPart14
set_option linter.unusedSimpArgs false
set_option linter.unusedVariables false
set_option linter.unnecessarySimpa false
set_option linter.deprecated false
namespace Go.Avl
open Go Go.Proofs
set_option maxRecDepth 100000
def kn35 : Kn := ⟨35, [.ag [.sc (.string ⟨⟨[108, 97, 109, 112]⟩⟩), .sc (.int .i64 1), .sc (.int .i64 2), .sl false [[.sl false [[.sc (.int .i64 1), .sc (.int .i64 0)]] .full], [.sl false [[.sc (.int .i64 2), .sc (.int .i64 1)]] .full], [.sl false [[.sc (.int .i64 3), .sc (.int .i64 0)]] .full], [.sl false [[.sc (.int .i64 0), .sc (.int .i64 1)]] .full]] .full, .sl false [[.sc (.string ⟨⟨[112, 114, 101, 115, 115]⟩⟩)]] .full, .sl false [[.sc (.string ⟨⟨[111, 110]⟩⟩)], [.sc (.string ⟨⟨[111, 102, 102]⟩⟩)]] .full, .sl false [[.sc (.string ⟨⟨[100, 97, 114, 107]⟩⟩)], [.sc (.string ⟨⟨[108, 105, 116]⟩⟩)], [.sc (.string ⟨⟨[100, 105, 109]⟩⟩)], [.sc (.string ⟨⟨[103, 108, 111, 119]⟩⟩)]] .full], .sl false [[.sc (.int .i64 0)], [.sc (.int .i64 1)], [.sc (.int .i64 0)]] .full],
 .tu [.sc (.string ⟨⟨[111, 110, 32, 111, 102, 102, 32, 111, 110]⟩⟩), .sc (.int .i64 0)]⟩
theorem kn35_ev : evP Tryz.prog tab1 3000 16 kn35.f kn35.xs = some kn35.r := by kernel_rfl
theorem kn35_ok : PureIs Tryz.prog kn35.f kn35.xs kn35.r := .ev tab1_ok noNum mixedOk kn35_ev
def kn6 : Kn := ⟨6, [.ag [.sc (.int .i64 1), .sc (.int .i64 2), .sl false [[.sl false [[.sc (.int .i64 1), .sc (.int .i64 0)]] .full], [.sl false [[.sc (.int .i64 2), .sc (.int .i64 1)]] .full], [.sl false [[.sc (.int .i64 3), .sc (.int .i64 0)]] .full], [.sl false [[.sc (.int .i64 0), .sc (.int .i64 1)]] .full]] .full], .ag [.sc (.int .i64 1), .sc (.int .i64 2), .sl false [[.sl false [[.sc (.int .i64 1), .sc (.int .i64 0)]] .unk], [.sl false [[.sc (.int .i64 2), .sc (.int .i64 1)]] .unk], [.sl false [[.sc (.int .i64 0), .sc (.int .i64 0)]] .unk]] .unk]],
 .tu [.sl false [[.sc (.int .i64 0)], [.sc (.int .i64 0)], [.sc (.int .i64 0)], [.sc (.int .i64 0)]] .full, .sc (.bool true), .sc (.int .i64 0)]⟩
theorem kn6_ev : evP Tryz.prog tab1 3000 16 kn6.f kn6.xs = some kn6.r := by kernel_rfl
theorem kn6_ok : PureIs Tryz.prog kn6.f kn6.xs kn6.r := .ev tab1_ok noNum mixedOk kn6_ev
def kn9 : Kn := ⟨9, [.sl false [[.sc (.int .i64 0)], [.sc (.int .i64 0)], [.sc (.int .i64 0)], [.sc (.int .i64 0)]] .full, .sc (.int .i64 1)],
 .tu [.sc (.int .i64 4), .sc (.int .i64 0)]⟩
theorem kn9_ev : evP Tryz.prog tab1 3000 16 kn9.f kn9.xs = some kn9.r := by kernel_rfl
theorem kn9_ok : PureIs Tryz.prog kn9.f kn9.xs kn9.r := .ev tab1_ok noNum mixedOk kn9_ev
def kn17 : Kn := ⟨17, [.ag [.sc (.int .i64 1), .sc (.int .i64 2), .sl false [[.sl false [[.sc (.int .i64 1), .sc (.int .i64 0)]] .full], [.sl false [[.sc (.int .i64 2), .sc (.int .i64 1)]] .full], [.sl false [[.sc (.int .i64 3), .sc (.int .i64 0)]] .full], [.sl false [[.sc (.int .i64 0), .sc (.int .i64 1)]] .full]] .full], .ag [.sc (.int .i64 1), .sc (.int .i64 2), .sl false [[.sl false [[.sc (.int .i64 1), .sc (.int .i64 0)]] .unk], [.sl false [[.sc (.int .i64 2), .sc (.int .i64 1)]] .unk], [.sl false [[.sc (.int .i64 0), .sc (.int .i64 0)]] .unk]] .unk]],
 .tu [.ag [.sc (.int .i64 1), .sc (.int .i64 4), .sl false [[.sl false [[.sc (.int .i64 1), .sc (.int .i64 0)]] .full], [.sl false [[.sc (.int .i64 2), .sc (.int .i64 3)]] .full], [.sl false [[.sc (.int .i64 3), .sc (.int .i64 0)]] .full], [.sl false [[.sc (.int .i64 4), .sc (.int .i64 2)]] .full], [.sl false [[.sc (.int .i64 5), .sc (.int .i64 1)]] .full], [.sl false [[.sc (.int .i64 6), .sc (.int .i64 2)]] .full], [.sl false [[.sc (.int .i64 7), .sc (.int .i64 0)]] .full], [.sl false [[.sc (.int .i64 8), .sc (.int .i64 3)]] .full], [.sl false [[.sc (.int .i64 9), .sc (.int .i64 0)]] .full], [.sl false [[.sc (.int .i64 10), .sc (.int .i64 2)]] .full], [.sl false [[.sc (.int .i64 11), .sc (.int .i64 1)]] .full], [.sl false [[.sc (.int .i64 0), .sc (.int .i64 2)]] .full]] .full], .sc (.int .i64 0)]⟩
theorem kn17_ev : evP Tryz.prog tab1 3000 16 kn17.f kn17.xs = some kn17.r := by kernel_rfl
theorem kn17_ok : PureIs Tryz.prog kn17.f kn17.xs kn17.r := .ev tab1_ok noNum mixedOk kn17_ev
def kn36 : Kn := ⟨36, [.ag [.sc (.int .i64 1), .sc (.int .i64 2), .sl false [[.sl false [[.sc (.int .i64 1), .sc (.int .i64 0)]] .full], [.sl false [[.sc (.int .i64 2), .sc (.int .i64 1)]] .full], [.sl false [[.sc (.int .i64 3), .sc (.int .i64 0)]] .full], [.sl false [[.sc (.int .i64 0), .sc (.int .i64 1)]] .full]] .full], .ag [.sc (.int .i64 1), .sc (.int .i64 2), .sl false [[.sl false [[.sc (.int .i64 1), .sc (.int .i64 0)]] .full], [.sl false [[.sc (.int .i64 2), .sc (.int .i64 1)]] .full], [.sl false [[.sc (.int .i64 3), .sc (.int .i64 0)]] .full], [.sl false [[.sc (.int .i64 0), .sc (.int .i64 1)]] .full]] .full]],
 .sc (.bool true)⟩
theorem kn36_ev : evP Tryz.prog tab1 3000 16 kn36.f kn36.xs = some kn36.r := by kernel_rfl
theorem kn36_ok : PureIs Tryz.prog kn36.f kn36.xs kn36.r := .ev tab1_ok noNum mixedOk kn36_ev
end Go.Avl
