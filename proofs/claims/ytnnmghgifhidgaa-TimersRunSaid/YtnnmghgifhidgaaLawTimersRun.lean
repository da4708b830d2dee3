/-
  TimersRun returns true at every input, and each argument reads behind the call as it read before.
  Conditions: those of the given row alone (no others).
-/
import Derived.Test.YtnnmghgifhidgaaPart8
set_option linter.unusedSimpArgs false
set_option linter.unusedVariables false
namespace Go.Proofs.Ytnnmghgifhidgaa
open Go Go.Avl Go.Proofs Go.ChangeShapes Go.RowKit

set_option maxRecDepth 100000 in
theorem timersRun_lifted (os : Os) (started : os.Started) (H : Type) (enc : TypeId × Value → H) :
    ReturnsInHanded {} Try.checked os 3 .any (Rows.timersRunSpec.pre6 enc Try.prog Try.f3 Rows.timersRunRow.domain false) (Rows.timersRunSpec.post enc Try.prog Try.f3 false true false false) := by
  refine returnsInHanded_of_change (C := Try.checked) Try.own started (by kernel_rfl) Try.func3
    (ChangeSpec.witness6 (enc := enc) (C := Try.checked) false ⟨#[], #[.agg #[.int .u8 0, .int .u8 0, .int .u8 0, .bool false, .slice none 0 0, .slice none 0 0], .slice none 0 0], []⟩ 8 (by kernel_rfl) (by kernel_rfl) (by kernel_rfl) (by kernel_rfl)) ?_
  intro W base args ds gs before hval hW _ _
  have hW' := hW
  obtain ⟨p, q, hA, hV, rfl, _, _⟩ := hW'
  obtain ⟨rfl, rfl⟩ := trodVars_none hV
  have hA' : DataW.TrodAll enc Try.prog W 0 (fun _ => true) true [27, 28] args.toList ds p := by rw [← show Try.f3.params.toList = [27, 28] from rfl]; exact hA
  obtain ⟨v0, v1, d0, d1, p0, p1, rfl, rfl, rfl, h0, h1⟩ := trodAll_two hA'
  obtain ⟨x, hx, i0⟩ := rd_LT.imm_struct Try.underlying27 (hval 0 27 v0 rfl rfl) h0
  obtain ⟨l, hl, i1⟩ := rd_U8s.imm_slice Try.underlying28 (hval 1 28 v1 rfl rfl) h1
  exact law_calls Try.laidOut (by kernel_rfl) rfl (by kernel_rfl) rfl rfl (timersRun_is hx hl l.1 .unk) (Imms.append (.one i0) (.one i1)) hW

theorem timersRun_holds : Rows.TimersRunSaid :=
  OpenClaim.holds_of_wide 3 Try.f3 rfl rfl rfl rfl rfl rfl rfl ⟨rfl, rfl, rfl, rfl, rfl⟩ rfl rfl rfl rfl rfl (by kernel_rfl) Try.func3 (by kernel_rfl)
    (of_decide_eq_true (by kernel_rfl)) (by unfold Func.isWrapper; first | (rw [if_pos (by decide +kernel)]; kernel_rfl) | (rw [if_neg (by decide +kernel)]; exact ⟨rfl, rfl⟩))
    (fun os started H enc _ => timersRun_lifted os started H enc)
#print axioms timersRun_holds
end Go.Proofs.Ytnnmghgifhidgaa
