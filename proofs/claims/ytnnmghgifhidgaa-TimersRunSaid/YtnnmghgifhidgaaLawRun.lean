/-
  TimersRun returns true at every input, and each argument reads behind the call as it read before.
  Conditions: those of the given row alone (no others).
-/
import Derived.Test.YtnnmghgifhidgaaRows
import Derived.Test.YtnnmghgifhidgaaPart8
namespace Go.Proofs.Ytnnmghgifhidgaa
open Go Go.Avl Go.Proofs Go.ChangeShapes Go.RowKit

theorem Try.own : ownKnob Try.prog.godebug = none := by kernel_rfl
theorem Try.laidOut : laidOutB Try.prog = true := by kernel_rfl

section
variable {H : Type} {enc : TypeId × Value → H} {w : World} {sp : Bool}

theorem u8wf {n : Int} (h : (Lit.int .u8 n).wf = true) : 0 ≤ n ∧ n < 256 := by
  simp [Lit.wf, IntKind.min, IntKind.max, IntKind.signed, IntKind.bits] at h
  omega
theorem u16wf {n : Int} (h : (Lit.int .u16 n).wf = true) : 0 ≤ n ∧ n < 65536 := by
  simp [Lit.wf, IntKind.min, IntKind.max, IntKind.signed, IntKind.bits] at h
  omega
theorem rd_u8 : Reads enc Try.prog w sp 5 (fun n : Int => [.sc (.int .u8 n)]) (fun n => 0 ≤ n ∧ n < 256) := (Reads.int (by kernel_rfl)).mono fun a h => ⟨a, u8wf h, rfl⟩
theorem rd_u16 : Reads enc Try.prog w sp 98 u16C (fun n => 0 ≤ n ∧ n < 65536) := (Reads.int (by kernel_rfl)).mono fun a h => ⟨a, u16wf h, rfl⟩
theorem rd_u8x2 : Reads enc Try.prog w sp 73 u8C2 (fun e => 0 ≤ e.1 ∧ e.1 < 256 ∧ 0 ≤ e.2 ∧ e.2 < 256) := (Reads.array (n := 2) (sz := 1) (by kernel_rfl) (by kernel_rfl) (by kernel_rfl) rd_u8).mono fun l h => by
  match l, h with
  | [a, b], ⟨_, h⟩ =>
    simp only [List.mem_cons, forall_eq_or_imp, List.not_mem_nil, false_implies, implies_true, and_true] at h
    exact ⟨(a, b), ⟨h.1.1, h.1.2, h.2⟩, rfl⟩
theorem rd_u8x3 : Reads enc Try.prog w sp 72 u8C3 (fun t => 0 ≤ t.1 ∧ t.1 < 256 ∧ 0 ≤ t.2.1 ∧ t.2.1 < 256 ∧ 0 ≤ t.2.2 ∧ t.2.2 < 256) := (Reads.array (n := 3) (sz := 1) (by kernel_rfl) (by kernel_rfl) (by kernel_rfl) rd_u8).mono fun l h => by
  match l, h with
  | [a, b, c], ⟨_, h⟩ =>
    simp only [List.mem_cons, forall_eq_or_imp, List.not_mem_nil, false_implies, implies_true, and_true] at h
    exact ⟨(a, b, c), ⟨h.1.1, h.1.2, h.2.1.1, h.2.1.2, h.2.2⟩, rfl⟩
theorem rd_LM : Reads enc Try.prog w true 24 LM.cells LM.Ok := by
  have := (Reads.struct (enc := enc) (w := w) (sp := true) (tot := 5) Try.underlying24 (by kernel_rfl) (.cons (sz := 1) rfl (by kernel_rfl) rfl rd_u8 (.cons (sz := 1) rfl (by kernel_rfl) rfl rd_u8 (.cons (sz := 1) rfl (by kernel_rfl) rfl rd_u8 (.cons (sz := 1) rfl (by kernel_rfl) rfl (Reads.bool Try.underlying4)
    (.cons (sz := 1) rfl (by kernel_rfl) rfl (Reads.slice Try.underlying22 rd_u16 (fun a => by rw [show Program.cellsOf Try.prog 98 = 1 by kernel_rfl]; rfl)) .nil))))))
  exact this.mono fun a h => ⟨⟨a.1, a.2.1, a.2.2.1, a.2.2.2.1, a.2.2.2.2.1.1, a.2.2.2.2.1.2, .unk⟩, ⟨h.1.1, h.2.1.1, h.2.2.1.1, h.2.2.2.2.1.1⟩, rfl⟩
theorem rd_LT : Reads enc Try.prog w true 27 LT.cells LT.Ok := by
  have := (Reads.struct (enc := enc) (w := w) (sp := true) (tot := 6) Try.underlying27 (by kernel_rfl) (.cons (sz := 5) rfl (by kernel_rfl) rfl rd_LM (.cons (sz := 1) rfl (by kernel_rfl) rfl (Reads.slice Try.underlying25 rd_u8x3 (fun a => by rw [show Program.cellsOf Try.prog 72 = 3 by kernel_rfl]; rfl)) .nil)))
  exact this.mono fun a h => ⟨⟨a.1, a.2.1.1, a.2.1.2, .unk⟩, ⟨h.1, h.2.1.1⟩, rfl⟩
theorem rd_U8s : Reads enc Try.prog w true 28 (fun x : Bool × List (Int × Int) => [.sl x.1 (x.2.map u8C2) .unk]) (fun x => U8s x.2) :=
  (Reads.slice Try.underlying28 rd_u8x2 (fun a => by rw [show Program.cellsOf Try.prog 73 = 2 by kernel_rfl]; rfl)).mono fun a h => ⟨a, h.1, rfl⟩
end

set_option maxRecDepth 100000 in
theorem timersRun_lifted (os : Os) (started : os.Started) (H : Type) (enc : TypeId × Value → H) :
    ReturnsInHanded {} Try.checked os 3 .any (Rows.timersRunSpec.pre6 enc Try.prog Try.f3 Rows.timersRunRow.domain false) (Rows.timersRunSpec.post enc Try.prog Try.f3 false true false false) := by
  refine returnsInHanded_of_change (C := Try.checked) Try.own started (by kernel_rfl) Try.func3
    (ChangeSpec.witness6 (enc := enc) (C := Try.checked) false ⟨#[], #[.agg #[.int .u8 0, .int .u8 0, .int .u8 0, .bool false, .slice none 0 0, .slice none 0 0], .slice none 0 0], []⟩ 8 (by kernel_rfl) (by kernel_rfl) (by kernel_rfl) (by kernel_rfl)) ?_
  intro W base args ds gs before hval hW _ _
  have hW' := hW
  obtain ⟨p, q, hA, hV, rfl, _, _⟩ := hW'
  obtain ⟨rfl, rfl⟩ := trodVars_none hV
  have hA' : DataW.TrodAll enc Try.prog W 0 (fun _ => true) true [27, 28] args.toList ds p := by rw [← show Try.f3.params.toList = [27, 28] from rfl]; exact hA
  obtain ⟨v0, v1, d0, d1, p0, p1, rfl, rfl, rfl, h0, h1⟩ := trodAll_two hA'
  obtain ⟨x, hx, i0⟩ := rd_LT.imm_struct Try.underlying27 (hval 0 27 v0 rfl rfl) h0
  obtain ⟨l, hl, i1⟩ := rd_U8s.imm_slice Try.underlying28 (hval 1 28 v1 rfl rfl) h1
  exact law_calls Try.laidOut (by kernel_rfl) rfl (by kernel_rfl) rfl rfl (timersRun_is hx hl l.1 .unk) (Imms.append (.one i0) (.one i1)) hW

theorem timersRun_holds : Rows.TimersRunSaid :=
  OpenClaim.holds_of_wide 3 Try.f3 rfl rfl rfl rfl rfl rfl rfl ⟨rfl, rfl, rfl, rfl, rfl⟩ rfl rfl rfl rfl rfl (by kernel_rfl) Try.func3 (by kernel_rfl)
    (of_decide_eq_true (by kernel_rfl)) (by unfold Func.isWrapper; first | (rw [if_pos (by decide +kernel)]; kernel_rfl) | (rw [if_neg (by decide +kernel)]; exact ⟨rfl, rfl⟩))
    (fun os started H enc _ => timersRun_lifted os started H enc)
#print axioms timersRun_holds
end Go.Proofs.Ytnnmghgifhidgaa
