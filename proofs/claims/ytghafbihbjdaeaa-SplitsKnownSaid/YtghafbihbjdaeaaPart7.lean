/-
  How the arguments of these laws read.
-/
import Derived.Test.YtghafbihbjdaeaaRows
import Derived.Test.YtghafbihbjdaeaaPart6
set_option linter.unusedSimpArgs false
set_option linter.unusedVariables false
set_option linter.unnecessarySimpa false
set_option linter.deprecated false
namespace Go.Proofs.Ytghafbihbjdaeaa
open Go Go.Avl Go.Proofs Go.ChangeShapes Go.RowKit

theorem Try.own : ownKnob Try.prog.godebug = none := by kernel_rfl
theorem Try.laidOut : laidOutB Try.prog = true := by kernel_rfl

section
variable {H : Type} {enc : TypeId × Value → H} {w : World}

theorem u8wf {n : Int} (h : (Lit.int .u8 n).wf = true) : 0 ≤ n ∧ n < 256 := by
  simp [Lit.wf, IntKind.min, IntKind.max, IntKind.signed, IntKind.bits] at h
  omega
theorem u16wf {n : Int} (h : (Lit.int .u16 n).wf = true) : 0 ≤ n ∧ n < 65536 := by
  simp [Lit.wf, IntKind.min, IntKind.max, IntKind.signed, IntKind.bits] at h
  omega
theorem rd_u8 : Reads enc Try.prog w 5 u8C (fun n => 0 ≤ n ∧ n < 256) := (Reads.int (by kernel_rfl)).mono fun a h => ⟨a, u8wf h, rfl⟩
theorem rd_u16 : Reads enc Try.prog w 75 u16C (fun n => 0 ≤ n ∧ n < 65536) := (Reads.int (by kernel_rfl)).mono fun a h => ⟨a, u16wf h, rfl⟩
theorem rd_i64 : Reads enc Try.prog w 3 (fun n : Int => [.sc (.int .i64 n)]) (fun _ => True) := (Reads.int Try.underlying3).mono fun a _ => ⟨a, trivial, rfl⟩
theorem rd_u8x2 : Reads enc Try.prog w 25 (fun e : Int × Int => [.sc (.int .u8 e.1), .sc (.int .u8 e.2)]) (fun e => (0 ≤ e.1 ∧ e.1 < 256) ∧ 0 ≤ e.2 ∧ e.2 < 256) := (Reads.array (n := 2) (sz := 1) (by kernel_rfl) (by kernel_rfl) (by kernel_rfl) rd_u8).mono fun l h => by
  match l, h with
  | [a, b], ⟨_, h⟩ =>
    simp only [List.mem_cons, forall_eq_or_imp, List.not_mem_nil, false_implies, implies_true, and_true] at h
    exact ⟨(a, b), ⟨h.1, h.2⟩, rfl⟩
theorem rd_u8x3 : Reads enc Try.prog w 44 (fun t : Int × Int × Int => [.sc (.int .u8 t.1), .sc (.int .u8 t.2.1), .sc (.int .u8 t.2.2)]) (fun t => (0 ≤ t.1 ∧ t.1 < 256) ∧ (0 ≤ t.2.1 ∧ t.2.1 < 256) ∧ 0 ≤ t.2.2 ∧ t.2.2 < 256) := (Reads.array (n := 3) (sz := 1) (by kernel_rfl) (by kernel_rfl) (by kernel_rfl) rd_u8).mono fun l h => by
  match l, h with
  | [a, b, c], ⟨_, h⟩ =>
    simp only [List.mem_cons, forall_eq_or_imp, List.not_mem_nil, false_implies, implies_true, and_true] at h
    exact ⟨(a, b, c), ⟨h.1, h.2.1, h.2.2⟩, rfl⟩
theorem rd_i64x2 : Reads enc Try.prog w 67 (fun t : Int × Int => [.sc (.int .i64 t.1), .sc (.int .i64 t.2)]) (fun _ => True) := (Reads.array (n := 2) (sz := 1) (by kernel_rfl) (by kernel_rfl) (by kernel_rfl) rd_i64).mono fun l h => by
  match l, h with
  | [a, b], _ => exact ⟨(a, b), trivial, rfl⟩
theorem rd_LM : Reads enc Try.prog w 24 LM.cells LM.Ok := by
  have := (Reads.struct (enc := enc) (w := w) (tot := 5) Try.underlying24 (by kernel_rfl) (.cons (sz := 1) rfl (by kernel_rfl) rfl rd_u8 (.cons (sz := 1) rfl (by kernel_rfl) rfl rd_u8 (.cons (sz := 1) rfl (by kernel_rfl) rfl rd_u8 (.cons (sz := 1) rfl (by kernel_rfl) rfl (Reads.bool Try.underlying4)
    (.cons (sz := 1) rfl (by kernel_rfl) rfl (Reads.slice Try.underlying22 rd_u16 (fun a => by rw [show Program.cellsOf Try.prog 75 = 1 by kernel_rfl]; rfl) (by rw [show Program.cellsOf Try.prog 75 = 1 by kernel_rfl]; exact Nat.succ_pos _)) .nil))))))
  exact this.mono fun a h => ⟨⟨a.1, a.2.1, a.2.2.1, a.2.2.2.1, a.2.2.2.2.1.1, a.2.2.2.2.1.2, .unk⟩, ⟨h.1.1, h.2.1.1, h.2.2.1.1, h.2.2.2.2.1.1⟩, rfl⟩
/-- A word of bytes. -/
abbrev WB := Bool × List Int
def WB.cells (x : WB) : List AV := [.sl x.1 (x.2.map u8C) .unk]
def WB.Ok (x : WB) : Prop := ∀ e ∈ x.2, 0 ≤ e ∧ e < 256
theorem rd_W : Reads enc Try.prog w 42 WB.cells WB.Ok := by
  have := (Reads.struct (enc := enc) (w := w) (tot := 1) Try.underlying42 (by kernel_rfl) (.cons (sz := 1) rfl (by kernel_rfl) rfl (Reads.slice Try.underlying40 rd_u8 (fun a => by rw [show Program.cellsOf Try.prog 5 = 1 by kernel_rfl]; rfl) (by rw [show Program.cellsOf Try.prog 5 = 1 by kernel_rfl]; exact Nat.succ_pos _)) .nil))
  exact this.mono fun a h => ⟨(a.1.1, a.1.2), h.1.1, rfl⟩
theorem rd_W2 : Reads enc Try.prog w 43 (fun x : WB × WB => [.sl x.1.1 (x.1.2.map u8C) .unk, .sl x.2.1 (x.2.2.map u8C) .unk]) (fun x => x.1.Ok ∧ x.2.Ok) := (Reads.array (n := 2) (sz := 1) (by kernel_rfl) (by kernel_rfl) (by kernel_rfl) rd_W).mono fun l h => by
  match l, h with
  | [a, b], ⟨_, h⟩ =>
    simp only [List.mem_cons, forall_eq_or_imp, List.not_mem_nil, false_implies, implies_true, and_true] at h
    exact ⟨(a, b), ⟨h.1, h.2⟩, rfl⟩
/-- Rows that memory can hold. -/
theorem len_of {n b : Nat} (hb : 1 ≤ b) (h : n * b ≤ reachBytes) : (n : Int) ≤ 140737488355328 := by
  have h1 : n * 1 ≤ n * b := Nat.mul_le_mul_left n hb
  have h2 : reachBytes ≤ 140737488355328 := by decide
  omega
theorem rd_edge : Reads enc Try.prog w 73 edgeC (fun _ => True) := by
  have := (Reads.struct (enc := enc) (w := w) (tot := 2) Try.underlying73 (by kernel_rfl) (.cons (sz := 1) rfl (by kernel_rfl) rfl rd_i64 (.cons (sz := 1) rfl (by kernel_rfl) rfl rd_i64 .nil)))
  exact this.mono fun a _ => ⟨(a.1, a.2.1), trivial, rfl⟩
theorem rd_row : Reads enc Try.prog w 68 rowC (fun _ => True) :=
  (Reads.slice (by kernel_rfl) rd_edge (fun a => by rw [show Program.cellsOf Try.prog 73 = 2 by kernel_rfl]; rfl) (by rw [show Program.cellsOf Try.prog 73 = 2 by kernel_rfl]; exact Nat.succ_pos _)).mono fun a h => ⟨a, trivial, rfl⟩
theorem rd_rows : Reads enc Try.prog w 26 (fun x : Bool × List Row => [.sl x.1 (x.2.map rowC) .unk]) (fun x => (x.2.length : Int) ≤ 140737488355328) :=
  (Reads.slice Try.underlying26 rd_row (fun a => by rw [show Program.cellsOf Try.prog 68 = 1 by kernel_rfl]; rfl) (by rw [show Program.cellsOf Try.prog 68 = 1 by kernel_rfl]; exact Nat.succ_pos _)).mono fun a h => ⟨a, len_of (b := Program.bytesOf Try.prog 68) (by decide +kernel) h.2.2, rfl⟩
theorem rd_mach : Reads enc Try.prog w 28 Mach.cells (fun m => (m.rows.length : Int) ≤ 140737488355328) := by
  have := (Reads.struct (enc := enc) (w := w) (tot := 3) Try.underlying28 (by kernel_rfl) (.cons (sz := 1) rfl (by kernel_rfl) rfl rd_i64 (.cons (sz := 1) rfl (by kernel_rfl) rfl rd_i64 (.cons (sz := 1) rfl (by kernel_rfl) rfl rd_rows .nil))))
  exact this.mono fun a h => ⟨⟨a.1, a.2.1, a.2.2.1.1, a.2.2.1.2⟩, h.2.2.1, rfl⟩
theorem rd_ints : Reads enc Try.prog w 30 (fun x : Bool × List Int => [.sl x.1 (x.2.map intC) .unk]) (fun x => (x.2.length : Int) ≤ 140737488355328) :=
  (Reads.slice Try.underlying30 rd_i64 (fun a => by rw [show Program.cellsOf Try.prog 3 = 1 by kernel_rfl]; rfl) (by rw [show Program.cellsOf Try.prog 3 = 1 by kernel_rfl]; exact Nat.succ_pos _)).mono fun a h => ⟨a, len_of (b := Program.bytesOf Try.prog 3) (by decide +kernel) h.2.2, rfl⟩
end

end Go.Proofs.Ytghafbihbjdaeaa
