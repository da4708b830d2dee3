/-
  How the arguments of the plans' laws read, and the table of the kinds of faults.
-/
import Derived.Test.YthdaggogdocmfaaDoorCards
import Derived.Test.YthdaggogdocmfaaDoorTie
import Derived.LaidMore
import Derived.Stop.Joined
import Derived.Test.YthdaggogdocmfaaDoorPart9
set_option linter.unusedSimpArgs false
set_option linter.unusedVariables false
set_option linter.unnecessarySimpa false
set_option linter.deprecated false
namespace Go.Avl
open Go Go.Proofs
theorem Reads.imm_int {H : Type} {enc : TypeId × Value → H} {w : World} {α : Type} {P : Program} {t : TypeId} {k : IntKind} {f : α → AV} {Ok : α → Prop} {r : Reach} {b0 : Nat} {v : Value} {d : DataW H} {ps : List MemPlace} (ht : P.underlying t = some (.int k)) (h : Reads enc P w t (fun a => [f a]) Ok)
    (hv : Value.okWide P w r b0 t v) (hw : Fits P t d) (hd : DataW.Trod enc P w 0 (fun _ => true) true t v d ps) : ∃ a, Ok a ∧ Imm (Live w) w v (f a) := by
  have hc : v.cells = #[v] := by
    simp only [Value.okWide, ht, Cell.okWide] at hv
    cases v <;> simp_all [Cell.ok, Value.cells]
  obtain ⟨fuel, hd⟩ := hd
  obtain ⟨a, h1, h2, _⟩ := h _ _ _ hw hd
  rw [hc] at h2
  exact ⟨a, h1, h2.2 0 (by simp) (by simp)⟩
end Go.Avl
namespace Go.Proofs.YthdaggogdocmfaaDoor
open Go Go.Avl Go.Proofs Go.ChangeShapes Go.RowKit

theorem Tryd.own : ownKnob Tryd.prog.godebug = none := by kernel_rfl
theorem Tryd.laidOut : laidOutB Tryd.prog = true := by kernel_rfl
/-- What the rows list. -/
abbrev laidT : List (String × DataW Unit) := [("gauntlet/faults.table", Rows.laid_gauntlet_faults_table)]

section
variable {H : Type} {enc : TypeId × Value → H} {w : World}

theorem u8wf {n : Int} (h : (Lit.int .u8 n).wf = true) : 0 ≤ n ∧ n < 256 := by
  simp [Lit.wf, IntKind.min, IntKind.max, IntKind.signed, IntKind.bits] at h
  omega
theorem u32wf {n : Int} (h : (Lit.int .u32 n).wf = true) : 0 ≤ n := by
  simp [Lit.wf, IntKind.min, IntKind.max, IntKind.signed, IntKind.bits] at h
  omega
theorem i64wf {n : Int} (h : (Lit.int .i64 n).wf = true) : -9223372036854775808 ≤ n ∧ n ≤ 9223372036854775807 := by
  simp [Lit.wf, IntKind.min, IntKind.max, IntKind.signed, IntKind.bits] at h
  omega
/-- Rows that memory can hold. -/
theorem len_of {n b : Nat} (hb : 1 ≤ b) (h : n * b ≤ reachBytes) : (n : Int) ≤ 140737488355328 := by
  have h1 : n * 1 ≤ n * b := Nat.mul_le_mul_left n hb
  have h2 : reachBytes ≤ 140737488355328 := by decide
  omega
theorem rd_u8 : Reads enc Tryd.prog w 5 u8C (fun n => 0 ≤ n ∧ n < 256) := (Reads.int (by kernel_rfl)).mono fun a h => ⟨a, u8wf h, rfl⟩
theorem rd_u8' : Reads enc Tryd.prog w 5 (fun n : Int => [.sc (.int .u8 n)]) (fun n => 0 ≤ n ∧ n < 256) := rd_u8
theorem rd_u32 : Reads enc Tryd.prog w 116 (fun n : Int => [.sc (.int .u32 n)]) (fun n => 0 ≤ n) := (Reads.int (by kernel_rfl)).mono fun a h => ⟨a, u32wf h, rfl⟩
theorem rd_i64 : Reads enc Tryd.prog w 3 (fun n : Int => [.sc (.int .i64 n)]) (fun n => -9223372036854775808 ≤ n ∧ n ≤ 9223372036854775807) := (Reads.int Tryd.underlying3).mono fun a h => ⟨a, i64wf h, rfl⟩
theorem rd_ints : Reads enc Tryd.prog w 23 (fun x : Bool × List Int => [.sl x.1 (x.2.map intC) .unk]) (fun x => (x.2.length : Int) ≤ 140737488355328 ∧ (x.1 = true → x.2 = [])) :=
  (Reads.slice Tryd.underlying23 rd_i64 (fun a => by rw [show Program.cellsOf Tryd.prog 3 = 1 by kernel_rfl]; rfl) (by rw [show Program.cellsOf Tryd.prog 3 = 1 by kernel_rfl]; exact Nat.succ_pos _)).mono fun a h => ⟨a, ⟨len_of (b := Program.bytesOf Tryd.prog 3) (by decide +kernel) h.2.2, h.2.1⟩, rfl⟩
theorem rd_item : Reads enc Tryd.prog w 25 itemC (fun _ => True) := by
  have := (Reads.struct (enc := enc) (w := w) (tot := 2) Tryd.underlying25 (by kernel_rfl) (.cons (sz := 1) rfl (by kernel_rfl) rfl rd_i64 (.cons (sz := 1) rfl (by kernel_rfl) rfl rd_ints .nil)))
  exact this.mono fun a _ => ⟨⟨a.1, a.2.1.1, a.2.1.2⟩, trivial, rfl⟩
set_option maxRecDepth 100000 in
theorem rd_items : Reads enc Tryd.prog w 22 (fun x : Bool × List Avl.Item => [.sl x.1 (x.2.map itemC) .unk]) (fun x => (x.2.length : Int) ≤ 140737488355328) :=
  (Reads.slice Tryd.underlying22 rd_item (fun a => by rw [show Program.cellsOf Tryd.prog 25 = 2 by kernel_rfl]; rfl) (by rw [show Program.cellsOf Tryd.prog 25 = 2 by kernel_rfl]; exact Nat.succ_pos _)).mono fun a h => ⟨a, len_of (b := Program.bytesOf Tryd.prog 25) (by decide +kernel) h.2.2, rfl⟩
theorem rd_li : Reads enc Tryd.prog w 118 liC LI.Ok := by
  have := (Reads.struct (enc := enc) (w := w) (tot := 2) Tryd.underlying118 (by kernel_rfl) (.cons (sz := 1) rfl (by kernel_rfl) rfl rd_u8 (.cons (sz := 1) rfl (by kernel_rfl) rfl rd_u32 .nil)))
  exact this.mono fun a h => ⟨⟨a.1, a.2.1⟩, ⟨h.1, h.2.1⟩, rfl⟩
theorem rd_lis : Reads enc Tryd.prog w 60 (fun x : Bool × List LI => [.sl x.1 (x.2.map liC) .unk]) (fun x => ∀ y ∈ x.2, y.Ok) :=
  (Reads.slice Tryd.underlying60 rd_li (fun a => by rw [show Program.cellsOf Tryd.prog 118 = 2 by kernel_rfl]; rfl) (by rw [show Program.cellsOf Tryd.prog 118 = 2 by kernel_rfl]; exact Nat.succ_pos _)).mono fun a h => ⟨a, h.1, rfl⟩
theorem rd_bytes : Reads enc Tryd.prog w 54 (fun x : Bool × List Int => [.sl x.1 (x.2.map u8C) .unk]) (fun x => (∀ e ∈ x.2, 0 ≤ e ∧ e < 256) ∧ (x.2.length : Int) ≤ 140737488355328) :=
  (Reads.slice Tryd.underlying54 rd_u8 (fun a => by rw [show Program.cellsOf Tryd.prog 5 = 1 by kernel_rfl]; rfl) (by rw [show Program.cellsOf Tryd.prog 5 = 1 by kernel_rfl]; exact Nat.succ_pos _)).mono fun a h => ⟨a, ⟨h.1, len_of (b := Program.bytesOf Tryd.prog 5) (by decide +kernel) h.2.2⟩, rfl⟩
end

/-! ### The table -/
theorem gTable : Tryd.prog.globalNamed "gauntlet/faults.table" = some 0 := by kernel_rfl
theorem tTable : (Tryd.prog.globals[0]?).map (·.type) = some 148 := by kernel_rfl
theorem string_eq {s t : ByteArray} (h : s.data.toList = t.data.toList) : s = t := by
  obtain ⟨⟨l⟩⟩ := s; obtain ⟨⟨k⟩⟩ := t
  simp only at h
  rw [h]
set_option maxRecDepth 100000 in
theorem kind_cells {W : World} {m : Nat} {cs : List Value} {n : List UInt8} {a b c : Bool} {ps : List MemPlace} (h : DataW.trod (fun _ => ()) Tryd.prog W 0 (fun _ => true) false m 147 cs = some (.agg [.lit (.string n), .lit (.bool a), .lit (.bool b), .lit (.bool c)], ps)) :
    cs = [kindN n, .bool a, .bool b, .bool c] := by
  obtain ⟨xs, k, _, he, hl, hlen, hf⟩ := DataW.trod_struct Tryd.underlying147 h
  have hl4 : cs.length = 4 := hl.trans (by kernel_rfl)
  match cs, hl4 with
  | [c0, c1, c2, c3], _ =>
    have h0 : DataW.trod (fun _ => ()) Tryd.prog W 0 (fun _ => true) false k 9 (([c0, c1, c2, c3].drop 0).take (Program.cellsOf Tryd.prog 9)) = xs[0]? := hf 0 _ rfl
    have h1 : DataW.trod (fun _ => ()) Tryd.prog W 0 (fun _ => true) false k 4 (([c0, c1, c2, c3].drop 1).take (Program.cellsOf Tryd.prog 4)) = xs[1]? := hf 1 _ rfl
    have h2 : DataW.trod (fun _ => ()) Tryd.prog W 0 (fun _ => true) false k 4 (([c0, c1, c2, c3].drop 2).take (Program.cellsOf Tryd.prog 4)) = xs[2]? := hf 2 _ rfl
    have h3 : DataW.trod (fun _ => ()) Tryd.prog W 0 (fun _ => true) false k 4 (([c0, c1, c2, c3].drop 3).take (Program.cellsOf Tryd.prog 4)) = xs[3]? := hf 3 _ rfl
    have e9 : Program.cellsOf Tryd.prog 9 = 1 := by kernel_rfl
    have e4 : Program.cellsOf Tryd.prog 4 = 1 := by kernel_rfl
    simp only [e9, e4, List.drop_zero, List.drop_succ_cons, List.take_succ_cons, List.take_zero] at h0 h1 h2 h3
    match xs, hlen with
    | [x0, x1, x2, x3], _ =>
      simp only [Prod.mk.injEq, DataW.agg.injEq, List.map_cons, List.map_nil, List.cons.injEq, and_true] at he
      obtain ⟨⟨e0, e1, e2, e3⟩, _⟩ := he
      obtain ⟨s, q0, r0, _⟩ := DataW.trod_string Tryd.underlying9 h0
      obtain ⟨b1, q1, r1⟩ := DataW.trod_bool Tryd.underlying4 h1
      obtain ⟨b2, q2, r2⟩ := DataW.trod_bool Tryd.underlying4 h2
      obtain ⟨b3, q3, r3⟩ := DataW.trod_bool Tryd.underlying4 h3
      rw [r0] at e0; rw [r1] at e1; rw [r2] at e2; rw [r3] at e3
      simp only [DataW.lit.injEq, Lit.string.injEq, Lit.bool.injEq] at e0 e1 e2 e3
      simp only [List.cons.injEq, and_true] at q0 q1 q2 q3
      subst q0 q1 q2 q3 e1 e2 e3
      have : s = ⟨n.toArray⟩ := string_eq (by simpa using e0.symm)
      rw [this]; rfl
set_option maxRecDepth 100000 in
theorem globs_of {W : World} (h : laidMetH Tryd.prog laidT W) : Globs (Live W) W := by
  rw [MakeChecks.laidMetH_plain _ _ _ (by kernel_rfl)] at h
  obtain ⟨ps, ⟨g, t, cs, fuel, p, q, hg, ht, hvar, hd, _, _⟩, _, _⟩ := h
  obtain rfl := Option.some.inj (gTable.symm.trans hg)
  obtain rfl := Option.some.inj (tTable.symm.trans ht)
  obtain ⟨xs, m, _, he, hl, hlen, hf⟩ := DataW.trod_array Tryd.underlying148 hd
  have e147 : Program.cellsOf Tryd.prog 147 = 4 := by kernel_rfl
  have hl20 : cs.toList.length = 20 := hl.trans (by kernel_rfl)
  have hcs : cs.toList = kindTab := by
    rw [e147] at hf
    match xs, hlen with
    | [x0, x1, x2, x3, x4], _ =>
      have h0 := hf 0 (by decide)
      have h1 := hf 1 (by decide)
      have h2 := hf 2 (by decide)
      have h3 := hf 3 (by decide)
      have h4 := hf 4 (by decide)
      simp only [Rows.laid_gauntlet_faults_table, Prod.mk.injEq, DataW.agg.injEq, List.map_cons, List.map_nil, List.cons.injEq, and_true] at he
      obtain ⟨⟨e0, e1, e2, e3, e4⟩, _⟩ := he
      obtain ⟨d0, p0⟩ := x0
      obtain ⟨d1, p1⟩ := x1
      obtain ⟨d2, p2⟩ := x2
      obtain ⟨d3, p3⟩ := x3
      obtain ⟨d4, p4⟩ := x4
      simp only at e0 e1 e2 e3 e4
      subst e0 e1 e2 e3 e4
      have k0 := kind_cells h0
      have k1 := kind_cells h1
      have k2 := kind_cells h2
      have k3 := kind_cells h3
      have k4 := kind_cells h4
      have key : cs.toList = (cs.toList.drop (0 * 4)).take 4 ++ ((cs.toList.drop (1 * 4)).take 4 ++ ((cs.toList.drop (2 * 4)).take 4 ++ ((cs.toList.drop (3 * 4)).take 4 ++ (cs.toList.drop (4 * 4)).take 4))) := by
        have e : (cs.toList.drop (4 * 4)).take 4 = cs.toList.drop (4 * 4) := List.take_of_length_le (by rw [List.length_drop, hl20]; decide)
        rw [e]
        have s : ∀ k, cs.toList.drop (k * 4) = (cs.toList.drop (k * 4)).take 4 ++ cs.toList.drop ((k + 1) * 4) := fun k => by
          rw [show (k + 1) * 4 = k * 4 + 4 by omega, ← List.drop_drop, List.take_append_drop]
        have z : cs.toList = cs.toList.drop (0 * 4) := by simp
        exact z.trans ((s 0).trans (congrArg _ ((s 1).trans (congrArg _ ((s 2).trans (congrArg _ ((s 3).trans (congrArg _ rfl))))))))
      rw [k0, k1, k2, k3, k4] at key
      rw [key]; rfl
  intro g vs hgv j hj
  match g, hgv with
  | 0, hgv =>
    have hgv : kindTab = vs := by simpa [laidAt] using hgv
    subst hgv
    have hc := World.var?_cell gTable hvar j
    have : cs[j]? = some kindTab[j] := by rw [← Array.getElem?_toList, hcs, List.getElem?_eq_getElem hj]
    rw [this] at hc
    refine ⟨?_, hc⟩
    unfold World.cell? at hc
    show 0 < W.heap.size
    cases hb : W.heap[0]? with
    | none => simp [hb] at hc
    | some o => exact (Array.getElem?_eq_some_iff.1 hb).1
/-- The door's own heap meets the condition. -/
theorem door_met (os : Os) (args : Array Value) : laidMetH Tryd.prog laidT ((World.doorLaid Tryd.prog 400 os).forCall (fun _ _ => 0) ⟨#[], args, []⟩).memory :=
  laidMetH_of_parts3 (fuel := 8) (laidMet_of_run' 8 (by kernel_rfl) (by kernel_rfl)) (by kernel_rfl) (by kernel_rfl)
end Go.Proofs.YthdaggogdocmfaaDoor
