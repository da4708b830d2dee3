/-
  Lemmas.
  Lemmas.
  Lemmas.
  Lemmas.
  Lemmas.
  Lemmas.
  Lemmas.
  Lemmas.
  Lemmas.
  Lemmas.
  Lemmas.
  Lemmas.
  Lemmas.
  Lemmas.
  Lemmas.
  Lemmas.
  Lemmas.
-/
import Derived.Test.YthdaggogdocmfaaDoorPart5
set_option linter.unusedSimpArgs false
set_option linter.unusedVariables false
set_option linter.unnecessarySimpa false
set_option linter.deprecated false
namespace Go.Avl
open Go Go.Proofs.Tryd
set_option maxRecDepth 10000
set_option linter.unusedSimpArgs false
def stepM (m : Mach) (s a : Int) : Int × Int := (((m.rows[s.toNat]?).map (·.2)).getD [])[a.toNat]?.getD (-1, -1)
def edgeA (e : Int × Int) : AV := .ag [.sc (.int .i64 e.1), .sc (.int .i64 e.2)]
theorem next04_is (m : Mach) (s a : Int) (r : Row) (e : Int × Int) (hs : 0 ≤ s → m.rows[s.toNat]? = some r) (ha : 0 ≤ s → 0 ≤ a ∧ r.2[a.toNat]? = some e) : PureIs prog 60 [.ag m.cells, .sc (.int .i64 s), .sc (.int .i64 a)] (edgeA (if s < 0 then (-1, -1) else e)) := by
  refine PureIs.of (nv := 7) (hid := [8]) func60 rfl (by kernel_rfl) (by simp [ntmps60]) fun _ => ?_
  rw [ntmps60, results60]
  refine EvC.seq (EvC.rg (by (simp only [go_sem, Mach.cells]) <;> rfl) rfl ?_)
  refine EvC.seq (EvC.seq (EvC.rg (by (simp only [go_sem]) <;> rfl) rfl ?_))
  refine EvC.cond (by (simp only [go_sem]) <;> rfl) (fun hc => ?_) (fun hc => ?_)
  · refine EvC.seq (EvC.rg (by (simp only [go_sem]) <;> rfl) rfl ?_)
    refine EvC.ret ⟨.inl rfl, _, (by (simp only [go_sem]) <;> rfl), ?_, (by unfold edgeA; simp only [go_sem])⟩
    simp only [go_sem]
    rw [if_pos (by simpa using hc)]; rfl
  · have h0 : 0 ≤ s := by simpa using hc
    refine EvC.skip ?_
    refine EvC.seq (EvC.rg (by (simp only [go_sem, hs h0, rowC, (ha h0).2, edgeC]) <;> rfl) ?_ ?_)
    · simp [h0, (ha h0).1]
    refine EvC.ret ⟨.inl rfl, _, (by (simp only [go_sem]) <;> rfl), ?_, (by unfold edgeA; simp only [go_sem])⟩
    simp only [go_sem]
    rw [if_neg (by simpa using hc)]; rfl
/-- A valid machine's rows and edges. -/
structure Valid (m : Mach) : Prop where
  ins : 1 ≤ m.ins ∧ m.ins ≤ 16
  outs : 1 ≤ m.outs ∧ m.outs ≤ 16
  rows : 1 ≤ m.rows.length ∧ m.rows.length ≤ 64
  row : ∀ r ∈ m.rows, (r.2.length : Int) = m.ins ∧ ∀ e ∈ r.2, fitsR m.rows.length m.outs e.1 e.2 = true
theorem Valid.of {m : Mach} (h : checkM m = 0) : Valid m := by
  unfold checkM at h
  split at h
  · cases h
  · split at h
    · cases h
    · split at h
      · rename_i h1 h2 h3
        rw [List.all_eq_true] at h3
        refine ⟨by omega, by omega, by omega, fun r hr => ?_⟩
        have := h3 r hr
        simp only [rowOk, Bool.and_eq_true, decide_eq_true_eq, Bool.not_eq_true', List.any_eq_false] at this
        exact ⟨this.1, fun e he => by simpa using this.2 e he⟩
      · cases h
def stepR (m : Mach) (s a : Int) : Int × Int := if s < 0 then (-1, -1) else (((m.rows[s.toNat]?).map (·.2)).getD [])[a.toNat]?.getD (-1, -1)
theorem stepR_get {m : Mach} (hv : Valid m) {s a : Int} (h0 : 0 ≤ s) (hs : s < m.rows.length) (ha : 0 ≤ a ∧ a < m.ins) :
    ∃ r e, m.rows[s.toNat]? = some r ∧ r.2[a.toNat]? = some e ∧ stepR m s a = e ∧ fitsR m.rows.length m.outs e.1 e.2 = true := by
  have h1 : m.rows[s.toNat]? = some m.rows[s.toNat] := List.getElem?_eq_getElem (by omega)
  obtain ⟨h2, h3⟩ := hv.row _ (List.getElem_mem (show s.toNat < m.rows.length by omega))
  have h4 : (m.rows[s.toNat]).2[a.toNat]? = some ((m.rows[s.toNat]).2[a.toNat]'(by omega)) := List.getElem?_eq_getElem _
  exact ⟨_, _, h1, h4, by rw [stepR, if_neg (by omega), h1]; simp only [Option.map_some, Option.getD_some, h4], h3 _ (List.getElem_mem _)⟩

theorem stepR_is {m : Mach} (hv : Valid m) {s a : Int} (hs : s < m.rows.length) (ha : 0 ≤ a ∧ a < m.ins) : PureIs prog 60 [.ag m.cells, .sc (.int .i64 s), .sc (.int .i64 a)] (edgeA (stepR m s a)) := by
  by_cases h0 : 0 ≤ s
  · obtain ⟨r, e, h1, h2, h3, _⟩ := stepR_get hv h0 hs ha
    have := next04_is m s a r e (fun _ => h1) (fun _ => ⟨ha.1, h2⟩)
    rw [if_neg (by omega)] at this
    rw [h3]; exact this
  · have := next04_is m s a (false, []) (0, 0) (fun h => absurd h h0) (fun h => absurd h h0)
    rw [if_pos (by omega)] at this
    rw [stepR, if_pos (by omega)]; exact this
def runR (m : Mach) : Int → List Int → List Int
  | _, [] => []
  | s, a :: w => (stepR m s a).2 :: runR m (stepR m s a).1 w
theorem stepR_lt {m : Mach} (hv : Valid m) {s a : Int} (hs : s < m.rows.length) (ha : 0 ≤ a ∧ a < m.ins) : (stepR m s a).1 < m.rows.length := by
  by_cases h0 : 0 ≤ s
  · obtain ⟨r, e, _, _, h3, h4⟩ := stepR_get hv h0 hs ha
    rw [h3]
    have := hv.rows
    unfold fitsR at h4
    simp at h4; omega
  · rw [stepR, if_pos (by omega)]; have := hv.rows; simp only; omega

theorem run04_is {m : Mach} (hv : Valid m) (s : Int) (hs : s < m.rows.length) (nl : Bool) (w : List Int) (c : Cp) (hw : ∀ a ∈ w, 0 ≤ a ∧ a < m.ins) (hl : w.length < 1000000) :
    PureIs prog 54 [.ag m.cells, .sc (.int .i64 s), .sl nl (w.map intC) c] (.sl (runR m s w).isEmpty ((runR m s w).map intC) .unk) := by
  refine PureIs.of (nv := 10) (hid := [13]) func54 rfl (by kernel_rfl) (by simp [ntmps54]) fun _ => ?_
  rw [ntmps54, results54]
  refine EvC.seq (EvC.rg (by (simp only [go_sem, Mach.cells]) <;> rfl) rfl ?_)
  refine EvC.frzB 0 (by (simp only [go_sem]) <;> rfl) ?_
  refine EvC.seq (EvC.rg (by (simp only [go_sem]) <;> rfl) rfl ?_)
  refine EvC.seq ?_
  refine EvC.seq (EvC.rg (by (simp only [go_sem]) <;> rfl) rfl ?_)
  refine EvC.block (EvC.loopS (σ := Nat × Int × List Int) (fun g => ⟨[(1, .sc (.int .i64 g.2.1)), (2, .sl nl (w.map intC) c), (3, .ia m.cells), (7, .tl 0 g.2.2.length g.2.2.isEmpty), (8, .sc (.int .i64 g.1))], [], [(0, .arr 1 (g.2.2.map intC) true)], 1⟩) (fun g => w.length - g.1)
    (fun g => g.1 ≤ w.length ∧ g.2.1 < m.rows.length ∧ runR m s w = g.2.2 ++ runR m g.2.1 (w.drop g.1) ∧ g.2.2.length = g.1) [1, 2, 3, 7, 8] 1 ?_ ?_)
  · refine ⟨[(2, 0)], (0, s, []), rfl, (by (simp only [go_sem, Mach.cells]) <;> rfl), Nat.zero_le _, hs, by simp, rfl⟩
  rintro ⟨i, t, os⟩ ⟨h1, h2, h3, h4⟩
  simp only at h1 h2 h3 h4
  refine EvC.seq (EvC.seq (EvC.rg (by (simp only [go_sem]) <;> rfl) rfl ?_))
  refine EvC.cond (by (simp only [go_sem]) <;> rfl) (fun hc => ?_) (fun hc => ?_)
  · refine EvC.skip ?_
    have hi : i < w.length := by simpa using hc
    have he : w[i]? = some w[i] := List.getElem?_eq_getElem hi
    generalize w[i] = a at he
    have ha := hw a (List.mem_of_getElem? he)
    have hd : w.drop i = a :: w.drop (i + 1) := by
      rw [List.drop_eq_getElem_cons hi]; congr 1; rw [List.getElem?_eq_getElem hi] at he; simpa using he
    have hstep := stepR_is hv h2 ha
    refine EvC.seq ?_
    apply EvC.block
    apply EvC.seq
    apply EvC.drw mixed
    · apply Tr.run
      · (simp only [go_sem, Mach.cells, he, intC]) <;> rfl
      · simp
      apply Tr.cons
      · exact .call rfl rfl (by (simp only [go_sem]) <;> rfl) (by (simp only [go_sem]) <;> rfl) (by (simp only [go_sem]) <;> rfl) (by (simp only [go_sem]) <;> rfl) (by (simp only [go_sem]) <;> rfl) hstep
      apply Tr.done
      · (simp only [go_sem, edgeA]) <;> rfl
      · simp
    · kernel_rfl
    refine EvC.seq (EvC.rg (by (simp only [go_sem, List.set_cons_zero]) <;> rfl) ?_ ?_)
    · simp [room_eq]; omega
    refine EvC.rg (by (simp only [go_sem]) <;> rfl) (by simp) ?_
    refine EvC.rg (by (simp only [go_sem]) <;> rfl) ?_ ?_
    · exact inI64_of (by omega) (by omega)
    refine ⟨[(0, 0)], (i + 1, (stepR m t a).1, os ++ [(stepR m t a).2]), rfl, ?_, ⟨by omega, stepR_lt hv h2 ha, ?_, by simp [h4]⟩, by simp; omega⟩
    · (simp only [go_sem, Mach.cells, intC, List.length_append]) <;> rfl
    · rw [h3, hd, runR]; simp
  · refine EvC.exit ?_
    have hi : ¬ i < w.length := by simpa using hc
    have hr : runR m s w = os := by rw [h3, List.drop_of_length_le (by omega), runR, List.append_nil]
    refine EvC.frz 0 (by (simp only [go_sem]) <;> rfl) ?_
    refine EvC.seq (EvC.rg (by (simp only [go_sem]) <;> rfl) rfl ?_)
    refine EvC.ret ⟨.inl rfl, _, (by (simp only [go_sem]) <;> rfl), ?_, rfl⟩
    simp only [go_sem]
    rw [hr]
end Go.Avl
namespace Go.Avl
open Go Go.Proofs.Tryd
set_option maxRecDepth 10000
set_option linter.unusedSimpArgs false
def rowF (r : List (Int × Int)) : List AV := rowC (false, r)
@[go_sem] theorem norefs_rowF (l : List (List (Int × Int))) : (l.map rowF).all AV.norefs = true := by simp [List.all_eq_true, rowF, rowC, AV.norefs, AV.noref]
/-- The plain data of a machine. -/
structure LM where
  st : Int
  ins : Int
  outs : Int
  part : Bool
  nl : Bool
  es : List Int
  cap : Cp
def u16C (x : Int) : List AV := [.sc (.int .u16 x)]
@[go_sem] theorem norefs_u16 (l : List Int) : (l.map u16C).all AV.norefs = true := by simp [List.all_eq_true, u16C, AV.norefs, AV.noref]
def LM.cells (x : LM) : List AV := [.sc (.int .u8 x.st), .sc (.int .u8 x.ins), .sc (.int .u8 x.outs), .sc (.bool x.part), .sl x.nl (x.es.map u16C) x.cap]
structure LM.Ok (x : LM) : Prop where
  st : 0 ≤ x.st
  ins : 0 ≤ x.ins
  outs : 0 ≤ x.outs
  es : ∀ e ∈ x.es, 0 ≤ e ∧ e < 65536
def LM.n (x : LM) : Nat := (1 + x.st % 6).toNat
def LM.i (x : LM) : Nat := (1 + x.ins % 3).toNat
def LM.o (x : LM) : Int := 1 + x.outs % 3
def LM.v (x : LM) (s i : Nat) : Int := (x.es[s * x.i + i]?).getD 0
def LM.edge (x : LM) (s i : Nat) : Int × Int :=
  if x.part = true ∧ x.v s i % 4 = 3 then (-1, -1) else (x.v s i / 4 % x.n, x.v s i / 4 / x.n % x.o)
def LM.row (x : LM) (s : Nat) : List (Int × Int) := (List.range x.i).map (x.edge s)
def LM.mach (x : LM) : Mach := ⟨x.i, x.o, false, (List.range x.n).map fun s => (false, x.row s)⟩

theorem LM.bounds {x : LM} (h : x.Ok) : 1 ≤ x.n ∧ x.n ≤ 6 ∧ 1 ≤ x.i ∧ x.i ≤ 3 ∧ 1 ≤ x.o ∧ x.o ≤ 3 ∧ (x.n : Int) = 1 + x.st % 6 ∧ (x.i : Int) = 1 + x.ins % 3 := by
  have h1 := h.st
  have h2 := h.ins
  have h3 := h.outs
  unfold LM.n LM.i LM.o
  omega
theorem LM.v_ok {x : LM} (h : x.Ok) (s i : Nat) : 0 ≤ x.v s i ∧ x.v s i < 65536 := by
  unfold LM.v
  cases he : x.es[s * x.i + i]? with
  | none => simp
  | some e => exact h.es e (List.mem_of_getElem? he)

theorem mOf_is {x : LM} (h : x.Ok) : PureIs prog 34 [.ag x.cells] (.ag x.mach.cells) := by
  refine PureIs.of (nv := 10) (hid := [28, 34, 47, 60]) func34 rfl (by kernel_rfl) (by simp [ntmps34]) fun _ => ?_
  rw [ntmps34, results34]
  obtain ⟨b1, b2, b3, b4, b5, b6, b7, b8⟩ := LM.bounds h
  have h1 := h.st
  have h2 := h.ins
  have h3 := h.outs
  have hI1 : inI64 (x.st % 6) = true := inI64_of (by omega) (by omega)
  have hI2 : inI64 (x.ins % 3) = true := inI64_of (by omega) (by omega)
  have hI3 : inI64 (x.outs % 3) = true := inI64_of (by omega) (by omega)
  have hI4 : inI64 (1 + x.st % 6) = true := inI64_of (by omega) (by omega)
  have hI5 : inI64 (1 + x.ins % 3) = true := inI64_of (by omega) (by omega)
  have hI6 : inI64 (1 + x.outs % 3) = true := inI64_of (by omega) (by omega)
  refine EvC.seq (EvC.rg (by (simp only [go_sem, LM.cells]) <;> rfl) (by simp) ?_)  -- R0
  refine EvC.frzB 0 (by (simp only [go_sem]) <;> rfl) ?_
  refine EvC.seq (EvC.rg (by (simp only [go_sem]) <;> rfl) (by simp [hI1, hI4, h1]) ?_)  -- R1
  refine EvC.seq (EvC.rg (by (simp only [go_sem]) <;> rfl) (by simp [hI2, hI3, hI5, hI6, h2, h3]) ?_)  -- R2
  refine EvC.seq ?_
  refine EvC.seq (EvC.rg (by (simp only [go_sem]) <;> rfl) (by simp) ?_)  -- R3
  refine EvC.block ?_  -- 0
  have hmem : ∀ {s : Nat}, (fun s => ((false, x.row s) : Row)) s = (false, x.row s) := fun {_} => rfl
  have hO : x.o = 1 + x.outs % 3 := rfl
  refine EvC.ownC 19 2 1 (by (simp only [go_sem]) <;> rfl) ?_
  refine EvC.loopS (σ := Nat) (fun s => ⟨[(1, .ia x.cells), (2, .rf 0 0), (3, .sc (.int .i64 x.n)), (4, .rf 1 0), (5, .sc (.int .i64 s))], [],
      [(0, .cells [.sc (.int .i64 0), .sc (.int .i64 0), .sl true [] .zer]), (1, .cells [.sc (.int .i64 x.i), .sc (.int .i64 x.o), .tl 2 s (s == 0)]), (2, .arr 1 (((List.range s).map x.row).map rowF) true)], 3⟩) (fun s => x.n - s)
    (fun s => s ≤ x.n) [1, 2, 3, 4, 5] 3 ?_ ?_
  · exact ⟨[(1, 0), (19, 1), (22, 2)], 0, rfl, (by (simp only [go_sem, LM.cells, ← b7, ← b8, ← hO, List.range_zero]) <;> rfl), Nat.zero_le _⟩
  intro s hs
  have hls : (((List.range s).map x.row).map rowF).length = s := by simp
  refine EvC.seq ?_
  refine EvC.seq (EvC.rg (by (simp only [go_sem]) <;> rfl) (by simp) ?_)  -- R4
  refine EvC.cond (by (simp only [go_sem]) <;> rfl) (fun hc => ?_) (fun hc => ?_)
  rotate_left
  · refine EvC.exit ?_  -- 0
    have hc : ¬ s < x.n := by simpa using hc
    obtain rfl : s = x.n := by omega
    refine EvC.frzD 2 (by (simp only [go_sem, hls]) <;> rfl) ?_
    refine EvC.seq (EvC.rg (by (simp only [go_sem]) <;> rfl) (by simp) ?_)  -- R18
    refine EvC.ret ⟨.inl rfl, _, (by (simp only [go_sem]) <;> rfl), ?_, rfl⟩
    simp only [go_sem]
    have hne : (x.n == 0) = false := by simp; omega
    simp only [Mach.cells, LM.mach, hne]
    rw [List.map_map, List.map_map]
    rfl
  have hc : s < x.n := by simpa using hc
  refine EvC.skip ?_
  refine EvC.seq ?_
  refine EvC.block ?_  -- 1
  refine EvC.seq (EvC.rg (by (simp only [go_sem]) <;> rfl) (by simp) ?_)  -- R6
  refine EvC.seq ?_
  refine EvC.seq (EvC.rg (by (simp only [go_sem]) <;> rfl) (by simp) ?_)  -- R7
  refine EvC.block ?_  -- 2
  refine EvC.loopS (σ := Nat) (fun i => ⟨[(1, .ia x.cells), (2, .rf 0 0), (3, .sc (.int .i64 x.n)), (4, .rf 1 0), (5, .sc (.int .i64 s)), (6, .tl 3 i (i == 0)), (7, .sc (.int .i64 i))], [],
      [(0, .cells [.sc (.int .i64 0), .sc (.int .i64 0), .sl true [] .zer]), (1, .cells [.sc (.int .i64 x.i), .sc (.int .i64 x.o), .tl 2 s (s == 0)]), (2, .arr 1 (((List.range s).map x.row).map rowF) true),
       (3, .arr 2 (((List.range i).map (x.edge s)).map edgeC) true)], 4⟩) (fun i => x.i - i)
    (fun i => i ≤ x.i) [1, 2, 3, 4, 5, 6, 7] 4 ?_ ?_
  · exact ⟨[(0, 0), (1, 1), (2, 2), (6, 3)], 0, rfl, (by (simp only [go_sem, List.range_zero]) <;> rfl), Nat.zero_le _⟩
  intro i hi
  have hli : (((List.range i).map (x.edge s)).map edgeC).length = i := by simp
  refine EvC.seq ?_
  refine EvC.seq (EvC.rg (by (simp only [go_sem]) <;> rfl) (by simp) ?_)  -- R8
  refine EvC.cond (by (simp only [go_sem]) <;> rfl) (fun hc => ?_) (fun hc => ?_)
  rotate_left
  · refine EvC.exit ?_  -- 2
    have hc : ¬ i < x.i := by simpa using hc
    obtain rfl : i = x.i := by omega
    have hne : (x.i == 0) = false := by simp; omega
    refine EvC.frz 3 (by (simp only [go_sem, hli, hne]) <;> rfl) ?_
    refine EvC.rg (by (simp only [go_sem]) <;> rfl) (by simp [room_eq, AV.norefs, AV.noref, hls]; omega) ?_  -- R17
    refine EvC.rg (by (simp only [go_sem]) <;> rfl) (inI64_of (by omega) (by omega)) ?_  -- R5
    refine ⟨[(0, 0), (1, 1), (2, 2)], s + 1, rfl, ?_, by omega, by omega⟩
    have hs0 : (s + 1 == 0) = false := rfl
    (simp only [go_sem, hs0, List.range_succ, rowF, rowC, LM.row, List.length_map, List.length_range]) <;> rfl
  have hc : i < x.i := by simpa using hc
  have hv := LM.v_ok h s i
  have hsi : (0 : Int) ≤ (s : Int) * x.i := Int.mul_nonneg (by omega) (by omega)
  have hsi2 : (s : Int) * x.i ≤ 18 := by
    have : s * x.i ≤ 6 * 3 := Nat.mul_le_mul (by omega) (by omega)
    have := Int.ofNat_le.2 this
    simpa using this
  have hk : ((s * x.i + i : Nat) : Int) = (s : Int) * x.i + i := by simp
  have hkn : ((s : Int) * x.i + i).toNat = s * x.i + i := by omega
  have hIm : inI64 ((s : Int) * x.i) = true := inI64_of (by omega) (by omega)
  have hIk : inI64 ((s : Int) * x.i + i) = true := inI64_of (by omega) (by omega)
  have hIi : inI64 ((i : Int) + 1) = true := inI64_of (by omega) (by omega)
  have hIv : inI64 (x.v s i) = true := inI64_of (by omega) (by omega)
  refine EvC.skip ?_
  refine EvC.seq ?_
  refine EvC.block ?_  -- 3
  refine EvC.seq (EvC.rg (by (simp only [go_sem]) <;> rfl) (by simp) ?_)  -- R10
  refine EvC.seq ?_
  refine EvC.seq (EvC.rg (by (simp only [go_sem]) <;> rfl) (by simp [hIm, hIk]) ?_)  -- R11
  refine EvC.seq (EvC.rg (by (simp only [go_sem, LM.cells]) <;> rfl) (by simp) ?_)  -- R12
  refine EvC.cond (by (simp only [go_sem]) <;> rfl) (fun hc => ?_) (fun hc => ?_)
  · have hkl : s * x.i + i < x.es.length := by
      have : (s : Int) * x.i + i < x.es.length := by simpa using hc
      omega
    have hev : x.es[s * x.i + i]? = some (x.v s i) := by
      unfold LM.v
      rw [List.getElem?_eq_getElem hkl]; rfl
    refine EvC.rg (by (simp only [go_sem, LM.cells, hkn, hev, u16C]) <;> rfl) (by simp [hIv]; omega) ?_  -- R13
    apply EvC.seq  -- R14
    apply EvC.trd
    · (simp only [go_sem, LM.cells]) <;> rfl
    · simp [hv.1]
    have hi0 : (i + 1 == 0) = false := rfl
    refine EvC.cond (by (simp only [go_sem]) <;> rfl) (fun hp => ?_) (fun hp => ?_)
    · have hp : x.part = true ∧ x.v s i % 4 = 3 := by
        by_cases h1 : x.part = true
        · simp [h1] at hp; exact ⟨h1, hp⟩
        · simp [h1] at hp
      have he : x.edge s i = (-1, -1) := if_pos hp
      refine EvC.rg (by (simp only [go_sem]) <;> rfl) (by simp [room_eq, AV.norefs, AV.noref]; omega) ?_  -- R15
      refine EvC.rg (by (simp only [go_sem]) <;> rfl) hIi ?_  -- R9
      refine ⟨[(0, 0), (1, 1), (2, 2), (3, 3)], i + 1, rfl, ?_, by omega, by omega⟩
      (simp only [go_sem, hi0, List.range_succ, he, edgeC, List.length_map, List.length_range]) <;> rfl
    · have hp : ¬ (x.part = true ∧ x.v s i % 4 = 3) := by
        rintro ⟨h1, h2⟩
        simp [h1, h2] at hp
      have he : x.edge s i = (x.v s i / 4 % x.n, x.v s i / 4 / x.n % x.o) := if_neg hp
      have hq1 : 0 ≤ x.v s i / 4 := Int.ediv_nonneg hv.1 (by omega)
      have hq2 : 0 ≤ x.v s i / 4 / x.n := Int.ediv_nonneg hq1 (by omega)
      have hq3 : x.v s i / 4 ≤ 65536 := by omega
      have hq4 : x.v s i / 4 / x.n ≤ x.v s i / 4 := Int.ediv_le_self _ hq1
      have hIq1 : inI64 (x.v s i / 4) = true := inI64_of (by omega) (by omega)
      have hIq2 : inI64 (x.v s i / 4 / x.n) = true := inI64_of (by omega) (by omega)
      apply EvC.drd mixed  -- R16
      · (simp only [go_sem]) <;> rfl
      · simp [room_eq, AV.norefs, AV.noref, hv.1, hq1, hq2, hIq1, hIq2]; omega
      · kernel_rfl
      refine EvC.rg (by (simp only [go_sem]) <;> rfl) hIi ?_  -- R9
      refine ⟨[(0, 0), (1, 1), (2, 2), (3, 3)], i + 1, rfl, ?_, by omega, by omega⟩
      (simp only [go_sem, hi0, List.range_succ, he, edgeC, List.length_map, List.length_range]) <;> rfl
  · have hkl : ¬ s * x.i + i < x.es.length := by
      have : ¬ (s : Int) * x.i + i < x.es.length := by simpa using hc
      omega
    have hev : x.v s i = 0 := by
      unfold LM.v
      rw [List.getElem?_eq_none (by omega)]; rfl
    refine EvC.skip ?_
    rw [← hev]
    apply EvC.seq  -- R14
    apply EvC.trd
    · (simp only [go_sem, LM.cells]) <;> rfl
    · simp [hv.1]
    have hi0 : (i + 1 == 0) = false := rfl
    refine EvC.cond (by (simp only [go_sem]) <;> rfl) (fun hp => ?_) (fun hp => ?_)
    · have hp : x.part = true ∧ x.v s i % 4 = 3 := by
        by_cases h1 : x.part = true
        · simp [h1] at hp; exact ⟨h1, hp⟩
        · simp [h1] at hp
      have he : x.edge s i = (-1, -1) := if_pos hp
      refine EvC.rg (by (simp only [go_sem]) <;> rfl) (by simp [room_eq, AV.norefs, AV.noref]; omega) ?_  -- R15
      refine EvC.rg (by (simp only [go_sem]) <;> rfl) hIi ?_  -- R9
      refine ⟨[(0, 0), (1, 1), (2, 2), (3, 3)], i + 1, rfl, ?_, by omega, by omega⟩
      (simp only [go_sem, hi0, List.range_succ, he, edgeC, List.length_map, List.length_range]) <;> rfl
    · have hp : ¬ (x.part = true ∧ x.v s i % 4 = 3) := by
        rintro ⟨h1, h2⟩
        simp [h1, h2] at hp
      have he : x.edge s i = (x.v s i / 4 % x.n, x.v s i / 4 / x.n % x.o) := if_neg hp
      have hq1 : 0 ≤ x.v s i / 4 := Int.ediv_nonneg hv.1 (by omega)
      have hq2 : 0 ≤ x.v s i / 4 / x.n := Int.ediv_nonneg hq1 (by omega)
      have hq3 : x.v s i / 4 ≤ 65536 := by omega
      have hq4 : x.v s i / 4 / x.n ≤ x.v s i / 4 := Int.ediv_le_self _ hq1
      have hIq1 : inI64 (x.v s i / 4) = true := inI64_of (by omega) (by omega)
      have hIq2 : inI64 (x.v s i / 4 / x.n) = true := inI64_of (by omega) (by omega)
      apply EvC.drd mixed  -- R16
      · (simp only [go_sem]) <;> rfl
      · simp [room_eq, AV.norefs, AV.noref, hv.1, hq1, hq2, hIq1, hIq2]; omega
      · kernel_rfl
      refine EvC.rg (by (simp only [go_sem]) <;> rfl) hIi ?_  -- R9
      refine ⟨[(0, 0), (1, 1), (2, 2), (3, 3)], i + 1, rfl, ?_, by omega, by omega⟩
      (simp only [go_sem, hi0, List.range_succ, he, edgeC, List.length_map, List.length_range]) <;> rfl
end Go.Avl
namespace Go.Avl
open Go Go.Proofs.Tryd
set_option maxRecDepth 10000
set_option linter.unusedSimpArgs false

def fdiff : List Int → List Int → Int
  | x :: xs, y :: ys => if x < y then -1 else if y < x then 1 else fdiff xs ys
  | _, _ => 0
def cmpW (a b : List Int) : Int := if a.length < b.length then -1 else if b.length < a.length then 1 else fdiff a b
theorem fdiff_zero : ∀ {a b : List Int}, a.length = b.length → (fdiff a b = 0 ↔ a = b)
  | [], [], _ => by simp [fdiff]
  | x :: xs, y :: ys, h => by
    have := fdiff_zero (a := xs) (b := ys) (by simpa using h)
    unfold fdiff
    split
    · rename_i h1
      constructor
      · intro h; cases h
      · intro h; cases h; omega
    · split
      · constructor
        · intro h; cases h
        · intro h; cases h; omega
      · rw [this]
        have : x = y := by omega
        simp [this]
theorem cmpW_zero {a b : List Int} : cmpW a b = 0 ↔ a = b := by
  unfold cmpW
  split
  · rename_i h
    constructor
    · intro h; cases h
    · rintro rfl; omega
  · split
    · constructor
      · intro h; cases h
      · rintro rfl; omega
    · exact fdiff_zero (by omega)
theorem compare_is (na : Bool) (a : List Int) (ca : Cp) (nb : Bool) (b : List Int) (cb : Cp) (hl : a.length < 1000000) : PureIs prog 56 [.sl na (a.map intC) ca, .sl nb (b.map intC) cb] (.sc (.int .i64 (cmpW a b))) := by
  refine PureIs.of (nv := 2) (hid := [4, 5, 10, 15, 19, 30, 39]) func56 rfl (by kernel_rfl) (by simp [ntmps56]) fun _ => ?_
  rw [ntmps56, results56]
  refine EvC.seq (EvC.rg (by (simp only [go_sem]) <;> rfl) (by simp) ?_)
  refine EvC.seq ?_
  refine EvC.seq (EvC.rg (by (simp only [go_sem]) <;> rfl) (by simp) ?_)
  refine EvC.cond (by (simp only [go_sem]) <;> rfl) (fun hc => ?_) (fun hc => ?_)
  · have hc : a.length < b.length := by have : (a.length : Int) < b.length := by simpa using hc
                                        omega
    refine EvC.seq (EvC.rg (by (simp only [go_sem]) <;> rfl) (by simp) ?_)
    refine EvC.ret ⟨.inl rfl, _, (by (simp only [go_sem]) <;> rfl), ?_, rfl⟩
    simp only [go_sem]
    rw [cmpW, if_pos hc]
  have h1 : ¬ a.length < b.length := by have : ¬ (a.length : Int) < b.length := by simpa using hc
                                        omega
  clear hc
  refine EvC.skip ?_
  refine EvC.seq ?_
  refine EvC.seq (EvC.rg (by (simp only [go_sem]) <;> rfl) (by simp) ?_)
  refine EvC.cond (by (simp only [go_sem]) <;> rfl) (fun hc => ?_) (fun hc => ?_)
  · have hc : b.length < a.length := by have : (b.length : Int) < a.length := by simpa using hc
                                        omega
    refine EvC.seq (EvC.rg (by (simp only [go_sem]) <;> rfl) (by simp) ?_)
    refine EvC.ret ⟨.inl rfl, _, (by (simp only [go_sem]) <;> rfl), ?_, rfl⟩
    simp only [go_sem]
    rw [cmpW, if_neg h1, if_pos hc]
  have h2 : ¬ b.length < a.length := by have : ¬ (b.length : Int) < a.length := by simpa using hc
                                        omega
  clear hc
  have hw : cmpW a b = fdiff a b := by rw [cmpW, if_neg h1, if_neg h2]
  refine EvC.skip ?_
  refine EvC.seq ?_
  refine EvC.seq (EvC.rg (by (simp only [go_sem]) <;> rfl) (by simp) ?_)
  refine EvC.block ?_  -- 0
  refine EvC.loopS (σ := Nat) (fun i => ⟨[(0, .sl na (a.map intC) ca), (1, .sl nb (b.map intC) cb), (5, .sc (.int .i64 i))], [], [], 0⟩) (fun i => a.length - i) (fun i => i ≤ a.length ∧ fdiff a b = fdiff (a.drop i) (b.drop i)) [0, 1, 5] 0 ?_ ?_
  · refine ⟨[], 0, rfl, (by (simp only [go_sem]) <;> rfl), Nat.zero_le _, by simp⟩
  rintro i ⟨hi, h3⟩
  refine EvC.seq ?_
  refine EvC.seq (EvC.rg (by (simp only [go_sem]) <;> rfl) (by simp) ?_)
  refine EvC.cond (by (simp only [go_sem]) <;> rfl) (fun hc => ?_) (fun hc => ?_)
  rotate_left
  · refine EvC.exit ?_  -- 0
    have hi : ¬ i < a.length := by simpa using hc
    refine EvC.seq (EvC.rg (by (simp only [go_sem]) <;> rfl) (by simp) ?_)
    refine EvC.ret ⟨.inl rfl, _, (by (simp only [go_sem]) <;> rfl), ?_, rfl⟩
    simp only [go_sem]
    rw [hw, h3, List.drop_of_length_le (by omega)]; rfl
  have hi : i < a.length := by simpa using hc
  have hi2 : i < b.length := by omega
  have ha : a[i]? = some a[i] := List.getElem?_eq_getElem hi
  have hb : b[i]? = some b[i] := List.getElem?_eq_getElem hi2
  have hda : a.drop i = a[i] :: a.drop (i + 1) := List.drop_eq_getElem_cons hi
  have hdb : b.drop i = b[i] :: b.drop (i + 1) := List.drop_eq_getElem_cons hi2
  generalize a[i] = x at ha hda
  generalize b[i] = y at hb hdb
  refine EvC.skip ?_
  refine EvC.seq ?_
  refine EvC.block ?_  -- 1
  refine EvC.seq ?_
  apply EvC.seq
  apply EvC.drd mixed
  · (simp only [go_sem, ha, hb, intC]) <;> rfl
  · simp
  · kernel_rfl
  refine EvC.cond (by (simp only [go_sem]) <;> rfl) (fun hc => ?_) (fun hc => ?_)
  · have hc : x < y := by simpa using hc
    refine EvC.seq (EvC.rg (by (simp only [go_sem]) <;> rfl) (by simp) ?_)
    refine EvC.ret ⟨.inl rfl, _, (by (simp only [go_sem]) <;> rfl), ?_, rfl⟩
    simp only [go_sem]
    rw [hw, h3, hda, hdb, fdiff, if_pos hc]
  have hc1 : ¬ x < y := by simpa using hc
  refine EvC.skip ?_
  apply EvC.seq
  apply EvC.drd mixed
  · (simp only [go_sem, ha, hb, intC]) <;> rfl
  · simp
  · kernel_rfl
  refine EvC.cond (by (simp only [go_sem]) <;> rfl) (fun hc => ?_) (fun hc => ?_)
  · have hc : y < x := by simpa using hc
    refine EvC.seq (EvC.rg (by (simp only [go_sem]) <;> rfl) (by simp) ?_)
    refine EvC.ret ⟨.inl rfl, _, (by (simp only [go_sem]) <;> rfl), ?_, rfl⟩
    simp only [go_sem]
    rw [hw, h3, hda, hdb, fdiff, if_neg hc1, if_pos hc]
  have hc2 : ¬ y < x := by simpa using hc
  refine EvC.skip ?_
  refine EvC.rg (by (simp only [go_sem]) <;> rfl) (by exact inI64_of (by omega) (by omega)) ?_
  refine ⟨[], i + 1, rfl, (by (simp only [go_sem]) <;> rfl), ⟨by omega, ?_⟩, by omega⟩
  rw [h3, hda, hdb, fdiff, if_neg hc1, if_neg hc2]
theorem same_is (na : Bool) (a : List Int) (ca : Cp) (nb : Bool) (b : List Int) (cb : Cp) (hl : a.length < 1000000) : PureIs prog 25 [.sl na (a.map intC) ca, .sl nb (b.map intC) cb] (.sc (.bool (decide (a = b)))) := by
  refine PureIs.of (nv := 2) (hid := [4]) func25 rfl (by kernel_rfl) (by simp [ntmps25]) fun _ => ?_
  rw [ntmps25, results25]
  refine EvC.seq (EvC.rg (by (simp only [go_sem]) <;> rfl) (by simp) ?_)
  apply EvC.seq
  apply EvC.tr
  · apply Tr.run
    · (simp only [go_sem]) <;> rfl
    · simp
    apply Tr.cons
    · exact .call rfl rfl (by (simp only [go_sem]) <;> rfl) (by (simp only [go_sem]) <;> rfl) (by (simp only [go_sem]) <;> rfl) (by (simp only [go_sem]) <;> rfl) (by (simp only [go_sem]) <;> rfl) (compare_is na a ca nb b cb hl)
    apply Tr.done
    · (simp only [go_sem]) <;> rfl
    · simp
  refine EvC.ret ⟨.inl rfl, _, (by (simp only [go_sem]) <;> rfl), ?_, rfl⟩
  simp only [go_sem]
  simp [cmpW_zero]
end Go.Avl
namespace Go.Avl
open Go Go.Proofs.Tryd
set_option maxRecDepth 10000
set_option linter.unusedSimpArgs false

/-! ### Numbers by their digits -/
def val (k : Nat) : List Nat → Nat
  | [] => 0
  | d :: ds => d + 2 ^ k * val k ds
def pairs (l : List Nat) : List (Nat × Nat) := match l with
  | a :: b :: r => (a, b) :: pairs r
  | _ => []
def flat2 : List (Nat × Nat) → List Nat
  | [] => []
  | p :: r => p.1 :: p.2 :: flat2 r
theorem val_flat2 (k : Nat) : ∀ l : List (Nat × Nat), val k (flat2 l) = val (2 * k) (l.map fun p => p.1 + 2 ^ k * p.2)
  | [] => rfl
  | p :: r => by
    simp only [flat2, val, List.map_cons]
    rw [val_flat2 k r, show 2 * k = k + k by omega, Nat.pow_add, Nat.mul_add, Nat.mul_assoc]
    omega
theorem val_add (k : Nat) : ∀ l : List (Nat × Nat), val k (l.map (·.1)) + val k (l.map (·.2)) = val k (l.map fun p => p.1 + p.2)
  | [] => rfl
  | p :: r => by
    simp only [val, List.map_cons]
    rw [← val_add k r, Nat.mul_add]
    omega
theorem and_split {m a b c d : Nat} (ha : a < 2 ^ m) (hc : c < 2 ^ m) : (a + 2 ^ m * b) &&& (c + 2 ^ m * d) = (a &&& c) + 2 ^ m * (b &&& d) := by
  refine Nat.eq_of_testBit_eq fun i => ?_
  have hac : (a &&& c) < 2 ^ m := Nat.lt_of_le_of_lt Nat.and_le_left ha
  rw [Nat.testBit_and, Nat.add_comm a, Nat.add_comm c, Nat.add_comm (a &&& c), Nat.testBit_two_pow_mul_add _ ha, Nat.testBit_two_pow_mul_add _ hc, Nat.testBit_two_pow_mul_add _ hac]
  split
  · rw [Nat.testBit_and]
  · rw [Nat.testBit_and]
theorem or_split {m a b c d : Nat} (ha : a < 2 ^ m) (hc : c < 2 ^ m) : (a + 2 ^ m * b) ||| (c + 2 ^ m * d) = (a ||| c) + 2 ^ m * (b ||| d) := by
  refine Nat.eq_of_testBit_eq fun i => ?_
  have hac : (a ||| c) < 2 ^ m := Nat.or_lt_two_pow ha hc
  rw [Nat.testBit_or, Nat.add_comm a, Nat.add_comm c, Nat.add_comm (a ||| c), Nat.testBit_two_pow_mul_add _ ha, Nat.testBit_two_pow_mul_add _ hc, Nat.testBit_two_pow_mul_add _ hac]
  split
  · rw [Nat.testBit_or]
  · rw [Nat.testBit_or]
def mask (k n : Nat) : Nat := val (2 * k) (List.replicate n (2 ^ k - 1))
theorem two_pow_k (k : Nat) : 2 ^ (2 * k) = 2 ^ k * 2 ^ k := by rw [show 2 * k = k + k by omega, Nat.pow_add]
theorem pair_lt {k a b : Nat} (ha : a < 2 ^ k) (hb : b < 2 ^ k) : a + 2 ^ k * b < 2 ^ (2 * k) := by
  rw [two_pow_k]
  have : 2 ^ k * (b + 1) ≤ 2 ^ k * 2 ^ k := Nat.mul_le_mul_left _ hb
  rw [Nat.mul_add] at this
  omega
theorem mask_lt (k : Nat) : 2 ^ k - 1 < 2 ^ (2 * k) := by
  have := pair_lt (k := k) (a := 2 ^ k - 1) (b := 0) (by have := Nat.two_pow_pos k; omega) (Nat.two_pow_pos k)
  omega
theorem low_and {k a b : Nat} (ha : a < 2 ^ k) : (a + 2 ^ k * b) &&& (2 ^ k - 1) = a := by
  rw [Nat.and_two_pow_sub_one_eq_mod, Nat.add_mul_mod_self_left, Nat.mod_eq_of_lt ha]
/-- The lower half of each pair. -/
theorem and_low (k : Nat) : ∀ (l : List (Nat × Nat)), (∀ p ∈ l, p.1 < 2 ^ k ∧ p.2 < 2 ^ k) → val (2 * k) (l.map fun p => p.1 + 2 ^ k * p.2) &&& mask k l.length = val (2 * k) (l.map (·.1))
  | [], _ => by simp [val, mask]
  | p :: r, h => by
    have hp := h p List.mem_cons_self
    have ih := and_low k r fun q hq => h q (List.mem_cons_of_mem _ hq)
    unfold mask at ih ⊢
    simp only [List.map_cons, List.length_cons, List.replicate_succ, val]
    rw [and_split (pair_lt hp.1 hp.2) (mask_lt k), low_and hp.1, ih]
theorem shr_cons {k a b X : Nat} (ha : a < 2 ^ k) : (a + 2 ^ k * b + 2 ^ (2 * k) * X) >>> k = (b + 2 ^ k * (X % 2 ^ k)) + 2 ^ (2 * k) * (X >>> k) := by
  have hx := Nat.mod_add_div X (2 ^ k)
  rw [Nat.shiftRight_eq_div_pow, Nat.shiftRight_eq_div_pow, two_pow_k, Nat.add_assoc, Nat.mul_assoc, ← Nat.mul_add, Nat.add_mul_div_left _ _ (Nat.two_pow_pos k), Nat.div_eq_of_lt ha, Nat.zero_add]
  conv => lhs; rw [← hx]
  rw [Nat.mul_add, Nat.mul_assoc, Nat.add_assoc]
/-- The upper half of each pair. -/
theorem and_high (k : Nat) : ∀ (l : List (Nat × Nat)), (∀ p ∈ l, p.1 < 2 ^ k ∧ p.2 < 2 ^ k) → (val (2 * k) (l.map fun p => p.1 + 2 ^ k * p.2) >>> k) &&& mask k l.length = val (2 * k) (l.map (·.2))
  | [], _ => by simp [val, mask]
  | p :: r, h => by
    have hp := h p List.mem_cons_self
    have ih := and_high k r fun q hq => h q (List.mem_cons_of_mem _ hq)
    unfold mask at ih ⊢
    simp only [List.map_cons, List.length_cons, List.replicate_succ, val]
    rw [shr_cons hp.1, and_split (pair_lt hp.2 (Nat.mod_lt _ (Nat.two_pow_pos k))) (mask_lt k), low_and hp.2, ih]
/-- Both halves at once, where their sums are small. -/
theorem and_both (k : Nat) : ∀ (l : List (Nat × Nat)), (∀ p ∈ l, p.1 < 2 ^ k ∧ p.2 < 2 ^ k ∧ p.1 + p.2 < 2 ^ k) → (∀ p ∈ l, ∀ q ∈ l, p.2 + q.1 < 2 ^ k) →
    ((val (2 * k) (l.map fun p => p.1 + 2 ^ k * p.2) >>> k) + val (2 * k) (l.map fun p => p.1 + 2 ^ k * p.2)) &&& mask k l.length = val (2 * k) (l.map fun p => p.1 + p.2)
  | [], _, _ => by simp [val, mask]
  | p :: r, h, h2 => by
    have hp := h p List.mem_cons_self
    have ih := and_both k r (fun q hq => h q (List.mem_cons_of_mem _ hq)) fun a ha b hb => h2 a (List.mem_cons_of_mem _ ha) b (List.mem_cons_of_mem _ hb)
    obtain ⟨X, hX⟩ : ∃ X, X = val (2 * k) (r.map fun p => p.1 + 2 ^ k * p.2) := ⟨_, rfl⟩
    have hXm : p.2 + X % 2 ^ k < 2 ^ k := by
      cases r with
      | nil => rw [hX]; simp only [List.map_nil, val, Nat.zero_mod]; omega
      | cons q r =>
        have hq := h q (List.mem_cons_of_mem _ List.mem_cons_self)
        have : X % 2 ^ k = q.1 := by
          rw [hX]
          simp only [List.map_cons, val]
          rw [two_pow_k, Nat.mul_assoc, Nat.add_assoc, ← Nat.mul_add, Nat.add_mul_mod_self_left, Nat.mod_eq_of_lt hq.1]
        rw [this]
        exact h2 p List.mem_cons_self q (List.mem_cons_of_mem _ List.mem_cons_self)
    unfold mask at ih ⊢
    simp only [List.map_cons, List.length_cons, List.replicate_succ, val]
    rw [← hX] at ih ⊢
    rw [shr_cons hp.1]
    have e : p.2 + 2 ^ k * (X % 2 ^ k) + 2 ^ (2 * k) * (X >>> k) + (p.1 + 2 ^ k * p.2 + 2 ^ (2 * k) * X) = ((p.1 + p.2) + 2 ^ k * (p.2 + X % 2 ^ k)) + 2 ^ (2 * k) * (X >>> k + X) := by
      rw [Nat.mul_add, Nat.mul_add]; omega
    rw [e, and_split (pair_lt hp.2.2 hXm) (mask_lt k), low_and hp.2.2, ih]
end Go.Avl
namespace Go.Avl
open Go Go.Proofs.Tryd
set_option maxRecDepth 10000
set_option linter.unusedSimpArgs false

def dsum (D : Nat → Nat) : Nat → Nat
  | 0 => 0
  | n + 1 => dsum D n + D n
def dval (k : Nat) (D : Nat → Nat) (n : Nat) : Nat := val k ((List.range n).map D)
def up (D : Nat → Nat) : Nat → Nat := fun j => D (2 * j) + D (2 * j + 1)
def prL (D : Nat → Nat) (n : Nat) : List (Nat × Nat) := (List.range n).map fun j => (D (2 * j), D (2 * j + 1))
theorem dsum_up (D : Nat → Nat) : ∀ n, dsum (up D) n = dsum D (2 * n)
  | 0 => rfl
  | n + 1 => by
    rw [show 2 * (n + 1) = 2 * n + 1 + 1 by omega]
    simp only [dsum, up]
    rw [dsum_up D n]; omega
theorem flat2_snoc (p : Nat × Nat) : ∀ l, flat2 (l ++ [p]) = flat2 l ++ [p.1, p.2]
  | [] => rfl
  | q :: l => by simp only [List.cons_append, flat2, flat2_snoc p l]
theorem flat2_prL (D : Nat → Nat) : ∀ n, flat2 (prL D n) = (List.range (2 * n)).map D
  | 0 => rfl
  | n + 1 => by
    rw [show 2 * (n + 1) = 2 * n + 1 + 1 by omega, List.range_succ, List.range_succ, prL, List.range_succ, List.map_append, List.map_cons, List.map_nil, flat2_snoc]
    have := flat2_prL D n
    rw [prL] at this
    rw [this]; simp
theorem dval_two (k : Nat) (D : Nat → Nat) (n : Nat) : dval k D (2 * n) = val (2 * k) ((prL D n).map fun p => p.1 + 2 ^ k * p.2) := by
  rw [dval, ← flat2_prL, val_flat2]
theorem prL_len (D : Nat → Nat) (n : Nat) : (prL D n).length = n := by simp [prL]
theorem prL_mem {D : Nat → Nat} {n : Nat} {p : Nat × Nat} (h : p ∈ prL D n) : ∃ i j, p = (D i, D j) := by
  obtain ⟨j, _, rfl⟩ := List.mem_map.1 h
  exact ⟨_, _, rfl⟩
theorem prL_sum (k : Nat) (D : Nat → Nat) (n : Nat) : val k ((prL D n).map fun p => p.1 + p.2) = dval k (up D) n := by
  rw [prL, List.map_map]; rfl
theorem stepA {k : Nat} {D : Nat → Nat} (h : ∀ i, D i < 2 ^ k) (n : Nat) : ((dval k D (2 * n) >>> k) &&& mask k n) + (dval k D (2 * n) &&& mask k n) = dval (2 * k) (up D) n := by
  have hp : ∀ p ∈ prL D n, p.1 < 2 ^ k ∧ p.2 < 2 ^ k := fun p hp => by
    obtain ⟨i, j, rfl⟩ := prL_mem hp
    exact ⟨h i, h j⟩
  have h1 := and_high k (prL D n) hp
  have h2 := and_low k (prL D n) hp
  rw [prL_len] at h1 h2
  rw [dval_two, h1, h2, Nat.add_comm, val_add, prL_sum]
theorem stepB {k b : Nat} {D : Nat → Nat} (h : ∀ i, D i ≤ b) (hb : b + b < 2 ^ k) (n : Nat) : ((dval k D (2 * n) >>> k) + dval k D (2 * n)) &&& mask k n = dval (2 * k) (up D) n := by
  have h1 := and_both k (prL D n) (fun p hp => by
    obtain ⟨i, j, rfl⟩ := prL_mem hp
    have := h i; have := h j
    exact ⟨by simp only; omega, by simp only; omega, by simp only; omega⟩) (fun p hp q hq => by
    obtain ⟨i, j, rfl⟩ := prL_mem hp
    obtain ⟨i', j', rfl⟩ := prL_mem hq
    have := h j; have := h i'
    simp only; omega)
  rw [prL_len] at h1
  rw [dval_two, h1, prL_sum]
theorem up_le {D : Nat → Nat} {b : Nat} (h : ∀ i, D i ≤ b) (i : Nat) : up D i ≤ b + b := by
  have := h (2 * i); have := h (2 * i + 1)
  unfold up; omega
theorem dval_lt {k : Nat} {D : Nat → Nat} (h : ∀ i, D i < 2 ^ k) : ∀ n, dval k D n < 2 ^ (k * n) := by
  have key : ∀ l : List Nat, (∀ d ∈ l, d < 2 ^ k) → val k l < 2 ^ (k * l.length) := by
    intro l
    induction l with
    | nil => intro _; exact Nat.two_pow_pos _
    | cons d l ih =>
      intro hl
      have h1 := hl d List.mem_cons_self
      have h2 := ih fun x hx => hl x (List.mem_cons_of_mem _ hx)
      simp only [val, List.length_cons]
      rw [Nat.mul_add, Nat.mul_one, Nat.add_comm (k * l.length), Nat.pow_add]
      have : 2 ^ k * (val k l + 1) ≤ 2 ^ k * 2 ^ (k * l.length) := Nat.mul_le_mul_left _ h2
      rw [Nat.mul_add] at this
      omega
  intro n
  have := key ((List.range n).map D) fun d hd => by
    obtain ⟨i, _, rfl⟩ := List.mem_map.1 hd
    exact h i
  rwa [List.length_map, List.length_range] at this
theorem masks : mask 1 32 = 6148914691236517205 ∧ mask 2 16 = 3689348814741910323 ∧ mask 4 8 = 1085102592571150095 := by decide +kernel
theorem k4_eq (a0 a1 a2 a3 a4 a5 a6 a7 : Nat) : a0 + 256 * (a1 + 256 * (a2 + 256 * (a3 + 256 * (a4 + 256 * (a5 + 256 * (a6 + 256 * (a7))))))) + (a1 + 256 * (a2 + 256 * (a3 + 256 * (a4 + 256 * (a5 + 256 * (a6 + 256 * (a7))))))) = (a0 + a1) + 256 * ((a1 + a2) + 256 * ((a2 + a3) + 256 * ((a3 + a4) + 256 * ((a4 + a5) + 256 * ((a5 + a6) + 256 * ((a6 + a7) + 256 * ((a7)))))))) := by omega
theorem k5_eq (a0 a1 a2 a3 a4 a5 a6 a7 : Nat) : (a0 + a1) + 256 * ((a1 + a2) + 256 * ((a2 + a3) + 256 * ((a3 + a4) + 256 * ((a4 + a5) + 256 * ((a5 + a6) + 256 * ((a6 + a7) + 256 * ((a7)))))))) + ((a2 + a3) + 256 * ((a3 + a4) + 256 * ((a4 + a5) + 256 * ((a5 + a6) + 256 * ((a6 + a7) + 256 * ((a7))))))) = (a0 + a1 + a2 + a3) + 256 * ((a1 + a2 + a3 + a4) + 256 * ((a2 + a3 + a4 + a5) + 256 * ((a3 + a4 + a5 + a6) + 256 * ((a4 + a5 + a6 + a7) + 256 * ((a5 + a6 + a7) + 256 * ((a6 + a7) + 256 * ((a7)))))))) := by omega
theorem k6_eq (a0 a1 a2 a3 a4 a5 a6 a7 : Nat) : (a0 + a1 + a2 + a3) + 256 * ((a1 + a2 + a3 + a4) + 256 * ((a2 + a3 + a4 + a5) + 256 * ((a3 + a4 + a5 + a6) + 256 * ((a4 + a5 + a6 + a7) + 256 * ((a5 + a6 + a7) + 256 * ((a6 + a7) + 256 * ((a7)))))))) + ((a4 + a5 + a6 + a7) + 256 * ((a5 + a6 + a7) + 256 * ((a6 + a7) + 256 * ((a7))))) = (a0 + a1 + a2 + a3 + a4 + a5 + a6 + a7) + 256 * ((a1 + a2 + a3 + a4 + a5 + a6 + a7) + 256 * ((a2 + a3 + a4 + a5 + a6 + a7) + 256 * ((a3 + a4 + a5 + a6 + a7) + 256 * ((a4 + a5 + a6 + a7) + 256 * ((a5 + a6 + a7) + 256 * ((a6 + a7) + 256 * ((a7)))))))) := by omega
theorem bd (c Y B : Nat) (h : c < 256) (h' : Y < B) : c + 256 * Y < 256 * B := by omega
theorem nest_lt (c0 c1 c2 c3 c4 c5 c6 c7 : Nat) (h0 : c0 < 256) (h1 : c1 < 256) (h2 : c2 < 256) (h3 : c3 < 256) (h4 : c4 < 256) (h5 : c5 < 256) (h6 : c6 < 256) (h7 : c7 < 16) : c0 + 256 * (c1 + 256 * (c2 + 256 * (c3 + 256 * (c4 + 256 * (c5 + 256 * (c6 + 256 * (c7))))))) < 1152921504606846976 :=
  bd _ _ 4503599627370496 h0 (bd _ _ 17592186044416 h1 (bd _ _ 68719476736 h2 (bd _ _ 268435456 h3 (bd _ _ 1048576 h4 (bd _ _ 4096 h5 (bd _ _ 16 h6 h7))))))
/-- The bytes summed up. -/
theorem bytes_sum {E : Nat → Nat} (h : ∀ i, E i ≤ 8) : ∀ x3 x4 x5 x6, x3 = dval 8 E 8 → x4 = x3 + x3 >>> 8 → x5 = x4 + x4 >>> 16 → x6 = x5 + x5 >>> 32 → x4 < 1152921504606846976 ∧ x5 < 1152921504606846976 ∧ x6 < 1152921504606846976 ∧ x6 % 128 = dsum E 8 := by
  intro x3 x4 x5 x6 h3 h4 h5 h6
  have e0 := h 0; have e1 := h 1; have e2 := h 2; have e3 := h 3; have e4 := h 4; have e5 := h 5; have e6 := h 6; have e7 := h 7
  have h3' : x3 = E 0 + 256 * (E 1 + 256 * (E 2 + 256 * (E 3 + 256 * (E 4 + 256 * (E 5 + 256 * (E 6 + 256 * E 7)))))) := by
    rw [h3]; simp [dval, val, List.range_succ]
  have hs : dsum E 8 = E 0 + E 1 + E 2 + E 3 + E 4 + E 5 + E 6 + E 7 := by simp [dsum]
  rw [hs]
  rw [Nat.shiftRight_eq_div_pow] at h4 h5 h6
  generalize E 0 = a0 at *
  generalize E 1 = a1 at *
  generalize E 2 = a2 at *
  generalize E 3 = a3 at *
  generalize E 4 = a4 at *
  generalize E 5 = a5 at *
  generalize E 6 = a6 at *
  generalize E 7 = a7 at *
  have p0 : a0 + a1 < 256 := by clear h3 h3' h4 h5 h6 hs; omega
  have p1 : a1 + a2 < 256 := by clear h3 h3' h4 h5 h6 hs; omega
  have p2 : a2 + a3 < 256 := by clear h3 h3' h4 h5 h6 hs; omega
  have p3 : a3 + a4 < 256 := by clear h3 h3' h4 h5 h6 hs; omega
  have p4 : a4 + a5 < 256 := by clear h3 h3' h4 h5 h6 hs; omega
  have p5 : a5 + a6 < 256 := by clear h3 h3' h4 h5 h6 hs; omega
  have p6 : a6 + a7 < 256 := by clear h3 h3' h4 h5 h6 hs; omega
  have p7 : a7 < 16 := by clear h3 h3' h4 h5 h6 hs; omega
  have q0 : a0 + a1 + a2 + a3 < 256 := by clear h3 h3' h4 h5 h6 hs; omega
  have q1 : a1 + a2 + a3 + a4 < 256 := by clear h3 h3' h4 h5 h6 hs; omega
  have q2 : a2 + a3 + a4 + a5 < 256 := by clear h3 h3' h4 h5 h6 hs; omega
  have q3 : a3 + a4 + a5 + a6 < 256 := by clear h3 h3' h4 h5 h6 hs; omega
  have q4 : a4 + a5 + a6 + a7 < 256 := by clear h3 h3' h4 h5 h6 hs; omega
  have q5 : a5 + a6 + a7 < 256 := by clear h3 h3' h4 h5 h6 hs; omega
  have q6 : a6 + a7 < 256 := by clear h3 h3' h4 h5 h6 hs; omega
  have q7 : a7 < 16 := by clear h3 h3' h4 h5 h6 hs; omega
  have r0 : a0 + a1 + a2 + a3 + a4 + a5 + a6 + a7 < 256 := by clear h3 h3' h4 h5 h6 hs; omega
  have r1 : a1 + a2 + a3 + a4 + a5 + a6 + a7 < 256 := by clear h3 h3' h4 h5 h6 hs; omega
  have r2 : a2 + a3 + a4 + a5 + a6 + a7 < 256 := by clear h3 h3' h4 h5 h6 hs; omega
  have r3 : a3 + a4 + a5 + a6 + a7 < 256 := by clear h3 h3' h4 h5 h6 hs; omega
  have r4 : a4 + a5 + a6 + a7 < 256 := by clear h3 h3' h4 h5 h6 hs; omega
  have r5 : a5 + a6 + a7 < 256 := by clear h3 h3' h4 h5 h6 hs; omega
  have r6 : a6 + a7 < 256 := by clear h3 h3' h4 h5 h6 hs; omega
  have r7 : a7 < 16 := by clear h3 h3' h4 h5 h6 hs; omega
  have t0 : a0 + a1 + a2 + a3 + a4 + a5 + a6 + a7 < 128 := by clear h3 h3' h4 h5 h6 hs; omega
  have d8 : ∀ c Y : Nat, c < 256 → (c + 256 * Y) / 2 ^ 8 = Y := fun c Y h => by clear h3 h3' h4 h5 h6 hs; omega
  have d16 : ∀ c d Y : Nat, c < 256 → d < 256 → (c + 256 * (d + 256 * Y)) / 2 ^ 16 = Y := fun c d Y h h' => by clear h3 h3' h4 h5 h6 hs; omega
  have d32 : ∀ c d e f Y : Nat, c < 256 → d < 256 → e < 256 → f < 256 → (c + 256 * (d + 256 * (e + 256 * (f + 256 * Y)))) / 2 ^ 32 = Y := fun c d e f Y g1 g2 g3 g4 => by clear h3 h3' h4 h5 h6 hs; omega
  have mx : ∀ c Y : Nat, c < 128 → (c + 256 * Y) % 128 = c := fun c Y h => by clear h3 h3' h4 h5 h6 hs; omega
  rw [h3', d8 _ _ (by exact Nat.lt_of_le_of_lt e0 (by decide))] at h4
  have k4 : x4 = (a0 + a1) + 256 * ((a1 + a2) + 256 * ((a2 + a3) + 256 * ((a3 + a4) + 256 * ((a4 + a5) + 256 * ((a5 + a6) + 256 * ((a6 + a7) + 256 * a7)))))) := h4.trans (k4_eq ..)
  clear h4 h3'
  rw [k4, d16 _ _ _ p0 p1] at h5
  have k5 : x5 = (a0 + a1 + a2 + a3) + 256 * ((a1 + a2 + a3 + a4) + 256 * ((a2 + a3 + a4 + a5) + 256 * ((a3 + a4 + a5 + a6) + 256 * ((a4 + a5 + a6 + a7) + 256 * ((a5 + a6 + a7) + 256 * ((a6 + a7) + 256 * a7)))))) := h5.trans (k5_eq ..)
  clear h5
  rw [k5, d32 _ _ _ _ _ q0 q1 q2 q3] at h6
  have k6 : x6 = (a0 + a1 + a2 + a3 + a4 + a5 + a6 + a7) + 256 * ((a1 + a2 + a3 + a4 + a5 + a6 + a7) + 256 * ((a2 + a3 + a4 + a5 + a6 + a7) + 256 * ((a3 + a4 + a5 + a6 + a7) + 256 * ((a4 + a5 + a6 + a7) + 256 * ((a5 + a6 + a7) + 256 * ((a6 + a7) + 256 * a7)))))) := h6.trans (k6_eq ..)
  clear h6
  refine ⟨?_, ?_, ?_, ?_⟩
  · rw [k4]; exact nest_lt _ _ _ _ _ _ _ _ p0 p1 p2 p3 p4 p5 p6 p7
  · rw [k5]; exact nest_lt _ _ _ _ _ _ _ _ q0 q1 q2 q3 q4 q5 q6 q7
  · rw [k6]; exact nest_lt _ _ _ _ _ _ _ _ r0 r1 r2 r3 r4 r5 r6 r7
  · rw [k6]; exact mx _ _ t0
end Go.Avl
namespace Go.Avl
open Go Go.Proofs.Tryd
set_option maxRecDepth 10000
set_option linter.unusedSimpArgs false

/-! ### Words of bits -/
def bD (P : Nat → Bool) : Nat → Nat := fun i => (P i).toNat
def wrd (P : Nat → Bool) : Nat := dval 1 (bD P) 64
def cnt (P : Nat → Bool) (n : Nat) : Nat := dsum (bD P) n
theorem bD_le (P : Nat → Bool) (i : Nat) : bD P i ≤ 1 := by unfold bD; cases P i <;> decide
theorem wrd_lt (P : Nat → Bool) : wrd P < 18446744073709551616 := dval_lt (k := 1) (fun i => by have := bD_le P i; omega) 64
theorem wrapU {x : Nat} (h : x < 18446744073709551616) : IntKind.u64.wrap (x : Int) = x := by
  simp [IntKind.wrap, IntKind.bits, IntKind.signed]; omega
theorem wrapI {x : Nat} (h : x < 9223372036854775808) : IntKind.i64.wrap (x : Int) = x := by
  simp [IntKind.wrap, IntKind.bits, IntKind.signed]; omega
theorem shrU (x n : Nat) (hn : n ≤ 64) : shiftOf .shr .u64 (x : Int) n = ((x >>> n : Nat) : Int) := by
  have hm : min n IntKind.u64.bits = n := Nat.min_eq_left hn
  simp only [shiftOf, hm]
  rw [Nat.shiftRight_eq_div_pow, Int.natCast_ediv, Int.natCast_pow]
  exact Int.fdiv_eq_ediv_of_nonneg _ (by exact_mod_cast Nat.zero_le (2 ^ n))
theorem bvU {x : Nat} (h : x < 18446744073709551616) : (BitVec.ofInt IntKind.u64.bits (x : Int)).toNat = x := by
  show (BitVec.ofInt 64 (x : Int)).toNat = x
  rw [BitVec.ofInt_natCast, BitVec.toNat_ofNat]
  exact Nat.mod_eq_of_lt h
theorem andU {x y : Nat} (hx : x < 18446744073709551616) (hy : y < 18446744073709551616) : bitsOf .and .u64 (x : Int) (y : Int) = ((x &&& y : Nat) : Int) := by
  simp only [bitsOf]
  rw [BitVec.toNat_and, bvU hx, bvU hy]
  exact wrapU (Nat.lt_of_le_of_lt Nat.and_le_left hx)
theorem orU {x y : Nat} (hx : x < 18446744073709551616) (hy : y < 18446744073709551616) : bitsOf .or .u64 (x : Int) (y : Int) = ((x ||| y : Nat) : Int) := by
  simp only [bitsOf]
  rw [BitVec.toNat_or, bvU hx, bvU hy]
  exact wrapU (Nat.or_lt_two_pow (n := 64) hx hy)
theorem and127 {x : Nat} (hx : x < 9223372036854775808) : bitsOf .and .i64 (x : Int) 127 = ((x % 128 : Nat) : Int) := by
  have h1 : (BitVec.ofInt IntKind.i64.bits (x : Int)).toNat = x := bvU (by omega)
  have h2 : (BitVec.ofInt IntKind.i64.bits (127 : Int)).toNat = 127 := by decide
  simp only [bitsOf]
  rw [BitVec.toNat_and, h1, h2, Nat.and_two_pow_sub_one_eq_mod x 7]
  exact wrapI (by omega)
theorem val4_le : ∀ l : List Nat, (∀ d ∈ l, d ≤ 4) → 15 * val 4 l + 4 ≤ 4 * 2 ^ (4 * l.length)
  | [], _ => by decide
  | d :: l, hl => by
    have h1 := hl d List.mem_cons_self
    have h2 := val4_le l fun x hx => hl x (List.mem_cons_of_mem _ hx)
    simp only [val, List.length_cons]
    rw [show 4 * (l.length + 1) = 4 * l.length + 4 by omega, Nat.pow_add]
    generalize 2 ^ (4 * l.length) = q at *
    generalize val 4 l = v at *
    omega
theorem onesCount_is (P : Nat → Bool) : PureIs prog 67 [.sc (.int .u64 (wrd P : Nat))] (.sc (.int .i64 (cnt P 64 : Nat))) := by
  obtain ⟨m1, m2, m3⟩ := masks
  have h0 : ∀ i, bD P i < 2 ^ 1 := fun i => by have := bD_le P i; omega
  have b1 : ∀ i, up (bD P) i ≤ 2 := fun i => up_le (bD_le P) i
  have b2 : ∀ i, up (up (bD P)) i ≤ 4 := fun i => up_le b1 i
  have b3 : ∀ i, up (up (up (bD P))) i ≤ 8 := fun i => up_le b2 i
  have s1 : ((dval 1 (bD P) 64 >>> 1) &&& mask 1 32) + (dval 1 (bD P) 64 &&& mask 1 32) = dval 2 (up (bD P)) 32 := stepA (k := 1) h0 32
  have s2 : ((dval 2 (up (bD P)) 32 >>> 2) &&& mask 2 16) + (dval 2 (up (bD P)) 32 &&& mask 2 16) = dval 4 (up (up (bD P))) 16 := stepA (k := 2) (D := up (bD P)) (fun i => by have := b1 i; omega) 16
  have s3 : ((dval 4 (up (up (bD P))) 16 >>> 4) + dval 4 (up (up (bD P))) 16) &&& mask 4 8 = dval 8 (up (up (up (bD P)))) 8 := stepB (k := 4) (b := 4) (D := up (up (bD P))) b2 (by decide) 8
  rw [m1] at s1; rw [m2] at s2; rw [m3] at s3
  have l0 : dval 1 (bD P) 64 < 18446744073709551616 := wrd_lt P
  have l1 : dval 2 (up (bD P)) 32 < 18446744073709551616 := dval_lt (k := 2) (fun i => by have := b1 i; omega) 32
  have l2 : dval 4 (up (up (bD P))) 16 < 9223372036854775808 := by
    have := val4_le ((List.range 16).map (up (up (bD P)))) fun d hd => by
      obtain ⟨i, _, rfl⟩ := List.mem_map.1 hd
      exact b2 i
    rw [List.length_map, List.length_range] at this
    show val 4 _ < _
    omega
  have l3 : dval 8 (up (up (up (bD P)))) 8 < 18446744073709551616 := dval_lt (k := 8) (fun i => by have := b3 i; omega) 8
  have hsum : cnt P 64 = dsum (up (up (up (bD P)))) 8 := by rw [dsum_up, dsum_up, dsum_up]; rfl
  obtain ⟨q4, q5, q6, q7⟩ := bytes_sum b3 _ _ _ _ rfl rfl rfl rfl
  rw [hsum, ← q7]
  clear hsum q7 m1 m2 m3 b1 b2 b3 h0
  show PureIs prog 67 [.sc (.int .u64 (dval 1 (bD P) 64 : Nat))] _
  generalize dval 8 (up (up (up (bD P)))) 8 = x3 at *
  generalize dval 4 (up (up (bD P))) 16 = x2 at *
  generalize dval 2 (up (bD P)) 32 = x1 at *
  generalize dval 1 (bD P) 64 = x0 at *
  obtain ⟨X0, A1, B1, C1, X1, e0, e1, f1, f2, f3, f4⟩ : ∃ X0 A1 B1 C1 X1 : Int, X0 = (x0 : Int) ∧ X1 = (x1 : Int) ∧ shiftOf .shr .u64 X0 1 = A1 ∧ bitsOf .and .u64 A1 6148914691236517205 = B1 ∧ bitsOf .and .u64 X0 6148914691236517205 = C1 ∧ IntKind.u64.wrap (B1 + C1) = X1 :=
    ⟨_, _, _, _, _, rfl, rfl, shrU x0 1 (by decide), andU (y := 6148914691236517205) (Nat.lt_of_le_of_lt (Nat.shiftRight_le _ _) l0) (by decide), andU (y := 6148914691236517205) l0 (by decide), by rw [← Int.natCast_add, s1]; exact wrapU l1⟩
  obtain ⟨A2, B2, C2, X2, e2, f5, f6, f7, f8⟩ : ∃ A2 B2 C2 X2 : Int, X2 = (x2 : Int) ∧ shiftOf .shr .u64 X1 2 = A2 ∧ bitsOf .and .u64 A2 3689348814741910323 = B2 ∧ bitsOf .and .u64 X1 3689348814741910323 = C2 ∧ IntKind.u64.wrap (B2 + C2) = X2 := by
    subst e1
    exact ⟨_, _, _, _, rfl, shrU x1 2 (by decide), andU (y := 3689348814741910323) (Nat.lt_of_le_of_lt (Nat.shiftRight_le _ _) l1) (by decide), andU (y := 3689348814741910323) l1 (by decide), by rw [← Int.natCast_add, s2]; exact wrapU (by omega)⟩
  obtain ⟨A3, B3, X3, e3, f9, f10, f11⟩ : ∃ A3 B3 X3 : Int, X3 = (x3 : Int) ∧ shiftOf .shr .u64 X2 4 = A3 ∧ IntKind.u64.wrap (A3 + X2) = B3 ∧ bitsOf .and .u64 B3 1085102592571150095 = X3 := by
    subst e2
    have hs : x2 >>> 4 ≤ x2 := Nat.shiftRight_le _ _
    have hw : x2 >>> 4 + x2 < 18446744073709551616 := by omega
    exact ⟨_, ((x2 >>> 4 + x2 : Nat) : Int), _, rfl, shrU x2 4 (by decide), by rw [← Int.natCast_add]; exact wrapU hw, (andU (y := 1085102592571150095) hw (by decide)).trans (by rw [s3])⟩
  generalize hx4 : x3 + x3 >>> 8 = x4 at *
  generalize hx5 : x4 + x4 >>> 16 = x5 at *
  generalize hx6 : x5 + x5 >>> 32 = x6 at *
  obtain ⟨A4, X4, e4, f12, f13⟩ : ∃ A4 X4 : Int, X4 = (x4 : Int) ∧ shiftOf .shr .u64 X3 8 = A4 ∧ IntKind.u64.wrap (X3 + A4) = X4 := by
    subst e3
    exact ⟨_, _, rfl, shrU x3 8 (by decide), by rw [← Int.natCast_add, hx4]; exact wrapU (by omega)⟩
  obtain ⟨A5, X5, e5, f14, f15⟩ : ∃ A5 X5 : Int, X5 = (x5 : Int) ∧ shiftOf .shr .u64 X4 16 = A5 ∧ IntKind.u64.wrap (X4 + A5) = X5 := by
    subst e4
    exact ⟨_, _, rfl, shrU x4 16 (by decide), by rw [← Int.natCast_add, hx5]; exact wrapU (by omega)⟩
  obtain ⟨A6, X6, e6, f16, f17⟩ : ∃ A6 X6 : Int, X6 = (x6 : Int) ∧ shiftOf .shr .u64 X5 32 = A6 ∧ IntKind.u64.wrap (X5 + A6) = X6 := by
    subst e5
    exact ⟨_, _, rfl, shrU x5 32 (by decide), by rw [← Int.natCast_add, hx6]; exact wrapU (by omega)⟩
  rw [← e0]
  refine PureIs.of (nv := 1) (hid := [2]) func67 rfl (by kernel_rfl) (by simp [ntmps67]) fun _ => ?_
  rw [ntmps67, results67]
  refine EvC.seq (EvC.rg (by (simp only [go_sem]) <;> rfl) (by simp) ?_)
  refine EvC.seq (EvC.rg (by (simp only [go_sem, f1, f2, f3, f4]) <;> rfl) (by simp) ?_)
  refine EvC.seq (EvC.rg (by (simp only [go_sem, f5, f6, f7, f8]) <;> rfl) (by simp) ?_)
  refine EvC.seq (EvC.rg (by (simp only [go_sem, f9, f10, f11]) <;> rfl) (by simp) ?_)
  refine EvC.seq (EvC.rg (by (simp only [go_sem, f12, f13]) <;> rfl) (by simp) ?_)
  refine EvC.seq (EvC.rg (by (simp only [go_sem, f14, f15]) <;> rfl) (by simp) ?_)
  refine EvC.seq (EvC.rg (by (simp only [go_sem, f16, f17]) <;> rfl) (by simp) ?_)
  have f18 : bitsOf .and .i64 X6 127 = ((x6 % 128 : Nat) : Int) := by rw [e6]; exact and127 (by omega)
  refine EvC.seq (EvC.rg (by (simp only [go_sem, f18]) <;> rfl) (by exact inI64_of (by omega) (by omega)) ?_)
  refine EvC.ret ⟨.inl rfl, _, (by (simp only [go_sem]) <;> rfl), ?_, rfl⟩
  simp only [go_sem]
end Go.Avl
namespace Go.Avl
open Go Go.Proofs.Tryd
set_option maxRecDepth 10000
set_option linter.unusedSimpArgs false

/-! ### Sets of numbers below 256 -/
theorem val_or (f g h : Nat → Nat) (hf : ∀ i, f i ≤ 1) (hg : ∀ i, g i ≤ 1) (hh : ∀ i, f i ||| g i = h i) : ∀ l : List Nat, val 1 (l.map f) ||| val 1 (l.map g) = val 1 (l.map h)
  | [] => by simp [val]
  | i :: l => by
    have h1 := hf i; have h2 := hg i
    simp only [List.map_cons, val]
    rw [or_split (by omega) (by omega), val_or f g h hf hg hh l, hh i]
theorem bD_or (P Q : Nat → Bool) (i : Nat) : bD P i ||| bD Q i = bD (fun k => P k || Q k) i := by
  unfold bD
  simp only
  generalize P i = a
  generalize Q i = b
  revert a b
  decide
theorem wrd_or (P Q : Nat → Bool) : wrd P ||| wrd Q = wrd fun k => P k || Q k := val_or _ _ _ (bD_le P) (bD_le Q) (bD_or P Q) _
theorem wrd_bit : ∀ j : Fin 64, wrd (fun b => b == j.1) = 2 ^ j.1 := by decide +kernel
/-- The words of a set. -/
def setW (P : Nat → Bool) (k : Nat) : Nat := wrd fun b => P (64 * k + b)
def setC (P : Nat → Bool) : List AV := [.sc (.int .u64 (setW P 0 : Nat)), .sc (.int .u64 (setW P 1 : Nat)), .sc (.int .u64 (setW P 2 : Nat)), .sc (.int .u64 (setW P 3 : Nat))]
theorem setW_or (P Q : Nat → Bool) (k : Nat) : bitsOf .or .u64 (setW P k : Nat) (setW Q k : Nat) = ((setW (fun n => P n || Q n) k : Nat) : Int) := by
  unfold setW
  rw [orU (wrd_lt _) (wrd_lt _), wrd_or]

theorem with_is (P Q : Nat → Bool) : PureIs prog 43 [.ag (setC P), .ag (setC Q)] (.ag (setC fun n => P n || Q n)) := by
  have o0 := setW_or P Q 0
  have o1 := setW_or P Q 1
  have o2 := setW_or P Q 2
  have o3 := setW_or P Q 3
  unfold setC
  generalize ((setW (fun n => P n || Q n) 0 : Nat) : Int) = r0 at *
  generalize ((setW (fun n => P n || Q n) 1 : Nat) : Int) = r1 at *
  generalize ((setW (fun n => P n || Q n) 2 : Nat) : Int) = r2 at *
  generalize ((setW (fun n => P n || Q n) 3 : Nat) : Int) = r3 at *
  generalize ((setW P 0 : Nat) : Int) = p0 at *
  generalize ((setW P 1 : Nat) : Int) = p1 at *
  generalize ((setW P 2 : Nat) : Int) = p2 at *
  generalize ((setW P 3 : Nat) : Int) = p3 at *
  generalize ((setW Q 0 : Nat) : Int) = q0 at *
  generalize ((setW Q 1 : Nat) : Int) = q1 at *
  generalize ((setW Q 2 : Nat) : Int) = q2 at *
  generalize ((setW Q 3 : Nat) : Int) = q3 at *
  have c2 : ((2 : Nat) : Int) = 2 := rfl
  have c3 : ((3 : Nat) : Int) = 3 := rfl
  have c4 : ((4 : Nat) : Int) = 4 := rfl
  refine PureIs.of (nv := 2) (hid := [2, 3, 4, 5, 6, 7]) func43 rfl (by kernel_rfl) (by simp [ntmps43]) fun _ => ?_
  rw [ntmps43, results43]
  refine EvC.seq (EvC.rg (by (simp only [go_sem]) <;> rfl) (by simp) ?_)
  refine EvC.seq ?_
  refine EvC.seq (EvC.rg (by (simp only [go_sem]) <;> rfl) (by simp) ?_)
  refine EvC.block ?_  -- 0
  refine EvC.loopS (σ := Nat) (fun k => ⟨[(2, .rf 0 0), (3, .rf 1 0), (4, .rf 2 0), (6, .sc (.int .i64 k))], [], [(0, .cells [.sc (.int .u64 (if 0 < k then r0 else p0)), .sc (.int .u64 (if 1 < k then r1 else p1)), .sc (.int .u64 (if 2 < k then r2 else p2)), .sc (.int .u64 (if 3 < k then r3 else p3))]), (1, .cells [.sc (.int .u64 q0), .sc (.int .u64 q1), .sc (.int .u64 q2), .sc (.int .u64 q3)]), (2, .cells [.sc (.int .u64 0), .sc (.int .u64 0), .sc (.int .u64 0), .sc (.int .u64 0)])], 3⟩) (fun k => 4 - k) (fun k => k ≤ 4) [2, 3, 4, 6] 3 ?_ ?_
  · exact ⟨[(0, 0), (1, 1), (2, 2)], 0, rfl, (by (simp only [go_sem, Int.natCast_zero]) <;> rfl), Nat.zero_le _⟩
  intro k hk
  have hk : k = 0 ∨ k = 1 ∨ k = 2 ∨ k = 3 ∨ k = 4 := by omega
  rcases hk with rfl | rfl | rfl | rfl | rfl
  · refine EvC.seq (EvC.rg (by (simp only [go_sem, c2, c3, c4, Int.natCast_zero, Int.natCast_one]) <;> rfl) (by simp) ?_)
    refine EvC.seq ?_
    refine EvC.cond_true (by (simp only [go_sem]) <;> rfl) ?_
    refine EvC.skip ?_
    refine EvC.seq ?_
    refine EvC.block ?_  -- 1
    refine EvC.seq (EvC.rg (by (simp only [go_sem]) <;> rfl) (by simp) ?_)
    apply EvC.drd mixed
    · (simp only [go_sem, o0, c2, c3, c4, Int.natCast_zero, Int.natCast_one, List.set_cons_zero, List.set_cons_succ]) <;> rfl
    · simp
    · kernel_rfl
    refine EvC.rg (by (simp only [go_sem]) <;> rfl) (by exact inI64_of (by decide) (by decide)) ?_
    exact ⟨[(0, 0), (1, 1), (2, 2)], 1, rfl, (by (simp only [go_sem, c2, c3, c4, Int.natCast_one]) <;> rfl), by omega, by omega⟩
  · refine EvC.seq (EvC.rg (by (simp only [go_sem, c2, c3, c4, Int.natCast_zero, Int.natCast_one]) <;> rfl) (by simp) ?_)
    refine EvC.seq ?_
    refine EvC.cond_true (by (simp only [go_sem]) <;> rfl) ?_
    refine EvC.skip ?_
    refine EvC.seq ?_
    refine EvC.block ?_  -- 1
    refine EvC.seq (EvC.rg (by (simp only [go_sem]) <;> rfl) (by simp) ?_)
    apply EvC.drd mixed
    · (simp only [go_sem, o1, c2, c3, c4, Int.natCast_zero, Int.natCast_one, List.set_cons_zero, List.set_cons_succ]) <;> rfl
    · simp
    · kernel_rfl
    refine EvC.rg (by (simp only [go_sem]) <;> rfl) (by exact inI64_of (by decide) (by decide)) ?_
    exact ⟨[(0, 0), (1, 1), (2, 2)], 2, rfl, (by (simp only [go_sem, c2, c3, c4, Int.natCast_one]) <;> rfl), by omega, by omega⟩
  · refine EvC.seq (EvC.rg (by (simp only [go_sem, c2, c3, c4, Int.natCast_zero, Int.natCast_one]) <;> rfl) (by simp) ?_)
    refine EvC.seq ?_
    refine EvC.cond_true (by (simp only [go_sem]) <;> rfl) ?_
    refine EvC.skip ?_
    refine EvC.seq ?_
    refine EvC.block ?_  -- 1
    refine EvC.seq (EvC.rg (by (simp only [go_sem]) <;> rfl) (by simp) ?_)
    apply EvC.drd mixed
    · (simp only [go_sem, o2, c2, c3, c4, Int.natCast_zero, Int.natCast_one, List.set_cons_zero, List.set_cons_succ]) <;> rfl
    · simp
    · kernel_rfl
    refine EvC.rg (by (simp only [go_sem]) <;> rfl) (by exact inI64_of (by decide) (by decide)) ?_
    exact ⟨[(0, 0), (1, 1), (2, 2)], 3, rfl, (by (simp only [go_sem, c2, c3, c4, Int.natCast_one]) <;> rfl), by omega, by omega⟩
  · refine EvC.seq (EvC.rg (by (simp only [go_sem, c2, c3, c4, Int.natCast_zero, Int.natCast_one]) <;> rfl) (by simp) ?_)
    refine EvC.seq ?_
    refine EvC.cond_true (by (simp only [go_sem]) <;> rfl) ?_
    refine EvC.skip ?_
    refine EvC.seq ?_
    refine EvC.block ?_  -- 1
    refine EvC.seq (EvC.rg (by (simp only [go_sem]) <;> rfl) (by simp) ?_)
    apply EvC.drd mixed
    · (simp only [go_sem, o3, c2, c3, c4, Int.natCast_zero, Int.natCast_one, List.set_cons_zero, List.set_cons_succ]) <;> rfl
    · simp
    · kernel_rfl
    refine EvC.rg (by (simp only [go_sem]) <;> rfl) (by exact inI64_of (by decide) (by decide)) ?_
    exact ⟨[(0, 0), (1, 1), (2, 2)], 4, rfl, (by (simp only [go_sem, c2, c3, c4, Int.natCast_one]) <;> rfl), by omega, by omega⟩
  · refine EvC.seq (EvC.rg (by (simp only [go_sem, c2, c3, c4]) <;> rfl) (by simp) ?_)
    refine EvC.seq ?_
    refine EvC.cond_false (by (simp only [go_sem]) <;> rfl) ?_
    refine EvC.exit ?_  -- 0
    refine EvC.seq (EvC.rg (by (simp only [go_sem]) <;> rfl) (by simp) ?_)
    refine EvC.ret ⟨.inl rfl, _, (by (simp only [go_sem]) <;> rfl), ?_, rfl⟩
    simp only [go_sem]
end Go.Avl
namespace Go.Avl
open Go Go.Proofs.Tryd
set_option maxRecDepth 10000
set_option linter.unusedSimpArgs false

theorem dsum_add (D : Nat → Nat) (a : Nat) : ∀ b, dsum D (a + b) = dsum D a + dsum (fun i => D (a + i)) b
  | 0 => rfl
  | b + 1 => by
    rw [← Nat.add_assoc]
    simp only [dsum]
    rw [dsum_add D a b]; omega
theorem cnt_words (P : Nat → Bool) : cnt P 256 = cnt (fun b => P (64 * 0 + b)) 64 + cnt (fun b => P (64 * 1 + b)) 64 + cnt (fun b => P (64 * 2 + b)) 64 + cnt (fun b => P (64 * 3 + b)) 64 := by
  unfold cnt
  rw [show (256 : Nat) = 64 + 64 + 64 + 64 by rfl, dsum_add, dsum_add, dsum_add]
  have e : (bD fun b => P (64 * 0 + b)) = bD P := by funext i; simp [bD]
  rw [e]; rfl
theorem cnt_le (P : Nat → Bool) : ∀ n, cnt P n ≤ n
  | 0 => Nat.le_refl _
  | n + 1 => by
    have := cnt_le P n
    have := bD_le P n
    unfold cnt at *
    simp only [dsum]; omega

theorem count_is (P : Nat → Bool) : PureIs prog 45 [.ag (setC P)] (.sc (.int .i64 (cnt P 256 : Nat))) := by
  have hs := cnt_words P
  have p0 := onesCount_is fun b => P (64 * 0 + b)
  have p1 := onesCount_is fun b => P (64 * 1 + b)
  have p2 := onesCount_is fun b => P (64 * 2 + b)
  have p3 := onesCount_is fun b => P (64 * 3 + b)
  have l0 := cnt_le (fun b => P (64 * 0 + b)) 64
  have l1 := cnt_le (fun b => P (64 * 1 + b)) 64
  have l2 := cnt_le (fun b => P (64 * 2 + b)) 64
  have l3 := cnt_le (fun b => P (64 * 3 + b)) 64
  rw [hs]
  clear hs
  unfold setC setW
  generalize ((wrd fun b => P (64 * 0 + b) : Nat) : Int) = w0 at *
  generalize ((wrd fun b => P (64 * 1 + b) : Nat) : Int) = w1 at *
  generalize ((wrd fun b => P (64 * 2 + b) : Nat) : Int) = w2 at *
  generalize ((wrd fun b => P (64 * 3 + b) : Nat) : Int) = w3 at *
  generalize cnt (fun b => P (64 * 0 + b)) 64 = n0 at *
  generalize cnt (fun b => P (64 * 1 + b)) 64 = n1 at *
  generalize cnt (fun b => P (64 * 2 + b)) 64 = n2 at *
  generalize cnt (fun b => P (64 * 3 + b)) 64 = n3 at *
  obtain ⟨c0, c1, c2, c3, s1, s2, s3, s4, d0, d1, d2, d3, e0, e1, e2, e3⟩ : ∃ c0 c1 c2 c3 s1 s2 s3 s4 : Int, c0 = (n0 : Int) ∧ c1 = (n1 : Int) ∧ c2 = (n2 : Int) ∧ c3 = (n3 : Int) ∧ 0 + c0 = s1 ∧ s1 + c1 = s2 ∧ s2 + c2 = s3 ∧ s3 + c3 = s4 := ⟨_, _, _, _, _, _, _, _, rfl, rfl, rfl, rfl, rfl, rfl, rfl, rfl⟩
  have hres : ((n0 + n1 + n2 + n3 : Nat) : Int) = s4 := by omega
  rw [hres]
  rw [← d0] at p0
  rw [← d1] at p1
  rw [← d2] at p2
  rw [← d3] at p3
  have k2 : ((2 : Nat) : Int) = 2 := rfl
  have k3 : ((3 : Nat) : Int) = 3 := rfl
  have k4 : ((4 : Nat) : Int) = 4 := rfl
  refine PureIs.of (nv := 4) (hid := [5, 6, 7, 8]) func45 rfl (by kernel_rfl) (by simp [ntmps45]) fun _ => ?_
  rw [ntmps45, results45]
  refine EvC.seq (EvC.rg (by (simp only [go_sem]) <;> rfl) (by simp) ?_)
  refine EvC.frzB 0 (by (simp only [go_sem]) <;> rfl) ?_
  refine EvC.seq (EvC.rg (by (simp only [go_sem]) <;> rfl) (by simp) ?_)
  refine EvC.seq ?_
  refine EvC.seq (EvC.rg (by (simp only [go_sem]) <;> rfl) (by simp) ?_)
  refine EvC.block ?_  -- 0
  refine EvC.loopS (σ := Nat) (fun k => ⟨[(3, .sc (.int .i64 (if k = 0 then 0 else if k = 1 then s1 else if k = 2 then s2 else if k = 3 then s3 else s4))), (6, .ag [.sc (.int .u64 w0), .sc (.int .u64 w1), .sc (.int .u64 w2), .sc (.int .u64 w3)]), (7, .sc (.int .i64 k))], [], [], 0⟩) (fun k => 4 - k) (fun k => k ≤ 4) [3, 6, 7] 0 ?_ ?_
  · exact ⟨[], 0, rfl, (by (simp only [go_sem, Int.natCast_zero]) <;> rfl), Nat.zero_le _⟩
  intro k hk
  have hk : k = 0 ∨ k = 1 ∨ k = 2 ∨ k = 3 ∨ k = 4 := by omega
  rcases hk with rfl | rfl | rfl | rfl | rfl
  · refine EvC.seq (EvC.rg (by (simp only [go_sem, k2, k3, k4, Int.natCast_zero, Int.natCast_one]) <;> rfl) (by simp) ?_)
    refine EvC.seq ?_
    refine EvC.cond_true (by (simp only [go_sem]) <;> rfl) ?_
    refine EvC.skip ?_
    refine EvC.seq ?_
    refine EvC.block ?_  -- 1
    refine EvC.seq (EvC.rg (by (simp only [go_sem, k2, k3, k4, Int.natCast_zero, Int.natCast_one]) <;> rfl) (by simp) ?_)
    apply EvC.tr
    · apply Tr.run
      · (simp only [go_sem]) <;> rfl
      · simp
      apply Tr.cons
      · exact .call rfl rfl (by (simp only [go_sem]) <;> rfl) (by (simp only [go_sem]) <;> rfl) (by (simp only [go_sem]) <;> rfl) (by (simp only [go_sem]) <;> rfl) (by (simp only [go_sem]) <;> rfl) (p0)
      apply Tr.done
      · (simp only [go_sem, e0]) <;> rfl
      · exact inI64_of (by omega) (by omega)
    refine EvC.rg (by (simp only [go_sem]) <;> rfl) (by exact inI64_of (by decide) (by decide)) ?_
    exact ⟨[], 1, rfl, (by (simp only [go_sem, k2, k3, k4, Int.natCast_one]) <;> rfl), by omega, by omega⟩
  · refine EvC.seq (EvC.rg (by (simp only [go_sem, k2, k3, k4, Int.natCast_zero, Int.natCast_one]) <;> rfl) (by simp) ?_)
    refine EvC.seq ?_
    refine EvC.cond_true (by (simp only [go_sem]) <;> rfl) ?_
    refine EvC.skip ?_
    refine EvC.seq ?_
    refine EvC.block ?_  -- 1
    refine EvC.seq (EvC.rg (by (simp only [go_sem, k2, k3, k4, Int.natCast_zero, Int.natCast_one]) <;> rfl) (by simp) ?_)
    apply EvC.tr
    · apply Tr.run
      · (simp only [go_sem]) <;> rfl
      · simp
      apply Tr.cons
      · exact .call rfl rfl (by (simp only [go_sem]) <;> rfl) (by (simp only [go_sem]) <;> rfl) (by (simp only [go_sem]) <;> rfl) (by (simp only [go_sem]) <;> rfl) (by (simp only [go_sem]) <;> rfl) (p1)
      apply Tr.done
      · (simp only [go_sem, e1]) <;> rfl
      · exact inI64_of (by omega) (by omega)
    refine EvC.rg (by (simp only [go_sem]) <;> rfl) (by exact inI64_of (by decide) (by decide)) ?_
    exact ⟨[], 2, rfl, (by (simp only [go_sem, k2, k3, k4, Int.natCast_one]) <;> rfl), by omega, by omega⟩
  · refine EvC.seq (EvC.rg (by (simp only [go_sem, k2, k3, k4, Int.natCast_zero, Int.natCast_one]) <;> rfl) (by simp) ?_)
    refine EvC.seq ?_
    refine EvC.cond_true (by (simp only [go_sem]) <;> rfl) ?_
    refine EvC.skip ?_
    refine EvC.seq ?_
    refine EvC.block ?_  -- 1
    refine EvC.seq (EvC.rg (by (simp only [go_sem, k2, k3, k4, Int.natCast_zero, Int.natCast_one]) <;> rfl) (by simp) ?_)
    apply EvC.tr
    · apply Tr.run
      · (simp only [go_sem]) <;> rfl
      · simp
      apply Tr.cons
      · exact .call rfl rfl (by (simp only [go_sem]) <;> rfl) (by (simp only [go_sem]) <;> rfl) (by (simp only [go_sem]) <;> rfl) (by (simp only [go_sem]) <;> rfl) (by (simp only [go_sem]) <;> rfl) (p2)
      apply Tr.done
      · (simp only [go_sem, e2]) <;> rfl
      · exact inI64_of (by omega) (by omega)
    refine EvC.rg (by (simp only [go_sem]) <;> rfl) (by exact inI64_of (by decide) (by decide)) ?_
    exact ⟨[], 3, rfl, (by (simp only [go_sem, k2, k3, k4, Int.natCast_one]) <;> rfl), by omega, by omega⟩
  · refine EvC.seq (EvC.rg (by (simp only [go_sem, k2, k3, k4, Int.natCast_zero, Int.natCast_one]) <;> rfl) (by simp) ?_)
    refine EvC.seq ?_
    refine EvC.cond_true (by (simp only [go_sem]) <;> rfl) ?_
    refine EvC.skip ?_
    refine EvC.seq ?_
    refine EvC.block ?_  -- 1
    refine EvC.seq (EvC.rg (by (simp only [go_sem, k2, k3, k4, Int.natCast_zero, Int.natCast_one]) <;> rfl) (by simp) ?_)
    apply EvC.tr
    · apply Tr.run
      · (simp only [go_sem]) <;> rfl
      · simp
      apply Tr.cons
      · exact .call rfl rfl (by (simp only [go_sem]) <;> rfl) (by (simp only [go_sem]) <;> rfl) (by (simp only [go_sem]) <;> rfl) (by (simp only [go_sem]) <;> rfl) (by (simp only [go_sem]) <;> rfl) (p3)
      apply Tr.done
      · (simp only [go_sem, e3]) <;> rfl
      · exact inI64_of (by omega) (by omega)
    refine EvC.rg (by (simp only [go_sem]) <;> rfl) (by exact inI64_of (by decide) (by decide)) ?_
    exact ⟨[], 4, rfl, (by (simp only [go_sem, k2, k3, k4, Int.natCast_one]) <;> rfl), by omega, by omega⟩
  · refine EvC.seq (EvC.rg (by (simp only [go_sem, k2, k3, k4]) <;> rfl) (by simp) ?_)
    refine EvC.seq ?_
    refine EvC.cond_false (by (simp only [go_sem]) <;> rfl) ?_
    refine EvC.exit ?_  -- 0
    refine EvC.seq (EvC.rg (by (simp only [go_sem]) <;> rfl) (by simp) ?_)
    refine EvC.ret ⟨.inl rfl, _, (by (simp only [go_sem]) <;> rfl), ?_, rfl⟩
    simp only [go_sem]
end Go.Avl
namespace Go.Avl
open Go Go.Proofs.Tryd
set_option maxRecDepth 10000
set_option linter.unusedSimpArgs false

theorem wrd_bit' (j : Nat) (h : j < 64) : wrd (fun b => b == j) = 2 ^ j := wrd_bit ⟨j, h⟩
theorem wrd_congr {P Q : Nat → Bool} (h : ∀ b, b < 64 → P b = Q b) : wrd P = wrd Q := by
  unfold wrd dval
  congr 1
  refine List.map_congr_left fun b hb => ?_
  unfold bD
  rw [h b (List.mem_range.1 hb)]
/-- One number more. -/
def put1 (P : Nat → Bool) (m : Nat) : Nat → Bool := fun k => P k || k == m
theorem setW_same (P : Nat → Bool) {m w : Nat} (h : m / 64 ≠ w) : setW (put1 P m) w = setW P w := by
  refine wrd_congr fun b hb => ?_
  have : (64 * w + b == m) = false := by
    rw [beq_eq_false_iff_ne]; omega
  simp [put1, this]
theorem setW_put (P : Nat → Bool) {m w : Nat} (h : m / 64 = w) : bitsOf .or .u64 (setW P w : Nat) ((2 ^ (m % 64) : Nat) : Int) = ((setW (put1 P m) w : Nat) : Int) := by
  have e : ((2 ^ (m % 64) : Nat) : Int) = ((wrd (fun b => b == m % 64) : Nat) : Int) := congrArg _ (wrd_bit' _ (Nat.mod_lt _ (by decide))).symm
  have h1 : (fun b => P (64 * w + b) || (b == m % 64)) = fun b => put1 P m (64 * w + b) := by
    funext b
    have : (b == m % 64) = (64 * w + b == m) := by
      rw [Bool.eq_iff_iff, beq_iff_eq, beq_iff_eq]; omega
    simp only [put1, this]
  rw [e]
  unfold setW
  generalize hQ : (fun b => b == m % 64) = Q
  rw [orU (wrd_lt _) (wrd_lt _), wrd_or, ← h1, ← hQ]
theorem shlU (B : Nat) (h : B < 64) : shiftOf .shl .u64 1 B = ((2 ^ B : Nat) : Int) := by
  have : ∀ B : Fin 64, shiftOf .shl .u64 1 B.1 = ((2 ^ B.1 : Nat) : Int) := by decide +kernel
  exact this ⟨B, h⟩
/-- The numbers of a list. -/
def inL (ks : List Int) : Nat → Bool := fun k => ks.contains (k : Int)
theorem inL_snoc (ks : List Int) (n : Int) (h : 0 ≤ n) : inL (ks ++ [n]) = put1 (inL ks) n.toNat := by
  funext k
  have : ((k : Int) == n) = (k == n.toNat) := by rw [Bool.eq_iff_iff, beq_iff_eq, beq_iff_eq]; omega
  simp only [inL, put1, List.contains_eq_any_beq, List.any_append, List.any_cons, List.any_nil, Bool.or_false, this]
theorem inL_nil : setC (inL []) = [.sc (.int .u64 0), .sc (.int .u64 0), .sc (.int .u64 0), .sc (.int .u64 0)] := by
  have : ∀ k, setW (inL []) k = 0 := fun k => by
    have h : setW (inL []) k = wrd fun _ => false := wrd_congr fun b _ => rfl
    rw [h]; decide +kernel
  unfold setC
  rw [this, this, this, this]; rfl

set_option maxHeartbeats 4000000 in
theorem of_is (nl : Bool) (ks : List Int) (c : Cp) (hl : ks.length < 1000000) (hk : ∀ n ∈ ks, 0 ≤ n ∧ n < 256) : PureIs prog 44 [.sl nl (ks.map intC) c] (.ag (setC (inL ks))) := by
  refine PureIs.of (nv := 1) (hid := [2, 4, 5, 6, 7, 8]) func44 rfl (by kernel_rfl) (by simp [ntmps44]) fun _ => ?_
  rw [ntmps44, results44]
  refine EvC.seq (EvC.rg (by (simp only [go_sem]) <;> rfl) (by simp) ?_)
  refine EvC.seq ?_
  refine EvC.seq (EvC.rg (by (simp only [go_sem, List.length_map]) <;> rfl) (by simp) ?_)
  refine EvC.block ?_  -- 0
  refine EvC.loopS (σ := Nat) (fun i => ⟨[(2, .rf 0 0), (5, .sl nl (ks.map intC) c), (6, .sc (.int .i64 ks.length)), (7, .sc (.int .i64 i))], [], [(0, .cells (setC (inL (ks.take i))))], 1⟩) (fun i => ks.length - i) (fun i => i ≤ ks.length) [2, 5, 6, 7] 1 ?_ ?_
  · exact ⟨[(0, 0)], 0, rfl, (by rw [List.take_zero, inL_nil]; (simp only [go_sem, Int.natCast_zero]) <;> rfl), Nat.zero_le _⟩
  intro i hi
  refine EvC.seq (EvC.rg (by (simp only [go_sem]) <;> rfl) (by simp) ?_)
  refine EvC.seq ?_
  refine EvC.cond (by (simp only [go_sem]) <;> rfl) (fun hc => ?_) (fun hc => ?_)
  rotate_left
  · -- else
    refine EvC.exit ?_  -- 0
    obtain rfl : ks.length = i := by have : ¬ i < ks.length := by simpa using hc
                                     omega
    rw [List.take_length]
    refine EvC.seq (EvC.rg (by (simp only [go_sem, setC]) <;> rfl) (by simp) ?_)
    refine EvC.ret ⟨.inl rfl, _, (by (simp only [go_sem]) <;> rfl), ?_, rfl⟩
    simp only [go_sem]
    rfl
  have hil : i < ks.length := by simpa using hc
  clear hc
  have he : ks[i]? = some (ks[i]'hil) := List.getElem?_eq_getElem hil
  have hn := hk _ (List.getElem_mem hil)
  have htk : ks.take (i + 1) = ks.take i ++ [ks[i]'hil] := List.take_succ_eq_append_getElem hil
  have hP := inL_snoc (ks.take i) (ks[i]'hil) hn.1
  rw [← htk] at hP
  clear htk
  generalize ks[i]'hil = n at he hn hP
  refine EvC.skip ?_
  refine EvC.seq ?_
  refine EvC.block ?_  -- 1
  refine EvC.seq (EvC.rg (by (simp only [go_sem, he, intC]) <;> rfl) (by simp) ?_)
  obtain ⟨m, hm⟩ : ∃ m : Nat, (m : Int) = n := ⟨n.toNat, by omega⟩
  have hmt : n.toNat = m := by omega
  rw [hmt] at hP
  obtain ⟨B, hB⟩ : ∃ B : Int, B = n % 64 := ⟨_, rfl⟩
  have hBb : 0 ≤ B ∧ B < 64 := by omega
  have hBt : B.toNat = m % 64 := by omega
  have hsh : shiftOf .shl .u64 1 B.toNat = ((2 ^ (m % 64) : Nat) : Int) := by rw [hBt]; exact shlU _ (Nat.mod_lt _ (by decide))
  have hq := @setW_put (inL (ks.take i)) m
  have hs := @setW_same (inL (ks.take i)) m
  have hsC : setC (inL (ks.take (i + 1))) = setC (put1 (inL (ks.take i)) m) := by rw [hP]
  have hnq : n / 64 = ((m / 64 : Nat) : Int) := by omega
  have hI : inI64 (n / 64) = true := inI64_of (by omega) (by omega)
  generalize ((2 ^ (m % 64) : Nat) : Int) = V at hsh hq
  have hw : m / 64 = 0 ∨ m / 64 = 1 ∨ m / 64 = 2 ∨ m / 64 = 3 := by omega
  rcases hw with hw | hw | hw | hw
  · have g := hq hw
    have g1 := hs (w := 1) (by omega)
    have g2 := hs (w := 2) (by omega)
    have g3 := hs (w := 3) (by omega)
    have hn64 : n / 64 = 0 := by omega
    rw [hn64] at hI
    unfold setC at hsC ⊢
    rw [g1, g2, g3] at hsC
    generalize ((setW (put1 (inL (ks.take i)) m) 0 : Nat) : Int) = r at g hsC
    apply EvC.drd mixed
    · (simp only [go_sem, hn64, ← hB, hsh, g, List.set_cons_zero, List.set_cons_succ]) <;> rfl
    · simp [hI]; try omega
    · kernel_rfl
    refine EvC.rg (by (simp only [go_sem]) <;> rfl) (by exact inI64_of (by omega) (by omega)) ?_
    exact ⟨[(0, 0)], i + 1, rfl, (by (simp only [go_sem, hsC, Int.natCast_add, Int.natCast_one]) <;> rfl), hil, by omega⟩
  · have g := hq hw
    have g0 := hs (w := 0) (by omega)
    have g2 := hs (w := 2) (by omega)
    have g3 := hs (w := 3) (by omega)
    have hn64 : n / 64 = 1 := by omega
    rw [hn64] at hI
    unfold setC at hsC ⊢
    rw [g0, g2, g3] at hsC
    generalize ((setW (put1 (inL (ks.take i)) m) 1 : Nat) : Int) = r at g hsC
    apply EvC.drd mixed
    · (simp only [go_sem, hn64, ← hB, hsh, g, List.set_cons_zero, List.set_cons_succ]) <;> rfl
    · simp [hI]; try omega
    · kernel_rfl
    refine EvC.rg (by (simp only [go_sem]) <;> rfl) (by exact inI64_of (by omega) (by omega)) ?_
    exact ⟨[(0, 0)], i + 1, rfl, (by (simp only [go_sem, hsC, Int.natCast_add, Int.natCast_one]) <;> rfl), hil, by omega⟩
  · have g := hq hw
    have g0 := hs (w := 0) (by omega)
    have g1 := hs (w := 1) (by omega)
    have g3 := hs (w := 3) (by omega)
    have hn64 : n / 64 = 2 := by omega
    rw [hn64] at hI
    unfold setC at hsC ⊢
    rw [g0, g1, g3] at hsC
    generalize ((setW (put1 (inL (ks.take i)) m) 2 : Nat) : Int) = r at g hsC
    apply EvC.drd mixed
    · (simp only [go_sem, hn64, ← hB, hsh, g, List.set_cons_zero, List.set_cons_succ]) <;> rfl
    · simp [hI]; try omega
    · kernel_rfl
    refine EvC.rg (by (simp only [go_sem]) <;> rfl) (by exact inI64_of (by omega) (by omega)) ?_
    exact ⟨[(0, 0)], i + 1, rfl, (by (simp only [go_sem, hsC, Int.natCast_add, Int.natCast_one]) <;> rfl), hil, by omega⟩
  · have g := hq hw
    have g0 := hs (w := 0) (by omega)
    have g1 := hs (w := 1) (by omega)
    have g2 := hs (w := 2) (by omega)
    have hn64 : n / 64 = 3 := by omega
    rw [hn64] at hI
    unfold setC at hsC ⊢
    rw [g0, g1, g2] at hsC
    generalize ((setW (put1 (inL (ks.take i)) m) 3 : Nat) : Int) = r at g hsC
    apply EvC.drd mixed
    · (simp only [go_sem, hn64, ← hB, hsh, g, List.set_cons_zero, List.set_cons_succ]) <;> rfl
    · simp [hI]; try omega
    · kernel_rfl
    refine EvC.rg (by (simp only [go_sem]) <;> rfl) (by exact inI64_of (by omega) (by omega)) ?_
    exact ⟨[(0, 0)], i + 1, rfl, (by (simp only [go_sem, hsC, Int.natCast_add, Int.natCast_one]) <;> rfl), hil, by omega⟩
end Go.Avl
namespace Go.Avl
open Go Go.Proofs.Tryd
set_option maxRecDepth 10000
set_option linter.unusedSimpArgs false

/-! ### Items -/
structure Item where
  cost : Int
  nl : Bool
  kills : List Int
def itemC (x : Item) : List AV := [.sc (.int .i64 x.cost), .sl x.nl (x.kills.map intC) .unk]
@[go_sem] theorem norefs_items (l : List Item) : (l.map itemC).all AV.norefs = true := by simp [List.all_eq_true, itemC, AV.norefs, AV.noref]
/-- Some number is not one, or not greater than the one ahead of it. -/
def killBad : Option Int → List Int → Bool
  | _, [] => false
  | p, n :: r => (decide (n < 0) || decide (256 ≤ n) || (match p with | none => false | some q => decide (n ≤ q))) || killBad (some n) r
def costBad (x : Item) : Bool := decide (x.cost < 1) || decide (1000000 < x.cost)
def itemBad (x : Item) : Bool := costBad x || killBad none x.kills
def checkI (l : List Item) : Int := if 256 < l.length then 3 else if l.any itemBad = true then 1 else 0
theorem checkI_bad {l : List Item} (h : ¬ (256 < l.length)) (h1 : l.any itemBad = true) : checkI l = 1 := by rw [checkI, if_neg h, if_pos h1]
theorem checkI_ok {l : List Item} (h : ¬ (256 < l.length)) (h1 : l.any itemBad = false) : checkI l = 0 := by rw [checkI, if_neg h, if_neg (by simp [h1])]
/-- The number ahead. -/
def prevK (ks : List Int) : Nat → Option Int
  | 0 => none
  | i + 1 => ks[i]?
theorem killBad_step {ks : List Int} {i : Nat} {n : Int} (h : ks[i]? = some n) : killBad (prevK ks i) (ks.drop i) = ((decide (n < 0) || decide (256 ≤ n) || (match prevK ks i with | none => false | some q => decide (n ≤ q))) || killBad (prevK ks (i + 1)) (ks.drop (i + 1))) := by
  obtain ⟨hi, he⟩ := List.getElem?_eq_some_iff.1 h
  rw [List.drop_eq_getElem_cons hi, he]
  simp only [killBad, prevK, h]
theorem any_step {l : List Item} {i : Nat} {x : Item} (h : l[i]? = some x) : (l.drop i).any itemBad = (itemBad x || (l.drop (i + 1)).any itemBad) := by
  obtain ⟨hi, he⟩ := List.getElem?_eq_some_iff.1 h
  rw [List.drop_eq_getElem_cons hi, he, List.any_cons]

set_option maxHeartbeats 4000000 in
theorem check_items_is (nl : Bool) (l : List Item) (c : Cp) (hk : ∀ x ∈ l, x.kills.length < 1000000) : PureIs prog 13 [.sl nl (l.map itemC) c] (.sc (.int .i64 (checkI l))) := by
  refine PureIs.of (nv := 1) (hid := [2, 4, 5, 6, 9, 10, 11, 12, 13, 23, 25, 26, 27, 28, 51]) func13 rfl (by kernel_rfl) (by simp [ntmps13]) fun _ => ?_
  rw [ntmps13, results13]
  refine EvC.seq (EvC.rg (by (simp only [go_sem]) <;> rfl) (by simp) ?_)
  refine EvC.seq ?_
  refine EvC.seq (EvC.rg (by (simp only [go_sem, List.length_map]) <;> rfl) (by simp) ?_)
  refine EvC.cond (by (simp only [go_sem]) <;> rfl) (fun hc => ?_) (fun hc => ?_)
  · -- then
    have h3 : checkI l = 3 := by rw [checkI, if_pos (by have : (256 : Int) < l.length := by simpa using hc
                                                        omega)]
    refine EvC.seq (EvC.rg (by (simp only [go_sem]) <;> rfl) (by simp) ?_)
    refine EvC.ret ⟨.inl rfl, _, (by (simp only [go_sem]) <;> rfl), ?_, rfl⟩
    simp only [go_sem]
    rw [h3]
  have h256 : ¬ 256 < l.length := by have : ¬ (256 : Int) < l.length := by simpa using hc
                                     omega
  clear hc
  refine EvC.skip ?_
  refine EvC.seq ?_
  refine EvC.seq (EvC.rg (by (simp only [go_sem, List.length_map]) <;> rfl) (by simp) ?_)
  refine EvC.block ?_  -- 0
  refine EvC.loopS (σ := Nat) (fun i => ⟨[(10, .sl nl (l.map itemC) c), (11, .sc (.int .i64 l.length)), (12, .sc (.int .i64 i))], [], [], 0⟩) (fun i => l.length - i) (fun i => i ≤ l.length ∧ l.any itemBad = (l.drop i).any itemBad) [10, 11, 12] 0 ?_ ?_
  · exact ⟨[], 0, rfl, (by (simp only [go_sem, Int.natCast_zero]) <;> rfl), Nat.zero_le _, rfl⟩
  rintro i ⟨hi, hinv⟩
  refine EvC.seq (EvC.rg (by (simp only [go_sem]) <;> rfl) (by simp) ?_)
  refine EvC.seq ?_
  refine EvC.cond (by (simp only [go_sem]) <;> rfl) (fun hc => ?_) (fun hc => ?_)
  rotate_left
  · -- else
    refine EvC.exit ?_  -- 0
    obtain rfl : l.length = i := by have : ¬ i < l.length := by simpa using hc
                                    omega
    rw [List.drop_length] at hinv
    have h0 := checkI_ok h256 hinv
    refine EvC.seq (EvC.rg (by (simp only [go_sem]) <;> rfl) (by simp) ?_)
    refine EvC.ret ⟨.inl rfl, _, (by (simp only [go_sem]) <;> rfl), ?_, rfl⟩
    simp only [go_sem]
    rw [h0]
  have hil : i < l.length := by simpa using hc
  clear hc
  have he : l[i]? = some (l[i]'hil) := List.getElem?_eq_getElem hil
  have hxk := hk _ (List.getElem_mem hil)
  generalize l[i]'hil = x at he hxk
  rw [any_step he] at hinv
  refine EvC.skip ?_
  refine EvC.seq ?_
  refine EvC.block ?_  -- 1
  refine EvC.seq (EvC.rg (by (simp only [go_sem, he, itemC]) <;> rfl) (by simp) ?_)
  refine EvC.frzB 3 (by (simp only [go_sem]) <;> rfl) ?_
  refine EvC.seq ?_
  apply EvC.seq
  apply EvC.trd
  · (simp only [go_sem]) <;> rfl
  · simp
  refine EvC.cond (by (simp only [go_sem]) <;> rfl) (fun hc => ?_) (fun hc => ?_)
  · -- then
    have hb : costBad x = true := by
      unfold costBad
      by_cases h1 : x.cost < 1 <;> by_cases h2 : 1000000 < x.cost <;> simp_all
    have h1 := checkI_bad h256 (by rw [hinv, itemBad, hb]; rfl)
    refine EvC.seq (EvC.rg (by (simp only [go_sem]) <;> rfl) (by simp) ?_)
    refine EvC.ret ⟨.inl rfl, _, (by (simp only [go_sem]) <;> rfl), ?_, rfl⟩
    simp only [go_sem]
    rw [h1]
  have hb : costBad x = false := by
    unfold costBad
    by_cases h1 : x.cost < 1 <;> by_cases h2 : 1000000 < x.cost <;> simp_all
  clear hc
  rw [itemBad, hb, Bool.false_or] at hinv
  refine EvC.skip ?_
  refine EvC.seq (EvC.rg (by (simp only [go_sem, List.length_map]) <;> rfl) (by simp) ?_)
  refine EvC.block ?_  -- 2
  refine EvC.loopS (σ := Nat) (fun k => ⟨[(4, .ia (itemC x)), (10, .sl nl (l.map itemC) c), (11, .sc (.int .i64 l.length)), (12, .sc (.int .i64 i)), (25, .sl x.nl (x.kills.map intC) .unk), (26, .sc (.int .i64 x.kills.length)), (27, .sc (.int .i64 k))], [], [], 0⟩) (fun k => x.kills.length - k)
    (fun k => k ≤ x.kills.length ∧ killBad none x.kills = killBad (prevK x.kills k) (x.kills.drop k)) [4, 10, 11, 12, 25, 26, 27] 0 ?_ ?_
  · exact ⟨[], 0, rfl, (by (simp only [go_sem, itemC, Int.natCast_zero]) <;> rfl), Nat.zero_le _, rfl⟩
  rintro k ⟨hk1, hk2⟩
  refine EvC.seq (EvC.rg (by (simp only [go_sem]) <;> rfl) (by simp) ?_)
  refine EvC.seq ?_
  refine EvC.cond (by (simp only [go_sem]) <;> rfl) (fun hc => ?_) (fun hc => ?_)
  rotate_left
  · -- else
    refine EvC.exit ?_  -- 2
    obtain rfl : x.kills.length = k := by have : ¬ k < x.kills.length := by simpa using hc
                                          omega
    rw [List.drop_length] at hk2
    have hkb : killBad none x.kills = false := by rw [hk2]; cases prevK x.kills x.kills.length <;> rfl
    rw [hkb, Bool.false_or] at hinv
    refine EvC.rg (by (simp only [go_sem]) <;> rfl) (by exact inI64_of (by omega) (by omega)) ?_
    exact ⟨[], i + 1, rfl, (by (simp only [go_sem, Int.natCast_add, Int.natCast_one]) <;> rfl), ⟨hil, hinv⟩, by omega⟩
  have hkl : k < x.kills.length := by simpa using hc
  clear hc
  have hn : x.kills[k]? = some (x.kills[k]'hkl) := List.getElem?_eq_getElem hkl
  generalize x.kills[k]'hkl = n at hn
  rw [killBad_step hn] at hk2
  refine EvC.skip ?_
  refine EvC.seq ?_
  refine EvC.block ?_  -- 3
  refine EvC.seq (EvC.rg (by (simp only [go_sem, hn, intC]) <;> rfl) (by simp) ?_)
  cases k with
  | zero =>
    have h01 : (0 : Int) - 1 = -1 := rfl
    have h02 : (-1 : Int).toNat = 0 := rfl
    have h00 : (0 : Int) + 1 = ((0 + 1 : Nat) : Int) := rfl
    have hk2 : killBad none x.kills = ((decide (n < 0) || decide (256 ≤ n) || false) || killBad (prevK x.kills (0 + 1)) (x.kills.drop (0 + 1))) := hk2
    apply EvC.seq
    apply EvC.trd
    · (simp only [go_sem, hn, intC, itemC, Int.natCast_zero, List.length_map, h01, h02]) <;> rfl
    · simp
    refine EvC.cond (by (simp only [go_sem]) <;> rfl) (fun hc => ?_) (fun hc => ?_)
    · -- then
      have hb1 : (decide (n < 0) || decide (256 ≤ n) || false) = true := by by_cases h1 : n < 0 <;> by_cases h2 : 256 ≤ n <;> simp_all
      rw [hb1, Bool.true_or] at hk2
      have h1 := checkI_bad h256 (by rw [hinv, hk2]; rfl)
      refine EvC.seq (EvC.rg (by (simp only [go_sem]) <;> rfl) (by simp) ?_)
      refine EvC.ret ⟨.inl rfl, _, (by (simp only [go_sem]) <;> rfl), ?_, rfl⟩
      simp only [go_sem]
      rw [h1]
    have hb1 : (decide (n < 0) || decide (256 ≤ n) || false) = false := by by_cases h1 : n < 0 <;> by_cases h2 : 256 ≤ n <;> simp_all
    rw [hb1, Bool.false_or] at hk2
    refine EvC.skip ?_
    refine EvC.rg (by (simp only [go_sem]) <;> rfl) (by exact inI64_of (by omega) (by omega)) ?_
    exact ⟨[], 0 + 1, rfl, (by (simp only [go_sem, itemC, h00]) <;> rfl), ⟨hkl, hk2⟩, by omega⟩
  | succ j =>
    have hp : x.kills[j]? = some (x.kills[j]'(by omega)) := List.getElem?_eq_getElem (by omega)
    generalize x.kills[j]'(by omega) = q at hp
    have hk2 : killBad none x.kills = ((decide (n < 0) || decide (256 ≤ n) || decide (n ≤ q)) || killBad (prevK x.kills (j + 1 + 1)) (x.kills.drop (j + 1 + 1))) := by
      rw [hk2]; simp only [prevK, hp]
    obtain ⟨I, hI⟩ : ∃ I : Int, I = ((j + 1 : Nat) : Int) := ⟨_, rfl⟩
    obtain ⟨J, hJ⟩ : ∃ J : Int, I - 1 = J := ⟨_, rfl⟩
    have hJt : J.toNat = j := by omega
    have a1 : inI64 J = true := inI64_of (by omega) (by omega)
    have a2 : 0 ≤ J := by omega
    have a3 : decide (0 < I) = true := decide_eq_true (by omega)
    have a4 : I + 1 = ((j + 1 + 1 : Nat) : Int) := by omega
    rw [← hI]
    apply EvC.seq
    apply EvC.trd
    · (simp only [go_sem, hn, hp, hJ, hJt, intC, itemC, List.length_map, a3]) <;> rfl
    · simp [a1, a2]
    refine EvC.cond (by (simp only [go_sem]) <;> rfl) (fun hc => ?_) (fun hc => ?_)
    · -- then
      have hb1 : (decide (n < 0) || decide (256 ≤ n) || decide (n ≤ q)) = true := by by_cases h1 : n < 0 <;> by_cases h2 : 256 ≤ n <;> by_cases h3 : n ≤ q <;> simp_all
      rw [hb1, Bool.true_or] at hk2
      have h1 := checkI_bad h256 (by rw [hinv, hk2]; rfl)
      refine EvC.seq (EvC.rg (by (simp only [go_sem]) <;> rfl) (by simp) ?_)
      refine EvC.ret ⟨.inl rfl, _, (by (simp only [go_sem]) <;> rfl), ?_, rfl⟩
      simp only [go_sem]
      rw [h1]
    have hb1 : (decide (n < 0) || decide (256 ≤ n) || decide (n ≤ q)) = false := by by_cases h1 : n < 0 <;> by_cases h2 : 256 ≤ n <;> by_cases h3 : n ≤ q <;> simp_all
    rw [hb1, Bool.false_or] at hk2
    refine EvC.skip ?_
    refine EvC.rg (by (simp only [go_sem]) <;> rfl) (by exact inI64_of (by omega) (by omega)) ?_
    exact ⟨[], j + 1 + 1, rfl, (by (simp only [go_sem, itemC, a4]) <;> rfl), ⟨hkl, hk2⟩, by omega⟩
end Go.Avl
namespace Go.Avl
open Go Go.Proofs.Tryd
set_option maxRecDepth 10000
set_option linter.unusedSimpArgs false

theorem contains_step {ks : List Int} {i : Nat} {m : Int} (h : ks[i]? = some m) (n : Int) : (ks.drop i).contains n = (decide (m = n) || (ks.drop (i + 1)).contains n) := by
  obtain ⟨hi, he⟩ := List.getElem?_eq_some_iff.1 h
  rw [List.drop_eq_getElem_cons hi, he, List.contains_cons]
  congr 1
  rw [Bool.eq_iff_iff, beq_iff_eq, decide_eq_true_eq]
  exact eq_comm
theorem has_is (nl : Bool) (ks : List Int) (c : Cp) (n : Int) (hl : ks.length < 1000000) : PureIs prog 57 [.sl nl (ks.map intC) c, .sc (.int .i64 n)] (.sc (.bool (ks.contains n))) := by
  refine PureIs.of (nv := 2) (hid := [4, 5, 9, 17]) func57 rfl (by kernel_rfl) (by simp [ntmps57]) fun _ => ?_
  rw [ntmps57, results57]
  refine EvC.seq (EvC.rg (by (simp only [go_sem]) <;> rfl) (by simp) ?_)
  refine EvC.seq ?_
  refine EvC.seq (EvC.rg (by (simp only [go_sem]) <;> rfl) (by simp) ?_)
  refine EvC.block ?_  -- 0
  refine EvC.loopS (σ := Nat) (fun i => ⟨[(0, .sl nl (ks.map intC) c), (1, .sc (.int .i64 n)), (5, .sc (.int .i64 i))], [], [], 0⟩) (fun i => ks.length - i) (fun i => i ≤ ks.length ∧ ks.contains n = (ks.drop i).contains n) [0, 1, 5] 0 ?_ ?_
  · exact ⟨[], 0, rfl, (by (simp only [go_sem, Int.natCast_zero]) <;> rfl), Nat.zero_le _, rfl⟩
  rintro i ⟨hi, hinv⟩
  refine EvC.seq ?_
  refine EvC.seq (EvC.rg (by (simp only [go_sem, List.length_map]) <;> rfl) (by simp) ?_)
  refine EvC.cond (by (simp only [go_sem]) <;> rfl) (fun hc => ?_) (fun hc => ?_)
  rotate_left
  · -- else
    refine EvC.exit ?_  -- 0
    obtain rfl : ks.length = i := by have : ¬ i < ks.length := by simpa using hc
                                     omega
    rw [List.drop_length, List.contains_nil] at hinv
    rw [hinv]
    refine EvC.seq (EvC.rg (by (simp only [go_sem]) <;> rfl) (by simp) ?_)
    refine EvC.ret ⟨.inl rfl, _, (by (simp only [go_sem]) <;> rfl), ?_, rfl⟩
    simp only [go_sem]
  have hil : i < ks.length := by simpa using hc
  clear hc
  have he : ks[i]? = some (ks[i]'hil) := List.getElem?_eq_getElem hil
  generalize ks[i]'hil = m at he
  rw [contains_step he] at hinv
  refine EvC.skip ?_
  refine EvC.seq ?_
  refine EvC.block ?_  -- 1
  refine EvC.seq (EvC.rg (by (simp only [go_sem, he, intC]) <;> rfl) (by simp) ?_)
  refine EvC.cond (by (simp only [go_sem]) <;> rfl) (fun hc => ?_) (fun hc => ?_)
  · -- then
    have hm : m = n := by simpa using hc
    rw [hinv, decide_eq_true hm, Bool.true_or]
    refine EvC.seq (EvC.rg (by (simp only [go_sem]) <;> rfl) (by simp) ?_)
    refine EvC.ret ⟨.inl rfl, _, (by (simp only [go_sem]) <;> rfl), ?_, rfl⟩
    simp only [go_sem]
  have hm : ¬ m = n := by simpa using hc
  rw [decide_eq_false hm, Bool.false_or] at hinv
  refine EvC.skip ?_
  refine EvC.rg (by (simp only [go_sem]) <;> rfl) (by exact inI64_of (by omega) (by omega)) ?_
  exact ⟨[], i + 1, rfl, (by (simp only [go_sem, Int.natCast_add, Int.natCast_one]) <;> rfl), ⟨hil, hinv⟩, by omega⟩

/-! ### What a choice kills, and what it costs -/
def itemAt (l : List Item) (i : Int) : Item := (l[i.toNat]?).getD ⟨0, true, []⟩
def InCh (l : List Item) (ch : List Int) : Prop := ∀ i ∈ ch, 0 ≤ i ∧ i < l.length
theorem itemAt_get {l : List Item} {i : Int} (h : 0 ≤ i ∧ i < l.length) : l[i.toNat]? = some (itemAt l i) := by
  have hl : i.toNat < l.length := by omega
  rw [itemAt, List.getElem?_eq_getElem hl]; rfl
def killedP (l : List Item) (ch : List Int) : Nat → Bool := fun k => ch.any fun i => (itemAt l i).kills.contains (k : Int)
def killedN (l : List Item) (ch : List Int) : Nat := cnt (killedP l ch) 256
def costN (l : List Item) (ch : List Int) : Int := (ch.map fun i => (itemAt l i).cost).sum

theorem any_step2 {α : Type} (p : α → Bool) {ks : List α} {i : Nat} {m : α} (h : ks[i]? = some m) : (ks.drop i).any p = (p m || (ks.drop (i + 1)).any p) := by
  obtain ⟨hi, he⟩ := List.getElem?_eq_some_iff.1 h
  rw [List.drop_eq_getElem_cons hi, he, List.any_cons]

set_option maxHeartbeats 4000000 in
theorem killed_is (nl : Bool) (l : List Item) (c : Cp) (cn : Bool) (ch : List Int) (cc : Cp) (hk : ∀ x ∈ l, x.kills.length < 1000000) (hch : InCh l ch) (hcl : ch.length < 1000000) :
    PureIs prog 33 [.sl nl (l.map itemC) c, .sl cn (ch.map intC) cc] (.sc (.int .i64 (killedN l ch : Nat))) := by
  refine PureIs.of (nv := 2) (hid := [4, 5, 6, 7, 9, 15, 27]) func33 rfl (by kernel_rfl) (by simp [ntmps33]) fun _ => ?_
  rw [ntmps33, results33]
  refine EvC.seq (EvC.rg (by (simp only [go_sem]) <;> rfl) (by simp) ?_)
  refine EvC.seq (EvC.rg (by (simp only [go_sem]) <;> rfl) (by simp) ?_)
  refine EvC.seq ?_
  refine EvC.seq (EvC.rg (by (simp only [go_sem]) <;> rfl) (by simp) ?_)
  refine EvC.block ?_  -- 0
  refine EvC.loopS (σ := Nat) (fun k => ⟨[(0, .sl nl (l.map itemC) c), (1, .sl cn (ch.map intC) cc), (5, .sc (.int .i64 (cnt (killedP l ch) k : Nat))), (6, .sc (.int .i64 k))], [], [], 0⟩) (fun k => 256 - k) (fun k => k ≤ 256) [0, 1, 5, 6] 0 ?_ ?_
  · exact ⟨[], 0, rfl, (by (simp only [go_sem, Int.natCast_zero, cnt, dsum]) <;> rfl), Nat.zero_le _⟩
  intro k hk1
  refine EvC.seq ?_
  refine EvC.seq (EvC.rg (by (simp only [go_sem]) <;> rfl) (by simp) ?_)
  refine EvC.cond (by (simp only [go_sem]) <;> rfl) (fun hc => ?_) (fun hc => ?_)
  rotate_left
  · -- else
    refine EvC.exit ?_  -- 0
    obtain rfl : k = 256 := by have : ¬ (k : Int) < 256 := by simpa using hc
                               omega
    refine EvC.seq (EvC.rg (by (simp only [go_sem]) <;> rfl) (by simp) ?_)
    refine EvC.ret ⟨.inl rfl, _, (by (simp only [go_sem]) <;> rfl), ?_, rfl⟩
    simp only [go_sem]
    rfl
  have hk2 : k < 256 := by have : (k : Int) < 256 := by simpa using hc
                           omega
  clear hc
  have hst : cnt (killedP l ch) (k + 1) = cnt (killedP l ch) k + (killedP l ch k).toNat := rfl
  have hle := cnt_le (killedP l ch) k
  generalize hN : cnt (killedP l ch) k = N at *
  generalize hN1 : cnt (killedP l ch) (k + 1) = N1 at *
  obtain ⟨Z, hZ⟩ : ∃ Z : Int, Z = (N : Int) := ⟨_, rfl⟩
  rw [← hZ]
  refine EvC.skip ?_
  refine EvC.seq ?_
  refine EvC.block ?_  -- 1
  refine EvC.seq (EvC.rg (by (simp only [go_sem]) <;> rfl) (by simp) ?_)
  refine EvC.block ?_  -- 2
  refine EvC.loopS (σ := Nat) (fun i => ⟨[(0, .sl nl (l.map itemC) c), (1, .sl cn (ch.map intC) cc), (5, .sc (.int .i64 Z)), (6, .sc (.int .i64 k)), (7, .sc (.int .i64 i))], [], [], 0⟩) (fun i => ch.length - i)
    (fun i => i ≤ ch.length ∧ killedP l ch k = (ch.drop i).any fun i => (itemAt l i).kills.contains (k : Int)) [0, 1, 5, 6, 7] 0 ?_ ?_
  · exact ⟨[], 0, rfl, (by (simp only [go_sem, Int.natCast_zero]) <;> rfl), Nat.zero_le _, rfl⟩
  rintro i ⟨hi, hinv⟩
  refine EvC.seq ?_
  refine EvC.seq (EvC.rg (by (simp only [go_sem, List.length_map]) <;> rfl) (by simp) ?_)
  refine EvC.cond (by (simp only [go_sem]) <;> rfl) (fun hc => ?_) (fun hc => ?_)
  rotate_left
  · -- else
    refine EvC.exit ?_  -- 2
    obtain rfl : ch.length = i := by have : ¬ i < ch.length := by simpa using hc
                                     omega
    rw [List.drop_length, List.any_nil] at hinv
    rw [hinv] at hst
    have hZ1 : Z = (N1 : Int) := by simp at hst; omega
    refine EvC.rg (by (simp only [go_sem]) <;> rfl) (by exact inI64_of (by omega) (by omega)) ?_
    exact ⟨[], k + 1, rfl, (by rw [hN1, hZ1]; (simp only [go_sem, Int.natCast_add, Int.natCast_one]) <;> rfl), hk2, by omega⟩
  have hil : i < ch.length := by simpa using hc
  clear hc
  have he : ch[i]? = some (ch[i]'hil) := List.getElem?_eq_getElem hil
  have hin := hch _ (List.getElem_mem hil)
  generalize ch[i]'hil = j at he hin
  have hx := itemAt_get hin
  have hxl := hk _ (List.mem_of_getElem? hx)
  rw [any_step2 _ he] at hinv
  generalize itemAt l j = x at hx hxl hinv
  refine EvC.skip ?_
  refine EvC.seq ?_
  refine EvC.block ?_  -- 3
  apply EvC.seq
  apply EvC.tr
  · apply Tr.run
    · (simp only [go_sem, he, intC, hx, itemC]) <;> rfl
    · simp; try omega
    apply Tr.cons
    · exact .call rfl rfl (by (simp only [go_sem]) <;> rfl) (by (simp only [go_sem]) <;> rfl) (by (simp only [go_sem]) <;> rfl) (by (simp only [go_sem]) <;> rfl) (by (simp only [go_sem]) <;> rfl) (has_is x.nl x.kills .unk k hxl)
    apply Tr.done
    · (simp only [go_sem]) <;> rfl
    · simp
  refine EvC.cond (by (simp only [go_sem]) <;> rfl) (fun hc => ?_) (fun hc => ?_)
  · -- then
    have hb : x.kills.contains (k : Int) = true := by simpa using hc
    rw [hb, Bool.true_or] at hinv
    rw [hinv] at hst
    have hZ1 : Z + 1 = (N1 : Int) := by simp at hst; omega
    refine EvC.seq (EvC.rg (by (simp only [go_sem, hZ1]) <;> rfl) (by exact inI64_of (by omega) (by omega)) ?_)
    refine EvC.exit ?_  -- 2
    refine EvC.rg (by (simp only [go_sem]) <;> rfl) (by exact inI64_of (by omega) (by omega)) ?_
    exact ⟨[], k + 1, rfl, (by rw [hN1]; (simp only [go_sem, Int.natCast_add, Int.natCast_one]) <;> rfl), hk2, by omega⟩
  have hb : x.kills.contains (k : Int) = false := by simpa using hc
  rw [hb, Bool.false_or] at hinv
  refine EvC.skip ?_
  refine EvC.rg (by (simp only [go_sem]) <;> rfl) (by exact inI64_of (by omega) (by omega)) ?_
  exact ⟨[], i + 1, rfl, (by (simp only [go_sem, Int.natCast_add, Int.natCast_one]) <;> rfl), ⟨hil, hinv⟩, by omega⟩
end Go.Avl
namespace Go.Avl
open Go Go.Proofs.Tryd
set_option maxRecDepth 10000
set_option linter.unusedSimpArgs false

theorem costN_snoc (l : List Item) (ch : List Int) (i : Int) : costN l (ch ++ [i]) = costN l ch + (itemAt l i).cost := by
  simp [costN]
theorem costN_bd {l : List Item} (hl : ∀ x ∈ l, 0 ≤ x.cost ∧ x.cost ≤ 1000000) : ∀ {ch : List Int}, InCh l ch → 0 ≤ costN l ch ∧ costN l ch ≤ 1000000 * ch.length
  | [], _ => by simp [costN]
  | i :: ch, h => by
    have h1 := costN_bd hl (ch := ch) fun j hj => h j (List.mem_cons_of_mem _ hj)
    have h2 := hl _ (List.mem_of_getElem? (itemAt_get (h i List.mem_cons_self)))
    have e : costN l (i :: ch) = (itemAt l i).cost + costN l ch := by simp [costN]
    rw [e, List.length_cons]
    omega
theorem InCh.take {l : List Item} {ch : List Int} (h : InCh l ch) (k : Nat) : InCh l (ch.take k) := fun i hi => h i (List.mem_of_mem_take hi)
theorem cost_is (nl : Bool) (l : List Item) (c : Cp) (cn : Bool) (ch : List Int) (cc : Cp) (hl : ∀ x ∈ l, 0 ≤ x.cost ∧ x.cost ≤ 1000000) (hch : InCh l ch) (hcl : ch.length < 1000000) :
    PureIs prog 58 [.sl nl (l.map itemC) c, .sl cn (ch.map intC) cc] (.sc (.int .i64 (costN l ch))) := by
  refine PureIs.of (nv := 2) (hid := [4, 5, 6, 10]) func58 rfl (by kernel_rfl) (by simp [ntmps58]) fun _ => ?_
  rw [ntmps58, results58]
  refine EvC.seq (EvC.rg (by (simp only [go_sem]) <;> rfl) (by simp) ?_)
  refine EvC.seq (EvC.rg (by (simp only [go_sem]) <;> rfl) (by simp) ?_)
  refine EvC.seq ?_
  refine EvC.seq (EvC.rg (by (simp only [go_sem]) <;> rfl) (by simp) ?_)
  refine EvC.block ?_  -- 0
  refine EvC.loopS (σ := Nat) (fun k => ⟨[(0, .sl nl (l.map itemC) c), (1, .sl cn (ch.map intC) cc), (5, .sc (.int .i64 (costN l (ch.take k)))), (6, .sc (.int .i64 k))], [], [], 0⟩) (fun k => ch.length - k) (fun k => k ≤ ch.length) [0, 1, 5, 6] 0 ?_ ?_
  · exact ⟨[], 0, rfl, (by (simp only [go_sem, Int.natCast_zero, List.take_zero, costN, List.map_nil, List.sum_nil]) <;> rfl), Nat.zero_le _⟩
  intro k hk1
  refine EvC.seq ?_
  refine EvC.seq (EvC.rg (by (simp only [go_sem, List.length_map]) <;> rfl) (by simp) ?_)
  refine EvC.cond (by (simp only [go_sem]) <;> rfl) (fun hc => ?_) (fun hc => ?_)
  rotate_left
  · -- else
    refine EvC.exit ?_  -- 0
    obtain rfl : ch.length = k := by have : ¬ k < ch.length := by simpa using hc
                                     omega
    rw [List.take_length]
    refine EvC.seq (EvC.rg (by (simp only [go_sem]) <;> rfl) (by simp) ?_)
    refine EvC.ret ⟨.inl rfl, _, (by (simp only [go_sem]) <;> rfl), ?_, rfl⟩
    simp only [go_sem]
  have hkl : k < ch.length := by simpa using hc
  clear hc
  have he : ch[k]? = some (ch[k]'hkl) := List.getElem?_eq_getElem hkl
  have hin := hch _ (List.getElem_mem hkl)
  have htk : ch.take (k + 1) = ch.take k ++ [ch[k]'hkl] := List.take_succ_eq_append_getElem hkl
  have hst := costN_snoc l (ch.take k) (ch[k]'hkl)
  rw [← htk] at hst
  clear htk
  generalize ch[k]'hkl = j at he hin hst
  have hx := itemAt_get hin
  have hb := costN_bd hl (hch.take k)
  have hb1 := costN_bd hl (hch.take (k + 1))
  rw [List.length_take] at hb hb1
  refine EvC.skip ?_
  refine EvC.seq ?_
  refine EvC.block ?_  -- 1
  refine EvC.rg (by (simp only [go_sem, he, intC, hx, itemC, ← hst]) <;> rfl) (by simp [inI64_of (x := costN l (ch.take (k + 1))) (by omega) (by omega)]; try omega) ?_
  refine EvC.rg (by (simp only [go_sem]) <;> rfl) (by exact inI64_of (by omega) (by omega)) ?_
  exact ⟨[], k + 1, rfl, (by (simp only [go_sem, Int.natCast_add, Int.natCast_one]) <;> rfl), hkl, by omega⟩
end Go.Avl
namespace Go.Avl
open Go Go.Proofs.Tryd
set_option maxRecDepth 10000
set_option linter.unusedSimpArgs false

theorem setC_len (P : Nat → Bool) : (setC P).length = 4 := rfl
theorem setC_take (P : Nat → Bool) : (setC P).take 4 = setC P := rfl
theorem setC_idss (P : Nat → Bool) : AV.idss (setC P) = [] := rfl
@[go_sem] theorem setC_norefs (P : Nat → Bool) : AV.norefs (setC P) = true := rfl
/-- How many numbers an item would add. -/
def freshN (P : Nat → Bool) (ks : List Int) : Int := (cnt (fun n => P n || inL ks n) 256 : Nat) - (cnt P 256 : Nat)
theorem order1_body (nl : Bool) (l : List Item) (c : Cp) (i : Nat) (x : Item) (P : Nat → Bool) (id nx : Nat) (M : Mem) {R : AV → Mem → Nat → Prop} (hx : l[i]? = some x) (hk : ∀ n ∈ x.kills, 0 ≤ n ∧ n < 256) (hkl : x.kills.length < 1000000)
    (hM : mlook M id = some (.cells (setC P))) (hR : R (.sc (.int .i64 (freshN P x.kills))) M (nx + 1 + 13)) :
    BodyIs prog 42 [.sc (.int .i64 i), .rf id 0, .ia [.sl nl (l.map itemC) c]] M nx R := by
  have h1 := cnt_le (fun n => P n || inL x.kills n) 256
  have h2 := cnt_le P 256
  have o := of_is x.nl x.kills .unk hkl hk
  have w := with_is P (inL x.kills)
  have n1 := count_is fun n => P n || inL x.kills n
  have n2 := count_is P
  unfold freshN at hR
  generalize cnt (fun n => P n || inL x.kills n) 256 = a at *
  generalize cnt P 256 = b at *
  obtain ⟨A, hA⟩ : ∃ A : Int, A = (a : Int) := ⟨_, rfl⟩
  obtain ⟨B, hB⟩ : ∃ B : Int, B = (b : Int) := ⟨_, rfl⟩
  rw [← hA] at n1 hR
  rw [← hB] at n2 hR
  refine BodyIs.of (nv := 3) (hid := [4]) func42 rfl (by kernel_rfl) (by simp [ntmps42]) fun h0 => ?_
  rw [ntmps42, results42]
  refine EvC.seq (EvC.rg (by (simp only [go_sem]) <;> rfl) (by simp) ?_)
  apply EvC.seq
  apply EvC.drw mixed
  · apply Tr.run
    · (simp only [go_sem, hM, hx, itemC, setC_take]) <;> rfl
    · simp [setC_len]
    apply Tr.cons
    · exact .call rfl rfl (by (simp only [go_sem]) <;> rfl) (by (simp only [go_sem]) <;> rfl) (by (simp only [go_sem]) <;> rfl) (by (simp only [go_sem]) <;> rfl) (by (simp only [go_sem]) <;> rfl) o
    apply Tr.cons
    · exact .call rfl rfl (by (simp only [go_sem]) <;> rfl) (by (simp only [go_sem]) <;> rfl) (by (simp only [go_sem]) <;> rfl) (by (simp only [go_sem]) <;> rfl) (by (simp only [go_sem]) <;> rfl) w
    apply Tr.cons
    · exact .call rfl rfl (by (simp only [go_sem]) <;> rfl) (by (simp only [go_sem]) <;> rfl) (by (simp only [go_sem]) <;> rfl) (by (simp only [go_sem]) <;> rfl) (by (simp only [go_sem]) <;> rfl) n1
    apply Tr.run
    · (simp only [go_sem, hM, setC_take]) <;> rfl
    · simp [setC_len]
    apply Tr.cons
    · exact .call rfl rfl (by (simp only [go_sem]) <;> rfl) (by (simp only [go_sem]) <;> rfl) (by (simp only [go_sem]) <;> rfl) (by (simp only [go_sem]) <;> rfl) (by (simp only [go_sem]) <;> rfl) n2
    apply Tr.done
    · (simp only [go_sem]) <;> rfl
    · exact inI64_of (by omega) (by omega)
  · exact confAll_slots (by simp [rdOk, slotsOf, opSlots, memless, Op.operands, Call.operands, setC_idss, odds]) (by kernel_rfl)
  refine EvC.ret ⟨.inl rfl, _, (by (simp only [go_sem]) <;> rfl), ?_⟩
  exact hR
end Go.Avl
namespace Go.Avl
open Go Go.Proofs.Tryd
set_option maxRecDepth 10000
set_option linter.unusedSimpArgs false

/-! ### The order both programs make -/
/-- What the next item of the order would add to the ones already there. -/
def frA (l : List Item) (os : List Int) (i : Int) : Int := freshN (killedP l os) (itemAt l i).kills
/-- Item i goes ahead of the best one so far. -/
def ahead (l : List Item) (os : List Int) : Option Nat → Nat → Bool
  | none, _ => true
  | some b, i => decide (frA l os b * (itemAt l i).cost < frA l os i * (itemAt l b).cost)
def takes (l : List Item) (os : List Int) (b : Option Nat) (i : Nat) : Bool := !os.contains (i : Int) && (decide (0 < frA l os i) && ahead l os b i)
def pickK (l : List Item) (os : List Int) : Nat → Option Nat
  | 0 => none
  | k + 1 => if takes l os (pickK l os k) k = true then some k else pickK l os k
/-- The best of all, if any adds a number. -/
def pickA (l : List Item) (os : List Int) : Option Nat := pickK l os l.length
def chainA (l : List Item) : Nat → List Int → List Int
  | 0, os => os
  | f + 1, os => match pickA l os with | none => os | some b => chainA l f (os ++ [(b : Int)])
/-- What is left, in the items' order. -/
def restA (os : List Int) : Nat → List Int
  | 0 => os
  | k + 1 => if (restA os k).contains (k : Int) then restA os k else restA os k ++ [(k : Int)]
def orderA (l : List Item) : List Int := restA (chainA l l.length []) l.length
def bestI : Option Nat → Int | none => -1 | some b => b
def mostI (l : List Item) (os : List Int) : Option Nat → Int | none => 0 | some b => frA l os b

theorem pickK_lt {l : List Item} {os : List Int} : ∀ {k b : Nat}, pickK l os k = some b → b < k
  | 0, b, h => by simp [pickK] at h
  | k + 1, b, h => by
    rw [pickK] at h
    split at h
    · cases h; omega
    · have := pickK_lt h; omega
theorem pickK_new {l : List Item} {os : List Int} : ∀ {k b : Nat}, pickK l os k = some b → os.contains (b : Int) = false
  | 0, b, h => by simp [pickK] at h
  | k + 1, b, h => by
    rw [pickK] at h
    split at h
    · rename_i ht
      cases h
      have := (Bool.and_eq_true_iff.1 ht).1
      simpa using this
    · exact pickK_new h
theorem pickA_lt {l : List Item} {os : List Int} {b : Nat} (h : pickA l os = some b) : b < l.length := pickK_lt h
theorem pickA_new {l : List Item} {os : List Int} {b : Nat} (h : pickA l os = some b) : ¬ (b : Int) ∈ os := by
  have := pickK_new h
  simpa using this
theorem killedP_snoc (l : List Item) (os : List Int) (b : Int) : killedP l (os ++ [b]) = fun n => killedP l os n || inL (itemAt l b).kills n := by
  funext n
  simp [killedP, inL]
theorem sub_len : ∀ (l r : List Nat), l.Nodup → l ⊆ r → l.length ≤ r.length
  | [], _, _, _ => Nat.zero_le _
  | a :: l, r, h, hs => by
    rw [List.nodup_cons] at h
    have ha : a ∈ r := hs List.mem_cons_self
    have h1 := sub_len l (r.erase a) h.2 fun x hx => (List.mem_erase_of_ne (fun he : x = a => h.1 (he ▸ hx))).2 (hs (List.mem_cons_of_mem _ hx))
    have h2 := List.length_erase_of_mem ha
    have h3 := List.length_pos_of_mem ha
    rw [List.length_cons]
    omega
theorem cnt_mono {P Q : Nat → Bool} (h : ∀ n, P n = true → Q n = true) : ∀ n, cnt P n ≤ cnt Q n
  | 0 => Nat.le_refl _
  | n + 1 => by
    have h1 := cnt_mono h n
    have e1 : cnt P (n + 1) = cnt P n + (P n).toNat := rfl
    have e2 : cnt Q (n + 1) = cnt Q n + (Q n).toNat := rfl
    have h2 : (P n).toNat ≤ (Q n).toNat := by
      cases hp : P n with
      | false => simp
      | true => simp [h n hp]
    omega
/-- A list of different numbers below n has n at the most. -/
theorem nodup_len : ∀ (n : Nat) (os : List Int), os.Nodup → (∀ i ∈ os, 0 ≤ i ∧ i < n) → os.length ≤ n := by
  intro n os hn hb
  have h1 : (os.map Int.toNat).Nodup := by
    rw [List.nodup_iff_pairwise_ne] at hn ⊢
    rw [List.pairwise_map]
    refine hn.imp_of_mem fun {a b} ha hb' h he => h ?_
    have := hb a ha; have := hb b hb'
    omega
  have h2 : (os.map Int.toNat) ⊆ List.range n := by
    intro x hx
    obtain ⟨i, hi, rfl⟩ := List.mem_map.1 hx
    have := hb i hi
    rw [List.mem_range]; omega
  have h3 := sub_len _ _ h1 h2
  simpa using h3
/-- What the order's first part keeps. -/
structure OkA (l : List Item) (os : List Int) : Prop where
  nd : os.Nodup
  rng : InCh l os
theorem OkA.nil (l : List Item) : OkA l [] := ⟨List.nodup_nil, fun _ h => by cases h⟩
theorem OkA.len {l : List Item} {os : List Int} (h : OkA l os) : os.length ≤ l.length := nodup_len _ _ h.nd h.rng
theorem OkA.snoc {l : List Item} {os : List Int} (h : OkA l os) {b : Nat} (hb : b < l.length) (hn : ¬ (b : Int) ∈ os) : OkA l (os ++ [(b : Int)]) := by
  refine ⟨?_, ?_⟩
  · rw [List.nodup_append]
    refine ⟨h.nd, by simp, ?_⟩
    intro a ha c hc he
    simp at hc
    subst hc; subst he
    exact hn ha
  · intro i hi
    rcases List.mem_append.1 hi with hi | hi
    · exact h.rng i hi
    · simp at hi; subst hi; omega
theorem OkA.pick {l : List Item} {os : List Int} (h : OkA l os) {b : Nat} (hb : pickA l os = some b) : OkA l (os ++ [(b : Int)]) := h.snoc (pickA_lt hb) (pickA_new hb)
/-- Once the fuel is at least the room left, more fuel says nothing new. -/
theorem chainA_stop {l : List Item} {os : List Int} (h : pickA l os = none) (f : Nat) : chainA l f os = os := by
  cases f with
  | zero => rfl
  | succ f => rw [chainA, h]
theorem chainA_step {l : List Item} {os : List Int} {b : Nat} (ho : OkA l os) (h : pickA l os = some b) : chainA l (l.length - os.length) os = chainA l (l.length - (os ++ [(b : Int)]).length) (os ++ [(b : Int)]) := by
  have h1 := (ho.pick h).len
  simp only [List.length_append, List.length_singleton] at h1 ⊢
  obtain ⟨f, hf⟩ : ∃ f, l.length - os.length = f + 1 := ⟨l.length - os.length - 1, by omega⟩
  have hf2 : l.length - (os.length + 1) = f := by omega
  rw [hf, hf2, chainA, h]
theorem restA_ok {l : List Item} {os : List Int} (h : OkA l os) : ∀ {k : Nat}, k ≤ l.length → OkA l (restA os k)
  | 0, _ => h
  | k + 1, hk => by
    have h1 := restA_ok h (k := k) (by omega)
    rw [restA]
    split
    · exact h1
    · rename_i hc
      exact h1.snoc (by omega) (by simpa using hc)
/-- What was left out of the first part is left out until its turn. -/
theorem restA_mem {os : List Int} : ∀ {k : Nat} {j : Nat}, k ≤ j → ((restA os k).contains (j : Int) = os.contains (j : Int))
  | 0, _, _ => rfl
  | k + 1, j, hj => by
    have h1 := restA_mem (os := os) (k := k) (j := j) (by omega)
    rw [restA]
    split
    · exact h1
    · rw [Bool.eq_iff_iff] at h1 ⊢
      simp only [List.contains_iff_mem, List.mem_append, List.mem_singleton] at h1 ⊢
      rw [h1]
      constructor
      · rintro (h | h)
        · exact h
        · omega
      · exact .inl
theorem chainA_ok {l : List Item} : ∀ (f : Nat) {os : List Int}, OkA l os → OkA l (chainA l f os)
  | 0, _, h => h
  | f + 1, os, h => by
    rw [chainA]
    cases hp : pickA l os with
    | none => exact h
    | some b => exact chainA_ok f (h.pick hp)
theorem orderA_ok (l : List Item) : OkA l (orderA l) := restA_ok (chainA_ok _ (OkA.nil l)) (Nat.le_refl _)
/-- How large the numbers compared may be. -/
theorem frA_bd (l : List Item) (os : List Int) (i : Int) : 0 ≤ frA l os i ∧ frA l os i ≤ 256 := by
  have h1 := cnt_le (fun n => killedP l os n || inL (itemAt l i).kills n) 256
  have h2 := cnt_mono (P := killedP l os) (Q := fun n => killedP l os n || inL (itemAt l i).kills n) (fun n h => by simp [h]) 256
  unfold frA freshN
  omega
end Go.Avl
namespace Go.Avl
open Go Go.Proofs.Tryd
set_option maxRecDepth 10000
set_option linter.unusedSimpArgs false

/-- Which items are in the order already. -/
def seenL (l : List Item) (os : List Int) : List (List AV) := (List.range l.length).map fun i : Nat => [.sc (.bool (os.contains (i : Int)))]
theorem seenL_len (l : List Item) (os : List Int) : (seenL l os).length = l.length := by simp [seenL]
theorem seenL_get {l : List Item} {i : Nat} (os : List Int) (h : i < l.length) : (seenL l os)[i]? = some [.sc (.bool (os.contains (i : Int)))] := by
  rw [seenL, List.getElem?_map, List.getElem?_range h]; rfl
@[go_sem] theorem norefs_seenL (l : List Item) (os : List Int) : (seenL l os).all AV.norefs = true := by simp [seenL, List.all_eq_true, AV.norefs, AV.noref]
theorem seenL_nil (l : List Item) : List.replicate l.length [AV.sc (.bool false)] = seenL l [] := by
  refine List.ext_getElem (by simp [seenL]) fun i h1 h2 => ?_
  simp [seenL]
theorem seenL_set (l : List Item) (os : List Int) (b : Nat) : (seenL l os).set b [.sc (.bool true)] = seenL l (os ++ [(b : Int)]) := by
  refine List.ext_getElem (by simp [seenL]) fun i h1 h2 => ?_
  rw [List.getElem_set]
  simp only [seenL, List.getElem_map, List.getElem_range]
  by_cases h : b = i
  · subst h; simp
  · have : ¬ (i : Int) = b := by omega
    rw [if_neg h, show (os ++ [(b : Int)]).contains (i : Int) = os.contains (i : Int) by simp [this]]
theorem setC_nil (l : List Item) : [AV.sc (.int .u64 0), .sc (.int .u64 0), .sc (.int .u64 0), .sc (.int .u64 0)] = setC (killedP l []) := inL_nil.symm
theorem setC_acell (P : Nat → Bool) (m : Mem) : ∀ x ∈ setC P, acell m x = true := by
  have h : (setC P).all (acell m) = true := rfl
  exact List.all_eq_true.1 h
/-- Numbers with room behind them. -/
def roomI (n : Nat) (os : List Int) : List (List AV) := roomL n [.sc (.int .i64 0)] (os.map intC)
theorem roomI_len {n : Nat} {os : List Int} (h : os.length ≤ n) : (roomI n os).length = n := roomL_len (by simpa using h)
theorem roomI_nil (n : Nat) : List.replicate n [AV.sc (.int .i64 0)] = roomI n [] := (roomL_nil n _).symm
theorem roomI_app {n : Nat} {os : List Int} (b : Int) (h : os.length < n) : (roomI n os).take os.length ++ [.sc (.int .i64 b)] :: (roomI n os).drop (os.length + 1) = roomI n (os ++ [b]) := by
  have := roomL_app (z := [AV.sc (.int .i64 0)]) (xs := os.map intC) (intC b) (m := n) (by simpa using h)
  rw [List.length_map] at this
  simpa [roomI, intC] using this
theorem roomI_full {n : Nat} {os : List Int} (h : os.length = n) : roomI n os = os.map intC := roomL_full (by simpa using h)
@[go_sem] theorem norefs_roomI (n : Nat) (os : List Int) : (roomI n os).all AV.norefs = true := roomL_norefs rfl (norefs_ints os)
/-- Every item is in the order. -/
theorem restA_all {os : List Int} : ∀ {k j : Nat}, j < k → (j : Int) ∈ restA os k
  | 0, _, h => by omega
  | k + 1, j, h => by
    rw [restA]
    by_cases hj : j < k
    · have := restA_all (os := os) hj
      split
      · exact this
      · exact List.mem_append_left _ this
    · obtain rfl : j = k := by omega
      split
      · rename_i hc; simpa using hc
      · simp
theorem orderA_len (l : List Item) : (orderA l).length = l.length := by
  refine Nat.le_antisymm (orderA_ok l).len ?_
  have h := sub_len ((List.range l.length)) ((orderA l).map Int.toNat) List.nodup_range fun j hj => by
    rw [List.mem_map]
    exact ⟨(j : Int), restA_all (List.mem_range.1 hj), by simp⟩
  simpa using h
/-- What plans.Order answers. -/
def orderR (l : List Item) : AV := if checkI l = 0 then .tu [.sl false ((orderA l).map intC) .full, .sc (.int .i64 0)] else .tu [.sl true [] .unk, .sc (.int .i64 (checkI l))]
theorem killBad_ok : ∀ {p : Option Int} {ks : List Int}, killBad p ks = false → ∀ n ∈ ks, 0 ≤ n ∧ n < 256
  | _, [], _, _, h => by cases h
  | p, m :: r, h, n, hn => by
    simp only [killBad, Bool.or_eq_false_iff] at h
    rcases List.mem_cons.1 hn with rfl | hn
    · have h1 := of_decide_eq_false h.1.1.1
      have h2 := of_decide_eq_false h.1.1.2
      omega
    · exact killBad_ok h.2 n hn
theorem checkI_sound {l : List Item} (h : checkI l = 0) : l.length ≤ 256 ∧ ∀ x ∈ l, (1 ≤ x.cost ∧ x.cost ≤ 1000000) ∧ ∀ n ∈ x.kills, 0 ≤ n ∧ n < 256 := by
  unfold checkI at h
  split at h
  · cases h
  · rename_i h1
    split at h
    · cases h
    · rename_i h2
      refine ⟨by omega, fun x hx => ?_⟩
      have hb : itemBad x = false := by
        cases hb : itemBad x with
        | false => rfl
        | true => exact absurd (List.any_eq_true.2 ⟨x, hx, hb⟩) h2
      rw [itemBad, Bool.or_eq_false_iff, costBad, Bool.or_eq_false_iff] at hb
      have h3 := of_decide_eq_false hb.1.1
      have h4 := of_decide_eq_false hb.1.2
      exact ⟨by omega, killBad_ok hb.2⟩
theorem orderR_noref (l : List Item) : (orderR l).noref = true := by unfold orderR; split <;> simp [AV.noref, AV.norefs]
set_option maxHeartbeats 4000000 in
theorem order_is (nl : Bool) (l : List Item) (c : Cp) (hk : ∀ x ∈ l, x.kills.length < 1000000) (hll : l.length < 1000000) :
    PureIs prog 15 [.sl nl (l.map itemC) c] (orderR l) := by
  refine PureIs.of (nv := 14) (hid := [17, 21, 27, 28, 29, 63, 68, 85, 86, 87, 93]) func15 rfl (by kernel_rfl) (by simp [ntmps15]) fun _ => ?_
  rw [ntmps15, results15]
  refine EvC.seq (EvC.rg (by (simp only [go_sem]) <;> rfl) (by simp) ?_)
  refine EvC.frzB 0 (by (simp only [go_sem]) <;> rfl) ?_
  refine EvC.seq ?_
  apply EvC.seq
  apply EvC.tr
  · apply Tr.run
    · (simp only [go_sem]) <;> rfl
    · simp
    apply Tr.cons
    · exact .call rfl rfl (by (simp only [go_sem]) <;> rfl) (by (simp only [go_sem]) <;> rfl) (by (simp only [go_sem]) <;> rfl) (by (simp only [go_sem]) <;> rfl) (by (simp only [go_sem]) <;> rfl) (check_items_is nl l c hk)
    apply Tr.done
    · (simp only [go_sem]) <;> rfl
    · simp
  refine EvC.seq (EvC.rg (by (simp only [go_sem]) <;> rfl) (by simp) ?_)
  refine EvC.cond (by (simp only [go_sem]) <;> rfl) (fun hc => ?_) (fun hc => ?_)
  · -- then
    have hc' : ¬ checkI l = 0 := by simpa using hc
    refine EvC.seq (EvC.rg (by (simp only [go_sem]) <;> rfl) (by simp) ?_)
    refine EvC.ret ⟨.inl rfl, _, (by (simp only [go_sem]) <;> rfl), ?_, orderR_noref l⟩
    simp only [go_sem]
    rw [orderR, if_neg hc']
  have hc' : checkI l = 0 := by simpa using hc
  clear hc
  refine EvC.skip ?_
  refine EvC.seq (EvC.rg (by (simp only [go_sem]) <;> rfl) (by simp) ?_)
  have hr1 : room l.length 8 = true := by simp only [room_eq, decide_eq_true_eq]; omega
  have hr2 : room l.length 1 = true := by simp only [room_eq, decide_eq_true_eq]; omega
  refine EvC.seq (EvC.rg (by (simp only [go_sem, List.length_map]) <;> rfl) (by simp [hr1, hr2]; try omega) ?_)
  refine EvC.seq (EvC.rg (by (simp only [go_sem, List.length_map]) <;> rfl) (by simp [hr1, hr2]; try omega) ?_)
  refine EvC.seq (EvC.rg (by (simp only [go_sem]) <;> rfl) (by simp) ?_)
  refine EvC.seq ?_
  refine EvC.block ?_  -- 0
  refine EvC.loopS (σ := List Int) (fun os => ⟨[(1, .ia [.sl nl (l.map itemC) c]), (5, .rf 0 0), (6, .tv 1 l.length 0 os.length (.val l.length)), (7, .tl 2 l.length false), (8, .fn 42 [.rf 0 0, .ia [.sl nl (l.map itemC) c]])], [], [(0, .cells (setC (killedP l os))), (1, .arr 1 (roomI l.length os) false), (2, .arr 1 (seenL l os) false)], 3⟩) (fun os => l.length - os.length) (fun os => OkA l os ∧ orderA l = restA (chainA l (l.length - os.length) os) l.length) [1, 5, 6, 7, 8] 3 ?_ ?_
  · exact ⟨[(8, 0), (11, 1), (15, 2)], [], rfl, (by rw [seenL_nil, setC_nil l, roomI_nil]; (simp only [go_sem, List.length_nil]) <;> rfl), OkA.nil l, rfl⟩
  rintro os ⟨ho, hinv⟩
  have hol := ho.len
  refine EvC.block ?_  -- 1
  refine EvC.seq (EvC.rg (by (simp only [go_sem]) <;> rfl) (by simp) ?_)
  refine EvC.seq ?_
  refine EvC.seq (EvC.rg (by (simp only [go_sem, List.length_map]) <;> rfl) (by simp) ?_)
  refine EvC.block ?_  -- 2
  refine EvC.loopS (σ := Nat) (fun k => ⟨[(1, .ia [.sl nl (l.map itemC) c]), (5, .rf 0 0), (6, .tv 1 l.length 0 os.length (.val l.length)), (7, .tl 2 l.length false), (8, .fn 42 [.rf 0 0, .ia [.sl nl (l.map itemC) c]]), (9, .sc (.int .i64 (bestI (pickK l os k)))), (10, .sc (.int .i64 (mostI l os (pickK l os k)))), (27, .sc (.int .i64 l.length)), (28, .sc (.int .i64 k))], [], [(0, .cells (setC (killedP l os))), (1, .arr 1 (roomI l.length os) false), (2, .arr 1 (seenL l os) false)], 3⟩) (fun k => l.length - k) (fun k => k ≤ l.length) [1, 5, 6, 7, 8, 9, 10, 27, 28] 3 ?_ ?_
  · exact ⟨[(0, 0), (1, 1), (2, 2)], 0, rfl, (by (simp only [go_sem, Int.natCast_zero, pickK, bestI, mostI]) <;> rfl), Nat.zero_le _⟩
  intro k hk1
  refine EvC.seq (EvC.rg (by (simp only [go_sem]) <;> rfl) (by simp) ?_)
  refine EvC.seq ?_
  refine EvC.cond (by (simp only [go_sem]) <;> rfl) (fun hc => ?_) (fun hc => ?_)
  rotate_left
  · -- else
    refine EvC.exit ?_  -- 2
    obtain rfl : l.length = k := by have : ¬ k < l.length := by simpa using hc
                                    omega
    clear hc
    refine EvC.seq ?_
    cases hp : pickA l os with
    | none =>
      have hp' : pickK l os l.length = none := hp
      rw [hp']
      simp only [bestI, mostI]
      refine EvC.seq (EvC.rg (by (simp only [go_sem]) <;> rfl) (by simp) ?_)
      refine EvC.cond (by (simp only [go_sem]) <;> rfl) (fun hc => ?_) (fun hc => ?_)
      rotate_left
      · simp at hc
      clear hc
      refine EvC.exit ?_  -- 0
      rw [chainA_stop hp] at hinv
      refine EvC.seq ?_
      refine EvC.seq (EvC.rg (by (simp only [go_sem, List.length_map]) <;> rfl) (by simp) ?_)
      refine EvC.block ?_  -- 4
      refine EvC.loopS (σ := Nat) (fun i => ⟨[(6, .tv 0 l.length 0 (restA os i).length (.val l.length)), (7, .tl 1 l.length false), (85, .sc (.int .i64 l.length)), (86, .sc (.int .i64 i))], [], [(0, .arr 1 (roomI l.length (restA os i)) false), (1, .arr 1 (seenL l os) false)], 2⟩) (fun i => l.length - i) (fun i => i ≤ l.length) [6, 7, 85, 86] 2 ?_ ?_
      · exact ⟨[(1, 0), (2, 1)], 0, rfl, (by (simp only [go_sem, Int.natCast_zero, restA]) <;> rfl), Nat.zero_le _⟩
      intro i hi
      have hok := restA_ok ho hi
      have hml := hok.len
      refine EvC.seq (EvC.rg (by (simp only [go_sem]) <;> rfl) (by simp) ?_)
      refine EvC.seq ?_
      refine EvC.cond (by (simp only [go_sem]) <;> rfl) (fun hc => ?_) (fun hc => ?_)
      rotate_left
      · -- else
        refine EvC.exit ?_  -- 4
        obtain rfl : l.length = i := by have : ¬ i < l.length := by simpa using hc
                                        omega
        rw [← hinv]
        rw [roomI_full (orderA_len l), orderA_len l]
        refine EvC.frz 0 (by (simp only [go_sem]) <;> rfl) ?_
        refine EvC.seq (EvC.rg (by (simp only [go_sem, List.length_map, orderA_len l]) <;> rfl) (by simp) ?_)
        refine EvC.ret ⟨.inl rfl, _, (by (simp only [go_sem, List.length_map, orderA_len l]) <;> rfl), ?_, orderR_noref l⟩
        simp only [go_sem, List.length_map, orderA_len l]
        rw [orderR, if_pos hc']
      have hil : i < l.length := by simpa using hc
      clear hc
      have hmm := restA_mem (os := os) (Nat.le_refl i)
      have hs1 : restA os (i + 1) = if (restA os i).contains (i : Int) then restA os i else restA os i ++ [(i : Int)] := rfl
      rw [hmm] at hs1
      have hsg := seenL_get os hil
      have hsl := seenL_len l os
      have hin : (i : Int).toNat = i := Int.toNat_natCast i
      generalize restA os i = T at *
      refine EvC.skip ?_
      refine EvC.seq ?_
      refine EvC.block ?_  -- 5
      refine EvC.seq (EvC.rg (by (simp only [go_sem]) <;> rfl) (by simp) ?_)
      refine EvC.seq (EvC.rg (by (simp only [go_sem, hsg, hsl, hin]) <;> rfl) (by simp; try omega) ?_)
      refine EvC.cond (by (simp only [go_sem]) <;> rfl) (fun hc => ?_) (fun hc => ?_)
      · -- then
        have hq : restA os (i + 1) = T ++ [(i : Int)] := by rw [hs1, if_neg]; simpa using hc
        have hsn : T.map intC ++ [[.sc (.int .i64 (i : Int))]] = (T ++ [(i : Int)]).map intC := by simp [intC]
        have hsl2 : T.length + 1 = (T ++ [(i : Int)]).length := by simp
        have hr2 : room (T.length + 1) 8 = true := by simp only [room_eq, decide_eq_true_eq]; omega
        have hml2 : T.length < l.length := by
          have h1 := (hok.snoc hil (by rw [← List.contains_iff_mem, hmm]; simpa using hc)).len
          simp only [List.length_append, List.length_singleton] at h1; omega
        have hap := roomI_app (n := l.length) (i : Int) hml2
        have hrl := roomI_len (n := l.length) (Nat.le_of_lt hml2)
        rw [hsl2] at hr2 hap
        have hle2 : (T ++ [(i : Int)]).length ≤ l.length := by rw [← hsl2]; omega
        generalize T ++ [(i : Int)] = L at hsn hsl2 hq hr2 hap hle2
        refine EvC.rg (by (simp only [go_sem, hsn, hsl2, hap, hrl]) <;> rfl) (by simp [hr2, hle2, hrl]) ?_
        refine EvC.rg (by (simp only [go_sem]) <;> rfl) (by exact inI64_of (by omega) (by omega)) ?_
        exact ⟨[(0, 0), (1, 1)], i + 1, rfl, (by rw [hq]; (simp only [go_sem, Int.natCast_add, Int.natCast_one]) <;> rfl), hil, by omega⟩
      have hq : restA os (i + 1) = T := by rw [hs1, if_pos]; simpa using hc
      refine EvC.skip ?_
      refine EvC.rg (by (simp only [go_sem]) <;> rfl) (by exact inI64_of (by omega) (by omega)) ?_
      exact ⟨[(0, 0), (1, 1)], i + 1, rfl, (by rw [hq]; (simp only [go_sem, Int.natCast_add, Int.natCast_one]) <;> rfl), hil, by omega⟩
    | some b =>
      have hp' : pickK l os l.length = some b := hp
      rw [hp']
      have hbl := pickA_lt hp
      have hst := chainA_step ho hp
      have hok := ho.pick hp
      have hol' := hok.len
      have hkp := killedP_snoc l os b
      have hxb : l[b]? = some (itemAt l (b : Int)) := itemAt_get (i := (b : Int)) ⟨by omega, by omega⟩
      have hxd := (checkI_sound hc').2 _ (List.mem_of_getElem? hxb)
      have hkl := hk _ (List.mem_of_getElem? hxb)
      have hbn : (b : Int).toNat = b := Int.toNat_natCast b
      have hss := seenL_set l os b
      have hsl := seenL_len l os
      have hsg := seenL_get os hbl
      simp only [bestI, mostI]
      refine EvC.seq (EvC.rg (by (simp only [go_sem]) <;> rfl) (by simp) ?_)
      refine EvC.cond (by (simp only [go_sem]) <;> rfl) (fun hc => ?_) (fun hc => ?_)
      · have : (b : Int) = -1 := by simpa using hc
        omega
      clear hc
      refine EvC.skip ?_
      have hsn : os.map intC ++ [[.sc (.int .i64 (b : Int))]] = (os ++ [(b : Int)]).map intC := by simp [intC]
      have hsl2 : os.length + 1 = (os ++ [(b : Int)]).length := by simp
      have hr2 : room (os.length + 1) 8 = true := by simp only [room_eq, decide_eq_true_eq]; omega
      rw [hst] at hinv
      have hml2 : os.length < l.length := by omega
      have hap := roomI_app (n := l.length) (b : Int) hml2
      have hrl := roomI_len (n := l.length) (Nat.le_of_lt hml2)
      rw [hsl2] at hr2 hap
      have o := of_is (itemAt l (b : Int)).nl (itemAt l (b : Int)).kills .unk hkl hxd.2
      have w := with_is (killedP l os) (inL (itemAt l (b : Int)).kills)
      generalize itemAt l (b : Int) = x at hxb hkp o w
      apply EvC.seq  -- R17
      apply EvC.drw mixed
      · apply Tr.run
        · (simp only [go_sem, hxb, itemC, List.length_map, hbn, setC_take]) <;> rfl
        · simp [setC_len]; try omega
        apply Tr.cons
        · exact .call rfl rfl (by (simp only [go_sem]) <;> rfl) (by (simp only [go_sem]) <;> rfl) (by (simp only [go_sem]) <;> rfl) (by (simp only [go_sem]) <;> rfl) (by (simp only [go_sem]) <;> rfl) o
        apply Tr.cons
        · exact .call rfl rfl (by (simp only [go_sem]) <;> rfl) (by (simp only [go_sem]) <;> rfl) (by (simp only [go_sem]) <;> rfl) (by (simp only [go_sem]) <;> rfl) (by (simp only [go_sem]) <;> rfl) w
        apply Tr.done
        · (simp only [go_sem, setC_len]) <;> rfl
        · simp [setC_len]
          try exact setC_acell _ _
      · exact confAll_slots (by simp [rdOk, slotsOf, opSlots, memless, Op.operands, Call.operands, setC_idss, odds]) (by kernel_rfl)
      rw [← hkp]
      generalize os ++ [(b : Int)] = L at hsn hsl2 hinv hok hol' hr2 hss hap
      refine EvC.seq (EvC.rg (by (simp only [go_sem, hsn, hsl2, hap, hrl]) <;> rfl) (by simp [hr2, hol', hrl]) ?_)
      refine EvC.rg (by (simp only [go_sem, hbn, hsg, hsl, hss]) <;> rfl) (by simp [hsl]; try omega) ?_
      exact ⟨[(0, 0), (1, 1), (2, 2)], L, rfl, (by (simp only [go_sem]) <;> rfl), ⟨hok, hinv⟩, by omega⟩
  have hkl : k < l.length := by simpa using hc
  clear hc
  have hxk : l[k]? = some (itemAt l (k : Int)) := itemAt_get (i := (k : Int)) ⟨by omega, by omega⟩
  have hxc := (checkI_sound hc').2 _ (List.mem_of_getElem? hxk)
  refine EvC.skip ?_
  refine EvC.seq ?_
  refine EvC.block ?_  -- 3
  refine EvC.seq (EvC.rg (by (simp only [go_sem]) <;> rfl) (by simp) ?_)
  apply EvC.seq  -- R12
  apply EvC.region
  apply XR.run
  · (simp only [go_sem]) <;> rfl
  · simp
  apply XR.callI rfl rfl (by (simp only [go_sem]) <;> rfl) (by (simp only [go_sem]) <;> rfl) (by (simp only [go_sem]) <;> rfl)
  refine order1_body nl l c k (itemAt l (k : Int)) (killedP l os) 0 _ _ hxk hxc.2 (hk _ (List.mem_of_getElem? hxk)) (by rfl) ?_
  apply XR.done
  · (simp only [go_sem]) <;> rfl
  · simp
  obtain ⟨F, hF⟩ : ∃ F, F = frA l os k := ⟨_, rfl⟩
  have hfb := frA_bd l os k
  rw [← hF] at hfb
  rw [show freshN (killedP l os) (itemAt l (k : Int)).kills = F from hF.symm]
  have hps : pickK l os (k + 1) = if (!os.contains (k : Int) && (decide (0 < F) && ahead l os (pickK l os k) k)) = true then some k else pickK l os k := by
    rw [hF]; rfl
  have hsg := seenL_get os hkl
  have hsl := seenL_len l os
  have hkn : (k : Int).toNat = k := Int.toNat_natCast k
  obtain ⟨hxc, -⟩ := hxc
  cases hp : pickK l os k with
  | none =>
    rw [hp] at hps
    simp only [ahead, Bool.and_true] at hps
    simp only [bestI, mostI]
    have hx0 : l[0]? = some (l[0]'(by omega)) := List.getElem?_eq_getElem (by omega)
    generalize l[0]'(by omega) = z at hx0
    generalize itemAt l (k : Int) = x at hxk hxc
    apply EvC.seq
    apply EvC.drd mixed
    · (simp only [go_sem, hx0, hxk, itemC, List.length_map, hsg, hsl]) <;> rfl
    · simp; try omega
    · kernel_rfl
    refine EvC.cond (by (simp only [go_sem]) <;> rfl) (fun hc => ?_) (fun hc => ?_)
    · -- then
      have hq : pickK l os (k + 1) = some k := by rw [hps, if_pos]; simpa using hc
      refine EvC.rg (by (simp only [go_sem]) <;> rfl) (by simp) ?_
      refine EvC.rg (by (simp only [go_sem]) <;> rfl) (by exact inI64_of (by omega) (by omega)) ?_
      exact ⟨[(0, 0), (1, 1), (2, 2)], k + 1, rfl, (by rw [hq]; (simp only [go_sem, bestI, mostI, ← hF, Int.natCast_add, Int.natCast_one]) <;> rfl), hkl, by omega⟩
    have hq : pickK l os (k + 1) = none := by rw [hps, if_neg]; simpa using hc
    refine EvC.skip ?_
    refine EvC.rg (by (simp only [go_sem]) <;> rfl) (by exact inI64_of (by omega) (by omega)) ?_
    exact ⟨[(0, 0), (1, 1), (2, 2)], k + 1, rfl, (by rw [hq]; (simp only [go_sem, bestI, mostI, Int.natCast_add, Int.natCast_one]) <;> rfl), hkl, by omega⟩
  | some b =>
    rw [hp] at hps
    simp only [ahead, ← hF] at hps
    have hbk := pickK_lt hp
    have hxb : l[b]? = some (itemAt l (b : Int)) := itemAt_get (i := (b : Int)) ⟨by omega, by omega⟩
    have hxd := ((checkI_sound hc').2 _ (List.mem_of_getElem? hxb)).1
    have hfd := frA_bd l os b
    simp only [bestI, mostI]
    generalize hB : frA l os b = B at hps hfd
    generalize itemAt l (b : Int) = y at hxb hxd hps
    generalize itemAt l (k : Int) = x at hxk hxc hps
    have hm1 : inI64 (F * y.cost) = true := inI64_of (by have := Int.mul_nonneg hfb.1 (show 0 ≤ y.cost by omega); omega) (by have := Int.mul_le_mul hfb.2 hxd.2 (by omega) (by omega); omega)
    have hm2 : inI64 (B * x.cost) = true := inI64_of (by have := Int.mul_nonneg hfd.1 (show 0 ≤ x.cost by omega); omega) (by have := Int.mul_le_mul hfd.2 hxc.2 (by omega) (by omega); omega)
    have hb0 : decide ((b : Int) = -1) = false := decide_eq_false (by omega)
    have hbn : (b : Int).toNat = b := Int.toNat_natCast b
    apply EvC.seq
    apply EvC.drd mixed
    · (simp only [go_sem, hxb, hxk, itemC, List.length_map, hb0, hbn, hsg, hsl]) <;> rfl
    · simp [hm1, hm2]; try omega
    · kernel_rfl
    refine EvC.cond (by (simp only [go_sem]) <;> rfl) (fun hc => ?_) (fun hc => ?_)
    · -- then
      have hq : pickK l os (k + 1) = some k := by rw [hps, if_pos]; simpa [and_assoc] using hc
      refine EvC.rg (by (simp only [go_sem]) <;> rfl) (by simp) ?_
      refine EvC.rg (by (simp only [go_sem]) <;> rfl) (by exact inI64_of (by omega) (by omega)) ?_
      exact ⟨[(0, 0), (1, 1), (2, 2)], k + 1, rfl, (by rw [hq]; (simp only [go_sem, bestI, mostI, ← hF, Int.natCast_add, Int.natCast_one]) <;> rfl), hkl, by omega⟩
    have hq : pickK l os (k + 1) = some b := by rw [hps, if_neg]; simpa using hc
    refine EvC.skip ?_
    refine EvC.rg (by (simp only [go_sem]) <;> rfl) (by exact inI64_of (by omega) (by omega)) ?_
    exact ⟨[(0, 0), (1, 1), (2, 2)], k + 1, rfl, (by rw [hq]; (simp only [go_sem, bestI, mostI, hB, Int.natCast_add, Int.natCast_one]) <;> rfl), hkl, by omega⟩
end Go.Avl
namespace Go.Avl
open Go Go.Proofs.Tryd
set_option maxRecDepth 10000
set_option linter.unusedSimpArgs false

/-! ### Choices -/
def chBad (n : Nat) (pre : List Int) (x : Int) : Bool := decide (x < 0) || (decide ((n : Int) ≤ x) || pre.contains x)
def chFrom (n : Nat) : List Int → List Int → Bool
  | _, [] => true
  | pre, x :: r => !chBad n pre x && chFrom n (pre ++ [x]) r
def choiceB (l : List Item) (ch : List Int) : Bool := chFrom l.length [] ch
theorem chFrom_step {n : Nat} {ch : List Int} {i : Nat} {x : Int} (h : ch[i]? = some x) : chFrom n (ch.take i) (ch.drop i) = (!chBad n (ch.take i) x && chFrom n (ch.take (i + 1)) (ch.drop (i + 1))) := by
  obtain ⟨hi, he⟩ := List.getElem?_eq_some_iff.1 h
  rw [List.drop_eq_getElem_cons hi, he, List.take_succ_eq_append_getElem hi, he]
  rfl
theorem chFrom_end {n : Nat} {ch : List Int} : chFrom n (ch.take ch.length) (ch.drop ch.length) = true := by rw [List.drop_length]; rfl
theorem chFrom_ok {l : List Item} : ∀ {r pre : List Int}, OkA l pre → (chFrom l.length pre r = true ↔ OkA l (pre ++ r))
  | [], pre, h => by simpa [chFrom] using h
  | x :: r, pre, h => by
    rw [chFrom]
    constructor
    · intro hc
      rw [Bool.and_eq_true] at hc
      obtain ⟨h1, h2⟩ := hc
      simp only [chBad, Bool.not_eq_true', Bool.or_eq_false_iff, decide_eq_false_iff_not] at h1
      obtain ⟨a1, a2, a3⟩ := h1
      obtain ⟨k, rfl⟩ : ∃ k : Nat, x = k := ⟨x.toNat, by omega⟩
      have := (chFrom_ok (h.snoc (b := k) (by omega) (by simpa using a3))).1 h2
      simpa using this
    · intro ho
      have h0 := ho.rng x (by simp)
      have hd : ¬ x ∈ pre := by
        have := ho.nd
        rw [List.nodup_append] at this
        intro hx
        exact this.2.2 x hx x List.mem_cons_self rfl
      obtain ⟨k, rfl⟩ : ∃ k : Nat, x = k := ⟨x.toNat, by omega⟩
      have h2 := (chFrom_ok (r := r) (h.snoc (b := k) (by omega) hd)).2 (by simpa using ho)
      rw [h2, Bool.and_true, chBad]
      simp only [Bool.not_eq_true', Bool.or_eq_false_iff, decide_eq_false_iff_not]
      exact ⟨by omega, by omega, by simpa using hd⟩
theorem choiceB_ok {l : List Item} {ch : List Int} : choiceB l ch = true ↔ OkA l ch := by
  have := chFrom_ok (r := ch) (OkA.nil l)
  simpa [choiceB] using this

set_option maxHeartbeats 1000000 in
theorem choice31_is (nl : Bool) (l : List Item) (c : Cp) (cn : Bool) (ch : List Int) (cc : Cp) (hcl : ch.length < 1000000) :
    PureIs prog 31 [.sl nl (l.map itemC) c, .sl cn (ch.map intC) cc] (.sc (.bool (choiceB l ch))) := by
  refine PureIs.of (nv := 2) (hid := [4, 5, 9, 35]) func31 rfl (by kernel_rfl) (by simp [ntmps31]) fun _ => ?_
  rw [ntmps31, results31]
  refine EvC.seq (EvC.rg (by (simp only [go_sem]) <;> rfl) (by simp) ?_)
  refine EvC.seq ?_
  refine EvC.seq (EvC.rg (by (simp only [go_sem]) <;> rfl) (by simp) ?_)
  refine EvC.block ?_  -- 0
  refine EvC.loopS (σ := Nat) (fun i => ⟨[(0, .sl nl (l.map itemC) c), (1, .sl cn (ch.map intC) cc), (5, .sc (.int .i64 i))], [], [], 0⟩) (fun i => ch.length - i) (fun i => i ≤ ch.length ∧ choiceB l ch = chFrom l.length (ch.take i) (ch.drop i)) [0, 1, 5] 0 ?_ ?_
  · exact ⟨[], 0, rfl, (by (simp only [go_sem, Int.natCast_zero]) <;> rfl), Nat.zero_le _, rfl⟩
  rintro i ⟨hi, hinv⟩
  refine EvC.seq ?_
  refine EvC.seq (EvC.rg (by (simp only [go_sem, List.length_map]) <;> rfl) (by simp) ?_)
  refine EvC.cond (by (simp only [go_sem]) <;> rfl) (fun hc => ?_) (fun hc => ?_)
  rotate_left
  · -- else
    refine EvC.exit ?_  -- 0
    obtain rfl : ch.length = i := by have : ¬ i < ch.length := by simpa using hc
                                     omega
    rw [chFrom_end] at hinv
    rw [hinv]
    refine EvC.seq (EvC.rg (by (simp only [go_sem]) <;> rfl) (by simp) ?_)
    refine EvC.ret ⟨.inl rfl, _, (by (simp only [go_sem]) <;> rfl), ?_, rfl⟩
    simp only [go_sem]
  have hil : i < ch.length := by simpa using hc
  clear hc
  have he : ch[i]? = some (ch[i]'hil) := List.getElem?_eq_getElem hil
  generalize ch[i]'hil = x at he
  rw [chFrom_step he] at hinv
  have hin : (i : Int).toNat = i := Int.toNat_natCast i
  refine EvC.skip ?_
  refine EvC.seq ?_
  refine EvC.block ?_  -- 1
  by_cases h1 : x < 0
  · have d1 : decide (x < 0) = true := decide_eq_true h1
    have hb : chBad l.length (ch.take i) x = true := by rw [chBad, d1]; rfl
    rw [hb] at hinv
    rw [hinv]
    apply EvC.seq
    apply EvC.drw mixed
    · apply Tr.run
      · (simp only [go_sem, he, intC, List.length_map, hin, d1]) <;> rfl
      · simp [intC]; try omega
      apply Tr.cons
      · exact .skipv (.sc (.bool false)) rfl rfl (by (simp only [go_sem]) <;> rfl) (by (simp only [go_sem]) <;> rfl)
      apply Tr.done
      · (simp only [go_sem]) <;> rfl
      · simp
    · kernel_rfl
    refine EvC.cond_true (by (simp only [go_sem]) <;> rfl) ?_
    refine EvC.seq (EvC.rg (by (simp only [go_sem]) <;> rfl) (by simp) ?_)
    refine EvC.ret ⟨.inl rfl, _, (by (simp only [go_sem]) <;> rfl), ?_, rfl⟩
    simp only [go_sem]
  have d1 : decide (x < 0) = false := decide_eq_false h1
  by_cases h2 : (l.length : Int) ≤ x
  · have d2 : decide ((l.length : Int) ≤ x) = true := decide_eq_true h2
    have hb : chBad l.length (ch.take i) x = true := by rw [chBad, d1, d2]; rfl
    rw [hb] at hinv
    rw [hinv]
    apply EvC.seq
    apply EvC.drw mixed
    · apply Tr.run
      · (simp only [go_sem, he, intC, List.length_map, hin, d1, d2]) <;> rfl
      · simp [intC]; try omega
      apply Tr.cons
      · exact .skipv (.sc (.bool false)) rfl rfl (by (simp only [go_sem]) <;> rfl) (by (simp only [go_sem]) <;> rfl)
      apply Tr.done
      · (simp only [go_sem]) <;> rfl
      · simp
    · kernel_rfl
    refine EvC.cond_true (by (simp only [go_sem]) <;> rfl) ?_
    refine EvC.seq (EvC.rg (by (simp only [go_sem]) <;> rfl) (by simp) ?_)
    refine EvC.ret ⟨.inl rfl, _, (by (simp only [go_sem]) <;> rfl), ?_, rfl⟩
    simp only [go_sem]
  have d2 : decide ((l.length : Int) ≤ x) = false := decide_eq_false h2
  have hq := has_is cn (ch.take i) (cutHead cc) x (by rw [List.length_take]; omega)
  have hb : chBad l.length (ch.take i) x = (ch.take i).contains x := by rw [chBad, d1, d2]; rfl
  rw [hb] at hinv
  generalize (ch.take i).contains x = q at hq hinv
  apply EvC.seq
  apply EvC.drw mixed
  · apply Tr.run
    · (simp only [go_sem, he, intC, List.length_map, ← List.map_take, List.drop_zero, hin, d1, d2]) <;> rfl
    · simp [intC]; try omega
    apply Tr.cons
    · exact .callG rfl rfl (by (simp only [go_sem]) <;> rfl) rfl (by (simp only [go_sem]) <;> rfl) (by (simp only [go_sem]) <;> rfl) (by (simp only [go_sem]) <;> rfl) (by (simp only [go_sem]) <;> rfl) (by (simp only [go_sem]) <;> rfl) (hq)
    apply Tr.done
    · (simp only [go_sem]) <;> rfl
    · simp
  · kernel_rfl
  refine EvC.cond (by (simp only [go_sem]) <;> rfl) (fun hc => ?_) (fun hc => ?_)
  · have hc' : q = true := by simpa using hc
    rw [hc'] at hinv
    rw [hinv]
    refine EvC.seq (EvC.rg (by (simp only [go_sem]) <;> rfl) (by simp) ?_)
    refine EvC.ret ⟨.inl rfl, _, (by (simp only [go_sem]) <;> rfl), ?_, rfl⟩
    simp only [go_sem]
  have hc' : q = false := by simpa using hc
  rw [hc'] at hinv
  refine EvC.skip ?_
  refine EvC.rg (by (simp only [go_sem]) <;> rfl) (by exact inI64_of (by omega) (by omega)) ?_
  exact ⟨[], i + 1, rfl, (by (simp only [go_sem, Int.natCast_add, Int.natCast_one]) <;> rfl), ⟨hil, hinv⟩, by omega⟩
end Go.Avl
namespace Go.Avl
open Go Go.Proofs.Tryd
set_option maxRecDepth 10000
set_option linter.unusedSimpArgs false

/-! ### Curves -/
def pairC (p : Int × Int) : List AV := [.sc (.int .i64 p.1), .sc (.int .i64 p.2)]
@[go_sem] theorem norefs_pairs (l : List (Int × Int)) : (l.map pairC).all AV.norefs = true := by simp [List.all_eq_true, pairC, AV.norefs, AV.noref]
theorem list_step {α : Type} {a : List α} {i : Nat} {x : α} (h : a[i]? = some x) : a.drop i = x :: a.drop (i + 1) := by
  obtain ⟨hi, he⟩ := List.getElem?_eq_some_iff.1 h
  rw [List.drop_eq_getElem_cons hi, he]

theorem curves_is (na nb : Bool) (a b : List (Int × Int)) (cb : Cp) (hl : a.length < 1000000) :
    PureIs prog 28 [.sl na (a.map pairC) .full, .sl nb (b.map pairC) cb] (.sc (.bool (decide (a = b)))) := by
  refine PureIs.of (nv := 2) (hid := [4, 5, 17, 21, 32]) func28 rfl (by kernel_rfl) (by simp [ntmps28]) fun _ => ?_
  rw [ntmps28, results28]
  refine EvC.seq (EvC.rg (by (simp only [go_sem]) <;> rfl) (by simp) ?_)
  refine EvC.seq ?_
  by_cases hlen : a.length = b.length
  rotate_left
  · have hd : decide ((a.length : Int) = (b.length : Int)) = false := decide_eq_false (by omega)
    have hab : decide (a = b) = false := decide_eq_false fun h => hlen (by rw [h])
    rw [hab]
    apply EvC.seq
    apply EvC.trd
    · (simp only [go_sem, List.length_map, hd]) <;> rfl
    · simp
    refine EvC.cond_true (by (simp only [go_sem]) <;> rfl) ?_
    refine EvC.seq (EvC.rg (by (simp only [go_sem]) <;> rfl) (by simp) ?_)
    refine EvC.ret ⟨.inl rfl, _, (by (simp only [go_sem]) <;> rfl), ?_, rfl⟩
    simp only [go_sem]
  have hd : decide ((a.length : Int) = (b.length : Int)) = true := decide_eq_true (by omega)
  apply EvC.seq
  apply EvC.trd
  · (simp only [go_sem, List.length_map, hd]) <;> rfl
  · simp
  refine EvC.cond_false (by (simp only [go_sem]) <;> rfl) ?_
  refine EvC.skip ?_
  refine EvC.seq ?_
  refine EvC.seq (EvC.rg (by (simp only [go_sem]) <;> rfl) (by simp) ?_)
  refine EvC.block ?_  -- 0
  refine EvC.loopS (σ := Nat) (fun i => ⟨[(0, .sl na (a.map pairC) .full), (1, .sl nb (b.map pairC) cb), (5, .sc (.int .i64 i))], [], [], 0⟩) (fun i => a.length - i) (fun i => i ≤ a.length ∧ decide (a = b) = decide (a.drop i = b.drop i)) [0, 1, 5] 0 ?_ ?_
  · exact ⟨[], 0, rfl, (by (simp only [go_sem, Int.natCast_zero]) <;> rfl), Nat.zero_le _, rfl⟩
  rintro i ⟨hi, hinv⟩
  refine EvC.seq ?_
  refine EvC.seq (EvC.rg (by (simp only [go_sem, List.length_map]) <;> rfl) (by simp) ?_)
  refine EvC.cond (by (simp only [go_sem]) <;> rfl) (fun hc => ?_) (fun hc => ?_)
  rotate_left
  · -- else
    refine EvC.exit ?_  -- 0
    obtain rfl : a.length = i := by have : ¬ i < a.length := by simpa using hc
                                    omega
    have h0 : decide (a = b) = true := by rw [hinv, List.drop_length, hlen, List.drop_length]; simp
    rw [h0]
    refine EvC.seq (EvC.rg (by (simp only [go_sem]) <;> rfl) (by simp) ?_)
    refine EvC.ret ⟨.inl rfl, _, (by (simp only [go_sem]) <;> rfl), ?_, rfl⟩
    simp only [go_sem]
  have hil : i < a.length := by simpa using hc
  clear hc
  have he : a[i]? = some (a[i]'hil) := List.getElem?_eq_getElem hil
  have hf : b[i]? = some (b[i]'(by omega)) := List.getElem?_eq_getElem (by omega)
  generalize a[i]'hil = x at he
  generalize b[i]'(by omega) = y at hf
  rw [list_step he, list_step hf] at hinv
  obtain ⟨x1, x2⟩ := x
  obtain ⟨y1, y2⟩ := y
  have hin : (i : Int).toNat = i := Int.toNat_natCast i
  refine EvC.skip ?_
  refine EvC.seq ?_
  refine EvC.block ?_  -- 1
  apply EvC.seq
  apply EvC.drd mixed
  · (simp only [go_sem, he, hf, pairC, hin, List.length_map]) <;> rfl
  · simp
  · kernel_rfl
  refine EvC.cond (by (simp only [go_sem]) <;> rfl) (fun hc => ?_) (fun hc => ?_)
  · -- then
    have hc' : decide (a = b) = false := by
      rw [hinv]
      refine decide_eq_false fun h => ?_
      simp only [List.cons.injEq, Prod.mk.injEq] at h
      simp [h.1.1, h.1.2] at hc
    rw [hc']
    refine EvC.seq (EvC.rg (by (simp only [go_sem]) <;> rfl) (by simp) ?_)
    refine EvC.ret ⟨.inl rfl, _, (by (simp only [go_sem]) <;> rfl), ?_, rfl⟩
    simp only [go_sem]
  have hxy : x1 = y1 ∧ x2 = y2 := by simpa using hc
  obtain ⟨rfl, rfl⟩ := hxy
  refine EvC.skip ?_
  refine EvC.rg (by (simp only [go_sem]) <;> rfl) (by exact inI64_of (by omega) (by omega)) ?_
  exact ⟨[], i + 1, rfl, (by (simp only [go_sem, Int.natCast_add, Int.natCast_one]) <;> rfl), ⟨hil, by rw [hinv]; simp⟩, by omega⟩

/-- Lists of items are equal. -/
def Item.Eqv (x y : Item) : Prop := x.cost = y.cost ∧ x.kills = y.kills
instance : DecidableRel Item.Eqv := fun x y => inferInstanceAs (Decidable (x.cost = y.cost ∧ x.kills = y.kills))
def sameI : List Item → List Item → Bool
  | [], [] => true
  | x :: a, y :: b => decide (x.Eqv y) && sameI a b
  | _, _ => false
theorem sameI_len : ∀ {a b : List Item}, sameI a b = true → a.length = b.length
  | [], [], _ => rfl
  | x :: a, y :: b, h => by
    simp only [sameI, Bool.and_eq_true] at h
    simp [sameI_len h.2]
  | [], _ :: _, h => by simp [sameI] at h
  | _ :: _, [], h => by simp [sameI] at h
theorem sameI_refl : ∀ a : List Item, sameI a a = true
  | [] => rfl
  | x :: a => by simp [sameI, Item.Eqv, sameI_refl a]

theorem sameI_is (na nb : Bool) (a b : List Item) (ca cb : Cp) (hl : a.length < 1000000) (hk : ∀ x ∈ a, x.kills.length < 1000000) :
    PureIs prog 22 [.sl na (a.map itemC) ca, .sl nb (b.map itemC) cb] (.sc (.bool (sameI a b))) := by
  refine PureIs.of (nv := 2) (hid := [4, 5, 10, 14, 41]) func22 rfl (by kernel_rfl) (by simp [ntmps22]) fun _ => ?_
  rw [ntmps22, results22]
  refine EvC.seq (EvC.rg (by (simp only [go_sem]) <;> rfl) (by simp) ?_)
  refine EvC.seq ?_
  refine EvC.seq (EvC.rg (by (simp only [go_sem, List.length_map]) <;> rfl) (by simp) ?_)
  by_cases hlen : a.length = b.length
  rotate_left
  · have hd : decide ((a.length : Int) = (b.length : Int)) = false := decide_eq_false (by omega)
    have hab : sameI a b = false := by
      cases h : sameI a b with
      | false => rfl
      | true => exact absurd (sameI_len h) hlen
    rw [hab]
    refine EvC.cond_true (by (simp only [go_sem, hd]) <;> rfl) ?_
    refine EvC.seq (EvC.rg (by (simp only [go_sem]) <;> rfl) (by simp) ?_)
    refine EvC.ret ⟨.inl rfl, _, (by (simp only [go_sem]) <;> rfl), ?_, rfl⟩
    simp only [go_sem]
  have hd : decide ((a.length : Int) = (b.length : Int)) = true := decide_eq_true (by omega)
  refine EvC.cond_false (by (simp only [go_sem, hd]) <;> rfl) ?_
  refine EvC.skip ?_
  refine EvC.seq ?_
  refine EvC.seq (EvC.rg (by (simp only [go_sem]) <;> rfl) (by simp) ?_)
  refine EvC.block ?_  -- 0
  refine EvC.loopS (σ := Nat) (fun i => ⟨[(0, .sl na (a.map itemC) ca), (1, .sl nb (b.map itemC) cb), (5, .sc (.int .i64 i))], [], [], 0⟩) (fun i => a.length - i) (fun i => i ≤ a.length ∧ sameI a b = sameI (a.drop i) (b.drop i)) [0, 1, 5] 0 ?_ ?_
  · exact ⟨[], 0, rfl, (by (simp only [go_sem, Int.natCast_zero]) <;> rfl), Nat.zero_le _, rfl⟩
  rintro i ⟨hi, hinv⟩
  refine EvC.seq ?_
  refine EvC.seq (EvC.rg (by (simp only [go_sem, List.length_map]) <;> rfl) (by simp) ?_)
  refine EvC.cond (by (simp only [go_sem]) <;> rfl) (fun hc => ?_) (fun hc => ?_)
  rotate_left
  · -- else
    refine EvC.exit ?_  -- 0
    obtain rfl : a.length = i := by have : ¬ i < a.length := by simpa using hc
                                    omega
    have h0 : sameI a b = true := by rw [hinv, List.drop_length, hlen, List.drop_length]; rfl
    rw [h0]
    refine EvC.seq (EvC.rg (by (simp only [go_sem]) <;> rfl) (by simp) ?_)
    refine EvC.ret ⟨.inl rfl, _, (by (simp only [go_sem]) <;> rfl), ?_, rfl⟩
    simp only [go_sem]
  have hil : i < a.length := by simpa using hc
  clear hc
  have he : a[i]? = some (a[i]'hil) := List.getElem?_eq_getElem hil
  have hf : b[i]? = some (b[i]'(by omega)) := List.getElem?_eq_getElem (by omega)
  have hx := hk _ (List.getElem_mem hil)
  generalize a[i]'hil = x at he hx
  generalize b[i]'(by omega) = y at hf
  rw [list_step he, list_step hf, sameI] at hinv
  have hin : (i : Int).toNat = i := Int.toNat_natCast i
  refine EvC.skip ?_
  refine EvC.seq ?_
  refine EvC.block ?_  -- 1
  by_cases hcost : x.cost = y.cost
  rotate_left
  · have d1 : decide (x.cost = y.cost) = false := decide_eq_false hcost
    have h0 : decide (x.Eqv y) = false := decide_eq_false fun h => hcost h.1
    rw [h0, Bool.false_and] at hinv
    rw [hinv]
    apply EvC.seq
    apply EvC.drw mixed
    · apply Tr.run
      · (simp only [go_sem, he, hf, itemC, hin, List.length_map, d1]) <;> rfl
      · simp [itemC]; try omega
      apply Tr.cons
      · exact .skipv (.sc (.bool false)) rfl rfl (by (simp only [go_sem]) <;> rfl) (by (simp only [go_sem]) <;> rfl)
      apply Tr.done
      · (simp only [go_sem]) <;> rfl
      · simp
    · kernel_rfl
    refine EvC.cond_true (by (simp only [go_sem]) <;> rfl) ?_
    refine EvC.seq (EvC.rg (by (simp only [go_sem]) <;> rfl) (by simp) ?_)
    refine EvC.ret ⟨.inl rfl, _, (by (simp only [go_sem]) <;> rfl), ?_, rfl⟩
    simp only [go_sem]
  have d1 : decide (x.cost = y.cost) = true := decide_eq_true hcost
  have hq := same_is x.nl x.kills .unk y.nl y.kills .unk hx
  have h0 : decide (x.Eqv y) = decide (x.kills = y.kills) := decide_eq_decide.2 ⟨fun h => h.2, fun h => ⟨hcost, h⟩⟩
  rw [h0] at hinv
  generalize decide (x.kills = y.kills) = q at hq hinv
  apply EvC.seq
  apply EvC.drw mixed
  · apply Tr.run
    · (simp only [go_sem, he, hf, itemC, hin, List.length_map, d1]) <;> rfl
    · simp [itemC]; try omega
    apply Tr.cons
    · exact .callG rfl rfl (by (simp only [go_sem]) <;> rfl) rfl (by (simp only [go_sem]) <;> rfl) (by (simp only [go_sem]) <;> rfl) (by (simp only [go_sem]) <;> rfl) (by (simp only [go_sem]) <;> rfl) (by (simp only [go_sem]) <;> rfl) (hq)
    apply Tr.done
    · (simp only [go_sem]) <;> rfl
    · simp
  · kernel_rfl
  refine EvC.cond (by (simp only [go_sem]) <;> rfl) (fun hc => ?_) (fun hc => ?_)
  · have hc' : q = false := by simpa using hc
    rw [hc', Bool.false_and] at hinv
    rw [hinv]
    refine EvC.seq (EvC.rg (by (simp only [go_sem]) <;> rfl) (by simp) ?_)
    refine EvC.ret ⟨.inl rfl, _, (by (simp only [go_sem]) <;> rfl), ?_, rfl⟩
    simp only [go_sem]
  have hc' : q = true := by simpa using hc
  rw [hc', Bool.true_and] at hinv
  refine EvC.skip ?_
  refine EvC.rg (by (simp only [go_sem]) <;> rfl) (by exact inI64_of (by omega) (by omega)) ?_
  exact ⟨[], i + 1, rfl, (by (simp only [go_sem, Int.natCast_add, Int.natCast_one]) <;> rfl), ⟨hil, hinv⟩, by omega⟩
end Go.Avl
