/-
  Lemmas.
  Lemmas.
  Functions that work on objects that are there: what comes of them from given arguments and memory.
  Lemmas.
  Lemmas.
  Lemmas.
  How the arguments of the law of filled machines read.
  JoinsFill returns true at every input, and each argument reads behind the call as it read before.
  Conditions: those of the given row alone (no others).
-/
import Derived.Test.YtbiifplfohnpeaaPart7
set_option linter.unusedSimpArgs false
set_option linter.unusedVariables false
set_option linter.unnecessarySimpa false
set_option linter.deprecated false
namespace Go.Avl
open Go Go.Proofs.Try
set_option maxRecDepth 10000
set_option linter.unusedSimpArgs false

theorem Valid.check {m : Mach} (h : Valid m) : checkM m = 0 := by
  have h1 := h.ins
  have h2 := h.outs
  have h3 := h.rows
  unfold checkM
  rw [if_neg (by omega), if_neg (by omega), if_pos]
  rw [List.all_eq_true]
  intro r hr
  obtain ⟨k1, k2⟩ := h.row r hr
  simp only [rowOk, Bool.and_eq_true, decide_eq_true_eq, Bool.not_eq_true', List.any_eq_false]
  exact ⟨k1, fun e he => by simpa using k2 e he⟩
theorem ints_unk (l : List Int) : AV.unkss (l.map intC) = l.map intC := unkss_map intC (fun _ => rfl) l
theorem Valid.small {q : Mach} (hq : Valid q) : ∀ r ∈ q.rows, r.2.length < 1000000 := by
  intro r hr
  have h1 := (hq.row r hr).1
  have h2 := hq.ins
  omega
theorem runF_is {m : Mach} (hv : Valid m) (nl : Bool) (w : List Int) (c : Cp) (hw : ∀ a ∈ w, 0 ≤ a ∧ a < m.ins) (hl : w.length < 1000000) (s : Int) (hs : s < m.rows.length) :
    PureIs prog 17 [.ag m.cellsF, .sc (.int .i64 s), .sl nl (w.map intC) c] (.sl (runR m s w).isEmpty ((runR m s w).map intC) .unk) := by
  refine PureIs.weak ?_
  simp only [List.map_cons, List.map_nil, AV.unk, Mach.cellsF_unk, ints_unk]
  exact run04_is hv s hs nl w .unk hw hl
theorem LM.valid {x : LM} (h : x.Ok) : Valid x.mach := by
  obtain ⟨b1, b2, b3, b4, b5, b6, -, -⟩ := LM.bounds h
  have hl : x.mach.rows.length = x.n := by simp [LM.mach]
  refine ⟨⟨by show (1 : Int) ≤ x.i; omega, by show (x.i : Int) ≤ 16; omega⟩, ⟨b5, by show x.o ≤ 16; omega⟩, by rw [hl]; omega, fun r hr => ?_⟩
  rw [hl]
  simp only [LM.mach, List.mem_map, List.mem_range] at hr ⊢
  obtain ⟨s, hs, rfl⟩ := hr
  refine ⟨by simp [LM.row], fun e he => ?_⟩
  simp only [LM.row, List.mem_map, List.mem_range] at he
  obtain ⟨i, hi, rfl⟩ := he
  obtain ⟨v1, v2⟩ := LM.v_ok h s i
  unfold LM.edge
  split
  · simp [fitsR]
  · have h1 := Int.emod_nonneg (x.v s i / 4) (b := x.n) (by omega)
    have h2 := Int.emod_lt_of_pos (x.v s i / 4) (b := x.n) (by omega)
    have h3 := Int.emod_nonneg (x.v s i / 4 / x.n) (b := x.o) (by omega)
    have h4 := Int.emod_lt_of_pos (x.v s i / 4 / x.n) (b := x.o) (by omega)
    simp [fitsR, h1, h2, h3, h4]
theorem wOf_ok {l : List Int} {n : Int} (hn : 1 ≤ n) : ∀ a ∈ wOf l n, 0 ≤ a ∧ a < n := by
  intro a ha
  simp only [wOf, List.mem_map] at ha
  obtain ⟨y, -, rfl⟩ := ha
  exact ⟨Int.emod_nonneg _ (by omega), Int.emod_lt_of_pos _ (by omega)⟩
theorem wOf_len (l : List Int) (n : Int) : (wOf l n).length ≤ 12 := by simp [wOf]; omega
theorem runR_len (m : Mach) : ∀ (s : Int) (w : List Int), (runR m s w).length = w.length
  | _, [] => rfl
  | s, a :: w => by simp only [runR, List.length_cons]; rw [runR_len m _ w]
/-! ### Machines, edge by edge -/
theorem eAt_fit {m : Mach} (hv : Valid m) {s i : Nat} (hs : s < m.rows.length) (hi : (i : Int) < m.ins) : ∃ r, m.rows[s]? = some r ∧ r.2[i]? = some (eAt m s i) ∧ (isNone (eAt m s i) = true ∨ (0 ≤ (eAt m s i).1 ∧ (eAt m s i).1 < m.rows.length ∧ 0 ≤ (eAt m s i).2 ∧ (eAt m s i).2 < m.outs)) := by
  have h1 : m.rows[s]? = some m.rows[s] := List.getElem?_eq_getElem hs
  obtain ⟨h2, h3⟩ := hv.row _ (List.getElem_mem hs)
  have h4 : (m.rows[s]).2[i]? = some ((m.rows[s]).2[i]'(by omega)) := List.getElem?_eq_getElem _
  have he := eAt_get h1 h4
  refine ⟨_, h1, by rw [he]; exact h4, ?_⟩
  have hf := fits_edge (h3 _ (List.getElem_mem (show i < (m.rows[s]).2.length by omega)))
  rw [he]
  rcases hf with h | h
  · left; simp [isNone, h]
  · exact .inr h
/-- A machine given by a table is valid. -/
theorem valid_tab {ins outs : Int} {nl : Bool} {n N : Nat} {f : Nat → Nat → Int × Int} (hN : ins = (N : Int)) (h1 : 1 ≤ N ∧ N ≤ 16) (h2 : 1 ≤ outs ∧ outs ≤ 16) (h3 : 1 ≤ n ∧ n ≤ 64)
    (hf : ∀ s i, s < n → i < N → isNone (f s i) = true ∨ (0 ≤ (f s i).1 ∧ (f s i).1 < n ∧ 0 ≤ (f s i).2 ∧ (f s i).2 < outs)) : Valid ⟨ins, outs, nl, (List.range n).map fun s => (false, (List.range N).map (f s))⟩ := by
  refine ⟨by simp only; omega, h2, by simpa using h3, fun r hr => ?_⟩
  obtain ⟨s, hs, rfl⟩ := List.mem_map.1 hr
  refine ⟨by simp [hN], fun e he => ?_⟩
  obtain ⟨i, hi, rfl⟩ := List.mem_map.1 he
  simp only [List.length_map, List.length_range]
  have := hf s i (List.mem_range.1 hs) (List.mem_range.1 hi)
  unfold fitsR
  rcases this with h | h
  · unfold isNone at h; simp only [Bool.and_eq_true, decide_eq_true_eq] at h; simp [h.1, h.2]
  · simp [h.1, h.2.1, h.2.2.1, h.2.2.2]
theorem eAt_tab {ins outs : Int} {nl : Bool} {n N : Nat} {f : Nat → Nat → Int × Int} {s i : Nat} (hs : s < n) (hi : i < N) : eAt ⟨ins, outs, nl, (List.range n).map fun s => (false, (List.range N).map (f s))⟩ s i = f s i := by
  refine eAt_get (r := (false, (List.range N).map (f s))) ?_ ?_
  · simp only; rw [List.getElem?_map, List.getElem?_range hs]; rfl
  · simp only; rw [List.getElem?_map, List.getElem?_range hi]; rfl
/-- A valid machine is its table. -/
theorem rows_tab {m : Mach} (hv : Valid m) {N : Nat} (hN : m.ins = (N : Int)) : m.rows.map (·.2) = (List.range m.rows.length).map fun s => (List.range N).map (eAt m s) := by
  refine List.ext_getElem (by simp) fun s h1 h2 => ?_
  simp only [List.getElem_map, List.getElem_range]
  have hs : s < m.rows.length := by simpa using h1
  have hr := (hv.row _ (List.getElem_mem hs)).1
  refine List.ext_getElem (by simp; omega) fun i k1 k2 => ?_
  simp only [List.getElem_map, List.getElem_range]
  exact (eAt_get (List.getElem?_eq_getElem hs) (List.getElem?_eq_getElem k1)).symm
theorem stepR_eAt {m : Mach} {s : Nat} {a : Int} (ha : 0 ≤ a) : stepR m (s : Int) a = eAt m s a.toNat := by
  rw [eAt_stepR, Int.toNat_of_nonneg ha]
theorem stepR_neg {m : Mach} {s a : Int} (hs : s < 0) : stepR m s a = (-1, -1) := by rw [stepR, if_pos hs]
/-- Responses, one step after the other, along a relation of states. -/
theorem runR_rel {m m' : Mach} {R : Int → Int → Prop} {g : Int → Int} {h : Int → Int} (hs : ∀ s s' a, R s s' → 0 ≤ a → a < m.ins → R (stepR m s a).1 (stepR m' s' (h a)).1 ∧ (stepR m' s' (h a)).2 = g (stepR m s a).2) :
    ∀ (w : List Int) (s s' : Int), R s s' → (∀ a ∈ w, 0 ≤ a ∧ a < m.ins) → runR m' s' (w.map h) = (runR m s w).map g
  | [], _, _, _, _ => rfl
  | a :: w, s, s', hR, hw => by
    obtain ⟨h0, h1⟩ := hw a List.mem_cons_self
    obtain ⟨k1, k2⟩ := hs s s' a hR h0 h1
    simp only [List.map_cons, runR]
    rw [k2, runR_rel hs w _ _ k1 fun b hb => hw b (List.mem_cons_of_mem _ hb)]

end Go.Avl
namespace Go.Avl
open Go Go.Proofs.Try
set_option maxRecDepth 10000
set_option linter.unusedSimpArgs false

/-! ### How many edges are defined -/
def defP (m : Mach) (N s i : Nat) : Nat := (prs s N ++ (List.range i).map fun k => (s, k)).countP fun p => decide (0 ≤ (eAt m p.1 p.2).1)
theorem defP_zero (m : Mach) (N : Nat) : defP m N 0 0 = 0 := rfl
theorem defP_step (m : Mach) (N s i : Nat) : defP m N s (i + 1) = defP m N s i + if 0 ≤ (eAt m s i).1 then 1 else 0 := by
  rw [defP, List.range_succ, List.map_append, ← List.append_assoc, List.countP_append]
  simp [defP, List.countP_cons, List.countP_nil]
theorem defP_row (m : Mach) (N s : Nat) : defP m N s N = defP m N (s + 1) 0 := by
  rw [defP, defP, prs_succ]; simp
theorem defP_le (m : Mach) (N s : Nat) : defP m N s 0 ≤ s * N := by
  have := List.countP_le_length (p := fun p : Nat × Nat => decide (0 ≤ (eAt m p.1 p.2).1)) (l := prs s N)
  rw [prs_len] at this
  simpa [defP] using this
theorem defP_le' (m : Mach) (N s i : Nat) : defP m N s i ≤ s * N + i := by
  have := List.countP_le_length (p := fun p : Nat × Nat => decide (0 ≤ (eAt m p.1 p.2).1)) (l := prs s N ++ (List.range i).map fun k => (s, k))
  rw [List.length_append, prs_len, List.length_map, List.length_range] at this
  exact this
def compD (m : Mach) (N : Nat) : Bool := decide (defP m N m.rows.length 0 = m.rows.length * N)
theorem defined_is {m : Mach} (hv : Valid m) {N : Nat} (hN : m.ins = (N : Int)) : PureIs prog 50 [.ag m.cells] (.sc (.int .i64 (defP m N m.rows.length 0))) := by
  have hrw := hv.rows
  have hin := hv.ins
  obtain ⟨n, hn⟩ : ∃ n, n = m.rows.length := ⟨_, rfl⟩
  rw [← hn] at hrw ⊢
  refine PureIs.of (nv := 6) (hid := [10, 16, 28]) func50 rfl (by kernel_rfl) (by simp [ntmps50]) fun _ => ?_
  rw [ntmps50, results50]
  refine EvC.seq (EvC.rg (by (simp only [go_sem, Mach.cells]) <;> rfl) (by simp) ?_)
  refine EvC.frzB 0 (by (simp only [go_sem]) <;> rfl) ?_
  refine EvC.seq (EvC.rg (by (simp only [go_sem]) <;> rfl) (by simp) ?_)
  refine EvC.seq ?_
  refine EvC.seq (EvC.rg (by (simp only [go_sem]) <;> rfl) (by simp) ?_)
  refine EvC.block ?_  -- 0
  refine EvC.loopS (σ := Nat) (fun s => ⟨[(1, .ia m.cells), (3, .sc (.int .i64 (defP m N s 0))), (4, .sc (.int .i64 s))], [], [], 0⟩) (fun s => n - s) (fun s => s ≤ n) [1, 3, 4] 0 ?_ ?_
  · exact ⟨[], 0, rfl, (by (simp only [go_sem, defP_zero, Mach.cells, Int.natCast_zero]) <;> rfl), Nat.zero_le _⟩
  intro s hs
  refine EvC.seq ?_
  refine EvC.seq (EvC.rg (by (simp only [go_sem, Mach.cells, List.length_map, ← hn]) <;> rfl) (by simp) ?_)
  refine EvC.cond (by (simp only [go_sem]) <;> rfl) (fun hc => ?_) (fun hc => ?_)
  rotate_left
  · refine EvC.exit ?_  -- 0
    obtain rfl : n = s := by have : ¬ s < n := by simpa using hc
                             omega
    refine EvC.seq (EvC.rg (by (simp only [go_sem]) <;> rfl) (by simp) ?_)
    refine EvC.ret ⟨.inl rfl, _, (by (simp only [go_sem]) <;> rfl), ?_, rfl⟩
    simp only [go_sem]
  have hsl : s < n := by simpa using hc
  clear hc
  have he : m.rows[s]? = some (m.rows[s]'(by omega)) := List.getElem?_eq_getElem (by omega)
  have hrN : (m.rows[s]'(by omega)).2.length = N := by have := (hv.row _ (List.getElem_mem (show s < m.rows.length by omega))).1; omega
  generalize m.rows[s]'(by omega) = r at he hrN
  refine EvC.skip ?_
  refine EvC.seq ?_
  refine EvC.block ?_  -- 1
  refine EvC.seq (EvC.rg (by (simp only [go_sem]) <;> rfl) (by simp) ?_)
  refine EvC.block ?_  -- 2
  refine EvC.loopS (σ := Nat) (fun i => ⟨[(1, .ia m.cells), (3, .sc (.int .i64 (defP m N s i))), (4, .sc (.int .i64 s)), (5, .sc (.int .i64 i))], [], [], 0⟩) (fun i => N - i) (fun i => i ≤ N) [1, 3, 4, 5] 0 ?_ ?_
  · exact ⟨[], 0, rfl, (by (simp only [go_sem, Mach.cells, Int.natCast_zero]) <;> rfl), Nat.zero_le _⟩
  intro i hi
  refine EvC.seq ?_
  refine EvC.seq (EvC.rg (by (simp only [go_sem, Mach.cells, hN]) <;> rfl) (by simp) ?_)
  refine EvC.cond (by (simp only [go_sem]) <;> rfl) (fun hc => ?_) (fun hc => ?_)
  rotate_left
  · refine EvC.exit ?_  -- 2
    obtain rfl : N = i := by have : ¬ i < N := by simpa using hc
                             omega
    refine EvC.rg (by (simp only [go_sem]) <;> rfl) (by exact inI64_of (by omega) (by omega)) ?_
    exact ⟨[], s + 1, rfl, (by rw [← defP_row]; (simp only [go_sem, Mach.cells, hN, Int.natCast_add, Int.natCast_one]) <;> rfl), hsl, by omega⟩
  have hil : i < N := by simpa using hc
  clear hc
  have hre : r.2[i]? = some (r.2[i]'(by omega)) := List.getElem?_eq_getElem (by omega)
  generalize r.2[i]'(by omega) = e at hre
  have hq := eAt_get he hre
  have hst := defP_step m N s i
  rw [hq] at hst
  have hle := defP_le' m N s i
  have hsN : s * N ≤ 64 * 16 := Nat.mul_le_mul (by omega) (by omega)
  refine EvC.skip ?_
  refine EvC.seq ?_
  refine EvC.block ?_  -- 3
  refine EvC.seq (EvC.rg (by (simp only [go_sem, Mach.cells, he, rowC, hre, edgeC]) <;> rfl) (by simp) ?_)
  refine EvC.cond (by (simp only [go_sem]) <;> rfl) (fun hc => ?_) (fun hc => ?_)
  · have h0 : 0 ≤ e.1 := by simpa using hc
    rw [if_pos h0] at hst
    refine EvC.rg (by (simp only [go_sem]) <;> rfl) (by exact inI64_of (by omega) (by omega)) ?_
    refine EvC.rg (by (simp only [go_sem]) <;> rfl) (by exact inI64_of (by omega) (by omega)) ?_
    exact ⟨[], i + 1, rfl, (by rw [hst]; (simp only [go_sem, Mach.cells, hN, Int.natCast_add, Int.natCast_one]) <;> rfl), hil, by omega⟩
  have h0 : ¬ 0 ≤ e.1 := by simpa using hc
  rw [if_neg h0] at hst
  refine EvC.skip ?_
  refine EvC.rg (by (simp only [go_sem]) <;> rfl) (by exact inI64_of (by omega) (by omega)) ?_
  exact ⟨[], i + 1, rfl, (by rw [hst]; (simp only [go_sem, Mach.cells, hN, Int.natCast_add, Int.natCast_one]) <;> rfl), hil, by omega⟩
theorem complete28_is {m : Mach} (hv : Valid m) {N : Nat} (hN : m.ins = (N : Int)) : PureIs prog 28 [.ag m.cells] (.sc (.bool (compD m N))) := by
  have hrw := hv.rows
  have hin := hv.ins
  have hD := defined_is hv hN
  have hm2 : (m.rows.length : Int) * N ≤ 64 * 16 := Int.mul_le_mul (by omega) (by omega) (by omega) (by omega)
  have hm1 : (0 : Int) ≤ (m.rows.length : Int) * N := Int.mul_nonneg (by omega) (by omega)
  have hI : inI64 ((m.rows.length : Int) * N) = true := inI64_of (by omega) (by omega)
  have hb : compD m N = decide ((defP m N m.rows.length 0 : Int) = (m.rows.length : Int) * N) := by
    unfold compD
    refine decide_eq_decide.2 ⟨fun h => by rw [h]; exact Int.natCast_mul _ _, fun h => ?_⟩
    rw [← Int.natCast_mul] at h; exact Int.ofNat.inj h
  rw [hb]
  refine PureIs.of (nv := 3) (hid := []) func28 rfl (by kernel_rfl) (by simp [ntmps28]) fun _ => ?_
  rw [ntmps28, results28]
  refine EvC.seq (EvC.rg (by (simp only [go_sem, Mach.cells]) <;> rfl) (by simp) ?_)
  refine EvC.frzB 0 (by (simp only [go_sem]) <;> rfl) ?_
  apply EvC.seq
  apply EvC.drw mixed
  · apply Tr.run
    · (simp only [go_sem, Mach.cells]) <;> rfl
    · simp
    apply Tr.cons
    · exact .call rfl rfl (by (simp only [go_sem]) <;> rfl) (by (simp only [go_sem]) <;> rfl) (by (simp only [go_sem]) <;> rfl) (by (simp only [go_sem]) <;> rfl) (by (simp only [go_sem]) <;> rfl) (hD)
    apply Tr.done
    · (simp only [go_sem, List.length_map, hN]) <;> rfl
    · simp [hI]
  · kernel_rfl
  refine EvC.ret ⟨.inl rfl, _, (by (simp only [go_sem]) <;> rfl), ?_, rfl⟩
  simp only [go_sem]
theorem complete28F_is {m : Mach} (hv : Valid m) {N : Nat} (hN : m.ins = (N : Int)) : PureIs prog 28 [.ag m.cellsF] (.sc (.bool (compD m N))) := by
  refine PureIs.weak ?_
  simp only [List.map_cons, List.map_nil, AV.unk, Mach.cellsF_unk, Mach.cells_unk]
  exact complete28_is hv hN
/-- Both tests of completeness agree. -/
theorem compD_iff {m : Mach} {N : Nat} : compD m N = true ↔ ∀ s i, s < m.rows.length → i < N → 0 ≤ (eAt m s i).1 := by
  have h1 : defP m N m.rows.length 0 = (prs m.rows.length N).countP fun p => decide (0 ≤ (eAt m p.1 p.2).1) := by simp [defP]
  unfold compD
  rw [h1, ← prs_len, decide_eq_true_eq, List.countP_eq_length]
  constructor
  · intro h s i hs hi
    simpa using h (s, i) (mem_prs.2 ⟨hs, hi⟩)
  · intro h p hp
    have := mem_prs.1 hp
    simpa using h p.1 p.2 this.1 this.2
theorem comp_iff {m : Mach} {N : Nat} : comp m N = true ↔ ∀ s i, s < m.rows.length → i < N → isNone (eAt m s i) = false := by
  unfold comp undL
  rw [List.isEmpty_iff, List.filter_eq_nil_iff]
  constructor
  · intro h s i hs hi
    simpa using h (s, i) (mem_prs.2 ⟨hs, hi⟩)
  · intro h p hp
    have := mem_prs.1 hp
    simp [h p.1 p.2 this.1 this.2]
theorem comp_compD {m : Mach} (hv : Valid m) {N : Nat} (hN : m.ins = (N : Int)) : compD m N = comp m N := by
  rw [Bool.eq_iff_iff, compD_iff, comp_iff]
  have key : ∀ s i, s < m.rows.length → i < N → (0 ≤ (eAt m s i).1 ↔ isNone (eAt m s i) = false) := fun s i hs hi => by
    obtain ⟨r, _, _, h⟩ := eAt_fit hv hs (i := i) (by omega)
    unfold isNone at h ⊢
    rcases h with h | h
    · simp only [Bool.and_eq_true, decide_eq_true_eq] at h
      simp [h.1, h.2]
    · have : ¬ (eAt m s i).1 = -1 := by omega
      simp [this, h.1]
  exact ⟨fun h s i hs hi => (key s i hs hi).1 (h s i hs hi), fun h s i hs hi => (key s i hs hi).2 (h s i hs hi)⟩
end Go.Avl
namespace Go.Avl
open Go

def retB (P : Program) (fr : Fr) (results : List ResultVar) (R : AV → Mem → Nat → Prop) : Exit → St → Prop :=
  fun e st => (e = .ret ∨ e = .normal) ∧ ∃ rs, resAllR P fr st results = some rs ∧ R (mkRes rs) st.mem st.nx
def BodyIs (P : Program) (f : FuncId) (args : List AV) (M : Mem) (nx : Nat) (R : AV → Mem → Nat → Prop) : Prop :=
  ∃ fn c nv hid, P.funcs[f]? = some fn ∧ fn.body = some c ∧ (fn.name == "runtime.NumGoroutine") = false ∧ args.length ≤ fn.ntmps ∧
    ∀ h0 : Nat, EvC P ⟨nx, nv, hid, fn.ntmps⟩ none ⟨h0, none, false⟩ c ⟨vars0 0 args, [], M, nx⟩ (retB P ⟨nx, nv, hid, fn.ntmps⟩ fn.results.toList R)

section
variable {P : Program} {fr : Fr} {ro : Option Nat} {ds : DS} {st st' : St} {Q Q' : Exit → St → Prop} {c : Code} {M : Mem} {ops : Array Oper} {l rest : List Oper} {o : Oper}

theorem BodyIs.of {f : FuncId} {fn : Func} {args : List AV} {nx nv : Nat} {hid : List Nat} {R : AV → Mem → Nat → Prop} (hf : P.funcs[f]? = some fn) (hb : fn.body = some c) (hnm : (fn.name == "runtime.NumGoroutine") = false) (hsz : args.length ≤ fn.ntmps)
    (h : ∀ h0 : Nat, EvC P ⟨nx, nv, hid, fn.ntmps⟩ none ⟨h0, none, false⟩ c ⟨vars0 0 args, [], M, nx⟩ (retB P ⟨nx, nv, hid, fn.ntmps⟩ fn.results.toList R)) : BodyIs P f args M nx R :=
  ⟨fn, c, nv, hid, hf, hb, hnm, hsz, h⟩
theorem BodyIs.mono {f : FuncId} {args : List AV} {nx : Nat} {R R' : AV → Mem → Nat → Prop} (h : BodyIs P f args M nx R) (hr : ∀ r M nx, R r M nx → R' r M nx) : BodyIs P f args M nx R' := by
  obtain ⟨fn, c, nv, hid, h1, h2, h3, h4, h5⟩ := h
  exact ⟨fn, c, nv, hid, h1, h2, h3, h4, fun h0 => (h5 h0).mono fun e st ⟨k1, rs, k2, k3⟩ => ⟨k1, rs, k2, hr _ _ _ k3⟩⟩
theorem XR.callI {f : FuncId} {cs : List AV} {callee : Operand} {args : Array Operand} {tys : Array TypeId} {xs : List AV} (hg : o.guard = none) (hop : o.op = .call ⟨.value callee, args, tys⟩) (hd : dok fr o.dst = true)
    (hcal : od fr st true callee = .fn f cs) (hxs : bodyArgs fr st args ++ cs = xs)
    (hb : BodyIs P f xs st.mem st.nx fun r M' nx' => XR P fr ro ds ops rest ((⟨st.vars, st.tmps, M', nx'⟩ : St).put fr o.dst r) Q) : XR P fr ro ds ops (o :: rest) st Q := by
  obtain ⟨fn, c, nv, hid, h1, h2, h3, h4, h5⟩ := hb
  exact XR.callB nv hid hg hop hd hcal hxs h1 h2 h3 h4 fun h0 => (h5 h0).mono fun e st ⟨k1, rs, k2, k3⟩ => ⟨k1, rs, k2, k3⟩
theorem XR.callIG {j k : Nat} {want : Bool} {f : FuncId} {cs : List AV} {callee : Operand} {args : Array Operand} {tys : Array TypeId} {xs : List AV} (hg : o.guard = some (j, want)) (hj : gslot ops j = some k) (hk : gval want (st.get fr k) = some true)
    (hop : o.op = .call ⟨.value callee, args, tys⟩) (hd : dok fr o.dst = true)
    (hcal : od fr st true callee = .fn f cs) (hxs : bodyArgs fr st args ++ cs = xs)
    (hb : BodyIs P f xs st.mem st.nx fun r M' nx' => XR P fr ro ds ops rest ((⟨st.vars, st.tmps, M', nx'⟩ : St).put fr o.dst r) Q) : XR P fr ro ds ops (o :: rest) st Q :=
  fun _ _ _ _ _ _ a w S s => by
    have hw := wanted_ok s hg hj hk
    simp only [wpListIn, hw, if_true]
    obtain ⟨fn, c, nv, hid, h1, h2, h3, h4, h5⟩ := hb
    exact s.callB (R := fun r M' nx' => XR P fr ro ds ops rest ((⟨st.vars, st.tmps, M', nx'⟩ : St).put fr o.dst r) Q) hop (dok_spec hd) hcal hxs h1 h2 h3 h4 h5
      fun _ _ _ _ _ _ _ hR s' S' => hR _ _ _ _ _ _ _ _ (S.trans (by rw [St.put_mem]; exact S'.mono fun _ _ => trivial)) s'
end
attribute [go_sem] resAllR resOneR bodyArgs
end Go.Avl
namespace Go.Avl
open Go Go.Proofs.Try
set_option maxRecDepth 10000
set_option linter.unusedSimpArgs false

/-! ### Rows grown by append -/
def tcell (m n : Nat) : List (List AV) := (List.range n).map fun s => [.tl s m false]
theorem tcell_len (m n : Nat) : (tcell m n).length = n := by simp [tcell]
theorem tcell_get {m n s : Nat} (h : s < n) : (tcell m n)[s]? = some [.tl s m false] := by rw [tcell, List.getElem?_map, List.getElem?_range h]; rfl
theorem tcell_succ (m n : Nat) : tcell m n ++ [[.tl n m false]] = tcell m (n + 1) := by simp [tcell, List.range_succ]
theorem tcell_ren {m n : Nat} {K : List (Nat × Nat)} (h : ∀ s, s < n → rlook K s = some s) : (tcell m n).map (fun c => c.map (AV.ren K)) = tcell m n := by
  rw [tcell, List.map_map]
  refine List.map_congr_left fun s hs => ?_
  simp only [Function.comp, List.map_cons, List.map_nil, AV.ren, AV.noref, Bool.false_eq_true, if_false, AV.deep, renLeaf, h s (List.mem_range.1 hs)]
theorem tcell_snap {m n e : Nat} {M : Mem} {row : Nat → List (List AV)} (h : ∀ s, s < n → mlook M s = some (.arr e (row s) true)) (hl : ∀ s, s < n → (row s).length = m) : (tcell m n).map (fun c => c.map (AV.deep (snap M))) = (List.range n).map fun s => [.sl false (row s) .unk] := by
  rw [tcell, List.map_map]
  refine List.map_congr_left fun s hs => ?_
  have hs := List.mem_range.1 hs
  simp only [Function.comp, List.map_cons, List.map_nil, AV.deep, snap, h s hs, hl s hs, if_true]
theorem tcell_norefs {m n : Nat} (h : 0 < n) : (tcell m n).all AV.norefs = false := by
  rw [List.all_eq_false]
  exact ⟨[.tl 0 m false], List.mem_map.2 ⟨0, List.mem_range.2 h, rfl⟩, by simp [AV.norefs, AV.noref]⟩
theorem row_gcells {m : Mach} {N s : Nat} {r : Row} (he : m.rows[s]? = some r) (hN : r.2.length = N) : r.2.map edgeC = gcells edgeC (eAt m s) N := by
  rw [gcells_edge]
  congr 1
  refine List.ext_getElem (by simp [hN]) fun i k1 k2 => ?_
  simp only [List.getElem_map, List.getElem_range]
  exact (eAt_get he (List.getElem?_eq_getElem k1)).symm

set_option maxHeartbeats 4000000 in
/-- A machine copied: the rows in new objects. -/
theorem copy_is {m : Mach} (hv : Valid m) {N : Nat} (hN : m.ins = (N : Int)) {R : AV → Mem → Nat → Prop}
    (hR : R (.ag [.sc (.int .i64 m.ins), .sc (.int .i64 m.outs), .tl 1000002 m.rows.length false]) ((1000000, .cells [.sc (.int .i64 m.ins), .sc (.int .i64 m.outs), .tl 1000002 m.rows.length false]) :: (1000001, .cells [.sc (.int .i64 m.ins), .sc (.int .i64 m.outs), .tl 1000002 m.rows.length false]) :: (1000002, .arr 1 (tcell N m.rows.length) false) :: gtab 2 edgeC (eAt m) m.rows.length N) 1000011) :
    BodyIs prog 26 [.ag m.cells] [] 0 R := by
  have hrw := hv.rows
  have hin := hv.ins
  obtain ⟨n, hn⟩ : ∃ n, n = m.rows.length := ⟨_, rfl⟩
  rw [← hn] at hrw hR
  refine BodyIs.of (nv := 5) (hid := [14, 26]) func26 rfl (by kernel_rfl) (by simp [ntmps26]) fun h0 => ?_
  rw [ntmps26, results26]
  refine EvC.seq (EvC.rg (by (simp only [go_sem, Mach.cells]) <;> rfl) (by simp) ?_)
  refine EvC.frzB 0 (by (simp only [go_sem]) <;> rfl) ?_
  refine EvC.seq (EvC.rg (by (simp only [go_sem]) <;> rfl) (by simp) ?_)
  refine EvC.seq ?_
  refine EvC.seq (EvC.rg (by (simp only [go_sem]) <;> rfl) (by simp) ?_)
  refine EvC.block ?_  -- 0
  refine EvC.ownC 7 2 1 (by (simp only [go_sem]) <;> rfl) ?_
  refine EvC.thaw 10 (by (simp only [go_sem]) <;> rfl) ?_
  refine EvC.loopS (σ := Nat) (fun s => ⟨[(1, .ia m.cells), (2, .rf 1000000 0), (3, .rf 1000001 0), (4, .sc (.int .i64 s))], [], (1000000, .cells [.sc (.int .i64 0), .sc (.int .i64 0), .sl true [] .zer]) :: (1000001, .cells [.sc (.int .i64 m.ins), .sc (.int .i64 m.outs), .tl 1000002 s (s == 0)]) :: (1000002, .arr 1 (tcell N s) false) :: gtab 2 edgeC (eAt m) s N, 1000004⟩) (fun s => n - s) (fun s => s ≤ n) [1, 2, 3, 4] 1000004 ?_ ?_
  · exact ⟨[(1, 1000000), (7, 1000001), (10, 1000002)], 0, rfl, (by (simp only [go_sem, Mach.cells, tcell, gtab_zero, List.range_zero, List.map_nil, Int.natCast_zero]) <;> rfl), Nat.zero_le _⟩
  intro s hs
  have hml := tcell_len N s
  refine EvC.seq ?_
  refine EvC.seq (EvC.rg (by (simp only [go_sem, Mach.cells, List.length_map, ← hn]) <;> rfl) (by simp) ?_)
  refine EvC.cond (by (simp only [go_sem]) <;> rfl) (fun hc => ?_) (fun hc => ?_)
  rotate_left
  · refine EvC.exit ?_  -- 0
    obtain rfl : n = s := by have : ¬ s < n := by simpa using hc
                             omega
    have hs0 : (n == 0) = false := by simp; omega
    refine EvC.seq (EvC.rg (by (simp only [go_sem, hs0, hml]) <;> rfl) (by simp) ?_)
    refine EvC.ret ⟨.inl rfl, _, (by (simp only [go_sem]) <;> rfl), ?_⟩
    exact hR
  have hsl : s < n := by simpa using hc
  clear hc
  have hn1 : s ≤ 1000000 := by omega
  have hs0 : (s + 1 == 0) = false := rfl
  have he : m.rows[s]? = some (m.rows[s]'(by omega)) := List.getElem?_eq_getElem (by omega)
  have hrN : (m.rows[s]'(by omega)).2.length = N := by have := (hv.row _ (List.getElem_mem (show s < m.rows.length by omega))).1; omega
  generalize m.rows[s]'(by omega) = r at he hrN
  have hrow := row_gcells he hrN
  have hgl := gcells_len edgeC (eAt m s) N
  refine EvC.skip ?_
  refine EvC.seq ?_
  refine EvC.block ?_  -- 1
  apply EvC.drd mixed
  · (simp only [go_sem, Mach.cells, he, rowC, hrow, hgl, hml, mlook_mset, mset_mset_same]) <;> rfl
  · simp [room_eq, gcells_all (C := edgeC) (e := 2) (fun _ => rfl), hgl, hml]; try omega
  · kernel_rfl
  refine EvC.rg (by (simp only [go_sem]) <;> rfl) (by exact inI64_of (by omega) (by omega)) ?_
  refine ⟨segK [(1000000, 1000000), (1000001, 1000001), (1000002, 1000002)] s [(1000017, s)], s + 1, segK_ok1 (A := [(1000000, 1000000), (1000001, 1000001), (1000002, 1000002)]) rfl rfl rfl (by omega) (by omega), ?_, by omega, by omega⟩
  have hlo : ∀ k, k < s → rlook (segK [(1000000, 1000000), (1000001, 1000001), (1000002, 1000002)] s [(1000017, s)]) k = some k := fun k hk => rlook_segK_lo hk hn1 (A := [(1000000, 1000000), (1000001, 1000001), (1000002, 1000002)]) rfl
  (simp only [go_sem, Mach.cells, hs0, hml, rlook_segK_hi hn1, List.cons_append, List.nil_append, renMem_idK_cons hn1, renMem_idK_mset hn1, mlook_mset, gcells_norefs hEn, gtab_ren 2 hEn, gtab_snoc, tcell_ren hlo, tcell_succ, Int.natCast_add, Int.natCast_one]) <;> rfl
end Go.Avl
namespace Go.Avl
open Go Go.Proofs.Try
set_option maxRecDepth 10000
set_option linter.unusedSimpArgs false

/-! ### Filled machines -/
theorem none_iff {m : Mach} (hv : Valid m) {s i : Nat} (hs : s < m.rows.length) (hi : (i : Int) < m.ins) : isNone (eAt m s i) = true ↔ (eAt m s i).1 < 0 := by
  obtain ⟨r, _, _, h⟩ := eAt_fit hv hs hi
  unfold isNone at h ⊢
  rcases h with h | h
  · simp only [Bool.and_eq_true, decide_eq_true_eq] at h
    simp [h.1, h.2]
  · have : ¬ (eAt m s i).1 = -1 := by omega
    simp [this]; omega
def toF (n : Nat) (way : Int) (s : Nat) : Int := if way = 1 then (n : Int) else s
def fillF (m : Mach) (way out : Int) : Nat → Nat → Int × Int := fun s i => if s < m.rows.length then (if isNone (eAt m s i) = true then (toF m.rows.length way s, out) else eAt m s i) else ((m.rows.length : Int), out)
def fillN (m : Mach) (N : Nat) (way : Int) : Nat := if way = 1 ∧ compD m N = false then m.rows.length + 1 else m.rows.length
def fillM (m : Mach) (N : Nat) (way out : Int) : Mach := ⟨m.ins, m.outs, false, (List.range (fillN m N way)).map fun s => (false, (List.range N).map (fillF m way out s))⟩
section
variable {m : Mach} {N : Nat} {way out : Int}
theorem fillF_lt {s : Nat} (hs : s < m.rows.length) (i : Nat) : fillF m way out s i = if isNone (eAt m s i) = true then (toF m.rows.length way s, out) else eAt m s i := if_pos hs
theorem fillR_F (to : Nat → Int) (h : ∀ s i, s < m.rows.length → i < N → isNone (eAt m s i) = true → to s = toF m.rows.length way s) : fillR m m.rows.length N to out = (List.range m.rows.length).map fun s => (false, (List.range N).map (fillF m way out s)) := by
  refine List.map_congr_left fun s hs => ?_
  have hs := List.mem_range.1 hs
  congr 1
  refine List.map_congr_left fun i hi => ?_
  rw [fillF_lt hs]
  by_cases hn : isNone (eAt m s i) = true
  · rw [if_pos hn, if_pos hn, h s i hs (List.mem_range.1 hi) hn]
  · rw [if_neg hn, if_neg hn]
theorem fill_res (hv : Valid m) (hN : m.ins = (N : Int)) (hl : m.rows.length ≤ 6) (hway : way = 0 ∨ way = 1) (ho : 0 ≤ out ∧ out < m.outs) : fillA m way out = .tu [.ag (fillM m N way out).cellsF, .sc (.int .i64 0)] := by
  have hNN : m.ins.toNat = N := by omega
  have hc := comp_compD hv hN
  rw [fillA, if_neg (by simp [hv.check]), if_neg (by omega), hNN]
  rcases hway with rfl | rfl
  · rw [if_pos rfl, loopsA, fillR_F (way := 0) (fun s : Nat => (s : Int)) (fun s i _ _ _ => by simp [toF])]
    have hn : fillN m N 0 = m.rows.length := by simp [fillN]
    simp only [fillM, hn, Mach.cellsF]
  · rw [if_neg (by decide), sinksA, if_neg (by omega), sinkRows, ← hc]
    by_cases hx : compD m N = true
    · have hn : fillN m N 1 = m.rows.length := by simp [fillN, hx]
      rw [if_pos hx, fillR_F (way := 1) _ fun s i hs hi hn => ?_]
      · simp only [fillM, hn, Mach.cellsF]
      · rw [hc, comp_iff] at hx
        rw [hx s i hs hi] at hn; cases hn
    · have hx' : compD m N = false := by simpa using hx
      have hn : fillN m N 1 = m.rows.length + 1 := by simp [fillN, hx']
      rw [if_neg hx, fillR_F (way := 1) _ fun s i hs hi hn => by simp [toF]]
      have hlast : (List.range N).map (fillF m 1 out m.rows.length) = List.replicate N ((m.rows.length : Int), out) := by
        rw [List.eq_replicate_iff]
        refine ⟨by simp, fun b hb => ?_⟩
        obtain ⟨i, _, rfl⟩ := List.mem_map.1 hb
        simp [fillF]
      simp only [fillM, hn, Mach.cellsF, List.range_succ, List.map_append, List.map_cons, List.map_nil, hlast]
theorem fillN_le (m : Mach) (N : Nat) (way : Int) : m.rows.length ≤ fillN m N way ∧ fillN m N way ≤ m.rows.length + 1 := by unfold fillN; split <;> omega
theorem fillF_ok (hv : Valid m) (hN : m.ins = (N : Int)) (hway : way = 0 ∨ way = 1) (ho : 0 ≤ out ∧ out < m.outs) {s i : Nat} (hs : s < fillN m N way) (hi : i < N) : 0 ≤ (fillF m way out s i).1 ∧ (fillF m way out s i).1 < fillN m N way ∧ 0 ≤ (fillF m way out s i).2 ∧ (fillF m way out s i).2 < m.outs := by
  have hle := fillN_le m N way
  by_cases hsl : s < m.rows.length
  · rw [fillF_lt hsl]
    by_cases hn : isNone (eAt m s i) = true
    · rw [if_pos hn]
      rcases hway with rfl | rfl
      · simp [toF]; omega
      · have hx : compD m N = false := by
          rw [Bool.eq_false_iff]
          intro h
          rw [comp_compD hv hN, comp_iff] at h
          rw [h s i hsl hi] at hn; cases hn
        have : fillN m N 1 = m.rows.length + 1 := by simp [fillN, hx]
        simp [toF]; omega
    · rw [if_neg hn]
      obtain ⟨r, _, _, h⟩ := eAt_fit hv hsl (i := i) (by omega)
      have := h.resolve_left hn
      omega
  · unfold fillF
    rw [if_neg hsl]
    simp only; omega
theorem fillM_len (m : Mach) (N : Nat) (way out : Int) : (fillM m N way out).rows.length = fillN m N way := by simp [fillM]
theorem fillM_valid (hv : Valid m) (hN : m.ins = (N : Int)) (hl : m.rows.length ≤ 6) (hway : way = 0 ∨ way = 1) (ho : 0 ≤ out ∧ out < m.outs) : Valid (fillM m N way out) := by
  have := fillN_le m N way
  have := hv.rows
  have hi := hv.ins
  exact valid_tab hN (by omega) hv.outs (by omega) fun s i hs hi => .inr (fillF_ok hv hN hway ho hs hi)
theorem fillM_comp (hv : Valid m) (hN : m.ins = (N : Int)) (hway : way = 0 ∨ way = 1) (ho : 0 ≤ out ∧ out < m.outs) : compD (fillM m N way out) N = true := by
  rw [compD_iff]
  intro s i hs hi
  rw [fillM_len] at hs
  rw [fillM, eAt_tab hs hi]
  exact (fillF_ok hv hN hway ho hs hi).1

/-! ### The law's own filling -/
def feF (m : Mach) (N : Nat) (way out : Int) (s i : Nat) : Int × Int := if i < N ∧ (eAt m s i).1 < 0 then (toF m.rows.length way s, out) else eAt m s i
def wF (m : Mach) (N : Nat) (way out : Int) (s i : Nat) : Nat → Nat → Int × Int := fun a b => if a < s ∨ (a = s ∧ b < i) then feF m N way out a b else eAt m a b
theorem wF_zero : wF m N way out 0 0 = eAt m := by
  funext a b; unfold wF; rw [if_neg (by omega)]
theorem wF_row (s : Nat) : wF m N way out s N = wF m N way out (s + 1) 0 := by
  funext a b
  unfold wF
  by_cases h : a < s ∨ (a = s ∧ b < N)
  · rw [if_pos h, if_pos (by omega)]
  · rw [if_neg h]
    by_cases h2 : a < s + 1 ∨ (a = s + 1 ∧ b < 0)
    · rw [if_pos h2, feF, if_neg (by omega)]
    · rw [if_neg h2]
theorem wF_keep {s i : Nat} (h : ¬ (eAt m s i).1 < 0) : wF m N way out s (i + 1) = wF m N way out s i := by
  funext a b
  unfold wF
  by_cases e : a = s ∧ b = i
  · obtain ⟨rfl, rfl⟩ := e
    rw [if_pos (by omega), if_neg (by omega), feF, if_neg (fun k => h k.2)]
  · by_cases h : a < s ∨ (a = s ∧ b < i)
    · rw [if_pos h, if_pos (by omega)]
    · rw [if_neg h, if_neg (by omega)]
theorem wF_set {s i : Nat} (hi : i < N) (h : (eAt m s i).1 < 0) : upd2 (wF m N way out s i) s i (toF m.rows.length way s, out) = wF m N way out s (i + 1) := by
  funext a b
  unfold upd2 wF
  by_cases e : a = s ∧ b = i
  · obtain ⟨rfl, rfl⟩ := e
    rw [if_pos ⟨rfl, rfl⟩, if_pos (by omega), feF, if_pos ⟨hi, h⟩]
  · rw [if_neg e]
    by_cases h : a < s ∨ (a = s ∧ b < i)
    · rw [if_pos h, if_pos (by omega)]
    · rw [if_neg h, if_neg (by omega)]
theorem upd2_upd2 {α : Type} (W : Nat → Nat → α) (s t : Nat) (x y : α) : upd2 (upd2 W s t x) s t y = upd2 W s t y := by
  funext a b
  unfold upd2
  by_cases e : a = s ∧ b = t
  · rw [if_pos e, if_pos e]
  · rw [if_neg e, if_neg e, if_neg e]
theorem upd2_at {α : Type} (W : Nat → Nat → α) (s t : Nat) (x : α) : upd2 W s t x s t = x := by unfold upd2; rw [if_pos ⟨rfl, rfl⟩]
theorem wF_at (s i : Nat) : wF m N way out s i s i = eAt m s i := by unfold wF; rw [if_neg (by omega)]
theorem wF_done (hv : Valid m) (hN : m.ins = (N : Int)) {s i : Nat} (hs : s < m.rows.length) (hi : i < N) : wF m N way out m.rows.length 0 s i = fillF m way out s i := by
  unfold wF
  rw [if_pos (by omega), fillF_lt hs, feF]
  have := none_iff hv hs (i := i) (by omega)
  by_cases h : (eAt m s i).1 < 0
  · rw [if_pos ⟨hi, h⟩, if_pos (this.2 h)]
  · rw [if_neg (fun k => h k.2), if_neg fun k => h (this.1 k)]
end
end Go.Avl
namespace Go.Avl
open Go Go.Proofs.Try
set_option maxRecDepth 10000
set_option linter.unusedSimpArgs false

set_option maxHeartbeats 4000000 in
theorem joinsFill_is {x : LM} (hx : x.Ok) (way out : Int) (hway : 0 ≤ way ∧ way < 256) : PureIs prog 6 [.ag x.cells, .sc (.int .u8 way), .sc (.int .i64 out)] (.sc (.bool true)) := by
  have va := LM.valid hx
  have hra : x.mach.rows.length ≤ 6 := by simp only [LM.mach, List.length_map, List.length_range]; have := LM.bounds hx; omega
  have cA := mOf_is hx
  generalize x.mach = a at va hra cA
  have hA : PureIs prog 12 [.ag [.sc (.int .u8 x.st), .sc (.int .u8 x.ins), .sc (.int .u8 x.outs), .sc (.bool x.part), .sl x.nl (x.es.map u16C) x.cap]] (.ag [.sc (.int .i64 a.ins), .sc (.int .i64 a.outs), .sl a.nl (a.rows.map rowC) .unk]) := cA
  clear cA
  have hai := va.ins
  obtain ⟨N, hN⟩ : ∃ N : Nat, a.ins = (N : Int) := ⟨a.ins.toNat, by omega⟩
  refine PureIs.of (nv := 4) (hid := [6, 7, 8, 9, 10, 11, 12, 13, 14, 15, 36, 43, 50, 56, 68, 80, 96, 100, 112]) func6 rfl (by kernel_rfl) (by simp [ntmps6]) fun _ => ?_
  rw [ntmps6, results6]
  refine EvC.seq (EvC.rg (by (simp only [go_sem, LM.cells]) <;> rfl) (by simp) ?_)
  apply EvC.seq
  apply EvC.tr
  · apply Tr.run
    · (simp only [go_sem]) <;> rfl
    · simp
    apply Tr.cons
    · exact .call rfl rfl (by (simp only [go_sem]) <;> rfl) (by (simp only [go_sem]) <;> rfl) (by (simp only [go_sem]) <;> rfl) (by (simp only [go_sem]) <;> rfl) (by (simp only [go_sem]) <;> rfl) (hA)
    apply Tr.done
    · (simp only [go_sem]) <;> rfl
    · simp
  by_cases hb : 1 < way ∨ out < 0 ∨ a.outs ≤ out
  · have hF := fill_is a va.small way out hway.1
    rw [fillA, if_neg (by simp [va.check]), if_pos hb] at hF
    simp only [errA, zeroM] at hF
    have kn := nothing_is 1 .zer
    apply EvC.seq
    apply EvC.tr
    · apply Tr.run
      · (simp only [go_sem, Mach.cells]) <;> rfl
      · simp
      apply Tr.cons
      · exact .call rfl rfl (by (simp only [go_sem]) <;> rfl) (by (simp only [go_sem]) <;> rfl) (by (simp only [go_sem]) <;> rfl) (by (simp only [go_sem]) <;> rfl) (by (simp only [go_sem]) <;> rfl) (hF)
      apply Tr.done
      · (simp only [go_sem]) <;> rfl
      · simp
    refine EvC.seq ?_
    apply EvC.seq
    apply EvC.trd
    · (simp only [go_sem, Mach.cells]) <;> rfl
    · simp
    refine EvC.cond (by (simp only [go_sem]) <;> rfl) (fun hc => ?_) (fun hc => ?_)
    · apply EvC.seq
      apply EvC.tr
      · apply Tr.run
        · (simp only [go_sem]) <;> rfl
        · simp
        apply Tr.cons
        · exact .call rfl rfl (by (simp only [go_sem]) <;> rfl) (by (simp only [go_sem]) <;> rfl) (by (simp only [go_sem]) <;> rfl) (by (simp only [go_sem]) <;> rfl) (by (simp only [go_sem]) <;> rfl) (kn)
        apply Tr.run
        · (simp only [go_sem]) <;> rfl
        · simp
        apply Tr.cons
        · exact .callG rfl rfl (by (simp only [go_sem]) <;> rfl) rfl (by (simp only [go_sem]) <;> rfl) (by (simp only [go_sem]) <;> rfl) (by (simp only [go_sem]) <;> rfl) (by (simp only [go_sem]) <;> rfl) (by (simp only [go_sem]) <;> rfl) (lives_is)
        apply Tr.done
        · (simp only [go_sem]) <;> rfl
        · simp
      refine EvC.ret ⟨.inl rfl, _, (by (simp only [go_sem]) <;> rfl), ?_, rfl⟩
      simp only [go_sem]
    · exfalso
      by_cases h1 : 1 < way <;> by_cases h2 : out < 0 <;> simp_all <;> omega
  have hw2 : way = 0 ∨ way = 1 := by omega
  have ho : 0 ≤ out ∧ out < a.outs := by omega
  have hF := fill_is a va.small way out hway.1
  rw [fill_res va hN hra hw2 ho] at hF
  have vM := fillM_valid va hN hra hw2 ho
  have cM := fillM_comp va hN hw2 ho
  have lM := fillM_len a N way out
  obtain ⟨m, hm⟩ : ∃ m, m = fillM a N way out := ⟨_, rfl⟩
  rw [← hm] at hF vM cM lM
  have hF : PureIs prog 25 [.ag a.cells, .sc (.int .u8 way), .sc (.int .i64 out)] (.tu [.ag [.sc (.int .i64 m.ins), .sc (.int .i64 m.outs), .sl m.nl (m.rows.map rowG) .full], .sc (.int .i64 0)]) := hF
  apply EvC.seq
  apply EvC.tr
  · apply Tr.run
    · (simp only [go_sem, Mach.cells]) <;> rfl
    · simp
    apply Tr.cons
    · exact .call rfl rfl (by (simp only [go_sem]) <;> rfl) (by (simp only [go_sem]) <;> rfl) (by (simp only [go_sem]) <;> rfl) (by (simp only [go_sem]) <;> rfl) (by (simp only [go_sem]) <;> rfl) (hF)
    apply Tr.done
    · (simp only [go_sem]) <;> rfl
    · simp
  refine EvC.seq ?_
  have k1 : decide (1 < way) = false := decide_eq_false (by omega)
  have k2 : decide (out < 0) = false := decide_eq_false (by omega)
  have k3 : decide (a.outs ≤ out) = false := decide_eq_false (by omega)
  apply EvC.seq
  apply EvC.trd
  · (simp only [go_sem, Mach.cells, k1, k2, k3]) <;> rfl
  · simp
  refine EvC.cond_false (by (simp only [go_sem]) <;> rfl) ?_
  refine EvC.skip ?_
  refine EvC.frzB 0 (by (simp only [go_sem]) <;> rfl) ?_
  refine EvC.frzB 4 (by (simp only [go_sem]) <;> rfl) ?_
  refine EvC.frzB 13 (by (simp only [go_sem]) <;> rfl) ?_
  apply EvC.seq  -- R5
  apply EvC.rs
  · (simp only [go_sem]) <;> rfl
  · simp
  refine XR.gcTo ⟨[(1, .sc (.int .u8 way)), (2, .sc (.int .i64 out)), (7, .ia a.cells), (8, .ia m.cellsF), (9, .sc (.int .i64 0)), (43, .ag a.cells)], [], [], 0⟩ [1, 2, 7, 8, 9, 43] [] (by rfl) (by (simp only [go_sem, Mach.cells, Mach.cellsF]) <;> rfl) ?_
  apply XR.callI rfl rfl (by (simp only [go_sem]) <;> rfl) (by (simp only [go_sem]) <;> rfl) (by (simp only [go_sem]) <;> rfl)
  refine copy_is va hN ?_
  apply XR.done
  · (simp only [go_sem]) <;> rfl
  · simp [tcell_len]
  refine EvC.seq (EvC.rg (by (simp only [go_sem, Mach.cells, List.length_map]) <;> rfl) (by simp) ?_)
  refine EvC.seq ?_
  refine EvC.seq (EvC.rg (by (simp only [go_sem]) <;> rfl) (by simp) ?_)
  refine EvC.block ?_  -- 0
  have hn1 : a.rows.length ≤ 1000000 := by omega
  have hlo0 : ∀ k, k < a.rows.length → rlook (segK [(1000011, 1000000), (1000002, 1000001)] a.rows.length []) k = some k := fun k hk => rlook_segK_lo hk hn1 (A := [(1000011, 1000000), (1000002, 1000001)]) rfl
  have hlo : ∀ k, k < a.rows.length → rlook (segK [(1000000, 1000000), (1000001, 1000001)] a.rows.length []) k = some k := fun k hk => rlook_segK_lo hk hn1 (A := [(1000000, 1000000), (1000001, 1000001)]) rfl
  have hK : gcOk 0 1000002 (segK [(1000000, 1000000), (1000001, 1000001)] a.rows.length []) = true := segK_ok (A := [(1000000, 1000000), (1000001, 1000001)]) rfl rfl rfl hn1 (by omega)
  have hml := tcell_len N a.rows.length
  refine EvC.loopS (σ := Nat) (fun s => ⟨[(1, .sc (.int .u8 way)), (2, .sc (.int .i64 out)), (7, .ia a.cells), (8, .ia m.cellsF), (9, .sc (.int .i64 0)), (10, .rf 1000000 0), (11, .sc (.int .i64 a.rows.length)), (12, .sc (.int .i64 s))], [], (1000000, .cells [.sc (.int .i64 a.ins), .sc (.int .i64 a.outs), .tl 1000001 a.rows.length false]) :: (1000001, .arr 1 (tcell N a.rows.length) false) :: gtab 2 edgeC (wF a N way out s 0) a.rows.length N, 1000002⟩) (fun s => a.rows.length - s) (fun s => s ≤ a.rows.length) [1, 2, 7, 8, 9, 10, 11, 12] 1000002 ?_ ?_
  · exact ⟨segK [(1000011, 1000000), (1000002, 1000001)] a.rows.length [], 0, segK_ok (A := [(1000011, 1000000), (1000002, 1000001)]) rfl rfl rfl hn1 (by omega), (by rw [wF_zero]; (simp only [go_sem, Mach.cells, Mach.cellsF, hN, rlook_segK_hi hn1, List.cons_append, List.nil_append, List.append_nil, renMem_idK_cons hn1, renMem_idK_mset hn1, gtab_ren 2 hEn, tcell_ren hlo0, ite_self, Int.natCast_add, Int.natCast_one, Int.natCast_zero]) <;> rfl), Nat.zero_le _⟩
  intro s hs
  refine EvC.seq ?_
  refine EvC.seq (EvC.rg (by (simp only [go_sem]) <;> rfl) (by simp) ?_)
  refine EvC.cond (by (simp only [go_sem]) <;> rfl) (fun hc => ?_) (fun hc => ?_)
  rotate_left
  · -- else
    refine EvC.exit ?_  -- 0
    obtain rfl : a.rows.length = s := by have : ¬ s < a.rows.length := by simpa using hc
                                         omega
    clear hc hs
    have hgc : gtab 2 edgeC (wF a N way out a.rows.length 0) a.rows.length N = gtab 2 edgeC (fillF a way out) a.rows.length N := by
      unfold gtab
      congr 1
      refine List.map_congr_left fun s hs => ?_
      unfold grow
      congr 1
      exact gcells_congr edgeC fun t ht => wF_done va hN (List.mem_range.1 hs) ht
    rw [hgc]
    clear hgc
    obtain ⟨rs, hrs⟩ : ∃ rs : List Row, rs = (List.range a.rows.length).map fun s => (false, (List.range N).map (fillF a way out s)) := ⟨_, rfl⟩
    have hfzC : ∀ i, i < a.rows.length → ∃ esz es fz, mlook ((1000000, .cells [.sc (.int .i64 a.ins), .sc (.int .i64 a.outs), .tl 1000001 a.rows.length false]) :: (1000001, .arr 1 (tcell N a.rows.length) false) :: gtab 2 edgeC (fillF a way out) a.rows.length N) i = some (.arr esz es fz) ∧ es.all AV.norefs = true := fun i hi => by
      have hi6 : i < 1000000 := by omega
      refine ⟨2, gcells edgeC (fillF a way out i) N, false, ?_, gcells_norefs hEn _ _⟩
      simp only [mlook, lo_ne hi6 1000000 (Nat.le_refl _), lo_ne hi6 1000001 (by decide), if_false, gtab_look _ _ _ hi]
    have hsnap : (tcell N a.rows.length).map (fun c => c.map (AV.deep (snap ((1000000, .cells [.sc (.int .i64 a.ins), .sc (.int .i64 a.outs), .tl 1000001 a.rows.length false]) :: (1000001, .arr 1 (tcell N a.rows.length) false) :: gtabF 2 edgeC (fillF a way out) a.rows.length N)))) = rs.map rowC := by
      rw [tcell_snap (e := 2) (row := fun s => gcells edgeC (fillF a way out s) N)]
      · rw [hrs, List.map_map]
        refine List.map_congr_left fun s _ => ?_
        rw [gcells_edge]; rfl
      · intro i hi
        have hi6 : i < 1000000 := by omega
        simp only [mlook, lo_ne hi6 1000000 (Nat.le_refl _), lo_ne hi6 1000001 (by decide), if_false, gtabF_look _ _ _ hi]
      · intro i _; exact gcells_len _ _ _
    have hrl : rs.length = a.rows.length := by rw [hrs]; simp
    have hrn : ∀ rs : List Row, (rs.map rowC).all AV.norefs = true := fun rs => by simp [List.all_eq_true, rowC, AV.norefs, AV.noref]
    refine EvC.fzAll a.rows.length hfzC ?_
    refine EvC.snapA 1000001 (by (simp only [go_sem, fzAll_cons hn1, gtab_fz, hsnap]) <;> rfl) ?_
    refine EvC.gc [1, 2, 7, 8, 9, 10, 11] [(1000000, 0), (1000001, 1)] 2 rfl ?_
    have hmi : m.ins = a.ins := by rw [hm]; rfl
    have hC28 : PureIs prog 28 [.ag [.sc (.int .i64 m.ins), .sc (.int .i64 m.outs), .sl m.nl (m.rows.map rowG) .full]] (.sc (.bool true)) := by
      have := complete28F_is vM (hmi.trans hN)
      rwa [cM] at this
    have hMac : ∀ rx : List Row, rx = m.rows → PureIs prog 21 [.ag [.sc (.int .i64 m.ins), .sc (.int .i64 m.outs), .sl m.nl (m.rows.map rowG) .full], .sc (.int .i64 0), .ag [.sc (.int .i64 a.ins), .sc (.int .i64 a.outs), .sl false (rx.map rowC) .unk]] (.sc (.bool true)) := fun rx hx => by
      have h2 := vM.rows
      exact machine_is (a := m) (b := ⟨a.ins, a.outs, false, rx⟩) hmi (by rw [hm]; rfl) (by rw [hx]) (by omega) vM.small
    have hfn := fillN_le a N way
    refine EvC.seq ?_
    by_cases hA1 : way = 1 ∧ compD a N = false
    · obtain ⟨rfl, hA2⟩ := hA1
      have h28 := complete28_is va hN
      rw [hA2] at h28
      apply EvC.seq
      apply EvC.tr
      · apply Tr.run
        · (simp only [go_sem, Mach.cells, hrn, hrl]) <;> rfl
        · simp
        apply Tr.cons
        · exact .callG rfl rfl (by (simp only [go_sem]) <;> rfl) rfl (by (simp only [go_sem]) <;> rfl) (by (simp only [go_sem]) <;> rfl) (by (simp only [go_sem]) <;> rfl) (by (simp only [go_sem]) <;> rfl) (by (simp only [go_sem]) <;> rfl) (h28)
        apply Tr.done
        · (simp only [go_sem]) <;> rfl
        · simp
      refine EvC.cond_true (by (simp only [go_sem]) <;> rfl) ?_
      refine EvC.seq (EvC.rg (by (simp only [go_sem]) <;> rfl) (by simp) ?_)
      refine EvC.seq ?_
      refine EvC.seq (EvC.rg (by (simp only [go_sem]) <;> rfl) (by simp) ?_)
      refine EvC.block ?_  -- 4
      refine EvC.loopS (σ := Nat) (fun k => ⟨[(2, .sc (.int .i64 out)), (7, .ia a.cells), (8, .ia m.cellsF), (9, .sc (.int .i64 0)), (10, .rf 0 0), (11, .sc (.int .i64 a.rows.length)), (14, .tl 2 k (k == 0)), (15, .sc (.int .i64 k))], [], [(0, .cells [.sc (.int .i64 a.ins), .sc (.int .i64 a.outs), .tl 1 a.rows.length false]), (1, .arr 1 (rs.map rowC) false), (2, .arr 2 (List.replicate k [.sc (.int .i64 a.rows.length), .sc (.int .i64 out)]) true)], 3⟩) (fun k => N - k) (fun k => k ≤ N) [2, 7, 8, 9, 10, 11, 14, 15] 3 ?_ ?_
      · exact ⟨[(0, 0), (1, 1), (9, 2)], 0, rfl, (by (simp only [go_sem, Mach.cells, Mach.cellsF, hrn, List.replicate_zero, Int.natCast_zero]) <;> rfl), Nat.zero_le _⟩
      intro k hk
      have hrk : ∀ k : Nat, (List.replicate k [AV.sc (.int .i64 a.rows.length), AV.sc (.int .i64 out)]).all AV.norefs = true := fun k => by simp [List.all_replicate, AV.norefs, AV.noref]
      refine EvC.seq ?_
      refine EvC.seq (EvC.rg (by (simp only [go_sem, Mach.cells, hN]) <;> rfl) (by simp) ?_)
      refine EvC.cond (by (simp only [go_sem]) <;> rfl) (fun hc => ?_) (fun hc => ?_)
      rotate_left
      · -- else
        refine EvC.exit ?_  -- 4
        obtain rfl : N = k := by have : ¬ k < N := by simpa using hc
                                 omega
        clear hc hk
        have hN0 : (N == 0) = false := by simp; omega
        have hcat : rs.map rowC ++ [[AV.sl false (List.replicate N [AV.sc (.int .i64 a.rows.length), AV.sc (.int .i64 out)]) .unk]] = (rs ++ [(false, List.replicate N ((a.rows.length : Int), out))]).map rowC := by simp [rowC, edgeC]
        have hmr : rs ++ [(false, List.replicate N ((a.rows.length : Int), out))] = m.rows := by
          rw [hrs, hm, fillM, fillN, if_pos ⟨rfl, hA2⟩, List.range_succ, List.map_append]
          congr 1
          simp only [List.map_cons, List.map_nil]
          congr 2
          symm
          rw [List.eq_replicate_iff]
          refine ⟨by simp, fun b hb => ?_⟩
          obtain ⟨i, _, rfl⟩ := List.mem_map.1 hb
          simp [fillF]
        have hrl2 : (rs ++ [(false, List.replicate N ((a.rows.length : Int), out))]).length = a.rows.length + 1 := by simp [hrl]
        generalize rs ++ [(false, List.replicate N ((a.rows.length : Int), out))] = rx at hcat hmr hrl2
        refine EvC.rg (by (simp only [go_sem, hN0, hrl, hrk, List.length_map, List.length_replicate]) <;> rfl) (by simp [hrl, room_eq]; try omega) ?_
        refine EvC.frzD 1 (by (simp only [go_sem, hrn, hrl, hcat, hrl2, List.length_map]) <;> rfl) ?_
        refine EvC.frzB 0 (by (simp only [go_sem, hrn]) <;> rfl) ?_
        have hMx := hMac rx hmr
        rw [hN] at hMx
        apply EvC.seq
        apply EvC.tr
        · apply Tr.run
          · (simp only [go_sem, Mach.cells, Mach.cellsF]) <;> rfl
          · simp
          apply Tr.cons
          · exact .call rfl rfl (by (simp only [go_sem]) <;> rfl) (by (simp only [go_sem]) <;> rfl) (by (simp only [go_sem]) <;> rfl) (by (simp only [go_sem]) <;> rfl) (by (simp only [go_sem]) <;> rfl) (hMx)
          apply Tr.run
          · (simp only [go_sem, Mach.cells, Mach.cellsF]) <;> rfl
          · simp
          apply Tr.cons
          · exact .callG rfl rfl (by (simp only [go_sem]) <;> rfl) rfl (by (simp only [go_sem]) <;> rfl) (by (simp only [go_sem]) <;> rfl) (by (simp only [go_sem]) <;> rfl) (by (simp only [go_sem]) <;> rfl) (by (simp only [go_sem]) <;> rfl) (hC28)
          apply Tr.run
          · (simp only [go_sem, Mach.cells, Mach.cellsF]) <;> rfl
          · simp
          apply Tr.cons
          · exact .callG rfl rfl (by (simp only [go_sem]) <;> rfl) rfl (by (simp only [go_sem]) <;> rfl) (by (simp only [go_sem]) <;> rfl) (by (simp only [go_sem]) <;> rfl) (by (simp only [go_sem]) <;> rfl) (by (simp only [go_sem]) <;> rfl) (lives_is)
          apply Tr.done
          · (simp only [go_sem]) <;> rfl
          · simp
        refine EvC.ret ⟨.inl rfl, _, (by (simp only [go_sem]) <;> rfl), ?_, rfl⟩
        simp only [go_sem]
      have hkl : k < N := by simpa using hc
      clear hc
      have hk0 : (k + 1 == 0) = false := rfl
      have hrep : List.replicate k [AV.sc (.int .i64 a.rows.length), AV.sc (.int .i64 out)] ++ [[AV.sc (.int .i64 a.rows.length), AV.sc (.int .i64 out)]] = List.replicate (k + 1) [AV.sc (.int .i64 a.rows.length), AV.sc (.int .i64 out)] := by rw [List.replicate_succ']
      refine EvC.skip ?_
      refine EvC.seq ?_
      refine EvC.block ?_  -- 5
      apply EvC.tr
      · apply Tr.run
        · (simp only [go_sem, List.length_replicate]) <;> rfl
        · simp
        apply Tr.cons
        · exact .call rfl rfl (by (simp only [go_sem]) <;> rfl) (by (simp only [go_sem]) <;> rfl) (by (simp only [go_sem]) <;> rfl) (by (simp only [go_sem]) <;> rfl) (by (simp only [go_sem]) <;> rfl) (edge_is' a.rows.length out)
        apply Tr.done
        · (simp only [go_sem, List.length_replicate]) <;> rfl
        · simp [room_eq]; try omega
      refine EvC.rg (by (simp only [go_sem]) <;> rfl) (by exact inI64_of (by omega) (by omega)) ?_
      exact ⟨[(0, 0), (1, 1), (2, 2)], k + 1, rfl, (by (simp only [go_sem, Mach.cells, Mach.cellsF, hN, hrn, hk0, hrk, hrep, Int.natCast_add, Int.natCast_one]) <;> rfl), hkl, by omega⟩
    · have hmr : rs = m.rows := by
        rw [hrs, hm, fillM, fillN, if_neg hA1]
      rcases hw2 with rfl | rfl
      · apply EvC.seq
        apply EvC.tr
        · apply Tr.run
          · (simp only [go_sem, Mach.cells, hrn, hrl]) <;> rfl
          · simp
          apply Tr.cons
          · exact .skipv (.sc (.bool false)) rfl rfl (by (simp only [go_sem]) <;> rfl) (by (simp only [go_sem]) <;> rfl)
          apply Tr.done
          · (simp only [go_sem]) <;> rfl
          · simp
        refine EvC.cond_false (by (simp only [go_sem]) <;> rfl) ?_
        refine EvC.skip ?_
        refine EvC.frzD 1 (by (simp only [go_sem, hrn, hrl, List.length_map]) <;> rfl) ?_
        refine EvC.frzB 0 (by (simp only [go_sem, hrn]) <;> rfl) ?_
        apply EvC.seq
        apply EvC.tr
        · apply Tr.run
          · (simp only [go_sem, Mach.cells, Mach.cellsF]) <;> rfl
          · simp
          apply Tr.cons
          · exact .call rfl rfl (by (simp only [go_sem]) <;> rfl) (by (simp only [go_sem]) <;> rfl) (by (simp only [go_sem]) <;> rfl) (by (simp only [go_sem]) <;> rfl) (by (simp only [go_sem]) <;> rfl) (hMac rs hmr)
          apply Tr.run
          · (simp only [go_sem, Mach.cells, Mach.cellsF]) <;> rfl
          · simp
          apply Tr.cons
          · exact .callG rfl rfl (by (simp only [go_sem]) <;> rfl) rfl (by (simp only [go_sem]) <;> rfl) (by (simp only [go_sem]) <;> rfl) (by (simp only [go_sem]) <;> rfl) (by (simp only [go_sem]) <;> rfl) (by (simp only [go_sem]) <;> rfl) (hC28)
          apply Tr.run
          · (simp only [go_sem, Mach.cells, Mach.cellsF]) <;> rfl
          · simp
          apply Tr.cons
          · exact .callG rfl rfl (by (simp only [go_sem]) <;> rfl) rfl (by (simp only [go_sem]) <;> rfl) (by (simp only [go_sem]) <;> rfl) (by (simp only [go_sem]) <;> rfl) (by (simp only [go_sem]) <;> rfl) (by (simp only [go_sem]) <;> rfl) (lives_is)
          apply Tr.done
          · (simp only [go_sem]) <;> rfl
          · simp
        refine EvC.ret ⟨.inl rfl, _, (by (simp only [go_sem]) <;> rfl), ?_, rfl⟩
        simp only [go_sem]
      · have h28 := complete28_is va hN
        have hA2 : compD a N = true := by simpa using fun h => hA1 ⟨rfl, h⟩
        rw [hA2] at h28
        apply EvC.seq
        apply EvC.tr
        · apply Tr.run
          · (simp only [go_sem, Mach.cells, hrn, hrl]) <;> rfl
          · simp
          apply Tr.cons
          · exact .callG rfl rfl (by (simp only [go_sem]) <;> rfl) rfl (by (simp only [go_sem]) <;> rfl) (by (simp only [go_sem]) <;> rfl) (by (simp only [go_sem]) <;> rfl) (by (simp only [go_sem]) <;> rfl) (by (simp only [go_sem]) <;> rfl) (h28)
          apply Tr.done
          · (simp only [go_sem]) <;> rfl
          · simp
        refine EvC.cond_false (by (simp only [go_sem]) <;> rfl) ?_
        refine EvC.skip ?_
        refine EvC.frzD 1 (by (simp only [go_sem, hrn, hrl, List.length_map]) <;> rfl) ?_
        refine EvC.frzB 0 (by (simp only [go_sem, hrn]) <;> rfl) ?_
        apply EvC.seq
        apply EvC.tr
        · apply Tr.run
          · (simp only [go_sem, Mach.cells, Mach.cellsF]) <;> rfl
          · simp
          apply Tr.cons
          · exact .call rfl rfl (by (simp only [go_sem]) <;> rfl) (by (simp only [go_sem]) <;> rfl) (by (simp only [go_sem]) <;> rfl) (by (simp only [go_sem]) <;> rfl) (by (simp only [go_sem]) <;> rfl) (hMac rs hmr)
          apply Tr.run
          · (simp only [go_sem, Mach.cells, Mach.cellsF]) <;> rfl
          · simp
          apply Tr.cons
          · exact .callG rfl rfl (by (simp only [go_sem]) <;> rfl) rfl (by (simp only [go_sem]) <;> rfl) (by (simp only [go_sem]) <;> rfl) (by (simp only [go_sem]) <;> rfl) (by (simp only [go_sem]) <;> rfl) (by (simp only [go_sem]) <;> rfl) (hC28)
          apply Tr.run
          · (simp only [go_sem, Mach.cells, Mach.cellsF]) <;> rfl
          · simp
          apply Tr.cons
          · exact .callG rfl rfl (by (simp only [go_sem]) <;> rfl) rfl (by (simp only [go_sem]) <;> rfl) (by (simp only [go_sem]) <;> rfl) (by (simp only [go_sem]) <;> rfl) (by (simp only [go_sem]) <;> rfl) (by (simp only [go_sem]) <;> rfl) (lives_is)
          apply Tr.done
          · (simp only [go_sem]) <;> rfl
          · simp
        refine EvC.ret ⟨.inl rfl, _, (by (simp only [go_sem]) <;> rfl), ?_, rfl⟩
        simp only [go_sem]
  have hsl : s < a.rows.length := by simpa using hc
  clear hc
  have hs6 : s < 1000000 := by omega
  refine EvC.skip ?_
  refine EvC.seq ?_
  refine EvC.block ?_  -- 1
  refine EvC.seq (EvC.rg (by (simp only [go_sem]) <;> rfl) (by simp) ?_)
  refine EvC.block ?_  -- 2
  refine EvC.loopS (σ := Nat) (fun i => ⟨[(1, .sc (.int .u8 way)), (2, .sc (.int .i64 out)), (7, .ia a.cells), (8, .ia m.cellsF), (9, .sc (.int .i64 0)), (10, .rf 1000000 0), (11, .sc (.int .i64 a.rows.length)), (12, .sc (.int .i64 s)), (13, .sc (.int .i64 i))], [], (1000000, .cells [.sc (.int .i64 a.ins), .sc (.int .i64 a.outs), .tl 1000001 a.rows.length false]) :: (1000001, .arr 1 (tcell N a.rows.length) false) :: gtab 2 edgeC (wF a N way out s i) a.rows.length N, 1000002⟩) (fun i => N - i) (fun i => i ≤ N) [1, 2, 7, 8, 9, 10, 11, 12, 13] 1000002 ?_ ?_
  · exact ⟨segK [(1000000, 1000000), (1000001, 1000001)] a.rows.length [], 0, hK, (by (simp only [go_sem, Mach.cells, Mach.cellsF, hN, rlook_segK_hi hn1, List.cons_append, List.nil_append, List.append_nil, renMem_idK_cons hn1, renMem_idK_mset hn1, gtab_ren 2 hEn, tcell_ren hlo, ite_self, Int.natCast_add, Int.natCast_one, Int.natCast_zero]) <;> rfl), Nat.zero_le _⟩
  intro i hi
  refine EvC.seq ?_
  refine EvC.seq (EvC.rg (by (simp only [go_sem, Mach.cells, hN]) <;> rfl) (by simp) ?_)
  refine EvC.cond (by (simp only [go_sem]) <;> rfl) (fun hc => ?_) (fun hc => ?_)
  rotate_left
  · -- else
    refine EvC.exit ?_  -- 2
    obtain rfl : N = i := by have : ¬ i < N := by simpa using hc
                             omega
    refine EvC.rg (by (simp only [go_sem]) <;> rfl) (by exact inI64_of (by omega) (by omega)) ?_
    exact ⟨segK [(1000000, 1000000), (1000001, 1000001)] a.rows.length [], s + 1, hK, (by rw [← wF_row]; (simp only [go_sem, Mach.cells, Mach.cellsF, hN, rlook_segK_hi hn1, List.cons_append, List.nil_append, List.append_nil, renMem_idK_cons hn1, renMem_idK_mset hn1, gtab_ren 2 hEn, tcell_ren hlo, ite_self, Int.natCast_add, Int.natCast_one, Int.natCast_zero]) <;> rfl), hsl, by omega⟩
  have hil : i < N := by simpa using hc
  clear hc
  have hlt := gtab_look 2 edgeC (wF a N way out s i) (m := N) hsl
  refine EvC.skip ?_
  refine EvC.seq ?_
  refine EvC.block ?_  -- 3
  refine EvC.seq ?_
  refine EvC.seq (EvC.rg (by (simp only [go_sem, hml, tcell_get hsl, lo_ne hs6, hlt, gcells_len, gcells_get edgeC (wF a N way out s i s) hil, Int.toNat_natCast, edgeC, wF_at]) <;> rfl) (by simp; try omega) ?_)
  refine EvC.cond (by (simp only [go_sem]) <;> rfl) (fun hc => ?_) (fun hc => ?_)
  · -- then
    have h0 : ¬ (eAt a s i).1 < 0 := by simpa using hc
    refine EvC.exit ?_  -- 3
    refine EvC.rg (by (simp only [go_sem]) <;> rfl) (by exact inI64_of (by omega) (by omega)) ?_
    exact ⟨segK [(1000000, 1000000), (1000001, 1000001)] a.rows.length [], i + 1, hK, (by rw [wF_keep h0]; (simp only [go_sem, Mach.cells, Mach.cellsF, hN, rlook_segK_hi hn1, List.cons_append, List.nil_append, List.append_nil, renMem_idK_cons hn1, renMem_idK_mset hn1, gtab_ren 2 hEn, tcell_ren hlo, ite_self, Int.natCast_add, Int.natCast_one, Int.natCast_zero]) <;> rfl), hil, by omega⟩
  have h0 : (eAt a s i).1 < 0 := by simpa using hc
  refine EvC.skip ?_
  have hset : mset (gtab 2 edgeC (wF a N way out s i) a.rows.length N) s (.arr 2 ((gcells edgeC (wF a N way out s i s) N).set i [.sc (.int .i64 s), .sc (.int .i64 out)]) false) = gtab 2 edgeC (upd2 (wF a N way out s i) s i ((s : Int), out)) a.rows.length N := gtab_set 2 edgeC (wF a N way out s i) ((s : Int), out) hsl hil
  apply EvC.seq  -- R14
  apply EvC.drw mixed
  · apply Tr.run
    · (simp only [go_sem, hml, tcell_get hsl, lo_ne hs6, lo_ne' hs6, hlt, gcells_len, gcells_get edgeC (wF a N way out s i s) hil, Int.toNat_natCast, edgeC, wF_at]) <;> rfl
    · simp; try omega
    apply Tr.cons
    · exact .call rfl rfl (by (simp only [go_sem]) <;> rfl) (by (simp only [go_sem]) <;> rfl) (by (simp only [go_sem]) <;> rfl) (by (simp only [go_sem]) <;> rfl) (by (simp only [go_sem]) <;> rfl) (edge_is' s out)
    apply Tr.done
    · (simp only [go_sem, hml, tcell_get hsl, lo_ne hs6, lo_ne' hs6, hlt, gcells_len, gcells_get edgeC (wF a N way out s i s) hil, Int.toNat_natCast, edgeC, wF_at, hset]) <;> rfl
    · simp; try omega
  · exact confAll_slots (by simp [rdOk, slotsOf, opSlots, memless, Op.operands, Call.operands]) (by kernel_rfl)
  refine EvC.seq (EvC.rg (by (simp only [go_sem]) <;> rfl) (by simp) ?_)
  rcases hw2 with rfl | rfl
  · have hu : upd2 (wF a N 0 out s i) s i ((s : Int), out) = wF a N 0 out s (i + 1) := wF_set hil h0
    rw [hu]
    refine EvC.cond_false (by (simp only [go_sem]) <;> rfl) ?_
    refine EvC.skip ?_
    refine EvC.rg (by (simp only [go_sem]) <;> rfl) (by exact inI64_of (by omega) (by omega)) ?_
    exact ⟨segK [(1000000, 1000000), (1000001, 1000001)] a.rows.length [], i + 1, hK, (by (simp only [go_sem, Mach.cells, Mach.cellsF, hN, rlook_segK_hi hn1, List.cons_append, List.nil_append, List.append_nil, renMem_idK_cons hn1, renMem_idK_mset hn1, gtab_ren 2 hEn, tcell_ren hlo, ite_self, Int.natCast_add, Int.natCast_one, Int.natCast_zero]) <;> rfl), hil, by omega⟩
  · have hu : upd2 (upd2 (wF a N 1 out s i) s i ((s : Int), out)) s i ((a.rows.length : Int), out) = wF a N 1 out s (i + 1) := by rw [upd2_upd2]; exact wF_set hil h0
    have hlt2 := gtab_look 2 edgeC (upd2 (wF a N 1 out s i) s i ((s : Int), out)) (m := N) hsl
    have hset2 : mset (gtab 2 edgeC (upd2 (wF a N 1 out s i) s i ((s : Int), out)) a.rows.length N) s (.arr 2 ((gcells edgeC (upd2 (wF a N 1 out s i) s i ((s : Int), out) s) N).set i [.sc (.int .i64 a.rows.length), .sc (.int .i64 out)]) false) = gtab 2 edgeC (upd2 (upd2 (wF a N 1 out s i) s i ((s : Int), out)) s i ((a.rows.length : Int), out)) a.rows.length N := gtab_set 2 edgeC _ ((a.rows.length : Int), out) hsl hil
    refine EvC.cond_true (by (simp only [go_sem]) <;> rfl) ?_
    refine EvC.rg (by (simp only [go_sem, hml, tcell_get hsl, lo_ne hs6, lo_ne' hs6, hlt2, gcells_len, gcells_get edgeC (upd2 (wF a N 1 out s i) s i ((s : Int), out) s) hil, Int.toNat_natCast, edgeC, upd2_at, hset2]) <;> rfl) (by simp; try omega) ?_
    rw [hu]
    refine EvC.rg (by (simp only [go_sem]) <;> rfl) (by exact inI64_of (by omega) (by omega)) ?_
    exact ⟨segK [(1000000, 1000000), (1000001, 1000001)] a.rows.length [], i + 1, hK, (by (simp only [go_sem, Mach.cells, Mach.cellsF, hN, rlook_segK_hi hn1, List.cons_append, List.nil_append, List.append_nil, renMem_idK_cons hn1, renMem_idK_mset hn1, gtab_ren 2 hEn, tcell_ren hlo, ite_self, Int.natCast_add, Int.natCast_one, Int.natCast_zero]) <;> rfl), hil, by omega⟩
end Go.Avl
namespace Go.Proofs.Ytbiifplfohnpeaa
open Go Go.Avl Go.Proofs Go.ChangeShapes Go.RowKit
section
variable {H : Type} {enc : TypeId × Value → H} {w : World}
theorem rd_u8' : Reads enc Try.prog w 5 (fun n : Int => [.sc (.int .u8 n)]) (fun n => 0 ≤ n ∧ n < 256) := rd_u8
end
end Go.Proofs.Ytbiifplfohnpeaa
namespace Go.Avl
open Go Go.Proofs
variable {H : Type} {enc : TypeId × Value → H} {w : World} {α : Type} {P : Program}
theorem Reads.imm_int {t : TypeId} {k : IntKind} {f : α → AV} {Ok : α → Prop} {r : Reach} {b0 : Nat} {v : Value} {d : DataW H} {ps : List MemPlace} (ht : P.underlying t = some (.int k)) (h : Reads enc P w t (fun a => [f a]) Ok)
    (hv : Value.okWide P w r b0 t v) (hw : Fits P t d) (hd : DataW.Trod enc P w 0 (fun _ => true) true t v d ps) : ∃ a, Ok a ∧ Imm (Live w) w v (f a) := by
  have hc : v.cells = #[v] := by
    simp only [Value.okWide, ht, Cell.okWide] at hv
    cases v <;> simp_all [Cell.ok, Value.cells]
  obtain ⟨fuel, hd⟩ := hd
  obtain ⟨a, h1, h2, _⟩ := h _ _ _ hw hd
  rw [hc] at h2
  exact ⟨a, h1, h2.2 0 (by simp) (by simp)⟩
end Go.Avl
namespace Go.Proofs.Ytbiifplfohnpeaa
open Go Go.Avl Go.Proofs Go.ChangeShapes Go.RowKit

set_option maxRecDepth 100000 in
theorem joinsFill_lifted (os : Os) (started : os.Started) (H : Type) (enc : TypeId × Value → H) :
    ReturnsInHanded {} Try.checked os 6 .any (Rows.joinsFillSpec.pre6 enc Try.prog Try.f6 Rows.joinsFillRow.domain false) (Rows.joinsFillSpec.post enc Try.prog Try.f6 false true false false) := by
  refine returnsInHanded_of_change_sized (C := Try.checked) Try.own started (by kernel_rfl) Try.func6
    (ChangeSpec.witness6 (enc := enc) (C := Try.checked) false ⟨#[], #[.agg #[.int .u8 0, .int .u8 0, .int .u8 0, .bool false, .slice none 0 0], .int .u8 0, .int .i64 0], []⟩ 8 (by kernel_rfl) (by kernel_rfl) (by kernel_rfl) (by kernel_rfl)) ?_
  intro W base args ds gs before hval hW _ hz _
  have hW' := hW
  obtain ⟨p, q, hA, hV, rfl, _, _⟩ := hW'
  obtain ⟨rfl, rfl⟩ := trodVars_none hV
  have hA' : DataW.TrodAll enc Try.prog W 0 (fun _ => true) true [24, 5, 3] args.toList ds p := by rw [← show Try.f6.params.toList = [24, 5, 3] from rfl]; exact hA
  obtain ⟨v0, v1, v2, d0, d1, d2, p0, p1, p2, rfl, rfl, rfl, h0, h1, h2⟩ := trodAll_three hA'
  have hz' : (DataW.weightsEach Try.prog [24, 5, 3] [d0, d1, d2]).all (· ≤ reachBytes) = true := hz
  have hf := fits_each (P := Try.prog) (ts := [24, 5, 3]) (l := [d0, d1, d2]) fun n hn => by simpa using List.all_eq_true.1 hz' n hn
  obtain ⟨x, hx, i0⟩ := rd_LM.imm_struct Try.underlying24 (hval 0 24 v0 rfl rfl) (hf 0 24 d0 rfl rfl) h0
  obtain ⟨b, hb, i1⟩ := rd_u8'.imm_int Try.underlying5 (hval 1 5 v1 rfl rfl) (hf 1 5 d1 rfl rfl) h1
  obtain ⟨c, hc, i2⟩ := rd_i64.imm_int Try.underlying3 (hval 2 3 v2 rfl rfl) (hf 2 3 d2 rfl rfl) h2
  exact law_calls Try.laidOut (by kernel_rfl) rfl (by kernel_rfl) rfl rfl (joinsFill_is hx b c hb) (Imms.append (.one i0) (Imms.append (.one i1) (.one i2))) hW

theorem joinsFill_holds : Rows.JoinsFillSaid :=
  OpenClaim.holds_of_wide 6 Try.f6 rfl rfl rfl rfl rfl rfl rfl ⟨rfl, rfl, rfl, rfl, rfl⟩ rfl rfl rfl rfl rfl (by kernel_rfl) Try.func6 (by kernel_rfl)
    (of_decide_eq_true (by kernel_rfl)) (by unfold Func.isWrapper; first | (rw [if_pos (by decide +kernel)]; kernel_rfl) | (rw [if_neg (by decide +kernel)]; exact ⟨rfl, rfl⟩))
    (fun os started H enc _ => joinsFill_lifted os started H enc)
#print axioms joinsFill_holds
end Go.Proofs.Ytbiifplfohnpeaa
