/-
  Lemmas.
  Lemmas.
  Lemmas.
  Lemmas.
  Lemmas.
  Lemmas.
  JoinsParallel returns true at every input, and each argument reads behind the call as it read before.
  Conditions: those of the given row alone (no others).
-/
import Derived.Test.YtbiifplfohnpeaaPart9
set_option linter.unusedSimpArgs false
set_option linter.unusedVariables false
set_option linter.unnecessarySimpa false
set_option linter.deprecated false
namespace Go.Avl
open Go Go.Proofs.Try
set_option maxRecDepth 10000
set_option linter.unusedSimpArgs false

theorem Valid.check {m : Mach} (h : Valid m) : checkM m = 0 := by
  have h1 := h.ins
  have h2 := h.outs
  have h3 := h.rows
  unfold checkM
  rw [if_neg (by omega), if_neg (by omega), if_pos]
  rw [List.all_eq_true]
  intro r hr
  obtain ⟨k1, k2⟩ := h.row r hr
  simp only [rowOk, Bool.and_eq_true, decide_eq_true_eq, Bool.not_eq_true', List.any_eq_false]
  exact ⟨k1, fun e he => by simpa using k2 e he⟩
theorem ints_unk (l : List Int) : AV.unkss (l.map intC) = l.map intC := unkss_map intC (fun _ => rfl) l
theorem Valid.small {q : Mach} (hq : Valid q) : ∀ r ∈ q.rows, r.2.length < 1000000 := by
  intro r hr
  have h1 := (hq.row r hr).1
  have h2 := hq.ins
  omega
theorem runF_is {m : Mach} (hv : Valid m) (nl : Bool) (w : List Int) (c : Cp) (hw : ∀ a ∈ w, 0 ≤ a ∧ a < m.ins) (hl : w.length < 1000000) (s : Int) (hs : s < m.rows.length) :
    PureIs prog 17 [.ag m.cellsF, .sc (.int .i64 s), .sl nl (w.map intC) c] (.sl (runR m s w).isEmpty ((runR m s w).map intC) .unk) := by
  refine PureIs.weak ?_
  simp only [List.map_cons, List.map_nil, AV.unk, Mach.cellsF_unk, ints_unk]
  exact run04_is hv s hs nl w .unk hw hl
theorem LM.valid {x : LM} (h : x.Ok) : Valid x.mach := by
  obtain ⟨b1, b2, b3, b4, b5, b6, -, -⟩ := LM.bounds h
  have hl : x.mach.rows.length = x.n := by simp [LM.mach]
  refine ⟨⟨by show (1 : Int) ≤ x.i; omega, by show (x.i : Int) ≤ 16; omega⟩, ⟨b5, by show x.o ≤ 16; omega⟩, by rw [hl]; omega, fun r hr => ?_⟩
  rw [hl]
  simp only [LM.mach, List.mem_map, List.mem_range] at hr ⊢
  obtain ⟨s, hs, rfl⟩ := hr
  refine ⟨by simp [LM.row], fun e he => ?_⟩
  simp only [LM.row, List.mem_map, List.mem_range] at he
  obtain ⟨i, hi, rfl⟩ := he
  obtain ⟨v1, v2⟩ := LM.v_ok h s i
  unfold LM.edge
  split
  · simp [fitsR]
  · have h1 := Int.emod_nonneg (x.v s i / 4) (b := x.n) (by omega)
    have h2 := Int.emod_lt_of_pos (x.v s i / 4) (b := x.n) (by omega)
    have h3 := Int.emod_nonneg (x.v s i / 4 / x.n) (b := x.o) (by omega)
    have h4 := Int.emod_lt_of_pos (x.v s i / 4 / x.n) (b := x.o) (by omega)
    simp [fitsR, h1, h2, h3, h4]
theorem wOf_ok {l : List Int} {n : Int} (hn : 1 ≤ n) : ∀ a ∈ wOf l n, 0 ≤ a ∧ a < n := by
  intro a ha
  simp only [wOf, List.mem_map] at ha
  obtain ⟨y, -, rfl⟩ := ha
  exact ⟨Int.emod_nonneg _ (by omega), Int.emod_lt_of_pos _ (by omega)⟩
theorem wOf_len (l : List Int) (n : Int) : (wOf l n).length ≤ 12 := by simp [wOf]; omega
theorem runR_len (m : Mach) : ∀ (s : Int) (w : List Int), (runR m s w).length = w.length
  | _, [] => rfl
  | s, a :: w => by simp only [runR, List.length_cons]; rw [runR_len m _ w]
/-! ### Machines, edge by edge -/
theorem eAt_fit {m : Mach} (hv : Valid m) {s i : Nat} (hs : s < m.rows.length) (hi : (i : Int) < m.ins) : ∃ r, m.rows[s]? = some r ∧ r.2[i]? = some (eAt m s i) ∧ (isNone (eAt m s i) = true ∨ (0 ≤ (eAt m s i).1 ∧ (eAt m s i).1 < m.rows.length ∧ 0 ≤ (eAt m s i).2 ∧ (eAt m s i).2 < m.outs)) := by
  have h1 : m.rows[s]? = some m.rows[s] := List.getElem?_eq_getElem hs
  obtain ⟨h2, h3⟩ := hv.row _ (List.getElem_mem hs)
  have h4 : (m.rows[s]).2[i]? = some ((m.rows[s]).2[i]'(by omega)) := List.getElem?_eq_getElem _
  have he := eAt_get h1 h4
  refine ⟨_, h1, by rw [he]; exact h4, ?_⟩
  have hf := fits_edge (h3 _ (List.getElem_mem (show i < (m.rows[s]).2.length by omega)))
  rw [he]
  rcases hf with h | h
  · left; simp [isNone, h]
  · exact .inr h
/-- A machine given by a table is valid. -/
theorem valid_tab {ins outs : Int} {nl : Bool} {n N : Nat} {f : Nat → Nat → Int × Int} (hN : ins = (N : Int)) (h1 : 1 ≤ N ∧ N ≤ 16) (h2 : 1 ≤ outs ∧ outs ≤ 16) (h3 : 1 ≤ n ∧ n ≤ 64)
    (hf : ∀ s i, s < n → i < N → isNone (f s i) = true ∨ (0 ≤ (f s i).1 ∧ (f s i).1 < n ∧ 0 ≤ (f s i).2 ∧ (f s i).2 < outs)) : Valid ⟨ins, outs, nl, (List.range n).map fun s => (false, (List.range N).map (f s))⟩ := by
  refine ⟨by simp only; omega, h2, by simpa using h3, fun r hr => ?_⟩
  obtain ⟨s, hs, rfl⟩ := List.mem_map.1 hr
  refine ⟨by simp [hN], fun e he => ?_⟩
  obtain ⟨i, hi, rfl⟩ := List.mem_map.1 he
  simp only [List.length_map, List.length_range]
  have := hf s i (List.mem_range.1 hs) (List.mem_range.1 hi)
  unfold fitsR
  rcases this with h | h
  · unfold isNone at h; simp only [Bool.and_eq_true, decide_eq_true_eq] at h; simp [h.1, h.2]
  · simp [h.1, h.2.1, h.2.2.1, h.2.2.2]
theorem eAt_tab {ins outs : Int} {nl : Bool} {n N : Nat} {f : Nat → Nat → Int × Int} {s i : Nat} (hs : s < n) (hi : i < N) : eAt ⟨ins, outs, nl, (List.range n).map fun s => (false, (List.range N).map (f s))⟩ s i = f s i := by
  refine eAt_get (r := (false, (List.range N).map (f s))) ?_ ?_
  · simp only; rw [List.getElem?_map, List.getElem?_range hs]; rfl
  · simp only; rw [List.getElem?_map, List.getElem?_range hi]; rfl
/-- A valid machine is its table. -/
theorem rows_tab {m : Mach} (hv : Valid m) {N : Nat} (hN : m.ins = (N : Int)) : m.rows.map (·.2) = (List.range m.rows.length).map fun s => (List.range N).map (eAt m s) := by
  refine List.ext_getElem (by simp) fun s h1 h2 => ?_
  simp only [List.getElem_map, List.getElem_range]
  have hs : s < m.rows.length := by simpa using h1
  have hr := (hv.row _ (List.getElem_mem hs)).1
  refine List.ext_getElem (by simp; omega) fun i k1 k2 => ?_
  simp only [List.getElem_map, List.getElem_range]
  exact (eAt_get (List.getElem?_eq_getElem hs) (List.getElem?_eq_getElem k1)).symm
theorem stepR_eAt {m : Mach} {s : Nat} {a : Int} (ha : 0 ≤ a) : stepR m (s : Int) a = eAt m s a.toNat := by
  rw [eAt_stepR, Int.toNat_of_nonneg ha]
theorem stepR_neg {m : Mach} {s a : Int} (hs : s < 0) : stepR m s a = (-1, -1) := by rw [stepR, if_pos hs]
/-- Responses, one step after the other, along a relation of states. -/
theorem runR_rel {m m' : Mach} {R : Int → Int → Prop} {g : Int → Int} {h : Int → Int} (hs : ∀ s s' a, R s s' → 0 ≤ a → a < m.ins → R (stepR m s a).1 (stepR m' s' (h a)).1 ∧ (stepR m' s' (h a)).2 = g (stepR m s a).2) :
    ∀ (w : List Int) (s s' : Int), R s s' → (∀ a ∈ w, 0 ≤ a ∧ a < m.ins) → runR m' s' (w.map h) = (runR m s w).map g
  | [], _, _, _, _ => rfl
  | a :: w, s, s', hR, hw => by
    obtain ⟨h0, h1⟩ := hw a List.mem_cons_self
    obtain ⟨k1, k2⟩ := hs s s' a hR h0 h1
    simp only [List.map_cons, runR]
    rw [k2, runR_rel hs w _ _ k1 fun b hb => hw b (List.mem_cons_of_mem _ hb)]

end Go.Avl
namespace Go.Avl
open Go Go.Proofs.Try
set_option maxRecDepth 10000
set_option linter.unusedSimpArgs false

theorem reached_is {a b : Mach} {par : Int} (hf : Fit a b par) : PureIs prog 19 [.ag a.cells, .ag b.cells, .sc (.int .i64 par)] (.sc (.int .i64 (reachN a b par))) := by
  have hra := hf.va.rows
  have hrb := hf.vb.rows
  have hia := hf.va.ins
  obtain ⟨na, hna⟩ : ∃ na, na = a.rows.length := ⟨_, rfl⟩
  obtain ⟨nb, hnb⟩ : ∃ nb, nb = b.rows.length := ⟨_, rfl⟩
  rw [← hna] at hra
  rw [← hnb] at hrb
  have htn : ((nb : Nat) : Int).toNat = nb := Int.toNat_natCast nb
  refine PureIs.of (nv := 5) (hid := [6, 7, 8, 9, 10, 11, 12, 13, 14, 15, 20, 34, 39, 46, 61, 88, 27, 28]) func19 rfl (by kernel_rfl) (by simp [ntmps19]) fun _ => ?_
  rw [ntmps19, results19]
  refine EvC.seq (EvC.rg (by (simp only [go_sem, Nat.reduceLT, Nat.reduceLeDiff, Nat.reduceEqDiff, Nat.reduceAdd, Nat.reduceSub, Nat.reduceMul, Nat.reduceBEq, Int.reduceToNat, Int.reduceEq, Int.reduceLT, Int.reduceLE, Int.reduceAdd, ↓reduceIte, reduceCtorEq, Mach.cells]) <;> rfl) (by simp) ?_)
  refine EvC.frzB 0 (by (simp only [go_sem, Nat.reduceLT, Nat.reduceLeDiff, Nat.reduceEqDiff, Nat.reduceAdd, Nat.reduceSub, Nat.reduceMul, Nat.reduceBEq, Int.reduceToNat, Int.reduceEq, Int.reduceLT, Int.reduceLE, Int.reduceAdd, ↓reduceIte, reduceCtorEq]) <;> rfl) ?_
  refine EvC.frzB 1 (by (simp only [go_sem, Nat.reduceLT, Nat.reduceLeDiff, Nat.reduceEqDiff, Nat.reduceAdd, Nat.reduceSub, Nat.reduceMul, Nat.reduceBEq, Int.reduceToNat, Int.reduceEq, Int.reduceLT, Int.reduceLE, Int.reduceAdd, ↓reduceIte, reduceCtorEq]) <;> rfl) ?_
  refine EvC.seq (EvC.rg (by (simp only [go_sem, Nat.reduceLT, Nat.reduceLeDiff, Nat.reduceEqDiff, Nat.reduceAdd, Nat.reduceSub, Nat.reduceMul, Nat.reduceBEq, Int.reduceToNat, Int.reduceEq, Int.reduceLT, Int.reduceLE, Int.reduceAdd, ↓reduceIte, reduceCtorEq]) <;> rfl) (by simp) ?_)
  refine EvC.seq ?_
  refine EvC.seq (EvC.rg (by (simp only [go_sem, Nat.reduceLT, Nat.reduceLeDiff, Nat.reduceEqDiff, Nat.reduceAdd, Nat.reduceSub, Nat.reduceMul, Nat.reduceBEq, Int.reduceToNat, Int.reduceEq, Int.reduceLT, Int.reduceLE, Int.reduceAdd, ↓reduceIte, reduceCtorEq]) <;> rfl) (by simp) ?_)
  refine EvC.block ?_  -- 0
  refine EvC.thaw 3 (by (simp only [go_sem, Nat.reduceLT, Nat.reduceLeDiff, Nat.reduceEqDiff, Nat.reduceAdd, Nat.reduceSub, Nat.reduceMul, Nat.reduceBEq, Int.reduceToNat, Int.reduceEq, Int.reduceLT, Int.reduceLE, Int.reduceAdd, ↓reduceIte, reduceCtorEq]) <;> rfl) ?_
  refine EvC.loopS (σ := Nat) (fun s => ⟨[(2, .sc (.int .i64 par)), (3, .ia a.cells), (4, .ia b.cells), (7, .tl 1000000 s (s == 0)), (8, .sc (.int .i64 s))], [], (1000000, .arr 1 (mcell nb s) false) :: mtabM (fun _ _ => false) s nb, 1000002⟩) (fun s => na - s) (fun s => s ≤ na) [2, 3, 4, 7, 8] 1000002 ?_ ?_
  · exact ⟨[(3, 1000000)], 0, rfl, (by (simp only [go_sem, Nat.reduceLT, Nat.reduceLeDiff, Nat.reduceEqDiff, Nat.reduceAdd, Nat.reduceSub, Nat.reduceMul, Nat.reduceBEq, Int.reduceToNat, Int.reduceEq, Int.reduceLT, Int.reduceLE, Int.reduceAdd, ↓reduceIte, reduceCtorEq, Mach.cells, mcell, mtabM_zero, List.range_zero, List.map_nil]) <;> rfl), Nat.zero_le _⟩
  intro s hs
  have hml := mcell_len nb s
  refine EvC.seq ?_
  refine EvC.seq (EvC.rg (by (simp only [go_sem, Nat.reduceLT, Nat.reduceLeDiff, Nat.reduceEqDiff, Nat.reduceAdd, Nat.reduceSub, Nat.reduceMul, Nat.reduceBEq, Int.reduceToNat, Int.reduceEq, Int.reduceLT, Int.reduceLE, Int.reduceAdd, ↓reduceIte, reduceCtorEq, Mach.cells, ← hna]) <;> rfl) (by simp) ?_)
  refine EvC.cond (by (simp only [go_sem, Nat.reduceLT, Nat.reduceLeDiff, Nat.reduceEqDiff, Nat.reduceAdd, Nat.reduceSub, Nat.reduceMul, Nat.reduceBEq, Int.reduceToNat, Int.reduceEq, Int.reduceLT, Int.reduceLE, Int.reduceAdd, ↓reduceIte, reduceCtorEq]) <;> rfl) (fun hc => ?_) (fun hc => ?_)
  rotate_left
  · refine EvC.exit ?_  -- 0
    obtain rfl : na = s := by have : ¬ s < na := by simpa using hc
                              omega
    clear hc hs
    have hn1 : na ≤ 1000000 := by omega
    have hs00 : (na == 0) = false := by simp; omega
    have hml := mcell_len nb na
    have hlo : ∀ k, k < na → rlook (segK [(1000000, 1000000)] na []) k = some k := fun k hk => rlook_segK_lo hk hn1 (A := [(1000000, 1000000)]) rfl
    have hcg : ∀ {k}, k < na → (mcell nb na)[k]? = some [.tv k nb 0 nb (.val nb)] := fun h => mcell_get h
    have hz1 : mlook (mtabM (fun _ _ => false) na nb) 0 = some (.arr 1 (bcells (fun _ => false) nb) false) := mtabM_look _ (by omega)
    have hz2 := mtabM_set (fun _ _ => false) (show 0 < na by omega) (show 0 < nb by omega)
    have hz3 : (bcells (fun _ => false) nb)[0]? = some [.sc (.bool false)] := bcells_get (f := fun _ => false) (show 0 < nb by omega)
    refine EvC.seq (EvC.rg (by (simp only [go_sem, Nat.reduceLT, Nat.reduceLeDiff, Nat.reduceEqDiff, Nat.reduceAdd, Nat.reduceSub, Nat.reduceMul, Nat.reduceBEq, Int.reduceToNat, Int.reduceEq, Int.reduceLT, Int.reduceLE, Int.reduceAdd, ↓reduceIte, reduceCtorEq, hcg (show 0 < na by omega), hz1, hml, hs00, hz2, hz3, bcells_len]) <;> rfl) (by simp; omega) ?_)
    refine EvC.seq (EvC.rg (by (simp only [go_sem, Nat.reduceLT, Nat.reduceLeDiff, Nat.reduceEqDiff, Nat.reduceAdd, Nat.reduceSub, Nat.reduceMul, Nat.reduceBEq, Int.reduceToNat, Int.reduceEq, Int.reduceLT, Int.reduceLE, Int.reduceAdd, ↓reduceIte, reduceCtorEq]) <;> rfl) (by simp) ?_)
    refine EvC.seq ?_
    refine EvC.seq (EvC.rg (by (simp only [go_sem, Nat.reduceLT, Nat.reduceLeDiff, Nat.reduceEqDiff, Nat.reduceAdd, Nat.reduceSub, Nat.reduceMul, Nat.reduceBEq, Int.reduceToNat, Int.reduceEq, Int.reduceLT, Int.reduceLE, Int.reduceAdd, ↓reduceIte, reduceCtorEq]) <;> rfl) (by simp) ?_)
    refine EvC.block ?_  -- 2
    have hnm : na * nb ≤ 64 * 64 := Nat.mul_le_mul hra.2 hrb.2
    refine EvC.loopS (σ := Mtx × Nat × Bool) (fun g => ⟨[(2, .sc (.int .i64 par)), (3, .ia a.cells), (4, .ia b.cells), (7, .tl 1000000 na false), (9, .sc (.int .i64 g.2.1)), (10, .sc (.bool g.2.2))], [], (1000000, .arr 1 (mcell nb na) false) :: mtabM g.1 na nb, 1000002⟩) (fun g => 2 * (na * nb - g.2.1) + g.2.2.toNat)
      (fun g => RInv a b par g.1 g.2.1 ∧ (g.2.2 = false → Clo a b par g.1 na 0 0)) [2, 3, 4, 7, 9, 10] 1000002 ?_ ?_
    · refine ⟨segK [(1000000, 1000000)] na [], (updM (fun _ _ => false) 0 0, 1, true), segK_ok (A := [(1000000, 1000000)]) rfl rfl rfl hn1 (by omega), by (simp only [go_sem, Nat.reduceLT, Nat.reduceLeDiff, Nat.reduceEqDiff, Nat.reduceAdd, Nat.reduceSub, Nat.reduceMul, Nat.reduceBEq, Int.reduceToNat, Int.reduceEq, Int.reduceLT, Int.reduceLE, Int.reduceAdd, ↓reduceIte, reduceCtorEq, Mach.cells, rlook_segK_hi hn1, List.cons_append, List.nil_append, List.append_nil, renMem_idK_cons hn1, renMem_idK_mset hn1, mtabM_ren, mcell_ren hlo, ite_self, Int.natCast_add, Int.natCast_one, Int.natCast_zero]) <;> rfl, ⟨by simp [updM], fun s t h => ?_, ?_⟩, fun h => by cases h⟩
      · simp only [updM_true, Bool.false_eq_true, false_or] at h
        rw [h.1, h.2]; exact .start
      · have h0 : cntM a.rows.length b.rows.length (fun _ _ => false) = 0 := by simp [cntM]
        rw [cntM_upd (by omega) (by omega) rfl, h0]
    rintro ⟨M, n0, ag⟩ ⟨hI0, hc0⟩
    simp only at hI0 hc0
    refine EvC.seq ?_
    refine EvC.seq (EvC.rg (by (simp only [go_sem, Nat.reduceLT, Nat.reduceLeDiff, Nat.reduceEqDiff, Nat.reduceAdd, Nat.reduceSub, Nat.reduceMul, Nat.reduceBEq, Int.reduceToNat, Int.reduceEq, Int.reduceLT, Int.reduceLE, Int.reduceAdd, ↓reduceIte, reduceCtorEq]) <;> rfl) (by simp) ?_)
    refine EvC.cond (by (simp only [go_sem, Nat.reduceLT, Nat.reduceLeDiff, Nat.reduceEqDiff, Nat.reduceAdd, Nat.reduceSub, Nat.reduceMul, Nat.reduceBEq, Int.reduceToNat, Int.reduceEq, Int.reduceLT, Int.reduceLE, Int.reduceAdd, ↓reduceIte, reduceCtorEq]) <;> rfl) (fun hc => ?_) (fun hc => ?_)
    rotate_left
    · refine EvC.exit ?_  -- 2
      have hd := hI0.done hf (by rw [← hna]; exact hc0 hc)
      refine EvC.seq (EvC.rg (by (simp only [go_sem, Nat.reduceLT, Nat.reduceLeDiff, Nat.reduceEqDiff, Nat.reduceAdd, Nat.reduceSub, Nat.reduceMul, Nat.reduceBEq, Int.reduceToNat, Int.reduceEq, Int.reduceLT, Int.reduceLE, Int.reduceAdd, ↓reduceIte, reduceCtorEq]) <;> rfl) (by simp) ?_)
      refine EvC.ret ⟨.inl rfl, _, (by (simp only [go_sem, Nat.reduceLT, Nat.reduceLeDiff, Nat.reduceEqDiff, Nat.reduceAdd, Nat.reduceSub, Nat.reduceMul, Nat.reduceBEq, Int.reduceToNat, Int.reduceEq, Int.reduceLT, Int.reduceLE, Int.reduceAdd, ↓reduceIte, reduceCtorEq]) <;> rfl), ?_, rfl⟩
      simp only [go_sem, Nat.reduceLT, Nat.reduceLeDiff, Nat.reduceEqDiff, Nat.reduceAdd, Nat.reduceSub, Nat.reduceMul, Nat.reduceBEq, Int.reduceToNat, Int.reduceEq, Int.reduceLT, Int.reduceLE, Int.reduceAdd, ↓reduceIte, reduceCtorEq]
      rw [hd]
    subst hc
    clear hc0
    refine EvC.skip ?_
    refine EvC.block ?_  -- 3
    refine EvC.seq (EvC.rg (by (simp only [go_sem, Nat.reduceLT, Nat.reduceLeDiff, Nat.reduceEqDiff, Nat.reduceAdd, Nat.reduceSub, Nat.reduceMul, Nat.reduceBEq, Int.reduceToNat, Int.reduceEq, Int.reduceLT, Int.reduceLE, Int.reduceAdd, ↓reduceIte, reduceCtorEq]) <;> rfl) (by simp) ?_)
    refine EvC.seq (EvC.rg (by (simp only [go_sem, Nat.reduceLT, Nat.reduceLeDiff, Nat.reduceEqDiff, Nat.reduceAdd, Nat.reduceSub, Nat.reduceMul, Nat.reduceBEq, Int.reduceToNat, Int.reduceEq, Int.reduceLT, Int.reduceLE, Int.reduceAdd, ↓reduceIte, reduceCtorEq]) <;> rfl) (by simp) ?_)
    refine EvC.block ?_  -- 4
    refine EvC.loopS (σ := Mtx × Nat × Bool × Nat) (fun g => ⟨[(2, .sc (.int .i64 par)), (3, .ia a.cells), (4, .ia b.cells), (7, .tl 1000000 na false), (9, .sc (.int .i64 g.2.1)), (10, .sc (.bool g.2.2.1)), (11, .sc (.int .i64 g.2.2.2))], [], (1000000, .arr 1 (mcell nb na) false) :: mtabM g.1 na nb, 1000002⟩) (fun g => na - g.2.2.2)
      (fun g => RInv a b par g.1 g.2.1 ∧ g.2.2.2 ≤ na ∧ n0 ≤ g.2.1 ∧ (g.2.2.1 = true → n0 < g.2.1) ∧ (g.2.2.1 = false → Clo a b par g.1 g.2.2.2 0 0)) [2, 3, 4, 7, 9, 10, 11] 1000002 ?_ ?_
    · exact ⟨segK [(1000000, 1000000)] na [], (M, n0, false, 0), segK_ok (A := [(1000000, 1000000)]) rfl rfl rfl hn1 (by omega), by (simp only [go_sem, Nat.reduceLT, Nat.reduceLeDiff, Nat.reduceEqDiff, Nat.reduceAdd, Nat.reduceSub, Nat.reduceMul, Nat.reduceBEq, Int.reduceToNat, Int.reduceEq, Int.reduceLT, Int.reduceLE, Int.reduceAdd, ↓reduceIte, reduceCtorEq, Mach.cells, rlook_segK_hi hn1, List.cons_append, List.nil_append, List.append_nil, renMem_idK_cons hn1, renMem_idK_mset hn1, mtabM_ren, mcell_ren hlo, ite_self, Int.natCast_add, Int.natCast_one, Int.natCast_zero]) <;> rfl, hI0, Nat.zero_le _, Nat.le_refl _, fun h => by (cases h), fun _ s' t' i' _ _ h => by simp only at h; omega⟩
    clear hI0
    rintro ⟨M, n, ag, s⟩ ⟨hI, hs, hn0, hag, hcl⟩
    simp only at hI hs hn0 hag hcl
    refine EvC.seq ?_
    refine EvC.seq (EvC.rg (by (simp only [go_sem, Nat.reduceLT, Nat.reduceLeDiff, Nat.reduceEqDiff, Nat.reduceAdd, Nat.reduceSub, Nat.reduceMul, Nat.reduceBEq, Int.reduceToNat, Int.reduceEq, Int.reduceLT, Int.reduceLE, Int.reduceAdd, ↓reduceIte, reduceCtorEq, Mach.cells, ← hna]) <;> rfl) (by simp) ?_)
    refine EvC.cond (by (simp only [go_sem, Nat.reduceLT, Nat.reduceLeDiff, Nat.reduceEqDiff, Nat.reduceAdd, Nat.reduceSub, Nat.reduceMul, Nat.reduceBEq, Int.reduceToNat, Int.reduceEq, Int.reduceLT, Int.reduceLE, Int.reduceAdd, ↓reduceIte, reduceCtorEq]) <;> rfl) (fun hc => ?_) (fun hc => ?_)
    rotate_left
    · refine EvC.exit ?_  -- 4
      obtain rfl : na = s := by have : ¬ s < na := by simpa using hc
                                omega
      have hle := hI.le
      rw [← hna, ← hnb] at hle
      refine ⟨segK [(1000000, 1000000)] na [], (M, n, ag), segK_ok (A := [(1000000, 1000000)]) rfl rfl rfl hn1 (by omega), by (simp only [go_sem, Nat.reduceLT, Nat.reduceLeDiff, Nat.reduceEqDiff, Nat.reduceAdd, Nat.reduceSub, Nat.reduceMul, Nat.reduceBEq, Int.reduceToNat, Int.reduceEq, Int.reduceLT, Int.reduceLE, Int.reduceAdd, ↓reduceIte, reduceCtorEq, Mach.cells, rlook_segK_hi hn1, List.cons_append, List.nil_append, List.append_nil, renMem_idK_cons hn1, renMem_idK_mset hn1, mtabM_ren, mcell_ren hlo, ite_self, Int.natCast_add, Int.natCast_one, Int.natCast_zero]) <;> rfl, ⟨hI, hcl⟩, ?_⟩
      simp only
      cases ag with
      | true => have := hag rfl; simp; omega
      | false => simp; omega
    have hsl : s < na := by simpa using hc
    clear hc
    refine EvC.skip ?_
    refine EvC.seq ?_
    refine EvC.block ?_  -- 5
    refine EvC.seq (EvC.rg (by (simp only [go_sem, Nat.reduceLT, Nat.reduceLeDiff, Nat.reduceEqDiff, Nat.reduceAdd, Nat.reduceSub, Nat.reduceMul, Nat.reduceBEq, Int.reduceToNat, Int.reduceEq, Int.reduceLT, Int.reduceLE, Int.reduceAdd, ↓reduceIte, reduceCtorEq]) <;> rfl) (by simp) ?_)
    refine EvC.block ?_  -- 6
    refine EvC.loopS (σ := Mtx × Nat × Bool × Nat) (fun g => ⟨[(2, .sc (.int .i64 par)), (3, .ia a.cells), (4, .ia b.cells), (7, .tl 1000000 na false), (9, .sc (.int .i64 g.2.1)), (10, .sc (.bool g.2.2.1)), (11, .sc (.int .i64 s)), (12, .sc (.int .i64 g.2.2.2))], [], (1000000, .arr 1 (mcell nb na) false) :: mtabM g.1 na nb, 1000002⟩) (fun g => nb - g.2.2.2)
      (fun g => RInv a b par g.1 g.2.1 ∧ g.2.2.2 ≤ nb ∧ n0 ≤ g.2.1 ∧ (g.2.2.1 = true → n0 < g.2.1) ∧ (g.2.2.1 = false → Clo a b par g.1 s g.2.2.2 0)) [2, 3, 4, 7, 9, 10, 11, 12] 1000002 ?_ ?_
    · exact ⟨segK [(1000000, 1000000)] na [], (M, n, ag, 0), segK_ok (A := [(1000000, 1000000)]) rfl rfl rfl hn1 (by omega), by (simp only [go_sem, Nat.reduceLT, Nat.reduceLeDiff, Nat.reduceEqDiff, Nat.reduceAdd, Nat.reduceSub, Nat.reduceMul, Nat.reduceBEq, Int.reduceToNat, Int.reduceEq, Int.reduceLT, Int.reduceLE, Int.reduceAdd, ↓reduceIte, reduceCtorEq, Mach.cells, rlook_segK_hi hn1, List.cons_append, List.nil_append, List.append_nil, renMem_idK_cons hn1, renMem_idK_mset hn1, mtabM_ren, mcell_ren hlo, ite_self, Int.natCast_add, Int.natCast_one, Int.natCast_zero]) <;> rfl, hI, Nat.zero_le _, hn0, hag, hcl⟩
    clear hI hn0 hag hcl
    rintro ⟨M, n, ag, t⟩ ⟨hI, ht, hn0, hag, hcl⟩
    simp only at hI ht hn0 hag hcl
    refine EvC.seq ?_
    refine EvC.seq (EvC.rg (by (simp only [go_sem, Nat.reduceLT, Nat.reduceLeDiff, Nat.reduceEqDiff, Nat.reduceAdd, Nat.reduceSub, Nat.reduceMul, Nat.reduceBEq, Int.reduceToNat, Int.reduceEq, Int.reduceLT, Int.reduceLE, Int.reduceAdd, ↓reduceIte, reduceCtorEq, Mach.cells, ← hnb]) <;> rfl) (by simp) ?_)
    refine EvC.cond (by (simp only [go_sem, Nat.reduceLT, Nat.reduceLeDiff, Nat.reduceEqDiff, Nat.reduceAdd, Nat.reduceSub, Nat.reduceMul, Nat.reduceBEq, Int.reduceToNat, Int.reduceEq, Int.reduceLT, Int.reduceLE, Int.reduceAdd, ↓reduceIte, reduceCtorEq]) <;> rfl) (fun hc => ?_) (fun hc => ?_)
    rotate_left
    · refine EvC.exit ?_  -- 6
      obtain rfl : nb = t := by have : ¬ t < nb := by simpa using hc
                                omega
      refine EvC.rg (by (simp only [go_sem, Nat.reduceLT, Nat.reduceLeDiff, Nat.reduceEqDiff, Nat.reduceAdd, Nat.reduceSub, Nat.reduceMul, Nat.reduceBEq, Int.reduceToNat, Int.reduceEq, Int.reduceLT, Int.reduceLE, Int.reduceAdd, ↓reduceIte, reduceCtorEq]) <;> rfl) (by exact inI64_of (by omega) (by omega)) ?_
      refine ⟨segK [(1000000, 1000000)] na [], (M, n, ag, s + 1), segK_ok (A := [(1000000, 1000000)]) rfl rfl rfl hn1 (by omega), by (simp only [go_sem, Nat.reduceLT, Nat.reduceLeDiff, Nat.reduceEqDiff, Nat.reduceAdd, Nat.reduceSub, Nat.reduceMul, Nat.reduceBEq, Int.reduceToNat, Int.reduceEq, Int.reduceLT, Int.reduceLE, Int.reduceAdd, ↓reduceIte, reduceCtorEq, Mach.cells, rlook_segK_hi hn1, List.cons_append, List.nil_append, List.append_nil, renMem_idK_cons hn1, renMem_idK_mset hn1, mtabM_ren, mcell_ren hlo, ite_self, Int.natCast_add, Int.natCast_one, Int.natCast_zero]) <;> rfl, ⟨hI, hsl, hn0, hag, fun h s' t' i' h1 h2 h3 h4 => hcl h s' t' i' h1 h2 ?_ h4⟩, by simp only; omega⟩
      have := reachJ_lt hf (hI.sub _ _ h1)
      simp only at h3
      omega
    have htl : t < nb := by simpa using hc
    clear hc
    refine EvC.skip ?_
    refine EvC.seq ?_
    refine EvC.block ?_  -- 7
    refine EvC.seq (EvC.rg (by (simp only [go_sem, Nat.reduceLT, Nat.reduceLeDiff, Nat.reduceEqDiff, Nat.reduceAdd, Nat.reduceSub, Nat.reduceMul, Nat.reduceBEq, Int.reduceToNat, Int.reduceEq, Int.reduceLT, Int.reduceLE, Int.reduceAdd, ↓reduceIte, reduceCtorEq]) <;> rfl) (by simp) ?_)
    refine EvC.block ?_  -- 8
    refine EvC.loopS (σ := Mtx × Nat × Bool × Nat) (fun g => ⟨[(2, .sc (.int .i64 par)), (3, .ia a.cells), (4, .ia b.cells), (7, .tl 1000000 na false), (9, .sc (.int .i64 g.2.1)), (10, .sc (.bool g.2.2.1)), (11, .sc (.int .i64 s)), (12, .sc (.int .i64 t)), (13, .sc (.int .i64 g.2.2.2))], [], (1000000, .arr 1 (mcell nb na) false) :: mtabM g.1 na nb, 1000002⟩) (fun g => a.ins.toNat - g.2.2.2)
      (fun g => RInv a b par g.1 g.2.1 ∧ (g.2.2.2 : Int) ≤ a.ins ∧ n0 ≤ g.2.1 ∧ (g.2.2.1 = true → n0 < g.2.1) ∧ (g.2.2.1 = false → Clo a b par g.1 s t g.2.2.2)) [2, 3, 4, 7, 9, 10, 11, 12, 13] 1000002 ?_ ?_
    · exact ⟨segK [(1000000, 1000000)] na [], (M, n, ag, 0), segK_ok (A := [(1000000, 1000000)]) rfl rfl rfl hn1 (by omega), by (simp only [go_sem, Nat.reduceLT, Nat.reduceLeDiff, Nat.reduceEqDiff, Nat.reduceAdd, Nat.reduceSub, Nat.reduceMul, Nat.reduceBEq, Int.reduceToNat, Int.reduceEq, Int.reduceLT, Int.reduceLE, Int.reduceAdd, ↓reduceIte, reduceCtorEq, Mach.cells, rlook_segK_hi hn1, List.cons_append, List.nil_append, List.append_nil, renMem_idK_cons hn1, renMem_idK_mset hn1, mtabM_ren, mcell_ren hlo, ite_self, Int.natCast_add, Int.natCast_one, Int.natCast_zero]) <;> rfl, hI, by have := hf.va.ins; simp only; omega, hn0, hag, hcl⟩
    clear hI hn0 hag hcl
    rintro ⟨M, n, ag, i⟩ ⟨hI, hi, hn0, hag, hcl⟩
    simp only at hI hi hn0 hag hcl
    have hs6 : s < 1000000 := by omega
    have hls := mtabM_look M (m := nb) hsl
    refine EvC.seq ?_
    apply EvC.seq
    apply EvC.trd
    · (simp only [go_sem, Nat.reduceLT, Nat.reduceLeDiff, Nat.reduceEqDiff, Nat.reduceAdd, Nat.reduceSub, Nat.reduceMul, Nat.reduceBEq, Int.reduceToNat, Int.reduceEq, Int.reduceLT, Int.reduceLE, Int.reduceAdd, ↓reduceIte, reduceCtorEq, Mach.cells, hml, hcg hsl, lo_ne hs6, hls, bcells_len, bcells_get (f := M s) htl, Int.toNat_natCast]) <;> rfl
    · simp; omega
    refine EvC.cond (by (simp only [go_sem, Nat.reduceLT, Nat.reduceLeDiff, Nat.reduceEqDiff, Nat.reduceAdd, Nat.reduceSub, Nat.reduceMul, Nat.reduceBEq, Int.reduceToNat, Int.reduceEq, Int.reduceLT, Int.reduceLE, Int.reduceAdd, ↓reduceIte, reduceCtorEq]) <;> rfl) (fun hc => ?_) (fun hc => ?_)
    rotate_left
    · refine EvC.exit ?_  -- 8
      have hno : M s t = true → ¬ (i : Int) < a.ins := fun h1 h2 => by simp [h1, h2] at hc
      refine EvC.rg (by (simp only [go_sem, Nat.reduceLT, Nat.reduceLeDiff, Nat.reduceEqDiff, Nat.reduceAdd, Nat.reduceSub, Nat.reduceMul, Nat.reduceBEq, Int.reduceToNat, Int.reduceEq, Int.reduceLT, Int.reduceLE, Int.reduceAdd, ↓reduceIte, reduceCtorEq]) <;> rfl) (by exact inI64_of (by omega) (by omega)) ?_
      refine ⟨segK [(1000000, 1000000)] na [], (M, n, ag, t + 1), segK_ok (A := [(1000000, 1000000)]) rfl rfl rfl hn1 (by omega), by (simp only [go_sem, Nat.reduceLT, Nat.reduceLeDiff, Nat.reduceEqDiff, Nat.reduceAdd, Nat.reduceSub, Nat.reduceMul, Nat.reduceBEq, Int.reduceToNat, Int.reduceEq, Int.reduceLT, Int.reduceLE, Int.reduceAdd, ↓reduceIte, reduceCtorEq, Mach.cells, rlook_segK_hi hn1, List.cons_append, List.nil_append, List.append_nil, renMem_idK_cons hn1, renMem_idK_mset hn1, mtabM_ren, mcell_ren hlo, ite_self, Int.natCast_add, Int.natCast_one, Int.natCast_zero]) <;> rfl, ⟨hI, htl, hn0, hag, fun h s' t' i' h1 h2 h3 h4 => hcl h s' t' i' h1 h2 ?_ h4⟩, by simp only; omega⟩
      simp only at h3
      by_cases e : s' = s ∧ t' = t
      · obtain ⟨rfl, rfl⟩ := e
        have := hno h1
        omega
      · omega
    have hMst : M s t = true := by revert hc; by_cases h : (i : Int) < a.ins <;> simp [h]
    have hil : (i : Int) < a.ins := by revert hc; by_cases h : (i : Int) < a.ins <;> simp [h]
    clear hc
    refine EvC.skip ?_
    refine EvC.seq ?_
    refine EvC.block ?_  -- 9
    obtain ⟨q, hq⟩ : ∃ q, q = stepJ a b par (s, t) i := ⟨_, rfl⟩
    have hqo := stepJ_ok hf (s := (s : Int)) (t := (t : Int)) (i := (i : Int)) (by omega) (by omega) (by omega)
    have hst := step40_is hf (s : Int) (t : Int) (i : Int) (by omega) (by omega) (by omega)
    rw [← hq] at hqo hst
    obtain ⟨x, y, hx, hy, hxy⟩ : ∃ x y : Nat, x < na ∧ y < nb ∧ q.1 = ((x : Int), (y : Int)) := by
      rcases hqo with e | e
      · exact ⟨0, 0, by omega, by omega, by rw [e]; rfl⟩
      · exact ⟨q.1.1.toNat, q.1.2.toNat, by omega, by omega, by rw [Int.toNat_of_nonneg e.2.1, Int.toNat_of_nonneg e.2.2.2.1]⟩
    rw [hxy] at hst
    have hqb : -1 ≤ q.2 := by
      rcases hqo with e | e
      · rw [e]; simp
      · omega
    apply EvC.seq
    apply EvC.tr
    · apply Tr.run
      · (simp only [go_sem, Nat.reduceLT, Nat.reduceLeDiff, Nat.reduceEqDiff, Nat.reduceAdd, Nat.reduceSub, Nat.reduceMul, Nat.reduceBEq, Int.reduceToNat, Int.reduceEq, Int.reduceLT, Int.reduceLE, Int.reduceAdd, ↓reduceIte, reduceCtorEq, Mach.cells]) <;> rfl
      · simp
      apply Tr.cons
      · exact .call rfl rfl (by (simp only [go_sem, Nat.reduceLT, Nat.reduceLeDiff, Nat.reduceEqDiff, Nat.reduceAdd, Nat.reduceSub, Nat.reduceMul, Nat.reduceBEq, Int.reduceToNat, Int.reduceEq, Int.reduceLT, Int.reduceLE, Int.reduceAdd, ↓reduceIte, reduceCtorEq]) <;> rfl) (by (simp only [go_sem, Nat.reduceLT, Nat.reduceLeDiff, Nat.reduceEqDiff, Nat.reduceAdd, Nat.reduceSub, Nat.reduceMul, Nat.reduceBEq, Int.reduceToNat, Int.reduceEq, Int.reduceLT, Int.reduceLE, Int.reduceAdd, ↓reduceIte, reduceCtorEq]) <;> rfl) (by (simp only [go_sem, Nat.reduceLT, Nat.reduceLeDiff, Nat.reduceEqDiff, Nat.reduceAdd, Nat.reduceSub, Nat.reduceMul, Nat.reduceBEq, Int.reduceToNat, Int.reduceEq, Int.reduceLT, Int.reduceLE, Int.reduceAdd, ↓reduceIte, reduceCtorEq]) <;> rfl) (by (simp only [go_sem, Nat.reduceLT, Nat.reduceLeDiff, Nat.reduceEqDiff, Nat.reduceAdd, Nat.reduceSub, Nat.reduceMul, Nat.reduceBEq, Int.reduceToNat, Int.reduceEq, Int.reduceLT, Int.reduceLE, Int.reduceAdd, ↓reduceIte, reduceCtorEq]) <;> rfl) (by (simp only [go_sem, Nat.reduceLT, Nat.reduceLeDiff, Nat.reduceEqDiff, Nat.reduceAdd, Nat.reduceSub, Nat.reduceMul, Nat.reduceBEq, Int.reduceToNat, Int.reduceEq, Int.reduceLT, Int.reduceLE, Int.reduceAdd, ↓reduceIte, reduceCtorEq]) <;> rfl) (hst)
      apply Tr.done
      · (simp only [go_sem, Nat.reduceLT, Nat.reduceLeDiff, Nat.reduceEqDiff, Nat.reduceAdd, Nat.reduceSub, Nat.reduceMul, Nat.reduceBEq, Int.reduceToNat, Int.reduceEq, Int.reduceLT, Int.reduceLE, Int.reduceAdd, ↓reduceIte, reduceCtorEq, edgeA, mlook_mset, mset_mset_same]) <;> rfl
      · simp
    have hx6 : x < 1000000 := by omega
    have hlx := mtabM_look M (m := nb) hx
    apply EvC.seq
    apply EvC.drd mixed  -- R21
    · (simp only [go_sem, Nat.reduceLT, Nat.reduceLeDiff, Nat.reduceEqDiff, Nat.reduceAdd, Nat.reduceSub, Nat.reduceMul, Nat.reduceBEq, Int.reduceToNat, Int.reduceEq, Int.reduceLT, Int.reduceLE, Int.reduceAdd, ↓reduceIte, reduceCtorEq, hml, hcg hx, lo_ne hx6, hlx, bcells_len, bcells_get (f := M x) hy, mlook_mset, Int.toNat_natCast]) <;> rfl
    · simp; omega
    · exact confAll_slots (by simp [rdOk, slotsOf, opSlots, memless, Op.operands]) (by kernel_rfl)
    have hq1 : (stepJ a b par (s, t) i).1.1.toNat = x ∧ (stepJ a b par (s, t) i).1.2.toNat = y := by rw [← hq, hxy]; exact ⟨Int.toNat_natCast x, Int.toNat_natCast y⟩
    refine EvC.cond (by (simp only [go_sem, Nat.reduceLT, Nat.reduceLeDiff, Nat.reduceEqDiff, Nat.reduceAdd, Nat.reduceSub, Nat.reduceMul, Nat.reduceBEq, Int.reduceToNat, Int.reduceEq, Int.reduceLT, Int.reduceLE, Int.reduceAdd, ↓reduceIte, reduceCtorEq]) <;> rfl) (fun hc => ?_) (fun hc => ?_)
    · have ho : 0 ≤ q.2 := by revert hc; by_cases h : 0 ≤ q.2 <;> simp [h]
      have hMxy : M x y = false := by revert hc; by_cases h : 0 ≤ q.2 <;> simp [h]
      clear hc
      have hrx : ReachJ a b par x y := by
        have := ReachJ.step s t i (hI.sub s t hMst) hil (by rw [← hq]; exact ho)
        rwa [hq1.1, hq1.2] at this
      have hI' : RInv a b par (updM M x y) (n + 1) := by
        refine ⟨updM_true.2 (.inl hI.zero), fun s' t' h => ?_, ?_⟩
        · rcases updM_true.1 h with h | ⟨rfl, rfl⟩
          · exact hI.sub _ _ h
          · exact hrx
        · rw [cntM_upd (by omega) (by omega) hMxy, hI.cnt]
      have hle := hI'.le
      rw [← hna, ← hnb] at hle
      apply EvC.seq
      apply EvC.drd mixed  -- R22
      · (simp only [go_sem, Nat.reduceLT, Nat.reduceLeDiff, Nat.reduceEqDiff, Nat.reduceAdd, Nat.reduceSub, Nat.reduceMul, Nat.reduceBEq, Int.reduceToNat, Int.reduceEq, Int.reduceLT, Int.reduceLE, Int.reduceAdd, ↓reduceIte, reduceCtorEq, hml, hcg hx, lo_ne hx6, hlx, bcells_len, bcells_get (f := M x) hy, mlook_mset, mtabM_set_hi M hn1 hx hy, mtabM_set M hx hy, Int.toNat_natCast]) <;> rfl
      · simp; omega
      · exact confAll_slots (by simp [rdOk, slotsOf, opSlots, memless, Op.operands]) (by kernel_rfl)
      refine EvC.seq (EvC.rg (by (simp only [go_sem, Nat.reduceLT, Nat.reduceLeDiff, Nat.reduceEqDiff, Nat.reduceAdd, Nat.reduceSub, Nat.reduceMul, Nat.reduceBEq, Int.reduceToNat, Int.reduceEq, Int.reduceLT, Int.reduceLE, Int.reduceAdd, ↓reduceIte, reduceCtorEq]) <;> rfl) (by exact inI64_of (by omega) (by omega)) ?_)
      refine EvC.rg (by (simp only [go_sem, Nat.reduceLT, Nat.reduceLeDiff, Nat.reduceEqDiff, Nat.reduceAdd, Nat.reduceSub, Nat.reduceMul, Nat.reduceBEq, Int.reduceToNat, Int.reduceEq, Int.reduceLT, Int.reduceLE, Int.reduceAdd, ↓reduceIte, reduceCtorEq]) <;> rfl) (by simp) ?_
      refine EvC.rg (by (simp only [go_sem, Nat.reduceLT, Nat.reduceLeDiff, Nat.reduceEqDiff, Nat.reduceAdd, Nat.reduceSub, Nat.reduceMul, Nat.reduceBEq, Int.reduceToNat, Int.reduceEq, Int.reduceLT, Int.reduceLE, Int.reduceAdd, ↓reduceIte, reduceCtorEq]) <;> rfl) (by exact inI64_of (by omega) (by omega)) ?_
      exact ⟨segK [(1000000, 1000000)] na [], (updM M x y, n + 1, true, i + 1), segK_ok (A := [(1000000, 1000000)]) rfl rfl rfl hn1 (by omega), by (simp only [go_sem, Nat.reduceLT, Nat.reduceLeDiff, Nat.reduceEqDiff, Nat.reduceAdd, Nat.reduceSub, Nat.reduceMul, Nat.reduceBEq, Int.reduceToNat, Int.reduceEq, Int.reduceLT, Int.reduceLE, Int.reduceAdd, ↓reduceIte, reduceCtorEq, Mach.cells, rlook_segK_hi hn1, List.cons_append, List.nil_append, List.append_nil, renMem_idK_cons hn1, renMem_idK_mset hn1, mtabM_ren, mcell_ren hlo, ite_self, Int.natCast_add, Int.natCast_one, Int.natCast_zero]) <;> rfl, ⟨hI', by simp only; omega, by simp only; omega, fun _ => by simp only; omega, fun h => by cases h⟩, by simp only; omega⟩
    have hMq : 0 ≤ q.2 → M x y = true := fun h => by simpa [h] using hc
    clear hc
    refine EvC.skip ?_
    refine EvC.rg (by (simp only [go_sem, Nat.reduceLT, Nat.reduceLeDiff, Nat.reduceEqDiff, Nat.reduceAdd, Nat.reduceSub, Nat.reduceMul, Nat.reduceBEq, Int.reduceToNat, Int.reduceEq, Int.reduceLT, Int.reduceLE, Int.reduceAdd, ↓reduceIte, reduceCtorEq]) <;> rfl) (by exact inI64_of (by omega) (by omega)) ?_
    refine ⟨segK [(1000000, 1000000)] na [], (M, n, ag, i + 1), segK_ok (A := [(1000000, 1000000)]) rfl rfl rfl hn1 (by omega), by (simp only [go_sem, Nat.reduceLT, Nat.reduceLeDiff, Nat.reduceEqDiff, Nat.reduceAdd, Nat.reduceSub, Nat.reduceMul, Nat.reduceBEq, Int.reduceToNat, Int.reduceEq, Int.reduceLT, Int.reduceLE, Int.reduceAdd, ↓reduceIte, reduceCtorEq, Mach.cells, rlook_segK_hi hn1, List.cons_append, List.nil_append, List.append_nil, renMem_idK_cons hn1, renMem_idK_mset hn1, mtabM_ren, mcell_ren hlo, ite_self, Int.natCast_add, Int.natCast_one, Int.natCast_zero]) <;> rfl, ⟨hI, by simp only; omega, hn0, hag, fun h s' t' i' h1 h2 h3 h4 => ?_⟩, by simp only; omega⟩
    simp only at h3
    by_cases e : s' = s ∧ t' = t ∧ i' = i
    · obtain ⟨rfl, rfl, rfl⟩ := e
      rw [hq1.1, hq1.2]
      exact hMq (by rw [hq]; exact h4)
    · exact hcl h s' t' i' h1 h2 (by omega) h4
  have hs : s < na := by simpa using hc
  refine EvC.skip ?_
  refine EvC.seq ?_
  refine EvC.block ?_  -- 1
  refine EvC.rg (by (simp only [go_sem, Nat.reduceLT, Nat.reduceLeDiff, Nat.reduceEqDiff, Nat.reduceAdd, Nat.reduceSub, Nat.reduceMul, Nat.reduceBEq, Int.reduceToNat, Int.reduceEq, Int.reduceLT, Int.reduceLE, Int.reduceAdd, ↓reduceIte, reduceCtorEq, Mach.cells, ← hnb, htn, hml, zeros_row, bcells_len]) <;> rfl) (by simp [room_eq, AV.norefs, AV.noref, hml]; omega) ?_
  refine EvC.rg (by (simp only [go_sem, Nat.reduceLT, Nat.reduceLeDiff, Nat.reduceEqDiff, Nat.reduceAdd, Nat.reduceSub, Nat.reduceMul, Nat.reduceBEq, Int.reduceToNat, Int.reduceEq, Int.reduceLT, Int.reduceLE, Int.reduceAdd, ↓reduceIte, reduceCtorEq]) <;> rfl) (by exact inI64_of (by omega) (by omega)) ?_
  have hn1 : s ≤ 1000000 := by omega
  have hs0 : (s + 1 == 0) = false := rfl
  refine ⟨segK [(1000000, 1000000)] s [(1000011, s)], s + 1, segK_ok1 (A := [(1000000, 1000000)]) rfl rfl rfl (by omega) (by omega), ?_, by omega, by omega⟩
  (simp only [go_sem, Nat.reduceLT, Nat.reduceLeDiff, Nat.reduceEqDiff, Nat.reduceAdd, Nat.reduceSub, Nat.reduceMul, Nat.reduceBEq, Int.reduceToNat, Int.reduceEq, Int.reduceLT, Int.reduceLE, Int.reduceAdd, ↓reduceIte, reduceCtorEq, Mach.cells, hs0, hml, rlook_segK_hi hn1, List.cons_append, List.nil_append, renMem_idK_cons hn1, mtabM_ren, mtabF_snoc, Int.natCast_add, Int.natCast_one, mcell_ren (fun k hk => rlook_segK_lo hk hn1 (A := [(1000000, 1000000)]) rfl), mcell_succ]) <;> rfl
end Go.Avl
namespace Go.Avl
open Go Go.Proofs.Try
set_option maxRecDepth 10000
set_option linter.unusedSimpArgs false

/-! ### The machine of the pairs -/
theorem stOf_eq {a b : Mach} {par : Int} {p : Pr} {i : Nat} {q : Pr × Int} (h : stOf a b par p i = some q) : stepJ a b par p i = q ∧ 0 ≤ q.2 := by
  unfold stOf at h
  split at h
  · cases h
  · cases h; exact ⟨rfl, by omega⟩
theorem stOf_to {a b : Mach} {par : Int} (hf : Fit a b par) {p : Pr} {i : Nat} {q : Pr × Int} (hp : inPr a b p) (hi : (i : Int) < a.ins) (h : stOf a b par p i = some q) : inPr a b q.1 := by
  obtain ⟨h1, h2⟩ := stOf_eq h
  rcases stepJ_ok hf (s := p.1) (t := p.2) (i := (i : Int)) hp.1 hp.2 (by omega) with e | e
  · have e' : stepJ a b par p i = ((0, 0), -1) := e
    rw [h1] at e'; rw [e'] at h2; simp at h2
  · have h1' : stepJ a b par (p.1, p.2) i = q := h1
    rw [h1'] at e
    exact ⟨⟨e.2.1, e.2.2.1⟩, e.2.2.2⟩
theorem RS_in {a b : Mach} {par : Int} (hf : Fit a b par) {p : Pr} (h : RS (stOf a b par) a.ins.toNat p) : inPr a b p ∧ ReachJ a b par p.1.toNat p.2.toNat := by
  have hai := hf.va.ins
  induction h with
  | zero => exact ⟨inPr_zero hf, .start⟩
  | @step p q o i _ hi hs ih =>
    obtain ⟨h1, h2⟩ := stOf_eq hs
    have hq := stOf_to hf ih.1 (by omega) hs
    refine ⟨hq, ?_⟩
    obtain ⟨⟨i1, i2⟩, hr⟩ := ih
    have e : ((p.1.toNat : Nat) : Int) = p.1 := by omega
    have e' : ((p.2.toNat : Nat) : Int) = p.2 := by omega
    have hst : stepJ a b par (((p.1.toNat : Nat) : Int), ((p.2.toNat : Nat) : Int)) i = (q, o) := by rw [e, e']; exact h1
    have := ReachJ.step p.1.toNat p.2.toNat i hr (by omega) (by rw [hst]; exact h2)
    rw [hst] at this
    exact this
theorem RS_of {a b : Mach} {par : Int} (hf : Fit a b par) {s t : Nat} (h : ReachJ a b par s t) : RS (stOf a b par) a.ins.toNat ((s : Int), (t : Int)) := by
  have hai := hf.va.ins
  induction h with
  | start => exact .zero
  | step s t i hr hi hd ih =>
    have hp : inPr a b ((s : Int), (t : Int)) := (RS_in hf ih).1
    have hs : stOf a b par ((s : Int), (t : Int)) i = some (stepJ a b par (s, t) i) := stOf_some rfl hd
    have hq := stOf_to hf hp hi hs
    refine RS.step ih (i := i) (o := (stepJ a b par (s, t) i).2) (by omega) ?_
    rw [hs]
    have e1 := Int.toNat_of_nonneg hq.1.1
    have e2 := Int.toNat_of_nonneg hq.2.1
    rw [e1, e2]
def jQ (a b : Mach) (par : Int) : List Pr := jq (stOf a b par) a.ins.toNat 64
theorem jQ_reach {a b : Mach} {par : Int} : ∀ p ∈ jQ a b par, RS (stOf a b par) a.ins.toNat p := jq_reach _ _ 64
theorem jQ_nodup (a b : Mach) (par : Int) : (jQ a b par).Nodup := jq_nodup _ _ 64
theorem jQ_pos (a b : Mach) (par : Int) : 1 ≤ (jQ a b par).length := jq_pos _ _ 64
theorem jQ_zero (a b : Mach) (par : Int) : (jQ a b par)[0]? = some (0, 0) := jq_zero _ _ 64
theorem jQ_all {a b : Mach} {par : Int} (h : (jQ a b par).length ≤ 64) {p : Pr} (hp : RS (stOf a b par) a.ins.toNat p) : p ∈ jQ a b par := jq_all h hp
theorem jQ_mono {a b : Mach} {par : Int} {k : Nat} (h : k ≤ 64) : jq (stOf a b par) a.ins.toNat k <+: jQ a b par := jq_mono _ _ h
theorem jQ_fix {a b : Mach} {par : Int} {k : Nat} (h : (jq (stOf a b par) a.ins.toNat k).length ≤ k) (hk : k ≤ 64) : jQ a b par = jq (stOf a b par) a.ins.toNat k ∧ jrows (stOf a b par) a.ins.toNat 64 = jrows (stOf a b par) a.ins.toNat k := jq_fix' h hk
theorem jointA_eq (a b : Mach) (par : Int) (outs : Int) (h64 : (jQ a b par).length ≤ 64) : jointA a.ins outs a.ins.toNat (stOf a b par) = .tu [.ag [.sc (.int .i64 a.ins), .sc (.int .i64 outs), .sl false ((jrows (stOf a b par) a.ins.toNat 64).map rowH) .full], .sc (.int .i64 0)] := if_pos h64
attribute [irreducible] jQ
open Classical in
theorem reach_list (a b : Mach) (par : Int) : reachN a b par = ((prs a.rows.length b.rows.length).filter fun p => decide (ReachJ a b par p.1 p.2)).length := by
  rw [reachN, cntM, List.countP_eq_length_filter]
def natP (p : Pr) : Nat × Nat := (p.1.toNat, p.2.toNat)
theorem natQ_nodup {a b : Mach} {par : Int} (hf : Fit a b par) : ((jQ a b par).map natP).Nodup := by
  rw [List.nodup_iff_pairwise_ne, List.pairwise_map]
  have h := List.nodup_iff_pairwise_ne.1 (jQ_nodup a b par)
  refine List.Pairwise.imp_of_mem (fun {p q} hp hq hne e => hne ?_) h
  have h1 := (RS_in hf (jQ_reach p hp)).1
  have h2 := (RS_in hf (jQ_reach q hq)).1
  simp only [natP, Prod.mk.injEq] at e
  obtain ⟨⟨a1, -⟩, a2, -⟩ := h1
  obtain ⟨⟨b1, -⟩, b2, -⟩ := h2
  exact Prod.ext (by omega) (by omega)
open Classical in
theorem natQ_sub {a b : Mach} {par : Int} (hf : Fit a b par) : (jQ a b par).map natP ⊆ (prs a.rows.length b.rows.length).filter fun p => decide (ReachJ a b par p.1 p.2) := by
  intro p hp
  obtain ⟨q, hq, rfl⟩ := List.mem_map.1 hp
  have h := (RS_in hf (jQ_reach q hq)).2
  have := reachJ_lt hf h
  rw [List.mem_filter, mem_prs]
  exact ⟨this, decide_eq_true h⟩
theorem jQ_le {a b : Mach} {par : Int} (hf : Fit a b par) : (jQ a b par).length ≤ reachN a b par := by
  rw [reach_list]
  have := (natQ_nodup hf).length_le_of_subset (natQ_sub hf)
  rwa [List.length_map] at this
open Classical in
theorem jQ_len {a b : Mach} {par : Int} (hf : Fit a b par) (h64 : (jQ a b par).length ≤ 64) : reachN a b par = (jQ a b par).length := by
  refine Nat.le_antisymm ?_ (jQ_le hf)
  rw [reach_list, ← List.length_map (f := natP)]
  refine List.Nodup.length_le_of_subset ((nodup_prs _ _).filter _) fun p hp => ?_
  rw [List.mem_filter, decide_eq_true_eq] at hp
  have := jQ_all h64 (RS_of hf hp.2)
  exact List.mem_map.2 ⟨_, this, by simp [natP]⟩
theorem reachN_le (a b : Mach) (par : Int) : reachN a b par ≤ a.rows.length * b.rows.length := cntM_le _ _ _
def jRow (a b : Mach) (par : Int) (p : Pr) : Row := (false, jrow (stOf a b par) (jQ a b par) p a.ins.toNat)
def jM (a b : Mach) (par outs : Int) : Mach := ⟨a.ins, outs, false, (jQ a b par).map (jRow a b par)⟩
theorem jM_len (a b : Mach) (par outs : Int) : (jM a b par outs).rows.length = (jQ a b par).length := by simp [jM]
theorem jq_at {a b : Mach} {par : Int} (h64 : (jQ a b par).length ≤ 64) : jq (stOf a b par) a.ins.toNat (jQ a b par).length = jQ a b par ∧ jrows (stOf a b par) a.ins.toNat 64 = jrows (stOf a b par) a.ins.toNat (jQ a b par).length := by
  have h1 := (jQ_mono (a := a) (b := b) (par := par) h64).length_le
  have := jQ_fix h1 h64
  exact ⟨this.1.symm, this.2⟩
theorem jM_rows {a b : Mach} {par : Int} (outs : Int) (h64 : (jQ a b par).length ≤ 64) : (jrows (stOf a b par) a.ins.toNat 64).map rowH = (jM a b par outs).rows.map rowG := by
  obtain ⟨h1, h2⟩ := jq_at h64
  rw [h2, jrows_eq (m := (jQ a b par).length) (Nat.le_refl _) (by rw [h1]; exact Nat.le_refl _), h1, List.take_length]
  simp only [jM, List.map_map]; rfl
theorem jM_tu {a b : Mach} {par : Int} (outs : Int) (h64 : (jQ a b par).length ≤ 64) : jointA a.ins outs a.ins.toNat (stOf a b par) = .tu [.ag (jM a b par outs).cellsF, .sc (.int .i64 0)] := by
  rw [jointA_eq a b par outs h64, jM_rows outs h64]; rfl
/-- The list behind k of its pairs, and what comes next. -/
theorem jq_lt {a b : Mach} {par : Int} (h64 : (jQ a b par).length ≤ 64) {k : Nat} (hk : k < (jQ a b par).length) : k < (jq (stOf a b par) a.ins.toNat k).length := by
  rcases Nat.lt_or_ge k (jq (stOf a b par) a.ins.toNat k).length with h | h
  · exact h
  · have := (jQ_fix h (show k ≤ 64 by omega)).1
    rw [this] at hk; omega
theorem jed_some {a b : Mach} {par : Int} {p : Pr} {i : Nat} {q : Pr × Int} (h : stOf a b par p i = some q) : jed (stOf a b par) (jQ a b par) p i = ((((jQ a b par).idxOf q.1 : Nat) : Int), q.2) := by simp [jed, h]
theorem jed_none {a b : Mach} {par : Int} {p : Pr} {i : Nat} (h : stOf a b par p i = none) : jed (stOf a b par) (jQ a b par) p i = (-1, -1) := by simp [jed, h]
theorem jrow_get {a b : Mach} {par : Int} (p : Pr) {i : Nat} (hi : i < a.ins.toNat) : (jRow a b par p).2[i]? = some (jed (stOf a b par) (jQ a b par) p i) := by
  simp only [jRow, jrow]; rw [List.getElem?_map, List.getElem?_range hi]; rfl
/-- How great outputs are. -/
theorem stepJ_out {a b : Mach} {par outs : Int} (hf : Fit a b par) (ho : outs = if par = 1 then a.outs * b.outs else b.outs) {p : Pr} {i : Nat} {q : Pr × Int} (hp : inPr a b p) (hi : (i : Int) < a.ins) (h : stOf a b par p i = some q) : 0 ≤ q.2 ∧ q.2 < outs := by
  obtain ⟨h1, h2⟩ := stOf_eq h
  refine ⟨h2, ?_⟩
  obtain ⟨s, t⟩ := p
  obtain ⟨hs, ht⟩ := hp
  simp only at hs ht
  obtain ⟨r1, x, k1, k2, k3, k4⟩ := stepR_get hf.va hs.1 hs.2 (show 0 ≤ (i : Int) ∧ (i : Int) < a.ins by omega)
  have hx := fits_edge k4
  by_cases hx0 : x.1 < 0
  · have : stepJ a b par (s, t) i = ((0, 0), -1) := by simp [stepJ, k3, hx0]
    rw [h1] at this; rw [this] at h2; simp at h2
  by_cases hpp : par = 1
  · obtain ⟨r2, y, l1, l2, l3, l4⟩ := stepR_get hf.vb ht.1 ht.2 (show 0 ≤ (i : Int) ∧ (i : Int) < b.ins by rw [← hf.par hpp]; omega)
    have hy := fits_edge l4
    by_cases hy0 : y.1 < 0
    · have : stepJ a b par (s, t) i = ((0, 0), -1) := by simp [stepJ, k3, l3, hpp, hx0, hy0]
      rw [h1] at this; rw [this] at h2; simp at h2
    · simp only [stepJ, k3, l3, if_neg hx0, if_pos hpp, if_neg hy0] at h1
      rw [← h1, ho, if_pos hpp]
      have h3 : (x.2 + 1) * b.outs ≤ a.outs * b.outs := Int.mul_le_mul_of_nonneg_right (by omega) (by have := hf.vb.outs; omega)
      rw [Int.add_mul, Int.one_mul] at h3
      simp only
      omega
  · have hp0 : par = 0 := by rcases hf.p with h | h; exact h; exact absurd h hpp
    obtain ⟨r2, y, l1, l2, l3, l4⟩ := stepR_get hf.vb ht.1 ht.2 (show 0 ≤ x.2 ∧ x.2 < b.ins by rw [← hf.ser hp0]; omega)
    have hy := fits_edge l4
    by_cases hy0 : y.1 < 0
    · have : stepJ a b par (s, t) i = ((0, 0), -1) := by simp [stepJ, k3, l3, hpp, hx0, hy0]
      rw [h1] at this; rw [this] at h2; simp at h2
    · simp only [stepJ, k3, l3, if_neg hx0, if_neg hpp, if_neg hy0] at h1
      rw [← h1, ho, if_neg hpp]
      simp only
      omega
theorem jM_valid {a b : Mach} {par outs : Int} (hf : Fit a b par) (h64 : (jQ a b par).length ≤ 64) (ho : outs = if par = 1 then a.outs * b.outs else b.outs) (h16 : 1 ≤ outs ∧ outs ≤ 16) : Valid (jM a b par outs) := by
  have hai := hf.va.ins
  refine ⟨hai, h16, by rw [jM_len]; exact ⟨jQ_pos a b par, h64⟩, fun r hr => ?_⟩
  rw [jM_len]
  obtain ⟨p, hp, rfl⟩ := List.mem_map.1 hr
  have hpi := (RS_in hf (jQ_reach p hp)).1
  refine ⟨by simp [jRow, jrow, jM]; omega, fun e he => ?_⟩
  simp only [jRow, jrow, List.mem_map, List.mem_range] at he
  obtain ⟨i, hi, rfl⟩ := he
  cases hst : stOf a b par p i with
  | none => rw [jed_none hst]; simp [fitsR]
  | some q =>
    rw [jed_some hst]
    have h1 := stepJ_out hf ho hpi (by omega) hst
    have h2 : q.1 ∈ jQ a b par := jQ_all h64 (RS.step (jQ_reach p hp) hi (o := q.2) (by rw [hst]))
    have h3 := List.idxOf_lt_length_of_mem h2
    simp only [fitsR, Bool.or_eq_true, Bool.and_eq_true, decide_eq_true_eq, jM]
    exact .inr ⟨⟨⟨by omega, by omega⟩, h1.1⟩, decide_eq_true h1.2⟩
end Go.Avl
namespace Go.Avl
open Go Go.Proofs.Try
set_option maxRecDepth 10000
set_option linter.unusedSimpArgs false

theorem check34F_is {m : Mach} (hv : Valid m) : PureIs prog 34 [.ag m.cellsF] (.sc (.int .i64 0)) := by
  refine PureIs.weak ?_
  simp only [List.map_cons, List.map_nil, AV.unk, Mach.cellsF_unk]
  have := check27_is m hv.small
  rwa [hv.check] at this
theorem edgesC_two (l : List (Int × Int)) : ((l.map edgeC).all fun y => decide (y.length = 2)) = true := by simp [edgeC, List.all_eq_true]

set_option maxHeartbeats 4000000 in
theorem joint15_is {a b : Mach} {par outs : Int} (hf : Fit a b par) (h64 : (jQ a b par).length ≤ 64) (ho : outs = if par = 1 then a.outs * b.outs else b.outs) (h16 : 1 ≤ outs ∧ outs ≤ 16) :
    PureIs prog 15 [.ag (jM a b par outs).cellsF, .ag a.cells, .ag b.cells, .sc (.int .i64 par)] (.sc (.int .i64 1)) := by
  have vm := jM_valid hf h64 ho h16
  have hrn := jQ_len hf h64
  have hml := jM_len a b par outs
  have hQ1 := jQ_pos a b par
  have hrow : ∀ {k : Nat} {p : Pr}, (jQ a b par)[k]? = some p → (jM a b par outs).rows[k]? = some (jRow a b par p) := by
    intro k p h
    simp only [jM]; rw [List.getElem?_map, h]; rfl
  have hmi : (jM a b par outs).ins = a.ins := rfl
  have hmo : (jM a b par outs).outs = outs := rfl
  generalize jM a b par outs = m at vm hml hrow hmi hmo
  obtain ⟨Q, hQ⟩ : ∃ Q, Q = jQ a b par := ⟨_, rfl⟩
  rw [← hQ] at h64 hrn hml hQ1 hrow
  obtain ⟨N, hN⟩ : ∃ N, N = a.ins.toNat := ⟨_, rfl⟩
  have hai := hf.va.ins
  have hao := hf.va.outs
  have hbo := hf.vb.outs
  have hNi : a.ins = (N : Int) := by omega
  obtain ⟨st, hst⟩ : ∃ st, st = stOf a b par := ⟨_, rfl⟩
  have hR := reached_is hf
  have hm1 : 0 ≤ a.outs * b.outs := Int.mul_nonneg (by omega) (by omega)
  have hm2 : a.outs * b.outs ≤ 16 * 16 := Int.mul_le_mul (by omega) (by omega) (by omega) (by omega)
  have hI : inI64 (a.outs * b.outs) = true := inI64_of (by omega) (by omega)
  refine PureIs.of (nv := 7) (hid := [8, 9, 10, 11, 12, 13, 14, 15, 19, 50, 57, 63, 67, 93, 95, 100, 105, 116, 52]) func15 rfl (by kernel_rfl) (by simp [ntmps15]) fun _ => ?_
  rw [ntmps15, results15]
  refine EvC.seq (EvC.rg (by (simp only [go_sem, Mach.cells, Mach.cellsF]) <;> rfl) (by simp) ?_)
  refine EvC.frzB 0 (by (simp only [go_sem]) <;> rfl) ?_
  refine EvC.frzB 1 (by (simp only [go_sem]) <;> rfl) ?_
  refine EvC.frzB 2 (by (simp only [go_sem]) <;> rfl) ?_
  refine EvC.seq (EvC.rg (by (simp only [go_sem]) <;> rfl) (by simp) ?_)
  refine EvC.seq ?_
  refine EvC.seq (EvC.rg (by (simp only [go_sem]) <;> rfl) (by simp) ?_)
  have hQr : ∀ p ∈ Q, inPr a b p ∧ RS st N p := fun p hp => by
    rw [hQ] at hp
    have := jQ_reach p hp
    rw [hst, hN]
    exact ⟨(RS_in hf this).1, this⟩
  have hpre : ∀ {k : Nat}, k ≤ 64 → jq st N k <+: Q := fun h => by rw [hQ, hst, hN]; exact jQ_mono h
  have hlt : ∀ {k : Nat}, k < Q.length → k < (jq st N k).length := fun h => by
    rw [hst, hN]; rw [hQ] at h h64; exact jq_lt h64 h
  have hmr := vm.rows
  rw [hml] at hmr
  refine EvC.cond (by (simp only [go_sem]) <;> rfl) (fun hc => ?_) (fun hc => ?_)
  have hp : par = 1 := by simpa using hc
  rw [if_pos hp] at ho
  subst ho
  clear hc hp
  refine EvC.rg (by (simp only [go_sem, Mach.cells]) <;> rfl) (by simp [hI]) ?_
  rotate_left
  have hp : ¬ par = 1 := by simpa using hc
  rw [if_neg hp] at ho
  subst ho
  clear hc hp
  refine EvC.skip ?_
  rotate_left
  all_goals
    refine EvC.seq ?_
    have hCk := check34F_is vm
    rw [Mach.cellsF, hmi, hmo] at hCk
    apply EvC.seq
    apply EvC.drw mixed
    · apply Tr.run
      · (simp only [go_sem, Mach.cells, Mach.cellsF, hmi, hmo, List.length_map, hml, hrn, decide_true]) <;> rfl
      · simp
      apply Tr.cons
      · exact .call rfl rfl (by (simp only [go_sem]) <;> rfl) (by (simp only [go_sem]) <;> rfl) (by (simp only [go_sem]) <;> rfl) (by (simp only [go_sem]) <;> rfl) (by (simp only [go_sem]) <;> rfl) (hCk)
      apply Tr.run
      · (simp only [go_sem, Mach.cells, Mach.cellsF, hmi, hmo, List.length_map, hml, hrn, decide_true]) <;> rfl
      · simp
      apply Tr.cons
      · exact .callG rfl rfl (by (simp only [go_sem]) <;> rfl) rfl (by (simp only [go_sem]) <;> rfl) (by (simp only [go_sem]) <;> rfl) (by (simp only [go_sem]) <;> rfl) (by (simp only [go_sem]) <;> rfl) (by (simp only [go_sem]) <;> rfl) (hR)
      apply Tr.done
      · (simp only [go_sem, Mach.cells, Mach.cellsF, hmi, hmo, List.length_map, hml, hrn, decide_true]) <;> rfl
      · simp
    · kernel_rfl
    refine EvC.cond_false (by (simp only [go_sem]) <;> rfl) ?_
    refine EvC.skip ?_
    refine EvC.seq (EvC.rg (by (simp only [go_sem]) <;> rfl) (by simp) ?_)
    refine EvC.seq ?_
    refine EvC.seq (EvC.rg (by (simp only [go_sem]) <;> rfl) (by simp) ?_)
    refine EvC.block ?_  -- 0
    refine EvC.loopS (σ := Nat) (fun k => ⟨[(3, .sc (.int .i64 par)), (4, .ia m.cellsF), (5, .ia a.cells), (6, .ia b.cells), (10, .tl 0 (jq st N k).length false), (11, .sc (.int .i64 k))], [], [(0, .arr 2 ((jq st N k).map edgeC) false)], 1⟩) (fun k => Q.length - k) (fun k => k ≤ Q.length) [3, 4, 5, 6, 10, 11] 1 ?_ ?_
    · first
      | (refine ⟨[(42, 0)], 0, rfl, ?_, Nat.zero_le _⟩; (simp only [go_sem, Mach.cells, Mach.cellsF, hmi, hmo, jq, edgeC, List.map_nil, List.map_cons, List.length_cons, List.length_nil, Int.natCast_zero]) <;> rfl)
      | (refine ⟨[(36, 0)], 0, rfl, ?_, Nat.zero_le _⟩; (simp only [go_sem, Mach.cells, Mach.cellsF, hmi, hmo, jq, edgeC, List.map_nil, List.map_cons, List.length_cons, List.length_nil, Int.natCast_zero]) <;> rfl)
    intro k hk
    refine EvC.seq ?_
    refine EvC.seq (EvC.rg (by (simp only [go_sem, Mach.cells, Mach.cellsF, hmi, hmo, List.length_map, hml]) <;> rfl) (by simp) ?_)
    refine EvC.cond (by (simp only [go_sem]) <;> rfl) (fun hc => ?_) (fun hc => ?_)
    rotate_left
    · -- else
      refine EvC.exit ?_  -- 0
      refine EvC.seq (EvC.rg (by (simp only [go_sem]) <;> rfl) (by simp) ?_)
      refine EvC.ret ⟨.inl rfl, _, (by (simp only [go_sem]) <;> rfl), ?_, rfl⟩
      simp only [go_sem]
    have hkl : k < Q.length := by simpa using hc
    clear hc
    have hkj := hlt hkl
    have h65 := (hpre (show k ≤ 64 by omega)).length_le
    have he : (jq st N k)[k]? = some (jq st N k)[k] := List.getElem?_eq_getElem hkj
    have hq1 : jq st N (k + 1) = jl st (jq st N k)[k] (jq st N k) N := by simp only [jq, he]
    have heQ : Q[k]? = some (jq st N k)[k] := by
      obtain ⟨t, ht⟩ := hpre (show k ≤ 64 by omega)
      rw [← ht, List.getElem?_append_left hkj]; exact he
    have hpre1 := hpre (show k + 1 ≤ 64 by omega)
    rw [hq1] at hpre1
    generalize (jq st N k)[k] = p at he hq1 heQ hpre1
    obtain ⟨hpi, hpr⟩ := hQr p (List.mem_of_getElem? heQ)
    have hrk := hrow heQ
    obtain ⟨L, hL⟩ : ∃ L, L = jq st N k := ⟨_, rfl⟩
    rw [← hL] at he hq1 hkj h65 hpre1
    rw [← hL]
    have hne : decide ((k : Int) = (L.length : Int)) = false := decide_eq_false (by omega)
    refine EvC.skip ?_
    refine EvC.seq ?_
    refine EvC.block ?_  -- 1
    refine EvC.seq ?_
    refine EvC.seq (EvC.rg (by (simp only [go_sem]) <;> rfl) (by simp) ?_)
    refine EvC.cond_false (by (simp only [go_sem, hne]) <;> rfl) ?_
    refine EvC.skip ?_
    refine EvC.seq (EvC.rg (by (simp only [go_sem]) <;> rfl) (by simp) ?_)
    refine EvC.block ?_  -- 2
    refine EvC.loopS (σ := Nat) (fun i => ⟨[(3, .sc (.int .i64 par)), (4, .ia m.cellsF), (5, .ia a.cells), (6, .ia b.cells), (10, .tl 0 (jl st p L i).length false), (11, .sc (.int .i64 k)), (12, .sc (.int .i64 i))], [], [(0, .arr 2 ((jl st p L i).map edgeC) false)], 1⟩) (fun i => N - i) (fun i => i ≤ N) [3, 4, 5, 6, 10, 11, 12] 1 ?_ ?_
    · exact ⟨[(0, 0)], 0, rfl, (by (simp only [go_sem, Mach.cells, Mach.cellsF, hmi, hmo, jl, Int.natCast_zero]) <;> rfl), Nat.zero_le _⟩
    intro i hi
    refine EvC.seq ?_
    refine EvC.seq (EvC.rg (by (simp only [go_sem, Mach.cells, Mach.cellsF, hmi, hmo]) <;> rfl) (by simp) ?_)
    refine EvC.cond (by (simp only [go_sem]) <;> rfl) (fun hc => ?_) (fun hc => ?_)
    rotate_left
    · -- else
      refine EvC.exit ?_  -- 2
      obtain rfl : N = i := by have : ¬ (i : Int) < a.ins := by simpa using hc
                               omega
      refine EvC.rg (by (simp only [go_sem]) <;> rfl) (by exact inI64_of (by omega) (by omega)) ?_
      refine ⟨[(0, 0)], k + 1, rfl, ?_, hkl, by omega⟩
      rw [hq1]
      (simp only [go_sem, Mach.cells, Mach.cellsF, hmi, hmo, Int.natCast_add, Int.natCast_one]) <;> rfl
    have hil : i < N := by have : (i : Int) < a.ins := by simpa using hc
                           omega
    clear hc
    have hIi : inI64 ((i : Int) + 1) = true := inI64_of (by omega) (by omega)
    have hmono := jl_mono st p L (show i + 1 ≤ N by omega)
    have hl1 : jl st p L (i + 1) = jadd st p (jl st p L i) i := rfl
    have hlen := jl_len st p L i
    obtain ⟨L', hL'⟩ : ∃ L', L' = jl st p L i := ⟨_, rfl⟩
    have heL : L'[k]? = some p := by
      obtain ⟨t, ht⟩ := jl_pre st p L i
      rw [hL', ← ht, List.getElem?_append_left hkj]; exact he
    have hpL : jadd st p L' i <+: Q := by rw [hL', ← hl1]; exact hmono.trans hpre1
    have hje := jrow_get (a := a) (b := b) (par := par) p (i := i) (by omega)
    rw [← hst, ← hQ] at hje
    have hSt := step40_is hf p.1 p.2 i hpi.1 hpi.2 (by omega)
    rw [← hL'] at hl1 hlen ⊢
    generalize jRow a b par p = r at hrk hje
    refine EvC.skip ?_
    refine EvC.seq ?_
    refine EvC.block ?_  -- 3
    cases hs : st p i with
    | none =>
      have hja : jadd st p L' i = L' := by simp only [jadd, hs]
      have hj0 : stepJ a b par (p.1, p.2) i = ((0, 0), -1) := by
        rcases stepJ_ok hf (s := p.1) (t := p.2) (i := (i : Int)) hpi.1 hpi.2 (by omega) with e | e
        · exact e
        · rw [hst, stOf_some (q := stepJ a b par p i) rfl e.1] at hs; cases hs
      rw [hj0] at hSt
      have hed : jed st Q p i = (-1, -1) := by simp [jed, hs]
      rw [hed] at hje
      apply EvC.seq
      apply EvC.drw mixed
      · apply Tr.run
        · (simp only [go_sem, heL, edgeC, List.length_map]) <;> rfl
        · simp; try omega
        apply Tr.cons
        · exact .call rfl rfl (by (simp only [go_sem]) <;> rfl) (by (simp only [go_sem]) <;> rfl) (by (simp only [go_sem]) <;> rfl) (by (simp only [go_sem]) <;> rfl) (by (simp only [go_sem]) <;> rfl) (hSt)
        apply Tr.done
        · (simp only [go_sem, edgeA]) <;> rfl
        · simp; try omega
      · kernel_rfl
      refine EvC.seq (EvC.rg (by (simp only [go_sem, Mach.cells, Mach.cellsF, hrk, rowG, hje, edgeC]) <;> rfl) (by simp; try omega) ?_)
      refine EvC.seq ?_
      refine EvC.seq (EvC.rg (by (simp only [go_sem]) <;> rfl) (by simp) ?_)
      refine EvC.cond_false (by (simp only [go_sem]) <;> rfl) ?_
      refine EvC.skip ?_
      refine EvC.seq ?_
      refine EvC.seq (EvC.rg (by (simp only [go_sem]) <;> rfl) (by simp) ?_)
      refine EvC.cond_true (by (simp only [go_sem]) <;> rfl) ?_
      refine EvC.exit ?_  -- 3
      refine EvC.rg (by (simp only [go_sem]) <;> rfl) (by exact hIi) ?_
      exact ⟨[(0, 0)], i + 1, rfl, (by rw [hl1, hja]; (simp only [go_sem, Mach.cells, Mach.cellsF, hmi, hmo, Int.natCast_add, Int.natCast_one]) <;> rfl), hil, by omega⟩
    | some q =>
      have hja : jadd st p L' i = jput L' q.1 := by simp only [jadd, hs]
      rw [hja] at hl1 hpL
      rw [hst] at hs
      obtain ⟨hj1, hj2⟩ := stOf_eq hs
      have hj1 : stepJ a b par (p.1, p.2) i = q := hj1
      rw [hj1] at hSt
      rw [← hst] at hs
      have hed : jed st Q p i = (((Q.idxOf q.1 : Nat) : Int), q.2) := by simp [jed, hs]
      rw [hed] at hje
      have hqd : decide (q.2 < 0) = false := decide_eq_false (by omega)
      have hqt : edgeA q.1 = .ag [.sc (.int .i64 q.1.1), .sc (.int .i64 q.1.2)] := rfl
      obtain ⟨x, hx⟩ : ∃ x, x = Q.idxOf q.1 := ⟨_, rfl⟩
      rw [← hx] at hje
      have hput : ∀ y, y ∈ jput L' q.1 → Q.idxOf y = (jput L' q.1).idxOf y := fun y hy => idxOf_pre hpL hy
      have hxi : x = (jput L' q.1).idxOf q.1 := by rw [hx]; exact hput _ (by rw [mem_jput]; exact .inr rfl)
      apply EvC.seq
      apply EvC.drw mixed
      · apply Tr.run
        · (simp only [go_sem, heL, edgeC, List.length_map]) <;> rfl
        · simp; try omega
        apply Tr.cons
        · exact .call rfl rfl (by (simp only [go_sem]) <;> rfl) (by (simp only [go_sem]) <;> rfl) (by (simp only [go_sem]) <;> rfl) (by (simp only [go_sem]) <;> rfl) (by (simp only [go_sem]) <;> rfl) (hSt)
        apply Tr.done
        · (simp only [go_sem, edgeA]) <;> rfl
        · simp; try omega
      · kernel_rfl
      refine EvC.seq (EvC.rg (by (simp only [go_sem, Mach.cells, Mach.cellsF, hrk, rowG, hje, edgeC]) <;> rfl) (by simp; try omega) ?_)
      refine EvC.seq ?_
      refine EvC.seq (EvC.rg (by (simp only [go_sem]) <;> rfl) (by simp) ?_)
      refine EvC.cond_false (by (simp only [go_sem, decide_true]) <;> rfl) ?_
      refine EvC.skip ?_
      refine EvC.seq ?_
      refine EvC.seq (EvC.rg (by (simp only [go_sem]) <;> rfl) (by simp) ?_)
      refine EvC.cond_false (by (simp only [go_sem, hqd]) <;> rfl) ?_
      refine EvC.skip ?_
      by_cases hmem : q.1 ∈ L'
      · have hjp : jput L' q.1 = L' := if_pos hmem
        rw [hjp] at hxi hl1
        have hxl : x < L'.length := by rw [hxi]; exact List.idxOf_lt_length_of_mem hmem
        have hgx : L'[x]? = some q.1 := by
          subst hxi
          rw [List.getElem?_eq_getElem hxl, List.getElem_idxOf hxl]
        have d1 : decide ((L'.length : Int) < (x : Int)) = false := decide_eq_false (by omega)
        have d2 : decide ((x : Int) = (L'.length : Int)) = false := decide_eq_false (by omega)
        refine EvC.seq ?_
        refine EvC.seq (EvC.rg (by (simp only [go_sem, List.length_map]) <;> rfl) (by simp) ?_)
        refine EvC.cond_false (by (simp only [go_sem, d1]) <;> rfl) ?_
        refine EvC.skip ?_
        refine EvC.seq ?_
        refine EvC.seq (EvC.rg (by (simp only [go_sem, List.length_map]) <;> rfl) (by simp) ?_)
        refine EvC.cond_false (by (simp only [go_sem, d2]) <;> rfl) ?_
        refine EvC.skip ?_
        apply EvC.seq
        apply EvC.drd mixed
        · (simp only [go_sem, hgx, edgeC, List.length_map, Int.toNat_natCast]) <;> rfl
        · simp; try omega
        · kernel_rfl
        refine EvC.cond_false (by (simp only [go_sem]) <;> rfl) ?_
        refine EvC.skip ?_
        refine EvC.rg (by (simp only [go_sem]) <;> rfl) (by exact hIi) ?_
        exact ⟨[(0, 0)], i + 1, rfl, (by rw [hl1]; (simp only [go_sem, Mach.cells, Mach.cellsF, hmi, hmo, Int.natCast_add, Int.natCast_one]) <;> rfl), hil, by omega⟩
      · have hjp : jput L' q.1 = L' ++ [q.1] := if_neg hmem
        rw [hjp] at hxi hl1
        have hxl : x = L'.length := by
          rw [hxi, List.idxOf_append, if_neg hmem]; simp
        clear hxi hx
        subst hxl
        have hL64 := hpL.length_le
        rw [hjp, List.length_append, List.length_singleton] at hL64
        obtain ⟨D, hD⟩ : ∃ D, D = L' ++ [q.1] := ⟨_, rfl⟩
        have hDl : D.length = L'.length + 1 := by rw [hD]; simp
        have hgx : D[L'.length]? = some q.1 := by rw [hD]; simp
        refine EvC.seq ?_
        refine EvC.seq (EvC.rg (by (simp only [go_sem, List.length_map]) <;> rfl) (by simp) ?_)
        refine EvC.cond_false (by (simp only [go_sem, Int.lt_irrefl, decide_false]) <;> rfl) ?_
        refine EvC.skip ?_
        refine EvC.seq ?_
        refine EvC.seq (EvC.rg (by (simp only [go_sem, List.length_map]) <;> rfl) (by simp) ?_)
        refine EvC.cond_true (by (simp only [go_sem, decide_true]) <;> rfl) ?_
        refine EvC.rg (by (simp only [go_sem, edgeC, List.length_map]) <;> rfl) (by simp [room_eq, AV.norefs, AV.noref]; try omega) ?_
        have hap : L'.map edgeC ++ [[.sc (.int .i64 q.1.1), .sc (.int .i64 q.1.2)]] = D.map edgeC := by rw [hD]; simp [edgeC]
        rw [hap]
        apply EvC.seq
        apply EvC.drd mixed
        · (simp only [go_sem, hgx, edgeC, List.length_map, hDl, Int.toNat_natCast]) <;> rfl
        · simp; try omega
        · kernel_rfl
        refine EvC.cond_false (by (simp only [go_sem]) <;> rfl) ?_
        refine EvC.skip ?_
        refine EvC.rg (by (simp only [go_sem]) <;> rfl) (by exact hIi) ?_
        exact ⟨[(0, 0)], i + 1, rfl, (by rw [hl1, ← hD]; (simp only [go_sem, Mach.cells, Mach.cellsF, hmi, hmo, hDl, List.length_map, Int.natCast_add, Int.natCast_one]) <;> rfl), hil, by omega⟩
end Go.Avl
namespace Go.Avl
open Go Go.Proofs.Try
set_option maxRecDepth 10000
set_option linter.unusedSimpArgs false

/-! ### Responses in parallel -/
def par2 (o x y : Int) : Int := if 0 ≤ x ∧ 0 ≤ y then x * o + y else -1
theorem jM_step {a b : Mach} {par outs : Int} {k : Nat} {p : Pr} (hk : (jQ a b par)[k]? = some p) {x : Int} (hx : 0 ≤ x ∧ x < a.ins) : stepR (jM a b par outs) k x = jed (stOf a b par) (jQ a b par) p x.toNat := by
  have h1 : (jM a b par outs).rows[k]? = some (jRow a b par p) := by
    simp only [jM]; rw [List.getElem?_map, hk]; rfl
  have h2 := jrow_get (a := a) (b := b) (par := par) p (i := x.toNat) (by omega)
  rw [stepR, if_neg (by omega), Int.toNat_natCast, h1]
  simp only [Option.map_some, Option.getD_some, h2]
theorem runR_bd {m : Mach} (hv : Valid m) : ∀ (w : List Int) (s : Int), s < m.rows.length → (∀ x ∈ w, 0 ≤ x ∧ x < m.ins) → ∀ y ∈ runR m s w, -1 ≤ y ∧ y < 16
  | [], _, _, _, _, h => by cases h
  | x :: w, s, hs, hw, y, h => by
    have hx := hw x List.mem_cons_self
    simp only [runR, List.mem_cons] at h
    rcases h with rfl | h
    · by_cases hn : s < 0
      · rw [stepR_neg hn]; decide
      · obtain ⟨r, e, k1, k2, k3, k4⟩ := stepR_get hv (by omega) hs hx
        have := fits_edge k4
        have := hv.outs
        rw [k3]; omega
    · exact runR_bd hv w _ (stepR_lt hv hs hx) (fun z hz => hw z (List.mem_cons_of_mem _ hz)) y h
def ParRel (a b : Mach) (s s1 s2 : Int) : Prop := (s < 0 ∧ (s1 < 0 ∨ s2 < 0)) ∨ (∃ k : Nat, s = k ∧ (jQ a b 1)[k]? = some (s1, s2))
theorem par_step {a b : Mach} {outs : Int} (hf : Fit a b 1) (h64 : (jQ a b 1).length ≤ 64) {s s1 s2 x : Int} (hx : 0 ≤ x ∧ x < a.ins) (hR : ParRel a b s s1 s2) :
    ParRel a b (stepR (jM a b 1 outs) s x).1 (stepR a s1 x).1 (stepR b s2 x).1 ∧ (stepR (jM a b 1 outs) s x).2 = par2 b.outs (stepR a s1 x).2 (stepR b s2 x).2 := by
  rcases hR with ⟨h1, h2⟩ | ⟨k, rfl, hk⟩
  · rw [stepR_neg h1]
    rcases h2 with h2 | h2
    · rw [stepR_neg h2]; exact ⟨.inl ⟨by decide, .inl (by decide)⟩, rfl⟩
    · rw [stepR_neg h2]; exact ⟨.inl ⟨by decide, .inr (by decide)⟩, by simp [par2]⟩
  · have hm := List.mem_of_getElem? hk
    have hr := jQ_reach _ hm
    obtain ⟨⟨i1, i2⟩, -⟩ := RS_in hf hr
    simp only at i1 i2
    rw [jM_step hk hx]
    obtain ⟨r1, e, k1, k2, k3, k4⟩ := stepR_get hf.va i1.1 i1.2 hx
    obtain ⟨r2, f, l1, l2, l3, l4⟩ := stepR_get hf.vb i2.1 i2.2 (show 0 ≤ x ∧ x < b.ins by rw [← hf.par rfl]; exact hx)
    have he := fits_edge k4
    have hf' := fits_edge l4
    have hxt : ((x.toNat : Nat) : Int) = x := by omega
    rw [k3, l3]
    by_cases hn : e.1 < 0 ∨ f.1 < 0
    · have hJ : stepJ a b 1 (s1, s2) (x.toNat : Nat) = ((0, 0), -1) := by
        rw [hxt]
        rcases hn with h | h
        · simp [stepJ, k3, h]
        · by_cases h' : e.1 < 0
          · simp [stepJ, k3, h']
          · simp [stepJ, k3, l3, h, h']
      rw [jed_none (stOf_none hJ)]
      refine ⟨.inl ⟨by decide, hn⟩, ?_⟩
      unfold par2
      rw [if_neg (by omega)]
    · have hJ : stepJ a b 1 (s1, s2) (x.toNat : Nat) = ((e.1, f.1), e.2 * b.outs + f.2) := by
        rw [hxt]
        have h1 : ¬ e.1 < 0 := by omega
        have h2 : ¬ f.1 < 0 := by omega
        simp [stepJ, k3, l3, h1, h2]
      have hm1 : 0 ≤ e.2 * b.outs := Int.mul_nonneg (by omega) (by have := hf.vb.outs; omega)
      have hs := stOf_some hJ (show 0 ≤ e.2 * b.outs + f.2 by omega)
      rw [jed_some hs]
      have hq : (e.1, f.1) ∈ jQ a b 1 := jQ_all h64 (RS.step hr (i := x.toNat) (by omega) hs)
      refine ⟨.inr ⟨_, rfl, ?_⟩, ?_⟩
      · have hl := List.idxOf_lt_length_of_mem hq
        rw [List.getElem?_eq_getElem hl, List.getElem_idxOf hl]
      · unfold par2; rw [if_pos (by omega)]
theorem par_run {a b : Mach} {outs : Int} (hf : Fit a b 1) (h64 : (jQ a b 1).length ≤ 64) : ∀ (w : List Int) (s s1 s2 : Int), ParRel a b s s1 s2 → (∀ x ∈ w, 0 ≤ x ∧ x < a.ins) →
    runR (jM a b 1 outs) s w = List.zipWith (par2 b.outs) (runR a s1 w) (runR b s2 w)
  | [], _, _, _, _, _ => rfl
  | x :: w, s, s1, s2, hR, hw => by
    obtain ⟨h1, h2⟩ := par_step (outs := outs) hf h64 (hw x List.mem_cons_self) hR
    simp only [runR, List.zipWith_cons_cons]
    rw [h2, par_run hf h64 w _ _ _ h1 fun z hz => hw z (List.mem_cons_of_mem _ hz)]
end Go.Avl
namespace Go.Avl
open Go Go.Proofs.Try
set_option maxRecDepth 10000
set_option linter.unusedSimpArgs false

theorem joinsParallel_is {x y : LM} (hx : x.Ok) (hy : y.Ok) (nl : Bool) (w : List Int) (c : Cp) (hw : ∀ a ∈ w, 0 ≤ a ∧ a < 256) : PureIs prog 4 [.ag x.cells, .ag y.cells, .ag [.sl nl (w.map u8C) c]] (.sc (.bool true)) := by
  obtain ⟨z, hz⟩ : ∃ z : LM, z = { y with ins := x.ins } := ⟨_, rfl⟩
  have hzo : z.Ok := by rw [hz]; exact ⟨hy.st, hx.ins, hy.outs, hy.es⟩
  have va := LM.valid hx
  have vb := LM.valid hzo
  obtain ⟨a, ha⟩ : ∃ a, a = x.mach := ⟨_, rfl⟩
  obtain ⟨b, hb⟩ : ∃ b, b = z.mach := ⟨_, rfl⟩
  rw [← ha] at va
  rw [← hb] at vb
  have hA : PureIs prog 12 [.ag [.sc (.int .u8 x.st), .sc (.int .u8 x.ins), .sc (.int .u8 x.outs), .sc (.bool x.part), .sl x.nl (x.es.map u16C) x.cap]] (.ag [.sc (.int .i64 a.ins), .sc (.int .i64 a.outs), .sl a.nl (a.rows.map rowC) .unk]) := by
    have := mOf_is hx; rw [← ha] at this; exact this
  have hB : PureIs prog 12 [.ag [.sc (.int .u8 y.st), .sc (.int .u8 x.ins), .sc (.int .u8 y.outs), .sc (.bool y.part), .sl y.nl (y.es.map u16C) y.cap]] (.ag [.sc (.int .i64 b.ins), .sc (.int .i64 b.outs), .sl b.nl (b.rows.map rowC) .unk]) := by
    have := mOf_is hzo; rw [← hb, hz] at this; exact this
  have hio : a.ins = b.ins := by rw [ha, hb, hz]; rfl
  have hra : a.rows.length ≤ 6 := by rw [ha]; simp only [LM.mach, List.length_map, List.length_range]; have := LM.bounds hx; omega
  have hrb : b.rows.length ≤ 6 := by rw [hb]; simp only [LM.mach, List.length_map, List.length_range]; have := LM.bounds hzo; omega
  have hab : a.outs ≤ 3 ∧ b.outs ≤ 3 := by rw [ha, hb]; simp only [LM.mach]; have := LM.bounds hx; have := LM.bounds hzo; omega
  have hf : Fit a b 1 := ⟨va, vb, .inr rfl, fun h => absurd h (by decide), fun _ => hio⟩
  have hao := va.outs
  have hbo := vb.outs
  have h64 : (jQ a b 1).length ≤ 64 := by
    have h1 := jQ_le hf
    have h2 := reachN_le a b 1
    have h3 : a.rows.length * b.rows.length ≤ 6 * 6 := Nat.mul_le_mul hra hrb
    omega
  obtain ⟨o, ho⟩ : ∃ o, o = a.outs * b.outs := ⟨_, rfl⟩
  have hm1 : 1 * 1 ≤ a.outs * b.outs := Int.mul_le_mul (by omega) (by omega) (by omega) (by omega)
  have hm2 : a.outs * b.outs ≤ 3 * 3 := Int.mul_le_mul (by omega) (by omega) (by omega) (by omega)
  have ho16 : 1 ≤ o ∧ o ≤ 16 := by omega
  obtain ⟨W, hW⟩ : ∃ W, W = wOf w a.ins := ⟨_, rfl⟩
  have hai := va.ins
  have hWl : W.length ≤ 12 := by rw [hW]; exact wOf_len _ _
  have hWo : ∀ v ∈ W, 0 ≤ v ∧ v < a.ins := by rw [hW]; exact wOf_ok (by omega)
  have hWC : PureIs prog 13 [.ag [.sl nl (w.map u8C) c], .sc (.int .i64 a.ins)] (.sl W.isEmpty (W.map intC) .unk) := by
    rw [hW]; exact wOf_is nl w c a.ins (by omega) hw
  have vm := jM_valid hf h64 (outs := o) (by rw [if_pos rfl]; exact ho) ho16
  have hJC := joint15_is hf h64 (outs := o) (by rw [if_pos rfl]; exact ho) ho16
  have hP : PureIs prog 22 [.ag a.cells, .ag b.cells] (.tu [.ag (jM a b 1 o).cellsF, .sc (.int .i64 0)]) := by
    have := parallel_is a b va.small vb.small
    rw [parallelA, if_neg (by simp [bothE_of va.check vb.check]), if_neg (by simp [hio]), if_neg (by omega), ← ho, jM_tu o h64] at this
    exact this
  have hrun := par_run (outs := o) hf h64 W 0 0 0 (.inr ⟨0, rfl, jQ_zero a b 1⟩) hWo
  have hmi : (jM a b 1 o).ins = a.ins := rfl
  have hml := jM_len a b 1 o
  have hQ1 := jQ_pos a b 1
  rw [← hml] at hQ1 h64
  generalize jM a b 1 o = m at vm hJC hP hrun hmi hml hQ1 h64
  have hP : PureIs prog 22 [.ag a.cells, .ag b.cells] (.tu [.ag [.sc (.int .i64 m.ins), .sc (.int .i64 m.outs), .sl m.nl (m.rows.map rowG) .full], .sc (.int .i64 0)]) := hP
  have hm0 : decide ((m.rows.length : Int) = 0) = false := decide_eq_false (by omega)
  have hRm := runF_is vm W.isEmpty W .unk (by rw [hmi]; exact hWo) (by omega) 0 (by omega)
  have har := va.rows
  have hbr := vb.rows
  have hRa := run04_is va 0 (by omega) W.isEmpty W .unk hWo (by omega)
  have hRb := run04_is vb 0 (by omega) W.isEmpty W .unk (by rw [← hio]; exact hWo) (by omega)
  have hpb := runR_bd va W 0 (by omega) hWo
  have hqb := runR_bd vb W 0 (by omega) (by rw [← hio]; exact hWo)
  have hpl := runR_len a 0 W
  have hql := runR_len b 0 W
  have hrl := runR_len m 0 W
  generalize runR a 0 W = p at hrun hRa hpb hpl
  generalize runR b 0 W = q at hrun hRb hqb hql
  generalize runR m 0 W = r at hrun hRm hrl
  refine PureIs.of (nv := 17) (hid := [53, 66, 80, 98]) func4 rfl (by kernel_rfl) (by simp [ntmps4]) fun _ => ?_
  rw [ntmps4, results4]
  refine EvC.seq (EvC.rg (by (simp only [go_sem, LM.cells]) <;> rfl) (by simp) ?_)
  refine EvC.seq (EvC.rg (by (simp only [go_sem]) <;> rfl) (by simp) ?_)
  apply EvC.seq
  apply EvC.drw mixed
  · apply Tr.run
    · (simp only [go_sem]) <;> rfl
    · simp
    apply Tr.cons
    · exact .call rfl rfl (by (simp only [go_sem]) <;> rfl) (by (simp only [go_sem]) <;> rfl) (by (simp only [go_sem]) <;> rfl) (by (simp only [go_sem]) <;> rfl) (by (simp only [go_sem]) <;> rfl) (hA)
    apply Tr.run
    · (simp only [go_sem]) <;> rfl
    · simp
    apply Tr.cons
    · exact .call rfl rfl (by (simp only [go_sem]) <;> rfl) (by (simp only [go_sem]) <;> rfl) (by (simp only [go_sem]) <;> rfl) (by (simp only [go_sem]) <;> rfl) (by (simp only [go_sem]) <;> rfl) (hB)
    apply Tr.done
    · (simp only [go_sem]) <;> rfl
    · simp
  · kernel_rfl
  refine EvC.frzB 12 (by (simp only [go_sem]) <;> rfl) ?_
  refine EvC.frzB 13 (by (simp only [go_sem]) <;> rfl) ?_
  refine EvC.frzB 2 (by (simp only [go_sem]) <;> rfl) ?_
  apply EvC.seq
  apply EvC.tr
  · apply Tr.run
    · (simp only [go_sem]) <;> rfl
    · simp
    apply Tr.cons
    · exact .call rfl rfl (by (simp only [go_sem]) <;> rfl) (by (simp only [go_sem]) <;> rfl) (by (simp only [go_sem]) <;> rfl) (by (simp only [go_sem]) <;> rfl) (by (simp only [go_sem]) <;> rfl) (hWC)
    apply Tr.done
    · (simp only [go_sem]) <;> rfl
    · simp
  apply EvC.seq
  apply EvC.tr
  · apply Tr.run
    · (simp only [go_sem]) <;> rfl
    · simp
    apply Tr.cons
    · exact .call rfl rfl (by (simp only [go_sem]) <;> rfl) (by (simp only [go_sem]) <;> rfl) (by (simp only [go_sem]) <;> rfl) (by (simp only [go_sem]) <;> rfl) (by (simp only [go_sem]) <;> rfl) (hP)
    apply Tr.done
    · (simp only [go_sem]) <;> rfl
    · simp
  refine EvC.frzB 27 (by (simp only [go_sem]) <;> rfl) ?_
  refine EvC.seq ?_
  apply EvC.seq
  apply EvC.tr
  · apply Tr.run
    · (simp only [go_sem, hm0]) <;> rfl
    · simp
    apply Tr.cons
    · exact .callG rfl rfl (by (simp only [go_sem]) <;> rfl) rfl (by (simp only [go_sem]) <;> rfl) (by (simp only [go_sem]) <;> rfl) (by (simp only [go_sem]) <;> rfl) (by (simp only [go_sem]) <;> rfl) (by (simp only [go_sem]) <;> rfl) (hJC)
    apply Tr.run
    · (simp only [go_sem, hm0]) <;> rfl
    · simp
    apply Tr.cons
    · exact .callG rfl rfl (by (simp only [go_sem]) <;> rfl) rfl (by (simp only [go_sem]) <;> rfl) (by (simp only [go_sem]) <;> rfl) (by (simp only [go_sem]) <;> rfl) (by (simp only [go_sem]) <;> rfl) (by (simp only [go_sem]) <;> rfl) (clipped_is m (by omega))
    apply Tr.done
    · (simp only [go_sem]) <;> rfl
    · simp
  refine EvC.cond_false (by (simp only [go_sem]) <;> rfl) ?_
  refine EvC.skip ?_
  apply EvC.seq
  apply EvC.drw mixed
  · apply Tr.run
    · (simp only [go_sem]) <;> rfl
    · simp
    apply Tr.cons
    · exact .call rfl rfl (by (simp only [go_sem]) <;> rfl) (by (simp only [go_sem]) <;> rfl) (by (simp only [go_sem]) <;> rfl) (by (simp only [go_sem]) <;> rfl) (by (simp only [go_sem]) <;> rfl) (hRa)
    apply Tr.run
    · (simp only [go_sem]) <;> rfl
    · simp
    apply Tr.cons
    · exact .call rfl rfl (by (simp only [go_sem]) <;> rfl) (by (simp only [go_sem]) <;> rfl) (by (simp only [go_sem]) <;> rfl) (by (simp only [go_sem]) <;> rfl) (by (simp only [go_sem]) <;> rfl) (hRb)
    apply Tr.run
    · (simp only [go_sem]) <;> rfl
    · simp
    apply Tr.cons
    · exact .call rfl rfl (by (simp only [go_sem]) <;> rfl) (by (simp only [go_sem]) <;> rfl) (by (simp only [go_sem]) <;> rfl) (by (simp only [go_sem]) <;> rfl) (by (simp only [go_sem]) <;> rfl) (hRm)
    apply Tr.done
    · (simp only [go_sem]) <;> rfl
    · simp
  · kernel_rfl
  refine EvC.seq ?_
  refine EvC.seq (EvC.rg (by (simp only [go_sem]) <;> rfl) (by simp) ?_)
  refine EvC.block ?_  -- 0
  refine EvC.loopS (σ := Nat) (fun k => ⟨[(8, .ia b.cells), (9, .sl W.isEmpty (W.map intC) .unk), (12, .sl p.isEmpty (p.map intC) .unk), (13, .sl q.isEmpty (q.map intC) .unk), (14, .sl r.isEmpty (r.map intC) .unk), (15, .sc (.int .i64 k))], [], [], 0⟩) (fun k => W.length - k) (fun k => k ≤ W.length) [8, 9, 12, 13, 14, 15] 0 ?_ ?_
  · exact ⟨[], 0, rfl, (by (simp only [go_sem, Mach.cells, Int.natCast_zero]) <;> rfl), Nat.zero_le _⟩
  intro k hk
  refine EvC.seq ?_
  refine EvC.seq (EvC.rg (by (simp only [go_sem, List.length_map]) <;> rfl) (by simp) ?_)
  refine EvC.cond (by (simp only [go_sem]) <;> rfl) (fun hc => ?_) (fun hc => ?_)
  rotate_left
  · -- else
    refine EvC.exit ?_  -- 0
    apply EvC.seq
    apply EvC.tr
    · apply Tr.run
      · (simp only [go_sem]) <;> rfl
      · simp
      apply Tr.cons
      · exact .call rfl rfl (by (simp only [go_sem]) <;> rfl) (by (simp only [go_sem]) <;> rfl) (by (simp only [go_sem]) <;> rfl) (by (simp only [go_sem]) <;> rfl) (by (simp only [go_sem]) <;> rfl) (lives_is)
      apply Tr.done
      · (simp only [go_sem]) <;> rfl
      · simp
    refine EvC.ret ⟨.inl rfl, _, (by (simp only [go_sem]) <;> rfl), ?_, rfl⟩
    simp only [go_sem]
  have hkl : k < W.length := by simpa using hc
  clear hc
  have hkp : k < p.length := by omega
  have hkq : k < q.length := by omega
  clear hrl
  have hpk : p[k]? = some (p[k]'hkp) := List.getElem?_eq_getElem hkp
  have hqk : q[k]? = some (q[k]'hkq) := List.getElem?_eq_getElem hkq
  have hu := hpb _ (List.getElem_mem hkp)
  have hv := hqb _ (List.getElem_mem hkq)
  have hrk : r[k]? = some (par2 b.outs (p[k]'hkp) (q[k]'hkq)) := by
    rw [hrun, List.getElem?_zipWith, hpk, hqk]
  generalize p[k]'hkp = u at hpk hrk hu
  generalize q[k]'hkq = v at hqk hrk hv
  refine EvC.skip ?_
  refine EvC.seq ?_
  refine EvC.block ?_  -- 1
  refine EvC.seq (EvC.rg (by (simp only [go_sem]) <;> rfl) (by simp) ?_)
  refine EvC.seq ?_
  by_cases h1 : 0 ≤ u
  · have d1 : decide (0 ≤ u) = true := decide_eq_true h1
    by_cases h2 : 0 ≤ v
    · have d2 : decide (0 ≤ v) = true := decide_eq_true h2
      have hp2 : par2 b.outs u v = u * b.outs + v := by rw [par2, if_pos ⟨h1, h2⟩]
      have hn1 : 0 ≤ u * b.outs := Int.mul_nonneg h1 (by omega)
      have hn2 : u * b.outs ≤ 16 * 16 := Int.mul_le_mul (by omega) (by omega) (by omega) (by omega)
      have hI1 : inI64 (u * b.outs) = true := inI64_of (by omega) (by omega)
      have hI2 : inI64 (u * b.outs + v) = true := inI64_of (by omega) (by omega)
      rw [hp2] at hrk
      apply EvC.seq
      apply EvC.trd
      · (simp only [go_sem, hpk, hqk, intC, d1, d2]) <;> rfl
      · simp; try omega
      refine EvC.cond_true (by (simp only [go_sem]) <;> rfl) ?_
      apply EvC.drd mixed
      · (simp only [go_sem, hpk, hqk, intC, Mach.cells]) <;> rfl
      · simp [hI1, hI2]; try omega
      · kernel_rfl
      refine EvC.seq (EvC.rg (by (simp only [go_sem, hrk, intC]) <;> rfl) (by simp; try omega) ?_)
      refine EvC.cond_false (by (simp only [go_sem, decide_true]) <;> rfl) ?_
      refine EvC.skip ?_
      refine EvC.rg (by (simp only [go_sem]) <;> rfl) (by exact inI64_of (by omega) (by omega)) ?_
      exact ⟨[], k + 1, rfl, (by (simp only [go_sem, Mach.cells, Int.natCast_add, Int.natCast_one]) <;> rfl), hkl, by omega⟩
    · have d2 : decide (0 ≤ v) = false := decide_eq_false h2
      have hp2 : par2 b.outs u v = -1 := by rw [par2, if_neg (by omega)]
      rw [hp2] at hrk
      apply EvC.seq
      apply EvC.trd
      · (simp only [go_sem, hpk, hqk, intC, d1, d2]) <;> rfl
      · simp; try omega
      refine EvC.cond_false (by (simp only [go_sem]) <;> rfl) ?_
      refine EvC.skip ?_
      refine EvC.seq (EvC.rg (by (simp only [go_sem, hrk, intC]) <;> rfl) (by simp; try omega) ?_)
      refine EvC.cond_false (by (simp only [go_sem, decide_true]) <;> rfl) ?_
      refine EvC.skip ?_
      refine EvC.rg (by (simp only [go_sem]) <;> rfl) (by exact inI64_of (by omega) (by omega)) ?_
      exact ⟨[], k + 1, rfl, (by (simp only [go_sem, Mach.cells, Int.natCast_add, Int.natCast_one]) <;> rfl), hkl, by omega⟩
  · have d1 : decide (0 ≤ u) = false := decide_eq_false h1
    have hp2 : par2 b.outs u v = -1 := by rw [par2, if_neg (by omega)]
    rw [hp2] at hrk
    apply EvC.seq
    apply EvC.trd
    · (simp only [go_sem, hpk, hqk, intC, d1]) <;> rfl
    · simp; try omega
    refine EvC.cond_false (by (simp only [go_sem]) <;> rfl) ?_
    refine EvC.skip ?_
    refine EvC.seq (EvC.rg (by (simp only [go_sem, hrk, intC]) <;> rfl) (by simp; try omega) ?_)
    refine EvC.cond_false (by (simp only [go_sem, decide_true]) <;> rfl) ?_
    refine EvC.skip ?_
    refine EvC.rg (by (simp only [go_sem]) <;> rfl) (by exact inI64_of (by omega) (by omega)) ?_
    exact ⟨[], k + 1, rfl, (by (simp only [go_sem, Mach.cells, Int.natCast_add, Int.natCast_one]) <;> rfl), hkl, by omega⟩
end Go.Avl
namespace Go.Proofs.Ytbiifplfohnpeaa
open Go Go.Avl Go.Proofs Go.ChangeShapes Go.RowKit

set_option maxRecDepth 100000 in
theorem joinsParallel_lifted (os : Os) (started : os.Started) (H : Type) (enc : TypeId × Value → H) :
    ReturnsInHanded {} Try.checked os 4 .any (Rows.joinsParallelSpec.pre6 enc Try.prog Try.f4 Rows.joinsParallelRow.domain false) (Rows.joinsParallelSpec.post enc Try.prog Try.f4 false true false false) := by
  refine returnsInHanded_of_change_sized (C := Try.checked) Try.own started (by kernel_rfl) Try.func4
    (ChangeSpec.witness6 (enc := enc) (C := Try.checked) false ⟨#[], #[.agg #[.int .u8 0, .int .u8 0, .int .u8 0, .bool false, .slice none 0 0], .agg #[.int .u8 0, .int .u8 0, .int .u8 0, .bool false, .slice none 0 0], .agg #[.slice none 0 0]], []⟩ 8 (by kernel_rfl) (by kernel_rfl) (by kernel_rfl) (by kernel_rfl)) ?_
  intro W base args ds gs before hval hW _ hz _
  have hW' := hW
  obtain ⟨p, q, hA, hV, rfl, _, _⟩ := hW'
  obtain ⟨rfl, rfl⟩ := trodVars_none hV
  have hA' : DataW.TrodAll enc Try.prog W 0 (fun _ => true) true [24, 24, 27] args.toList ds p := by rw [← show Try.f4.params.toList = [24, 24, 27] from rfl]; exact hA
  obtain ⟨v0, v1, v2, d0, d1, d2, p0, p1, p2, rfl, rfl, rfl, h0, h1, h2⟩ := trodAll_three hA'
  have hz' : (DataW.weightsEach Try.prog [24, 24, 27] [d0, d1, d2]).all (· ≤ reachBytes) = true := hz
  have hf := fits_each (P := Try.prog) (ts := [24, 24, 27]) (l := [d0, d1, d2]) fun n hn => by simpa using List.all_eq_true.1 hz' n hn
  obtain ⟨x, hx, i0⟩ := rd_LM.imm_struct Try.underlying24 (hval 0 24 v0 rfl rfl) (hf 0 24 d0 rfl rfl) h0
  obtain ⟨y, hy, i1⟩ := rd_LM.imm_struct Try.underlying24 (hval 1 24 v1 rfl rfl) (hf 1 24 d1 rfl rfl) h1
  obtain ⟨a, ha, i2⟩ := rd_W.imm_struct Try.underlying27 (hval 2 27 v2 rfl rfl) (hf 2 27 d2 rfl rfl) h2
  exact law_calls Try.laidOut (by kernel_rfl) rfl (by kernel_rfl) rfl rfl (joinsParallel_is hx hy a.1 a.2 .unk ha) (Imms.append (.one i0) (Imms.append (.one i1) (.one i2))) hW

theorem joinsParallel_holds : Rows.JoinsParallelSaid :=
  OpenClaim.holds_of_wide 4 Try.f4 rfl rfl rfl rfl rfl rfl rfl ⟨rfl, rfl, rfl, rfl, rfl⟩ rfl rfl rfl rfl rfl (by kernel_rfl) Try.func4 (by kernel_rfl)
    (of_decide_eq_true (by kernel_rfl)) (by unfold Func.isWrapper; first | (rw [if_pos (by decide +kernel)]; kernel_rfl) | (rw [if_neg (by decide +kernel)]; exact ⟨rfl, rfl⟩))
    (fun os started H enc _ => joinsParallel_lifted os started H enc)
#print axioms joinsParallel_holds
end Go.Proofs.Ytbiifplfohnpeaa
