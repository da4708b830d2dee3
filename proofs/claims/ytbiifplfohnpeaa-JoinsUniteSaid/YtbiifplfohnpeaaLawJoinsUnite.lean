/-
  Lemmas.
  Lemmas.
  JoinsUnite returns true at every input, and each argument reads behind the call as it read before.
  Conditions: those of the given row alone (no others).
-/
import Derived.Test.YtbiifplfohnpeaaPart10
set_option linter.unusedSimpArgs false
set_option linter.unusedVariables false
set_option linter.unnecessarySimpa false
set_option linter.deprecated false
namespace Go.Avl
open Go Go.Proofs.Try
set_option maxRecDepth 10000
set_option linter.unusedSimpArgs false

theorem Valid.check {m : Mach} (h : Valid m) : checkM m = 0 := by
  have h1 := h.ins
  have h2 := h.outs
  have h3 := h.rows
  unfold checkM
  rw [if_neg (by omega), if_neg (by omega), if_pos]
  rw [List.all_eq_true]
  intro r hr
  obtain ⟨k1, k2⟩ := h.row r hr
  simp only [rowOk, Bool.and_eq_true, decide_eq_true_eq, Bool.not_eq_true', List.any_eq_false]
  exact ⟨k1, fun e he => by simpa using k2 e he⟩
theorem ints_unk (l : List Int) : AV.unkss (l.map intC) = l.map intC := unkss_map intC (fun _ => rfl) l
theorem Valid.small {q : Mach} (hq : Valid q) : ∀ r ∈ q.rows, r.2.length < 1000000 := by
  intro r hr
  have h1 := (hq.row r hr).1
  have h2 := hq.ins
  omega
theorem runF_is {m : Mach} (hv : Valid m) (nl : Bool) (w : List Int) (c : Cp) (hw : ∀ a ∈ w, 0 ≤ a ∧ a < m.ins) (hl : w.length < 1000000) (s : Int) (hs : s < m.rows.length) :
    PureIs prog 17 [.ag m.cellsF, .sc (.int .i64 s), .sl nl (w.map intC) c] (.sl (runR m s w).isEmpty ((runR m s w).map intC) .unk) := by
  refine PureIs.weak ?_
  simp only [List.map_cons, List.map_nil, AV.unk, Mach.cellsF_unk, ints_unk]
  exact run04_is hv s hs nl w .unk hw hl
theorem LM.valid {x : LM} (h : x.Ok) : Valid x.mach := by
  obtain ⟨b1, b2, b3, b4, b5, b6, -, -⟩ := LM.bounds h
  have hl : x.mach.rows.length = x.n := by simp [LM.mach]
  refine ⟨⟨by show (1 : Int) ≤ x.i; omega, by show (x.i : Int) ≤ 16; omega⟩, ⟨b5, by show x.o ≤ 16; omega⟩, by rw [hl]; omega, fun r hr => ?_⟩
  rw [hl]
  simp only [LM.mach, List.mem_map, List.mem_range] at hr ⊢
  obtain ⟨s, hs, rfl⟩ := hr
  refine ⟨by simp [LM.row], fun e he => ?_⟩
  simp only [LM.row, List.mem_map, List.mem_range] at he
  obtain ⟨i, hi, rfl⟩ := he
  obtain ⟨v1, v2⟩ := LM.v_ok h s i
  unfold LM.edge
  split
  · simp [fitsR]
  · have h1 := Int.emod_nonneg (x.v s i / 4) (b := x.n) (by omega)
    have h2 := Int.emod_lt_of_pos (x.v s i / 4) (b := x.n) (by omega)
    have h3 := Int.emod_nonneg (x.v s i / 4 / x.n) (b := x.o) (by omega)
    have h4 := Int.emod_lt_of_pos (x.v s i / 4 / x.n) (b := x.o) (by omega)
    simp [fitsR, h1, h2, h3, h4]
theorem wOf_ok {l : List Int} {n : Int} (hn : 1 ≤ n) : ∀ a ∈ wOf l n, 0 ≤ a ∧ a < n := by
  intro a ha
  simp only [wOf, List.mem_map] at ha
  obtain ⟨y, -, rfl⟩ := ha
  exact ⟨Int.emod_nonneg _ (by omega), Int.emod_lt_of_pos _ (by omega)⟩
theorem wOf_len (l : List Int) (n : Int) : (wOf l n).length ≤ 12 := by simp [wOf]; omega
theorem runR_len (m : Mach) : ∀ (s : Int) (w : List Int), (runR m s w).length = w.length
  | _, [] => rfl
  | s, a :: w => by simp only [runR, List.length_cons]; rw [runR_len m _ w]
/-! ### Machines, edge by edge -/
theorem eAt_fit {m : Mach} (hv : Valid m) {s i : Nat} (hs : s < m.rows.length) (hi : (i : Int) < m.ins) : ∃ r, m.rows[s]? = some r ∧ r.2[i]? = some (eAt m s i) ∧ (isNone (eAt m s i) = true ∨ (0 ≤ (eAt m s i).1 ∧ (eAt m s i).1 < m.rows.length ∧ 0 ≤ (eAt m s i).2 ∧ (eAt m s i).2 < m.outs)) := by
  have h1 : m.rows[s]? = some m.rows[s] := List.getElem?_eq_getElem hs
  obtain ⟨h2, h3⟩ := hv.row _ (List.getElem_mem hs)
  have h4 : (m.rows[s]).2[i]? = some ((m.rows[s]).2[i]'(by omega)) := List.getElem?_eq_getElem _
  have he := eAt_get h1 h4
  refine ⟨_, h1, by rw [he]; exact h4, ?_⟩
  have hf := fits_edge (h3 _ (List.getElem_mem (show i < (m.rows[s]).2.length by omega)))
  rw [he]
  rcases hf with h | h
  · left; simp [isNone, h]
  · exact .inr h
/-- A machine given by a table is valid. -/
theorem valid_tab {ins outs : Int} {nl : Bool} {n N : Nat} {f : Nat → Nat → Int × Int} (hN : ins = (N : Int)) (h1 : 1 ≤ N ∧ N ≤ 16) (h2 : 1 ≤ outs ∧ outs ≤ 16) (h3 : 1 ≤ n ∧ n ≤ 64)
    (hf : ∀ s i, s < n → i < N → isNone (f s i) = true ∨ (0 ≤ (f s i).1 ∧ (f s i).1 < n ∧ 0 ≤ (f s i).2 ∧ (f s i).2 < outs)) : Valid ⟨ins, outs, nl, (List.range n).map fun s => (false, (List.range N).map (f s))⟩ := by
  refine ⟨by simp only; omega, h2, by simpa using h3, fun r hr => ?_⟩
  obtain ⟨s, hs, rfl⟩ := List.mem_map.1 hr
  refine ⟨by simp [hN], fun e he => ?_⟩
  obtain ⟨i, hi, rfl⟩ := List.mem_map.1 he
  simp only [List.length_map, List.length_range]
  have := hf s i (List.mem_range.1 hs) (List.mem_range.1 hi)
  unfold fitsR
  rcases this with h | h
  · unfold isNone at h; simp only [Bool.and_eq_true, decide_eq_true_eq] at h; simp [h.1, h.2]
  · simp [h.1, h.2.1, h.2.2.1, h.2.2.2]
theorem eAt_tab {ins outs : Int} {nl : Bool} {n N : Nat} {f : Nat → Nat → Int × Int} {s i : Nat} (hs : s < n) (hi : i < N) : eAt ⟨ins, outs, nl, (List.range n).map fun s => (false, (List.range N).map (f s))⟩ s i = f s i := by
  refine eAt_get (r := (false, (List.range N).map (f s))) ?_ ?_
  · simp only; rw [List.getElem?_map, List.getElem?_range hs]; rfl
  · simp only; rw [List.getElem?_map, List.getElem?_range hi]; rfl
/-- A valid machine is its table. -/
theorem rows_tab {m : Mach} (hv : Valid m) {N : Nat} (hN : m.ins = (N : Int)) : m.rows.map (·.2) = (List.range m.rows.length).map fun s => (List.range N).map (eAt m s) := by
  refine List.ext_getElem (by simp) fun s h1 h2 => ?_
  simp only [List.getElem_map, List.getElem_range]
  have hs : s < m.rows.length := by simpa using h1
  have hr := (hv.row _ (List.getElem_mem hs)).1
  refine List.ext_getElem (by simp; omega) fun i k1 k2 => ?_
  simp only [List.getElem_map, List.getElem_range]
  exact (eAt_get (List.getElem?_eq_getElem hs) (List.getElem?_eq_getElem k1)).symm
theorem stepR_eAt {m : Mach} {s : Nat} {a : Int} (ha : 0 ≤ a) : stepR m (s : Int) a = eAt m s a.toNat := by
  rw [eAt_stepR, Int.toNat_of_nonneg ha]
theorem stepR_neg {m : Mach} {s a : Int} (hs : s < 0) : stepR m s a = (-1, -1) := by rw [stepR, if_pos hs]
/-- Responses, one step after the other, along a relation of states. -/
theorem runR_rel {m m' : Mach} {R : Int → Int → Prop} {g : Int → Int} {h : Int → Int} (hs : ∀ s s' a, R s s' → 0 ≤ a → a < m.ins → R (stepR m s a).1 (stepR m' s' (h a)).1 ∧ (stepR m' s' (h a)).2 = g (stepR m s a).2) :
    ∀ (w : List Int) (s s' : Int), R s s' → (∀ a ∈ w, 0 ≤ a ∧ a < m.ins) → runR m' s' (w.map h) = (runR m s w).map g
  | [], _, _, _, _ => rfl
  | a :: w, s, s', hR, hw => by
    obtain ⟨h0, h1⟩ := hw a List.mem_cons_self
    obtain ⟨k1, k2⟩ := hs s s' a hR h0 h1
    simp only [List.map_cons, runR]
    rw [k2, runR_rel hs w _ _ k1 fun b hb => hw b (List.mem_cons_of_mem _ hb)]

/-! ### United machines -/
theorem none_neg {m : Mach} {e : Int × Int} {n : Int} (h : isNone e = true ∨ (0 ≤ e.1 ∧ e.1 < n ∧ 0 ≤ e.2 ∧ e.2 < m.outs)) (k : Int) : latE k e = besE k e := by
  unfold latE besE
  by_cases hn : isNone e = true
  · have : e.1 = -1 := by unfold isNone at hn; simp only [Bool.and_eq_true, decide_eq_true_eq] at hn; exact hn.1
    rw [if_pos hn, if_neg (by omega)]
  · rw [if_neg hn, if_pos (h.resolve_left hn).1]
theorem uniM_bes {a b : Mach} (va : Valid a) (vb : Valid b) (hio : a.ins = b.ins) : (uniM a b).rows.map (·.2) = (besM a b).rows.map (·.2) := by
  have hai := va.ins
  have e1 := rows_tab va (N := a.ins.toNat) (by omega)
  simp only [uniM, besM, List.map_append]
  rw [e1]
  congr 1
  · simp only [rowsOf, List.map_map]; rfl
  · simp only [rowsOf, List.map_map]
    refine List.map_congr_left fun s hs => ?_
    simp only [Function.comp, besRow, hio]
    refine List.map_congr_left fun i hi => ?_
    have hs := List.mem_range.1 hs
    have hi := List.mem_range.1 hi
    obtain ⟨_, _, _, h⟩ := eAt_fit vb hs (show (i : Int) < b.ins by omega)
    exact none_neg (m := b) h _
theorem uniM_len (a b : Mach) : (uniM a b).rows.length = a.rows.length + b.rows.length := by simp [uniM, rowsOf_len]
theorem uniM_a {a b : Mach} {s i : Nat} (hs : s < a.rows.length) (hi : i < a.ins.toNat) : eAt (uniM a b) s i = eAt a s i := by
  have h1 : (uniM a b).rows[s]? = (rowsOf a a.ins.toNat id)[s]? := by simp only [uniM]; rw [List.getElem?_append_left (by rw [rowsOf_len]; exact hs)]
  unfold eAt
  rw [h1, rowsOf, List.getElem?_map, List.getElem?_range hs]
  simp [hi, eAt]
theorem uniM_b {a b : Mach} {s i : Nat} (hs : s < b.rows.length) (hi : i < a.ins.toNat) : eAt (uniM a b) (a.rows.length + s) i = latE a.rows.length (eAt b s i) := by
  have h1 : (uniM a b).rows[a.rows.length + s]? = (rowsOf b a.ins.toNat (latE a.rows.length))[s]? := by
    simp only [uniM]; rw [List.getElem?_append_right (by rw [rowsOf_len]; omega), rowsOf_len, Nat.add_sub_cancel_left]
  have h2 : ∀ e : Int × Int, eAt (uniM a b) (a.rows.length + s) i = e ↔ ((((rowsOf b a.ins.toNat (latE a.rows.length))[s]?).map (·.2)).getD [])[i]?.getD (-1, -1) = e := fun e => by unfold eAt; rw [h1]
  rw [h2, rowsOf, List.getElem?_map, List.getElem?_range hs]
  simp [hi]
theorem uniM_valid {a b : Mach} (va : Valid a) (vb : Valid b) (hio : a.ins = b.ins) (h64 : a.rows.length + b.rows.length ≤ 64) : Valid (uniM a b) := by
  have hai := va.ins
  have hao := va.outs
  have hbo := vb.outs
  have hra := va.rows
  have hmo : a.outs ≤ (uniM a b).outs ∧ b.outs ≤ (uniM a b).outs ∧ (uniM a b).outs ≤ 16 := by simp only [uniM]; split <;> omega
  refine ⟨hai, by omega, by rw [uniM_len]; omega, fun r hr => ?_⟩
  rw [uniM_len]
  have key : ∀ (m : Mach) (f : Int × Int → Int × Int), r ∈ rowsOf m a.ins.toNat f → Valid m → m.ins = a.ins → (∀ e : Int × Int, (isNone e = true ∨ (0 ≤ e.1 ∧ e.1 < m.rows.length ∧ 0 ≤ e.2 ∧ e.2 < m.outs)) → fitsR ((a.rows.length + b.rows.length : Nat) : Int) (uniM a b).outs (f e).1 (f e).2 = true) →
      (r.2.length : Int) = (uniM a b).ins ∧ ∀ e ∈ r.2, fitsR ((a.rows.length + b.rows.length : Nat) : Int) (uniM a b).outs e.1 e.2 = true := by
    intro m f hr vm hm hf
    obtain ⟨s, hs, rfl⟩ := List.mem_map.1 hr
    refine ⟨by simp only [List.length_map, List.length_range, uniM]; omega, fun e he => ?_⟩
    obtain ⟨i, hi, rfl⟩ := List.mem_map.1 he
    obtain ⟨_, _, _, h⟩ := eAt_fit vm (List.mem_range.1 hs) (show (i : Int) < m.ins by have := List.mem_range.1 hi; omega)
    exact hf _ h
  simp only [uniM] at hr
  rcases List.mem_append.1 hr with hr | hr
  · refine key a id hr va rfl fun e h => ?_
    unfold fitsR
    rcases h with h | h
    · unfold isNone at h; simp only [Bool.and_eq_true, decide_eq_true_eq] at h; simp [h.1, h.2]
    · simp only [id, Bool.or_eq_true, Bool.and_eq_true, decide_eq_true_eq]; omega
  · refine key b _ hr vb hio.symm fun e h => ?_
    unfold fitsR latE
    rcases h with h | h
    · rw [if_pos h]
      unfold isNone at h; simp only [Bool.and_eq_true, decide_eq_true_eq] at h; simp [h.1, h.2]
    · rw [if_neg (by unfold isNone; simp; omega)]
      simp only [Bool.or_eq_true, Bool.and_eq_true, decide_eq_true_eq]; omega
theorem uniM_runA {a b : Mach} (va : Valid a) (w : List Int) (hw : ∀ x ∈ w, 0 ≤ x ∧ x < a.ins) : runR (uniM a b) 0 w = runR a 0 w := by
  have hai := va.ins
  have := runR_rel (m := a) (m' := uniM a b) (R := fun s s' => s' = s ∧ s < a.rows.length) (g := id) (h := id) (fun s s' x hR h0 h1 => by
    obtain ⟨rfl, hs⟩ := hR
    by_cases hn : s' < 0
    · rw [id, stepR_neg hn, stepR_neg hn]; exact ⟨⟨rfl, by simp only; omega⟩, rfl⟩
    · obtain ⟨k, rfl⟩ : ∃ k : Nat, s' = k := ⟨s'.toNat, by omega⟩
      have e : stepR (uniM a b) (k : Int) x = stepR a (k : Int) x := by rw [stepR_eAt h0, stepR_eAt h0, uniM_a (by omega) (by omega)]
      rw [id, e]
      exact ⟨⟨rfl, stepR_lt va hs ⟨h0, h1⟩⟩, rfl⟩) w 0 0 ⟨rfl, by have := va.rows; omega⟩ hw
  simpa using this
theorem uniM_runB {a b : Mach} (va : Valid a) (vb : Valid b) (hio : a.ins = b.ins) (w : List Int) (hw : ∀ x ∈ w, 0 ≤ x ∧ x < b.ins) {s : Nat} (hs : s < b.rows.length) : runR (uniM a b) ((a.rows.length : Int) + s) w = runR b s w := by
  have hai := va.ins
  have := runR_rel (m := b) (m' := uniM a b) (R := fun s s' => (s < 0 ∧ s' < 0) ∨ (0 ≤ s ∧ s < b.rows.length ∧ s' = a.rows.length + s)) (g := id) (h := id) (fun s s' x hR h0 h1 => by
    rcases hR with ⟨k1, k2⟩ | ⟨k1, k2, rfl⟩
    · rw [id, stepR_neg k1, stepR_neg k2]; exact ⟨.inl ⟨by decide, by decide⟩, rfl⟩
    · obtain ⟨k, rfl⟩ : ∃ k : Nat, s = k := ⟨s.toNat, by omega⟩
      have e : stepR (uniM a b) ((a.rows.length : Int) + (k : Int)) x = latE a.rows.length (eAt b k x.toNat) := by
        rw [show (a.rows.length : Int) + (k : Int) = ((a.rows.length + k : Nat) : Int) by omega, stepR_eAt h0, uniM_b (by omega) (by omega)]
      obtain ⟨_, _, _, h⟩ := eAt_fit vb (show k < b.rows.length by omega) (show ((x.toNat : Nat) : Int) < b.ins by omega)
      rw [id, e, stepR_eAt h0]
      unfold latE
      by_cases hn : isNone (eAt b k x.toNat) = true
      · rw [if_pos hn]
        have : (eAt b k x.toNat).1 = -1 := by unfold isNone at hn; simp only [Bool.and_eq_true, decide_eq_true_eq] at hn; exact hn.1
        exact ⟨.inl ⟨by omega, by omega⟩, rfl⟩
      · rw [if_neg hn]
        have h := h.resolve_left hn
        exact ⟨.inr ⟨h.1, h.2.1, by simp only; omega⟩, rfl⟩) w s ((a.rows.length : Int) + s) (.inr ⟨by omega, by omega, rfl⟩) hw
  simpa using this
end Go.Avl
namespace Go.Avl
open Go Go.Proofs.Try
set_option maxRecDepth 10000
set_option linter.unusedSimpArgs false

theorem wcells_norefs (nl : Bool) (w : List Int) (c : Cp) : AV.norefs [.sl nl (w.map u8C) c] = true := by simp [AV.norefs, AV.noref]
theorem joinsUnite_is {x y : LM} (hx : x.Ok) (hy : y.Ok) (nl : Bool) (w : List Int) (c : Cp) (hw : ∀ a ∈ w, 0 ≤ a ∧ a < 256) : PureIs prog 8 [.ag x.cells, .ag y.cells, .ag [.sl nl (w.map u8C) c]] (.sc (.bool true)) := by
  obtain ⟨z, hz⟩ : ∃ z : LM, z = { y with ins := x.ins } := ⟨_, rfl⟩
  have hzo : z.Ok := by rw [hz]; exact ⟨hy.st, hx.ins, hy.outs, hy.es⟩
  have va := LM.valid hx
  have vb := LM.valid hzo
  obtain ⟨a, ha⟩ : ∃ a, a = x.mach := ⟨_, rfl⟩
  obtain ⟨b, hb⟩ : ∃ b, b = z.mach := ⟨_, rfl⟩
  rw [← ha] at va
  rw [← hb] at vb
  refine PureIs.of (nv := 13) (hid := [42, 47, 63]) func8 rfl (by kernel_rfl) (by simp [ntmps8]) fun _ => ?_
  rw [ntmps8, results8]
  have hA : PureIs prog 12 [.ag [.sc (.int .u8 x.st), .sc (.int .u8 x.ins), .sc (.int .u8 x.outs), .sc (.bool x.part), .sl x.nl (x.es.map u16C) x.cap]] (.ag [.sc (.int .i64 a.ins), .sc (.int .i64 a.outs), .sl a.nl (a.rows.map rowC) .unk]) := by
    have := mOf_is hx; rw [← ha] at this; exact this
  have hB : PureIs prog 12 [.ag [.sc (.int .u8 y.st), .sc (.int .u8 x.ins), .sc (.int .u8 y.outs), .sc (.bool y.part), .sl y.nl (y.es.map u16C) y.cap]] (.ag [.sc (.int .i64 b.ins), .sc (.int .i64 b.outs), .sl b.nl (b.rows.map rowC) .unk]) := by
    have := mOf_is hzo; rw [← hb, hz] at this; exact this
  have hio : a.ins = b.ins := by rw [ha, hb, hz]; rfl
  have hra : a.rows.length ≤ 6 := by rw [ha]; simp only [LM.mach, List.length_map, List.length_range]; have := LM.bounds hx; omega
  have hrb : b.rows.length ≤ 6 := by rw [hb]; simp only [LM.mach, List.length_map, List.length_range]; have := LM.bounds hzo; omega
  have hab : a.outs ≤ 3 ∧ b.outs ≤ 3 := by rw [ha, hb]; simp only [LM.mach]; have := LM.bounds hx; have := LM.bounds hzo; omega
  refine EvC.seq (EvC.rg (by (simp only [go_sem, Nat.reduceLT, Nat.reduceLeDiff, Nat.reduceEqDiff, Nat.reduceAdd, Nat.reduceSub, Nat.reduceMul, Nat.reduceBEq, Int.reduceToNat, Int.reduceEq, Int.reduceLT, Int.reduceLE, Int.reduceAdd, ↓reduceIte, reduceCtorEq, LM.cells]) <;> rfl) (by simp) ?_)
  refine EvC.seq (EvC.rg (by (simp only [go_sem, Nat.reduceLT, Nat.reduceLeDiff, Nat.reduceEqDiff, Nat.reduceAdd, Nat.reduceSub, Nat.reduceMul, Nat.reduceBEq, Int.reduceToNat, Int.reduceEq, Int.reduceLT, Int.reduceLE, Int.reduceAdd, ↓reduceIte, reduceCtorEq]) <;> rfl) (by simp) ?_)
  apply EvC.seq
  apply EvC.drw mixed
  · apply Tr.run
    · (simp only [go_sem, Nat.reduceLT, Nat.reduceLeDiff, Nat.reduceEqDiff, Nat.reduceAdd, Nat.reduceSub, Nat.reduceMul, Nat.reduceBEq, Int.reduceToNat, Int.reduceEq, Int.reduceLT, Int.reduceLE, Int.reduceAdd, ↓reduceIte, reduceCtorEq]) <;> rfl
    · simp
    apply Tr.cons
    · exact .call rfl rfl (by (simp only [go_sem, Nat.reduceLT, Nat.reduceLeDiff, Nat.reduceEqDiff, Nat.reduceAdd, Nat.reduceSub, Nat.reduceMul, Nat.reduceBEq, Int.reduceToNat, Int.reduceEq, Int.reduceLT, Int.reduceLE, Int.reduceAdd, ↓reduceIte, reduceCtorEq]) <;> rfl) (by (simp only [go_sem, Nat.reduceLT, Nat.reduceLeDiff, Nat.reduceEqDiff, Nat.reduceAdd, Nat.reduceSub, Nat.reduceMul, Nat.reduceBEq, Int.reduceToNat, Int.reduceEq, Int.reduceLT, Int.reduceLE, Int.reduceAdd, ↓reduceIte, reduceCtorEq]) <;> rfl) (by (simp only [go_sem, Nat.reduceLT, Nat.reduceLeDiff, Nat.reduceEqDiff, Nat.reduceAdd, Nat.reduceSub, Nat.reduceMul, Nat.reduceBEq, Int.reduceToNat, Int.reduceEq, Int.reduceLT, Int.reduceLE, Int.reduceAdd, ↓reduceIte, reduceCtorEq]) <;> rfl) (by (simp only [go_sem, Nat.reduceLT, Nat.reduceLeDiff, Nat.reduceEqDiff, Nat.reduceAdd, Nat.reduceSub, Nat.reduceMul, Nat.reduceBEq, Int.reduceToNat, Int.reduceEq, Int.reduceLT, Int.reduceLE, Int.reduceAdd, ↓reduceIte, reduceCtorEq]) <;> rfl) (by (simp only [go_sem, Nat.reduceLT, Nat.reduceLeDiff, Nat.reduceEqDiff, Nat.reduceAdd, Nat.reduceSub, Nat.reduceMul, Nat.reduceBEq, Int.reduceToNat, Int.reduceEq, Int.reduceLT, Int.reduceLE, Int.reduceAdd, ↓reduceIte, reduceCtorEq]) <;> rfl) (hA)
    apply Tr.run
    · (simp only [go_sem, Nat.reduceLT, Nat.reduceLeDiff, Nat.reduceEqDiff, Nat.reduceAdd, Nat.reduceSub, Nat.reduceMul, Nat.reduceBEq, Int.reduceToNat, Int.reduceEq, Int.reduceLT, Int.reduceLE, Int.reduceAdd, ↓reduceIte, reduceCtorEq]) <;> rfl
    · simp
    apply Tr.cons
    · exact .call rfl rfl (by (simp only [go_sem, Nat.reduceLT, Nat.reduceLeDiff, Nat.reduceEqDiff, Nat.reduceAdd, Nat.reduceSub, Nat.reduceMul, Nat.reduceBEq, Int.reduceToNat, Int.reduceEq, Int.reduceLT, Int.reduceLE, Int.reduceAdd, ↓reduceIte, reduceCtorEq]) <;> rfl) (by (simp only [go_sem, Nat.reduceLT, Nat.reduceLeDiff, Nat.reduceEqDiff, Nat.reduceAdd, Nat.reduceSub, Nat.reduceMul, Nat.reduceBEq, Int.reduceToNat, Int.reduceEq, Int.reduceLT, Int.reduceLE, Int.reduceAdd, ↓reduceIte, reduceCtorEq]) <;> rfl) (by (simp only [go_sem, Nat.reduceLT, Nat.reduceLeDiff, Nat.reduceEqDiff, Nat.reduceAdd, Nat.reduceSub, Nat.reduceMul, Nat.reduceBEq, Int.reduceToNat, Int.reduceEq, Int.reduceLT, Int.reduceLE, Int.reduceAdd, ↓reduceIte, reduceCtorEq]) <;> rfl) (by (simp only [go_sem, Nat.reduceLT, Nat.reduceLeDiff, Nat.reduceEqDiff, Nat.reduceAdd, Nat.reduceSub, Nat.reduceMul, Nat.reduceBEq, Int.reduceToNat, Int.reduceEq, Int.reduceLT, Int.reduceLE, Int.reduceAdd, ↓reduceIte, reduceCtorEq]) <;> rfl) (by (simp only [go_sem, Nat.reduceLT, Nat.reduceLeDiff, Nat.reduceEqDiff, Nat.reduceAdd, Nat.reduceSub, Nat.reduceMul, Nat.reduceBEq, Int.reduceToNat, Int.reduceEq, Int.reduceLT, Int.reduceLE, Int.reduceAdd, ↓reduceIte, reduceCtorEq]) <;> rfl) (hB)
    apply Tr.done
    · (simp only [go_sem, Nat.reduceLT, Nat.reduceLeDiff, Nat.reduceEqDiff, Nat.reduceAdd, Nat.reduceSub, Nat.reduceMul, Nat.reduceBEq, Int.reduceToNat, Int.reduceEq, Int.reduceLT, Int.reduceLE, Int.reduceAdd, ↓reduceIte, reduceCtorEq]) <;> rfl
    · simp
  · kernel_rfl
  refine EvC.frzB 12 (by (simp only [go_sem, Nat.reduceLT, Nat.reduceLeDiff, Nat.reduceEqDiff, Nat.reduceAdd, Nat.reduceSub, Nat.reduceMul, Nat.reduceBEq, Int.reduceToNat, Int.reduceEq, Int.reduceLT, Int.reduceLE, Int.reduceAdd, ↓reduceIte, reduceCtorEq]) <;> rfl) ?_
  refine EvC.frzB 13 (by (simp only [go_sem, Nat.reduceLT, Nat.reduceLeDiff, Nat.reduceEqDiff, Nat.reduceAdd, Nat.reduceSub, Nat.reduceMul, Nat.reduceBEq, Int.reduceToNat, Int.reduceEq, Int.reduceLT, Int.reduceLE, Int.reduceAdd, ↓reduceIte, reduceCtorEq]) <;> rfl) ?_
  refine EvC.frzB 2 (by (simp only [go_sem, Nat.reduceLT, Nat.reduceLeDiff, Nat.reduceEqDiff, Nat.reduceAdd, Nat.reduceSub, Nat.reduceMul, Nat.reduceBEq, Int.reduceToNat, Int.reduceEq, Int.reduceLT, Int.reduceLE, Int.reduceAdd, ↓reduceIte, reduceCtorEq]) <;> rfl) ?_
  obtain ⟨W, hW⟩ : ∃ W, W = wOf w a.ins := ⟨_, rfl⟩
  have hai := va.ins
  have hWl : W.length ≤ 12 := by rw [hW]; exact wOf_len _ _
  have hWo : ∀ v ∈ W, 0 ≤ v ∧ v < a.ins := by rw [hW]; exact wOf_ok (by omega)
  have hWC : PureIs prog 13 [.ag [.sl nl (w.map u8C) c], .sc (.int .i64 a.ins)] (.sl W.isEmpty (W.map intC) .unk) := by
    rw [hW]; exact wOf_is nl w c a.ins (by omega) hw
  obtain ⟨m, hm⟩ : ∃ m, m = uniM a b := ⟨_, rfl⟩
  have hv64 : a.rows.length + b.rows.length ≤ 64 := by omega
  have vm : Valid m := by rw [hm]; exact uniM_valid va vb hio hv64
  have hU : PureIs prog 32 [.ag a.cells, .ag b.cells] (.tu [.ag [.sc (.int .i64 m.ins), .sc (.int .i64 m.outs), .sl m.nl (m.rows.map rowG) .full], .sc (.int .i64 0)]) := by
    have := unite_is a b va.small vb.small
    rw [uniteA, if_neg (by simp [bothE_of va.check vb.check]), if_neg (by simp [hio]), if_neg (by omega), ← hm] at this
    exact this
  have hml : m.rows.length = a.rows.length + b.rows.length := by rw [hm]; exact uniM_len a b
  have har := va.rows
  have hMC : PureIs prog 21 [.ag m.cellsF, .sc (.int .i64 0), .ag (besM a b).cells] (.sc (.bool true)) := machine_is (by rw [hm]; rfl) (by rw [hm]; rfl) (by rw [hm]; exact uniM_bes va vb hio) (by omega) vm.small
  have hRm := runF_is vm W.isEmpty W .unk (by rw [hm]; exact hWo) (by omega)
  have hRb := fun s hs => run04_is vb s hs W.isEmpty W .unk (by rw [← hio]; exact hWo) (by omega)
  have hRa := fun s hs => run04_is va s hs W.isEmpty W .unk hWo (by omega)
  have hm0 : decide ((m.rows.length : Int) = 0) = false := decide_eq_false (by omega)
  apply EvC.seq
  apply EvC.tr
  · apply Tr.run
    · (simp only [go_sem, Nat.reduceLT, Nat.reduceLeDiff, Nat.reduceEqDiff, Nat.reduceAdd, Nat.reduceSub, Nat.reduceMul, Nat.reduceBEq, Int.reduceToNat, Int.reduceEq, Int.reduceLT, Int.reduceLE, Int.reduceAdd, ↓reduceIte, reduceCtorEq]) <;> rfl
    · simp
    apply Tr.cons
    · exact .call rfl rfl (by (simp only [go_sem, Nat.reduceLT, Nat.reduceLeDiff, Nat.reduceEqDiff, Nat.reduceAdd, Nat.reduceSub, Nat.reduceMul, Nat.reduceBEq, Int.reduceToNat, Int.reduceEq, Int.reduceLT, Int.reduceLE, Int.reduceAdd, ↓reduceIte, reduceCtorEq]) <;> rfl) (by (simp only [go_sem, Nat.reduceLT, Nat.reduceLeDiff, Nat.reduceEqDiff, Nat.reduceAdd, Nat.reduceSub, Nat.reduceMul, Nat.reduceBEq, Int.reduceToNat, Int.reduceEq, Int.reduceLT, Int.reduceLE, Int.reduceAdd, ↓reduceIte, reduceCtorEq]) <;> rfl) (by (simp only [go_sem, Nat.reduceLT, Nat.reduceLeDiff, Nat.reduceEqDiff, Nat.reduceAdd, Nat.reduceSub, Nat.reduceMul, Nat.reduceBEq, Int.reduceToNat, Int.reduceEq, Int.reduceLT, Int.reduceLE, Int.reduceAdd, ↓reduceIte, reduceCtorEq]) <;> rfl) (by (simp only [go_sem, Nat.reduceLT, Nat.reduceLeDiff, Nat.reduceEqDiff, Nat.reduceAdd, Nat.reduceSub, Nat.reduceMul, Nat.reduceBEq, Int.reduceToNat, Int.reduceEq, Int.reduceLT, Int.reduceLE, Int.reduceAdd, ↓reduceIte, reduceCtorEq]) <;> rfl) (by (simp only [go_sem, Nat.reduceLT, Nat.reduceLeDiff, Nat.reduceEqDiff, Nat.reduceAdd, Nat.reduceSub, Nat.reduceMul, Nat.reduceBEq, Int.reduceToNat, Int.reduceEq, Int.reduceLT, Int.reduceLE, Int.reduceAdd, ↓reduceIte, reduceCtorEq]) <;> rfl) (hWC)
    apply Tr.done
    · (simp only [go_sem, Nat.reduceLT, Nat.reduceLeDiff, Nat.reduceEqDiff, Nat.reduceAdd, Nat.reduceSub, Nat.reduceMul, Nat.reduceBEq, Int.reduceToNat, Int.reduceEq, Int.reduceLT, Int.reduceLE, Int.reduceAdd, ↓reduceIte, reduceCtorEq]) <;> rfl
    · simp
  apply EvC.seq
  apply EvC.tr
  · apply Tr.run
    · (simp only [go_sem, Nat.reduceLT, Nat.reduceLeDiff, Nat.reduceEqDiff, Nat.reduceAdd, Nat.reduceSub, Nat.reduceMul, Nat.reduceBEq, Int.reduceToNat, Int.reduceEq, Int.reduceLT, Int.reduceLE, Int.reduceAdd, ↓reduceIte, reduceCtorEq]) <;> rfl
    · simp
    apply Tr.cons
    · exact .call rfl rfl (by (simp only [go_sem, Nat.reduceLT, Nat.reduceLeDiff, Nat.reduceEqDiff, Nat.reduceAdd, Nat.reduceSub, Nat.reduceMul, Nat.reduceBEq, Int.reduceToNat, Int.reduceEq, Int.reduceLT, Int.reduceLE, Int.reduceAdd, ↓reduceIte, reduceCtorEq]) <;> rfl) (by (simp only [go_sem, Nat.reduceLT, Nat.reduceLeDiff, Nat.reduceEqDiff, Nat.reduceAdd, Nat.reduceSub, Nat.reduceMul, Nat.reduceBEq, Int.reduceToNat, Int.reduceEq, Int.reduceLT, Int.reduceLE, Int.reduceAdd, ↓reduceIte, reduceCtorEq]) <;> rfl) (by (simp only [go_sem, Nat.reduceLT, Nat.reduceLeDiff, Nat.reduceEqDiff, Nat.reduceAdd, Nat.reduceSub, Nat.reduceMul, Nat.reduceBEq, Int.reduceToNat, Int.reduceEq, Int.reduceLT, Int.reduceLE, Int.reduceAdd, ↓reduceIte, reduceCtorEq]) <;> rfl) (by (simp only [go_sem, Nat.reduceLT, Nat.reduceLeDiff, Nat.reduceEqDiff, Nat.reduceAdd, Nat.reduceSub, Nat.reduceMul, Nat.reduceBEq, Int.reduceToNat, Int.reduceEq, Int.reduceLT, Int.reduceLE, Int.reduceAdd, ↓reduceIte, reduceCtorEq]) <;> rfl) (by (simp only [go_sem, Nat.reduceLT, Nat.reduceLeDiff, Nat.reduceEqDiff, Nat.reduceAdd, Nat.reduceSub, Nat.reduceMul, Nat.reduceBEq, Int.reduceToNat, Int.reduceEq, Int.reduceLT, Int.reduceLE, Int.reduceAdd, ↓reduceIte, reduceCtorEq]) <;> rfl) (hU)
    apply Tr.done
    · (simp only [go_sem, Nat.reduceLT, Nat.reduceLeDiff, Nat.reduceEqDiff, Nat.reduceAdd, Nat.reduceSub, Nat.reduceMul, Nat.reduceBEq, Int.reduceToNat, Int.reduceEq, Int.reduceLT, Int.reduceLE, Int.reduceAdd, ↓reduceIte, reduceCtorEq]) <;> rfl
    · simp
  refine EvC.seq ?_
  apply EvC.seq
  apply EvC.drw mixed
  · apply Tr.run
    · (simp only [go_sem, Nat.reduceLT, Nat.reduceLeDiff, Nat.reduceEqDiff, Nat.reduceAdd, Nat.reduceSub, Nat.reduceMul, Nat.reduceBEq, Int.reduceToNat, Int.reduceEq, Int.reduceLT, Int.reduceLE, Int.reduceAdd, ↓reduceIte, reduceCtorEq, hm0]) <;> rfl
    · simp
    apply Tr.cons
    · exact .callG rfl rfl (by (simp only [go_sem, Nat.reduceLT, Nat.reduceLeDiff, Nat.reduceEqDiff, Nat.reduceAdd, Nat.reduceSub, Nat.reduceMul, Nat.reduceBEq, Int.reduceToNat, Int.reduceEq, Int.reduceLT, Int.reduceLE, Int.reduceAdd, ↓reduceIte, reduceCtorEq]) <;> rfl) rfl (by (simp only [go_sem, Nat.reduceLT, Nat.reduceLeDiff, Nat.reduceEqDiff, Nat.reduceAdd, Nat.reduceSub, Nat.reduceMul, Nat.reduceBEq, Int.reduceToNat, Int.reduceEq, Int.reduceLT, Int.reduceLE, Int.reduceAdd, ↓reduceIte, reduceCtorEq]) <;> rfl) (by (simp only [go_sem, Nat.reduceLT, Nat.reduceLeDiff, Nat.reduceEqDiff, Nat.reduceAdd, Nat.reduceSub, Nat.reduceMul, Nat.reduceBEq, Int.reduceToNat, Int.reduceEq, Int.reduceLT, Int.reduceLE, Int.reduceAdd, ↓reduceIte, reduceCtorEq]) <;> rfl) (by (simp only [go_sem, Nat.reduceLT, Nat.reduceLeDiff, Nat.reduceEqDiff, Nat.reduceAdd, Nat.reduceSub, Nat.reduceMul, Nat.reduceBEq, Int.reduceToNat, Int.reduceEq, Int.reduceLT, Int.reduceLE, Int.reduceAdd, ↓reduceIte, reduceCtorEq]) <;> rfl) (by (simp only [go_sem, Nat.reduceLT, Nat.reduceLeDiff, Nat.reduceEqDiff, Nat.reduceAdd, Nat.reduceSub, Nat.reduceMul, Nat.reduceBEq, Int.reduceToNat, Int.reduceEq, Int.reduceLT, Int.reduceLE, Int.reduceAdd, ↓reduceIte, reduceCtorEq]) <;> rfl) (by (simp only [go_sem, Nat.reduceLT, Nat.reduceLeDiff, Nat.reduceEqDiff, Nat.reduceAdd, Nat.reduceSub, Nat.reduceMul, Nat.reduceBEq, Int.reduceToNat, Int.reduceEq, Int.reduceLT, Int.reduceLE, Int.reduceAdd, ↓reduceIte, reduceCtorEq]) <;> rfl) (beside_is va vb)
    apply Tr.run
    · (simp only [go_sem, Nat.reduceLT, Nat.reduceLeDiff, Nat.reduceEqDiff, Nat.reduceAdd, Nat.reduceSub, Nat.reduceMul, Nat.reduceBEq, Int.reduceToNat, Int.reduceEq, Int.reduceLT, Int.reduceLE, Int.reduceAdd, ↓reduceIte, reduceCtorEq, hm0]) <;> rfl
    · simp
    apply Tr.cons
    · exact .callG rfl rfl (by (simp only [go_sem, Nat.reduceLT, Nat.reduceLeDiff, Nat.reduceEqDiff, Nat.reduceAdd, Nat.reduceSub, Nat.reduceMul, Nat.reduceBEq, Int.reduceToNat, Int.reduceEq, Int.reduceLT, Int.reduceLE, Int.reduceAdd, ↓reduceIte, reduceCtorEq]) <;> rfl) rfl (by (simp only [go_sem, Nat.reduceLT, Nat.reduceLeDiff, Nat.reduceEqDiff, Nat.reduceAdd, Nat.reduceSub, Nat.reduceMul, Nat.reduceBEq, Int.reduceToNat, Int.reduceEq, Int.reduceLT, Int.reduceLE, Int.reduceAdd, ↓reduceIte, reduceCtorEq]) <;> rfl) (by (simp only [go_sem, Nat.reduceLT, Nat.reduceLeDiff, Nat.reduceEqDiff, Nat.reduceAdd, Nat.reduceSub, Nat.reduceMul, Nat.reduceBEq, Int.reduceToNat, Int.reduceEq, Int.reduceLT, Int.reduceLE, Int.reduceAdd, ↓reduceIte, reduceCtorEq]) <;> rfl) (by (simp only [go_sem, Nat.reduceLT, Nat.reduceLeDiff, Nat.reduceEqDiff, Nat.reduceAdd, Nat.reduceSub, Nat.reduceMul, Nat.reduceBEq, Int.reduceToNat, Int.reduceEq, Int.reduceLT, Int.reduceLE, Int.reduceAdd, ↓reduceIte, reduceCtorEq]) <;> rfl) (by (simp only [go_sem, Nat.reduceLT, Nat.reduceLeDiff, Nat.reduceEqDiff, Nat.reduceAdd, Nat.reduceSub, Nat.reduceMul, Nat.reduceBEq, Int.reduceToNat, Int.reduceEq, Int.reduceLT, Int.reduceLE, Int.reduceAdd, ↓reduceIte, reduceCtorEq]) <;> rfl) (by (simp only [go_sem, Nat.reduceLT, Nat.reduceLeDiff, Nat.reduceEqDiff, Nat.reduceAdd, Nat.reduceSub, Nat.reduceMul, Nat.reduceBEq, Int.reduceToNat, Int.reduceEq, Int.reduceLT, Int.reduceLE, Int.reduceAdd, ↓reduceIte, reduceCtorEq]) <;> rfl) (hMC)
    apply Tr.done
    · (simp only [go_sem, Nat.reduceLT, Nat.reduceLeDiff, Nat.reduceEqDiff, Nat.reduceAdd, Nat.reduceSub, Nat.reduceMul, Nat.reduceBEq, Int.reduceToNat, Int.reduceEq, Int.reduceLT, Int.reduceLE, Int.reduceAdd, ↓reduceIte, reduceCtorEq]) <;> rfl
    · simp
  · kernel_rfl
  refine EvC.cond_false (by (simp only [go_sem, Nat.reduceLT, Nat.reduceLeDiff, Nat.reduceEqDiff, Nat.reduceAdd, Nat.reduceSub, Nat.reduceMul, Nat.reduceBEq, Int.reduceToNat, Int.reduceEq, Int.reduceLT, Int.reduceLE, Int.reduceAdd, ↓reduceIte, reduceCtorEq]) <;> rfl) ?_
  refine EvC.skip ?_
  refine EvC.seq ?_
  refine EvC.frzB 27 (by (simp only [go_sem, Nat.reduceLT, Nat.reduceLeDiff, Nat.reduceEqDiff, Nat.reduceAdd, Nat.reduceSub, Nat.reduceMul, Nat.reduceBEq, Int.reduceToNat, Int.reduceEq, Int.reduceLT, Int.reduceLE, Int.reduceAdd, ↓reduceIte, reduceCtorEq]) <;> rfl) ?_
  refine EvC.seq (EvC.rg (by (simp only [go_sem, Nat.reduceLT, Nat.reduceLeDiff, Nat.reduceEqDiff, Nat.reduceAdd, Nat.reduceSub, Nat.reduceMul, Nat.reduceBEq, Int.reduceToNat, Int.reduceEq, Int.reduceLT, Int.reduceLE, Int.reduceAdd, ↓reduceIte, reduceCtorEq]) <;> rfl) (by simp) ?_)
  refine EvC.block ?_  -- 0
  refine EvC.loopS (σ := Nat) (fun i => ⟨[(7, .ia a.cells), (8, .ia b.cells), (9, .sl W.isEmpty (W.map intC) .unk), (10, .ia m.cellsF), (12, .sc (.int .i64 i))], [], [], 0⟩) (fun i => b.rows.length - i) (fun i => i ≤ b.rows.length) [7, 8, 9, 10, 12] 0 ?_ ?_
  · exact ⟨[], 0, rfl, (by (simp only [go_sem, Nat.reduceLT, Nat.reduceLeDiff, Nat.reduceEqDiff, Nat.reduceAdd, Nat.reduceSub, Nat.reduceMul, Nat.reduceBEq, Int.reduceToNat, Int.reduceEq, Int.reduceLT, Int.reduceLE, Int.reduceAdd, ↓reduceIte, reduceCtorEq, Mach.cells, Mach.cellsF, Int.natCast_zero]) <;> rfl), Nat.zero_le _⟩
  intro i h1
  refine EvC.seq ?_
  refine EvC.seq (EvC.rg (by (simp only [go_sem, Nat.reduceLT, Nat.reduceLeDiff, Nat.reduceEqDiff, Nat.reduceAdd, Nat.reduceSub, Nat.reduceMul, Nat.reduceBEq, Int.reduceToNat, Int.reduceEq, Int.reduceLT, Int.reduceLE, Int.reduceAdd, ↓reduceIte, reduceCtorEq, Mach.cells, List.length_map]) <;> rfl) (by simp) ?_)
  refine EvC.cond (by (simp only [go_sem, Nat.reduceLT, Nat.reduceLeDiff, Nat.reduceEqDiff, Nat.reduceAdd, Nat.reduceSub, Nat.reduceMul, Nat.reduceBEq, Int.reduceToNat, Int.reduceEq, Int.reduceLT, Int.reduceLE, Int.reduceAdd, ↓reduceIte, reduceCtorEq]) <;> rfl) (fun hc => ?_) (fun hc => ?_)
  rotate_left
  · refine EvC.exit ?_  -- 0
    have e1 : runR m 0 W = runR a 0 W := by rw [hm]; exact uniM_runA va W hWo
    have hS : PureIs prog 30 [.sl (runR m 0 W).isEmpty ((runR m 0 W).map intC) .unk, .sl (runR a 0 W).isEmpty ((runR a 0 W).map intC) .unk] (.sc (.bool true)) := by
      have := same_is (runR m 0 W).isEmpty (runR m 0 W) .unk (runR a 0 W).isEmpty (runR a 0 W) .unk (by rw [runR_len]; omega)
      rwa [decide_eq_true e1] at this
    apply EvC.seq
    apply EvC.drw mixed
    · apply Tr.run
      · (simp only [go_sem, Nat.reduceLT, Nat.reduceLeDiff, Nat.reduceEqDiff, Nat.reduceAdd, Nat.reduceSub, Nat.reduceMul, Nat.reduceBEq, Int.reduceToNat, Int.reduceEq, Int.reduceLT, Int.reduceLE, Int.reduceAdd, ↓reduceIte, reduceCtorEq, Mach.cells, Mach.cellsF]) <;> rfl
      · simp
      apply Tr.cons
      · exact .call rfl rfl (by (simp only [go_sem, Nat.reduceLT, Nat.reduceLeDiff, Nat.reduceEqDiff, Nat.reduceAdd, Nat.reduceSub, Nat.reduceMul, Nat.reduceBEq, Int.reduceToNat, Int.reduceEq, Int.reduceLT, Int.reduceLE, Int.reduceAdd, ↓reduceIte, reduceCtorEq]) <;> rfl) (by (simp only [go_sem, Nat.reduceLT, Nat.reduceLeDiff, Nat.reduceEqDiff, Nat.reduceAdd, Nat.reduceSub, Nat.reduceMul, Nat.reduceBEq, Int.reduceToNat, Int.reduceEq, Int.reduceLT, Int.reduceLE, Int.reduceAdd, ↓reduceIte, reduceCtorEq]) <;> rfl) (by (simp only [go_sem, Nat.reduceLT, Nat.reduceLeDiff, Nat.reduceEqDiff, Nat.reduceAdd, Nat.reduceSub, Nat.reduceMul, Nat.reduceBEq, Int.reduceToNat, Int.reduceEq, Int.reduceLT, Int.reduceLE, Int.reduceAdd, ↓reduceIte, reduceCtorEq]) <;> rfl) (by (simp only [go_sem, Nat.reduceLT, Nat.reduceLeDiff, Nat.reduceEqDiff, Nat.reduceAdd, Nat.reduceSub, Nat.reduceMul, Nat.reduceBEq, Int.reduceToNat, Int.reduceEq, Int.reduceLT, Int.reduceLE, Int.reduceAdd, ↓reduceIte, reduceCtorEq]) <;> rfl) (by (simp only [go_sem, Nat.reduceLT, Nat.reduceLeDiff, Nat.reduceEqDiff, Nat.reduceAdd, Nat.reduceSub, Nat.reduceMul, Nat.reduceBEq, Int.reduceToNat, Int.reduceEq, Int.reduceLT, Int.reduceLE, Int.reduceAdd, ↓reduceIte, reduceCtorEq]) <;> rfl) (hRm 0 (by omega))
      apply Tr.run
      · (simp only [go_sem, Nat.reduceLT, Nat.reduceLeDiff, Nat.reduceEqDiff, Nat.reduceAdd, Nat.reduceSub, Nat.reduceMul, Nat.reduceBEq, Int.reduceToNat, Int.reduceEq, Int.reduceLT, Int.reduceLE, Int.reduceAdd, ↓reduceIte, reduceCtorEq, Mach.cells, Mach.cellsF]) <;> rfl
      · simp
      apply Tr.cons
      · exact .call rfl rfl (by (simp only [go_sem, Nat.reduceLT, Nat.reduceLeDiff, Nat.reduceEqDiff, Nat.reduceAdd, Nat.reduceSub, Nat.reduceMul, Nat.reduceBEq, Int.reduceToNat, Int.reduceEq, Int.reduceLT, Int.reduceLE, Int.reduceAdd, ↓reduceIte, reduceCtorEq]) <;> rfl) (by (simp only [go_sem, Nat.reduceLT, Nat.reduceLeDiff, Nat.reduceEqDiff, Nat.reduceAdd, Nat.reduceSub, Nat.reduceMul, Nat.reduceBEq, Int.reduceToNat, Int.reduceEq, Int.reduceLT, Int.reduceLE, Int.reduceAdd, ↓reduceIte, reduceCtorEq]) <;> rfl) (by (simp only [go_sem, Nat.reduceLT, Nat.reduceLeDiff, Nat.reduceEqDiff, Nat.reduceAdd, Nat.reduceSub, Nat.reduceMul, Nat.reduceBEq, Int.reduceToNat, Int.reduceEq, Int.reduceLT, Int.reduceLE, Int.reduceAdd, ↓reduceIte, reduceCtorEq]) <;> rfl) (by (simp only [go_sem, Nat.reduceLT, Nat.reduceLeDiff, Nat.reduceEqDiff, Nat.reduceAdd, Nat.reduceSub, Nat.reduceMul, Nat.reduceBEq, Int.reduceToNat, Int.reduceEq, Int.reduceLT, Int.reduceLE, Int.reduceAdd, ↓reduceIte, reduceCtorEq]) <;> rfl) (by (simp only [go_sem, Nat.reduceLT, Nat.reduceLeDiff, Nat.reduceEqDiff, Nat.reduceAdd, Nat.reduceSub, Nat.reduceMul, Nat.reduceBEq, Int.reduceToNat, Int.reduceEq, Int.reduceLT, Int.reduceLE, Int.reduceAdd, ↓reduceIte, reduceCtorEq]) <;> rfl) (hRa 0 (by omega))
      apply Tr.run
      · (simp only [go_sem, Nat.reduceLT, Nat.reduceLeDiff, Nat.reduceEqDiff, Nat.reduceAdd, Nat.reduceSub, Nat.reduceMul, Nat.reduceBEq, Int.reduceToNat, Int.reduceEq, Int.reduceLT, Int.reduceLE, Int.reduceAdd, ↓reduceIte, reduceCtorEq, Mach.cells, Mach.cellsF]) <;> rfl
      · simp
      apply Tr.cons
      · exact .call rfl rfl (by (simp only [go_sem, Nat.reduceLT, Nat.reduceLeDiff, Nat.reduceEqDiff, Nat.reduceAdd, Nat.reduceSub, Nat.reduceMul, Nat.reduceBEq, Int.reduceToNat, Int.reduceEq, Int.reduceLT, Int.reduceLE, Int.reduceAdd, ↓reduceIte, reduceCtorEq]) <;> rfl) (by (simp only [go_sem, Nat.reduceLT, Nat.reduceLeDiff, Nat.reduceEqDiff, Nat.reduceAdd, Nat.reduceSub, Nat.reduceMul, Nat.reduceBEq, Int.reduceToNat, Int.reduceEq, Int.reduceLT, Int.reduceLE, Int.reduceAdd, ↓reduceIte, reduceCtorEq]) <;> rfl) (by (simp only [go_sem, Nat.reduceLT, Nat.reduceLeDiff, Nat.reduceEqDiff, Nat.reduceAdd, Nat.reduceSub, Nat.reduceMul, Nat.reduceBEq, Int.reduceToNat, Int.reduceEq, Int.reduceLT, Int.reduceLE, Int.reduceAdd, ↓reduceIte, reduceCtorEq]) <;> rfl) (by (simp only [go_sem, Nat.reduceLT, Nat.reduceLeDiff, Nat.reduceEqDiff, Nat.reduceAdd, Nat.reduceSub, Nat.reduceMul, Nat.reduceBEq, Int.reduceToNat, Int.reduceEq, Int.reduceLT, Int.reduceLE, Int.reduceAdd, ↓reduceIte, reduceCtorEq]) <;> rfl) (by (simp only [go_sem, Nat.reduceLT, Nat.reduceLeDiff, Nat.reduceEqDiff, Nat.reduceAdd, Nat.reduceSub, Nat.reduceMul, Nat.reduceBEq, Int.reduceToNat, Int.reduceEq, Int.reduceLT, Int.reduceLE, Int.reduceAdd, ↓reduceIte, reduceCtorEq]) <;> rfl) (hS)
      apply Tr.run
      · (simp only [go_sem, Nat.reduceLT, Nat.reduceLeDiff, Nat.reduceEqDiff, Nat.reduceAdd, Nat.reduceSub, Nat.reduceMul, Nat.reduceBEq, Int.reduceToNat, Int.reduceEq, Int.reduceLT, Int.reduceLE, Int.reduceAdd, ↓reduceIte, reduceCtorEq, Mach.cells, Mach.cellsF]) <;> rfl
      · simp
      apply Tr.cons
      · exact .callG rfl rfl (by (simp only [go_sem, Nat.reduceLT, Nat.reduceLeDiff, Nat.reduceEqDiff, Nat.reduceAdd, Nat.reduceSub, Nat.reduceMul, Nat.reduceBEq, Int.reduceToNat, Int.reduceEq, Int.reduceLT, Int.reduceLE, Int.reduceAdd, ↓reduceIte, reduceCtorEq]) <;> rfl) rfl (by (simp only [go_sem, Nat.reduceLT, Nat.reduceLeDiff, Nat.reduceEqDiff, Nat.reduceAdd, Nat.reduceSub, Nat.reduceMul, Nat.reduceBEq, Int.reduceToNat, Int.reduceEq, Int.reduceLT, Int.reduceLE, Int.reduceAdd, ↓reduceIte, reduceCtorEq]) <;> rfl) (by (simp only [go_sem, Nat.reduceLT, Nat.reduceLeDiff, Nat.reduceEqDiff, Nat.reduceAdd, Nat.reduceSub, Nat.reduceMul, Nat.reduceBEq, Int.reduceToNat, Int.reduceEq, Int.reduceLT, Int.reduceLE, Int.reduceAdd, ↓reduceIte, reduceCtorEq]) <;> rfl) (by (simp only [go_sem, Nat.reduceLT, Nat.reduceLeDiff, Nat.reduceEqDiff, Nat.reduceAdd, Nat.reduceSub, Nat.reduceMul, Nat.reduceBEq, Int.reduceToNat, Int.reduceEq, Int.reduceLT, Int.reduceLE, Int.reduceAdd, ↓reduceIte, reduceCtorEq]) <;> rfl) (by (simp only [go_sem, Nat.reduceLT, Nat.reduceLeDiff, Nat.reduceEqDiff, Nat.reduceAdd, Nat.reduceSub, Nat.reduceMul, Nat.reduceBEq, Int.reduceToNat, Int.reduceEq, Int.reduceLT, Int.reduceLE, Int.reduceAdd, ↓reduceIte, reduceCtorEq]) <;> rfl) (by (simp only [go_sem, Nat.reduceLT, Nat.reduceLeDiff, Nat.reduceEqDiff, Nat.reduceAdd, Nat.reduceSub, Nat.reduceMul, Nat.reduceBEq, Int.reduceToNat, Int.reduceEq, Int.reduceLT, Int.reduceLE, Int.reduceAdd, ↓reduceIte, reduceCtorEq]) <;> rfl) (lives_is)
      apply Tr.done
      · (simp only [go_sem, Nat.reduceLT, Nat.reduceLeDiff, Nat.reduceEqDiff, Nat.reduceAdd, Nat.reduceSub, Nat.reduceMul, Nat.reduceBEq, Int.reduceToNat, Int.reduceEq, Int.reduceLT, Int.reduceLE, Int.reduceAdd, ↓reduceIte, reduceCtorEq]) <;> rfl
      · simp
    · kernel_rfl
    refine EvC.ret ⟨.inl rfl, _, (by (simp only [go_sem, Nat.reduceLT, Nat.reduceLeDiff, Nat.reduceEqDiff, Nat.reduceAdd, Nat.reduceSub, Nat.reduceMul, Nat.reduceBEq, Int.reduceToNat, Int.reduceEq, Int.reduceLT, Int.reduceLE, Int.reduceAdd, ↓reduceIte, reduceCtorEq]) <;> rfl), ?_, rfl⟩
    simp only [go_sem, Nat.reduceLT, Nat.reduceLeDiff, Nat.reduceEqDiff, Nat.reduceAdd, Nat.reduceSub, Nat.reduceMul, Nat.reduceBEq, Int.reduceToNat, Int.reduceEq, Int.reduceLT, Int.reduceLE, Int.reduceAdd, ↓reduceIte, reduceCtorEq]
  have hi : i < b.rows.length := by simpa using hc
  clear hc
  have hI : inI64 ((a.rows.length : Int) + i) = true := inI64_of (by omega) (by omega)
  have e2 : runR m ((a.rows.length : Int) + i) W = runR b i W := by rw [hm]; exact uniM_runB va vb hio W (by rw [← hio]; exact hWo) hi
  have hS : PureIs prog 30 [.sl (runR m ((a.rows.length : Int) + i) W).isEmpty ((runR m ((a.rows.length : Int) + i) W).map intC) .unk, .sl (runR b i W).isEmpty ((runR b i W).map intC) .unk] (.sc (.bool true)) := by
    have := same_is (runR m ((a.rows.length : Int) + i) W).isEmpty (runR m ((a.rows.length : Int) + i) W) .unk (runR b i W).isEmpty (runR b i W) .unk (by rw [runR_len]; omega)
    rwa [decide_eq_true e2] at this
  refine EvC.skip ?_
  refine EvC.seq ?_
  refine EvC.block ?_  -- 1
  apply EvC.seq
  apply EvC.drw mixed
  · apply Tr.run
    · (simp only [go_sem, Nat.reduceLT, Nat.reduceLeDiff, Nat.reduceEqDiff, Nat.reduceAdd, Nat.reduceSub, Nat.reduceMul, Nat.reduceBEq, Int.reduceToNat, Int.reduceEq, Int.reduceLT, Int.reduceLE, Int.reduceAdd, ↓reduceIte, reduceCtorEq, List.length_map, Mach.cells, Mach.cellsF]) <;> rfl
    · simp [hI]
    apply Tr.cons
    · exact .call rfl rfl (by (simp only [go_sem, Nat.reduceLT, Nat.reduceLeDiff, Nat.reduceEqDiff, Nat.reduceAdd, Nat.reduceSub, Nat.reduceMul, Nat.reduceBEq, Int.reduceToNat, Int.reduceEq, Int.reduceLT, Int.reduceLE, Int.reduceAdd, ↓reduceIte, reduceCtorEq]) <;> rfl) (by (simp only [go_sem, Nat.reduceLT, Nat.reduceLeDiff, Nat.reduceEqDiff, Nat.reduceAdd, Nat.reduceSub, Nat.reduceMul, Nat.reduceBEq, Int.reduceToNat, Int.reduceEq, Int.reduceLT, Int.reduceLE, Int.reduceAdd, ↓reduceIte, reduceCtorEq]) <;> rfl) (by (simp only [go_sem, Nat.reduceLT, Nat.reduceLeDiff, Nat.reduceEqDiff, Nat.reduceAdd, Nat.reduceSub, Nat.reduceMul, Nat.reduceBEq, Int.reduceToNat, Int.reduceEq, Int.reduceLT, Int.reduceLE, Int.reduceAdd, ↓reduceIte, reduceCtorEq]) <;> rfl) (by (simp only [go_sem, Nat.reduceLT, Nat.reduceLeDiff, Nat.reduceEqDiff, Nat.reduceAdd, Nat.reduceSub, Nat.reduceMul, Nat.reduceBEq, Int.reduceToNat, Int.reduceEq, Int.reduceLT, Int.reduceLE, Int.reduceAdd, ↓reduceIte, reduceCtorEq]) <;> rfl) (by (simp only [go_sem, Nat.reduceLT, Nat.reduceLeDiff, Nat.reduceEqDiff, Nat.reduceAdd, Nat.reduceSub, Nat.reduceMul, Nat.reduceBEq, Int.reduceToNat, Int.reduceEq, Int.reduceLT, Int.reduceLE, Int.reduceAdd, ↓reduceIte, reduceCtorEq]) <;> rfl) (hRm ((a.rows.length : Int) + i) (by omega))
    apply Tr.run
    · (simp only [go_sem, Nat.reduceLT, Nat.reduceLeDiff, Nat.reduceEqDiff, Nat.reduceAdd, Nat.reduceSub, Nat.reduceMul, Nat.reduceBEq, Int.reduceToNat, Int.reduceEq, Int.reduceLT, Int.reduceLE, Int.reduceAdd, ↓reduceIte, reduceCtorEq, List.length_map, Mach.cells, Mach.cellsF]) <;> rfl
    · simp [hI]
    apply Tr.cons
    · exact .call rfl rfl (by (simp only [go_sem, Nat.reduceLT, Nat.reduceLeDiff, Nat.reduceEqDiff, Nat.reduceAdd, Nat.reduceSub, Nat.reduceMul, Nat.reduceBEq, Int.reduceToNat, Int.reduceEq, Int.reduceLT, Int.reduceLE, Int.reduceAdd, ↓reduceIte, reduceCtorEq]) <;> rfl) (by (simp only [go_sem, Nat.reduceLT, Nat.reduceLeDiff, Nat.reduceEqDiff, Nat.reduceAdd, Nat.reduceSub, Nat.reduceMul, Nat.reduceBEq, Int.reduceToNat, Int.reduceEq, Int.reduceLT, Int.reduceLE, Int.reduceAdd, ↓reduceIte, reduceCtorEq]) <;> rfl) (by (simp only [go_sem, Nat.reduceLT, Nat.reduceLeDiff, Nat.reduceEqDiff, Nat.reduceAdd, Nat.reduceSub, Nat.reduceMul, Nat.reduceBEq, Int.reduceToNat, Int.reduceEq, Int.reduceLT, Int.reduceLE, Int.reduceAdd, ↓reduceIte, reduceCtorEq]) <;> rfl) (by (simp only [go_sem, Nat.reduceLT, Nat.reduceLeDiff, Nat.reduceEqDiff, Nat.reduceAdd, Nat.reduceSub, Nat.reduceMul, Nat.reduceBEq, Int.reduceToNat, Int.reduceEq, Int.reduceLT, Int.reduceLE, Int.reduceAdd, ↓reduceIte, reduceCtorEq]) <;> rfl) (by (simp only [go_sem, Nat.reduceLT, Nat.reduceLeDiff, Nat.reduceEqDiff, Nat.reduceAdd, Nat.reduceSub, Nat.reduceMul, Nat.reduceBEq, Int.reduceToNat, Int.reduceEq, Int.reduceLT, Int.reduceLE, Int.reduceAdd, ↓reduceIte, reduceCtorEq]) <;> rfl) (hRb i (by omega))
    apply Tr.run
    · (simp only [go_sem, Nat.reduceLT, Nat.reduceLeDiff, Nat.reduceEqDiff, Nat.reduceAdd, Nat.reduceSub, Nat.reduceMul, Nat.reduceBEq, Int.reduceToNat, Int.reduceEq, Int.reduceLT, Int.reduceLE, Int.reduceAdd, ↓reduceIte, reduceCtorEq, List.length_map, Mach.cells, Mach.cellsF]) <;> rfl
    · simp [hI]
    apply Tr.cons
    · exact .call rfl rfl (by (simp only [go_sem, Nat.reduceLT, Nat.reduceLeDiff, Nat.reduceEqDiff, Nat.reduceAdd, Nat.reduceSub, Nat.reduceMul, Nat.reduceBEq, Int.reduceToNat, Int.reduceEq, Int.reduceLT, Int.reduceLE, Int.reduceAdd, ↓reduceIte, reduceCtorEq]) <;> rfl) (by (simp only [go_sem, Nat.reduceLT, Nat.reduceLeDiff, Nat.reduceEqDiff, Nat.reduceAdd, Nat.reduceSub, Nat.reduceMul, Nat.reduceBEq, Int.reduceToNat, Int.reduceEq, Int.reduceLT, Int.reduceLE, Int.reduceAdd, ↓reduceIte, reduceCtorEq]) <;> rfl) (by (simp only [go_sem, Nat.reduceLT, Nat.reduceLeDiff, Nat.reduceEqDiff, Nat.reduceAdd, Nat.reduceSub, Nat.reduceMul, Nat.reduceBEq, Int.reduceToNat, Int.reduceEq, Int.reduceLT, Int.reduceLE, Int.reduceAdd, ↓reduceIte, reduceCtorEq]) <;> rfl) (by (simp only [go_sem, Nat.reduceLT, Nat.reduceLeDiff, Nat.reduceEqDiff, Nat.reduceAdd, Nat.reduceSub, Nat.reduceMul, Nat.reduceBEq, Int.reduceToNat, Int.reduceEq, Int.reduceLT, Int.reduceLE, Int.reduceAdd, ↓reduceIte, reduceCtorEq]) <;> rfl) (by (simp only [go_sem, Nat.reduceLT, Nat.reduceLeDiff, Nat.reduceEqDiff, Nat.reduceAdd, Nat.reduceSub, Nat.reduceMul, Nat.reduceBEq, Int.reduceToNat, Int.reduceEq, Int.reduceLT, Int.reduceLE, Int.reduceAdd, ↓reduceIte, reduceCtorEq]) <;> rfl) (hS)
    apply Tr.done
    · (simp only [go_sem, Nat.reduceLT, Nat.reduceLeDiff, Nat.reduceEqDiff, Nat.reduceAdd, Nat.reduceSub, Nat.reduceMul, Nat.reduceBEq, Int.reduceToNat, Int.reduceEq, Int.reduceLT, Int.reduceLE, Int.reduceAdd, ↓reduceIte, reduceCtorEq]) <;> rfl
    · simp
  · kernel_rfl
  refine EvC.cond_false (by (simp only [go_sem, Nat.reduceLT, Nat.reduceLeDiff, Nat.reduceEqDiff, Nat.reduceAdd, Nat.reduceSub, Nat.reduceMul, Nat.reduceBEq, Int.reduceToNat, Int.reduceEq, Int.reduceLT, Int.reduceLE, Int.reduceAdd, ↓reduceIte, reduceCtorEq]) <;> rfl) ?_
  refine EvC.skip ?_
  refine EvC.rg (by (simp only [go_sem, Nat.reduceLT, Nat.reduceLeDiff, Nat.reduceEqDiff, Nat.reduceAdd, Nat.reduceSub, Nat.reduceMul, Nat.reduceBEq, Int.reduceToNat, Int.reduceEq, Int.reduceLT, Int.reduceLE, Int.reduceAdd, ↓reduceIte, reduceCtorEq]) <;> rfl) (by exact inI64_of (by omega) (by omega)) ?_
  exact ⟨[], i + 1, rfl, (by (simp only [go_sem, Nat.reduceLT, Nat.reduceLeDiff, Nat.reduceEqDiff, Nat.reduceAdd, Nat.reduceSub, Nat.reduceMul, Nat.reduceBEq, Int.reduceToNat, Int.reduceEq, Int.reduceLT, Int.reduceLE, Int.reduceAdd, ↓reduceIte, reduceCtorEq, Int.natCast_add, Int.natCast_one]) <;> rfl), hi, by omega⟩
end Go.Avl
namespace Go.Proofs.Ytbiifplfohnpeaa
open Go Go.Avl Go.Proofs Go.ChangeShapes Go.RowKit

set_option maxRecDepth 100000 in
theorem joinsUnite_lifted (os : Os) (started : os.Started) (H : Type) (enc : TypeId × Value → H) :
    ReturnsInHanded {} Try.checked os 8 .any (Rows.joinsUniteSpec.pre6 enc Try.prog Try.f8 Rows.joinsUniteRow.domain false) (Rows.joinsUniteSpec.post enc Try.prog Try.f8 false true false false) := by
  refine returnsInHanded_of_change_sized (C := Try.checked) Try.own started (by kernel_rfl) Try.func8
    (ChangeSpec.witness6 (enc := enc) (C := Try.checked) false ⟨#[], #[.agg #[.int .u8 0, .int .u8 0, .int .u8 0, .bool false, .slice none 0 0], .agg #[.int .u8 0, .int .u8 0, .int .u8 0, .bool false, .slice none 0 0], .agg #[.slice none 0 0]], []⟩ 8 (by kernel_rfl) (by kernel_rfl) (by kernel_rfl) (by kernel_rfl)) ?_
  intro W base args ds gs before hval hW _ hz _
  have hW' := hW
  obtain ⟨p, q, hA, hV, rfl, _, _⟩ := hW'
  obtain ⟨rfl, rfl⟩ := trodVars_none hV
  have hA' : DataW.TrodAll enc Try.prog W 0 (fun _ => true) true [24, 24, 27] args.toList ds p := by rw [← show Try.f8.params.toList = [24, 24, 27] from rfl]; exact hA
  obtain ⟨v0, v1, v2, d0, d1, d2, p0, p1, p2, rfl, rfl, rfl, h0, h1, h2⟩ := trodAll_three hA'
  have hz' : (DataW.weightsEach Try.prog [24, 24, 27] [d0, d1, d2]).all (· ≤ reachBytes) = true := hz
  have hf := fits_each (P := Try.prog) (ts := [24, 24, 27]) (l := [d0, d1, d2]) fun n hn => by simpa using List.all_eq_true.1 hz' n hn
  obtain ⟨x, hx, i0⟩ := rd_LM.imm_struct Try.underlying24 (hval 0 24 v0 rfl rfl) (hf 0 24 d0 rfl rfl) h0
  obtain ⟨y, hy, i1⟩ := rd_LM.imm_struct Try.underlying24 (hval 1 24 v1 rfl rfl) (hf 1 24 d1 rfl rfl) h1
  obtain ⟨a, ha, i2⟩ := rd_W.imm_struct Try.underlying27 (hval 2 27 v2 rfl rfl) (hf 2 27 d2 rfl rfl) h2
  exact law_calls Try.laidOut (by kernel_rfl) rfl (by kernel_rfl) rfl rfl (joinsUnite_is hx hy a.1 a.2 .unk ha) (Imms.append (.one i0) (Imms.append (.one i1) (.one i2))) hW

theorem joinsUnite_holds : Rows.JoinsUniteSaid :=
  OpenClaim.holds_of_wide 8 Try.f8 rfl rfl rfl rfl rfl rfl rfl ⟨rfl, rfl, rfl, rfl, rfl⟩ rfl rfl rfl rfl rfl (by kernel_rfl) Try.func8 (by kernel_rfl)
    (of_decide_eq_true (by kernel_rfl)) (by unfold Func.isWrapper; first | (rw [if_pos (by decide +kernel)]; kernel_rfl) | (rw [if_neg (by decide +kernel)]; exact ⟨rfl, rfl⟩))
    (fun os started H enc _ => joinsUnite_lifted os started H enc)
#print axioms joinsUnite_holds
end Go.Proofs.Ytbiifplfohnpeaa
