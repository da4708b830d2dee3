/-
  Lemmas.
  Lemmas.
  Lemmas.
  Lemmas.
  Lemmas.
  Lemmas.
  Lemmas.
  Lemmas.
  Lemmas.
  Lemmas.
  Lemmas.
  Lemmas.
  Functions that work on objects that are there: what comes of them from given arguments and memory.
  Lemmas.
-/
import Derived.Test.YtbiifplfohnpeaaPart7
set_option linter.unusedSimpArgs false
set_option linter.unusedVariables false
set_option linter.unnecessarySimpa false
set_option linter.deprecated false
namespace Go.Avl
open Go Go.Proofs.Try
set_option maxRecDepth 10000
set_option linter.unusedSimpArgs false

theorem Valid.check {m : Mach} (h : Valid m) : checkM m = 0 := by
  have h1 := h.ins
  have h2 := h.outs
  have h3 := h.rows
  unfold checkM
  rw [if_neg (by omega), if_neg (by omega), if_pos]
  rw [List.all_eq_true]
  intro r hr
  obtain ⟨k1, k2⟩ := h.row r hr
  simp only [rowOk, Bool.and_eq_true, decide_eq_true_eq, Bool.not_eq_true', List.any_eq_false]
  exact ⟨k1, fun e he => by simpa using k2 e he⟩
theorem ints_unk (l : List Int) : AV.unkss (l.map intC) = l.map intC := unkss_map intC (fun _ => rfl) l
theorem Valid.small {q : Mach} (hq : Valid q) : ∀ r ∈ q.rows, r.2.length < 1000000 := by
  intro r hr
  have h1 := (hq.row r hr).1
  have h2 := hq.ins
  omega
theorem runF_is {m : Mach} (hv : Valid m) (nl : Bool) (w : List Int) (c : Cp) (hw : ∀ a ∈ w, 0 ≤ a ∧ a < m.ins) (hl : w.length < 1000000) (s : Int) (hs : s < m.rows.length) :
    PureIs prog 17 [.ag m.cellsF, .sc (.int .i64 s), .sl nl (w.map intC) c] (.sl (runR m s w).isEmpty ((runR m s w).map intC) .unk) := by
  refine PureIs.weak ?_
  simp only [List.map_cons, List.map_nil, AV.unk, Mach.cellsF_unk, ints_unk]
  exact run04_is hv s hs nl w .unk hw hl
theorem LM.valid {x : LM} (h : x.Ok) : Valid x.mach := by
  obtain ⟨b1, b2, b3, b4, b5, b6, -, -⟩ := LM.bounds h
  have hl : x.mach.rows.length = x.n := by simp [LM.mach]
  refine ⟨⟨by show (1 : Int) ≤ x.i; omega, by show (x.i : Int) ≤ 16; omega⟩, ⟨b5, by show x.o ≤ 16; omega⟩, by rw [hl]; omega, fun r hr => ?_⟩
  rw [hl]
  simp only [LM.mach, List.mem_map, List.mem_range] at hr ⊢
  obtain ⟨s, hs, rfl⟩ := hr
  refine ⟨by simp [LM.row], fun e he => ?_⟩
  simp only [LM.row, List.mem_map, List.mem_range] at he
  obtain ⟨i, hi, rfl⟩ := he
  obtain ⟨v1, v2⟩ := LM.v_ok h s i
  unfold LM.edge
  split
  · simp [fitsR]
  · have h1 := Int.emod_nonneg (x.v s i / 4) (b := x.n) (by omega)
    have h2 := Int.emod_lt_of_pos (x.v s i / 4) (b := x.n) (by omega)
    have h3 := Int.emod_nonneg (x.v s i / 4 / x.n) (b := x.o) (by omega)
    have h4 := Int.emod_lt_of_pos (x.v s i / 4 / x.n) (b := x.o) (by omega)
    simp [fitsR, h1, h2, h3, h4]
theorem wOf_ok {l : List Int} {n : Int} (hn : 1 ≤ n) : ∀ a ∈ wOf l n, 0 ≤ a ∧ a < n := by
  intro a ha
  simp only [wOf, List.mem_map] at ha
  obtain ⟨y, -, rfl⟩ := ha
  exact ⟨Int.emod_nonneg _ (by omega), Int.emod_lt_of_pos _ (by omega)⟩
theorem wOf_len (l : List Int) (n : Int) : (wOf l n).length ≤ 12 := by simp [wOf]; omega
theorem runR_len (m : Mach) : ∀ (s : Int) (w : List Int), (runR m s w).length = w.length
  | _, [] => rfl
  | s, a :: w => by simp only [runR, List.length_cons]; rw [runR_len m _ w]
/-! ### Machines, edge by edge -/
theorem eAt_fit {m : Mach} (hv : Valid m) {s i : Nat} (hs : s < m.rows.length) (hi : (i : Int) < m.ins) : ∃ r, m.rows[s]? = some r ∧ r.2[i]? = some (eAt m s i) ∧ (isNone (eAt m s i) = true ∨ (0 ≤ (eAt m s i).1 ∧ (eAt m s i).1 < m.rows.length ∧ 0 ≤ (eAt m s i).2 ∧ (eAt m s i).2 < m.outs)) := by
  have h1 : m.rows[s]? = some m.rows[s] := List.getElem?_eq_getElem hs
  obtain ⟨h2, h3⟩ := hv.row _ (List.getElem_mem hs)
  have h4 : (m.rows[s]).2[i]? = some ((m.rows[s]).2[i]'(by omega)) := List.getElem?_eq_getElem _
  have he := eAt_get h1 h4
  refine ⟨_, h1, by rw [he]; exact h4, ?_⟩
  have hf := fits_edge (h3 _ (List.getElem_mem (show i < (m.rows[s]).2.length by omega)))
  rw [he]
  rcases hf with h | h
  · left; simp [isNone, h]
  · exact .inr h
/-- A machine given by a table is valid. -/
theorem valid_tab {ins outs : Int} {nl : Bool} {n N : Nat} {f : Nat → Nat → Int × Int} (hN : ins = (N : Int)) (h1 : 1 ≤ N ∧ N ≤ 16) (h2 : 1 ≤ outs ∧ outs ≤ 16) (h3 : 1 ≤ n ∧ n ≤ 64)
    (hf : ∀ s i, s < n → i < N → isNone (f s i) = true ∨ (0 ≤ (f s i).1 ∧ (f s i).1 < n ∧ 0 ≤ (f s i).2 ∧ (f s i).2 < outs)) : Valid ⟨ins, outs, nl, (List.range n).map fun s => (false, (List.range N).map (f s))⟩ := by
  refine ⟨by simp only; omega, h2, by simpa using h3, fun r hr => ?_⟩
  obtain ⟨s, hs, rfl⟩ := List.mem_map.1 hr
  refine ⟨by simp [hN], fun e he => ?_⟩
  obtain ⟨i, hi, rfl⟩ := List.mem_map.1 he
  simp only [List.length_map, List.length_range]
  have := hf s i (List.mem_range.1 hs) (List.mem_range.1 hi)
  unfold fitsR
  rcases this with h | h
  · unfold isNone at h; simp only [Bool.and_eq_true, decide_eq_true_eq] at h; simp [h.1, h.2]
  · simp [h.1, h.2.1, h.2.2.1, h.2.2.2]
theorem eAt_tab {ins outs : Int} {nl : Bool} {n N : Nat} {f : Nat → Nat → Int × Int} {s i : Nat} (hs : s < n) (hi : i < N) : eAt ⟨ins, outs, nl, (List.range n).map fun s => (false, (List.range N).map (f s))⟩ s i = f s i := by
  refine eAt_get (r := (false, (List.range N).map (f s))) ?_ ?_
  · simp only; rw [List.getElem?_map, List.getElem?_range hs]; rfl
  · simp only; rw [List.getElem?_map, List.getElem?_range hi]; rfl
/-- A valid machine is its table. -/
theorem rows_tab {m : Mach} (hv : Valid m) {N : Nat} (hN : m.ins = (N : Int)) : m.rows.map (·.2) = (List.range m.rows.length).map fun s => (List.range N).map (eAt m s) := by
  refine List.ext_getElem (by simp) fun s h1 h2 => ?_
  simp only [List.getElem_map, List.getElem_range]
  have hs : s < m.rows.length := by simpa using h1
  have hr := (hv.row _ (List.getElem_mem hs)).1
  refine List.ext_getElem (by simp; omega) fun i k1 k2 => ?_
  simp only [List.getElem_map, List.getElem_range]
  exact (eAt_get (List.getElem?_eq_getElem hs) (List.getElem?_eq_getElem k1)).symm
theorem stepR_eAt {m : Mach} {s : Nat} {a : Int} (ha : 0 ≤ a) : stepR m (s : Int) a = eAt m s a.toNat := by
  rw [eAt_stepR, Int.toNat_of_nonneg ha]
theorem stepR_neg {m : Mach} {s a : Int} (hs : s < 0) : stepR m s a = (-1, -1) := by rw [stepR, if_pos hs]
/-- Responses, one step after the other, along a relation of states. -/
theorem runR_rel {m m' : Mach} {R : Int → Int → Prop} {g : Int → Int} {h : Int → Int} (hs : ∀ s s' a, R s s' → 0 ≤ a → a < m.ins → R (stepR m s a).1 (stepR m' s' (h a)).1 ∧ (stepR m' s' (h a)).2 = g (stepR m s a).2) :
    ∀ (w : List Int) (s s' : Int), R s s' → (∀ a ∈ w, 0 ≤ a ∧ a < m.ins) → runR m' s' (w.map h) = (runR m s w).map g
  | [], _, _, _, _ => rfl
  | a :: w, s, s', hR, hw => by
    obtain ⟨h0, h1⟩ := hw a List.mem_cons_self
    obtain ⟨k1, k2⟩ := hs s s' a hR h0 h1
    simp only [List.map_cons, runR]
    rw [k2, runR_rel hs w _ _ k1 fun b hb => hw b (List.mem_cons_of_mem _ hb)]

end Go.Avl
namespace Go.Avl
open Go Go.Proofs.Try
set_option maxRecDepth 10000
set_option linter.unusedSimpArgs false

/-! ### United machines -/
theorem none_neg {m : Mach} {e : Int × Int} {n : Int} (h : isNone e = true ∨ (0 ≤ e.1 ∧ e.1 < n ∧ 0 ≤ e.2 ∧ e.2 < m.outs)) (k : Int) : latE k e = besE k e := by
  unfold latE besE
  by_cases hn : isNone e = true
  · have : e.1 = -1 := by unfold isNone at hn; simp only [Bool.and_eq_true, decide_eq_true_eq] at hn; exact hn.1
    rw [if_pos hn, if_neg (by omega)]
  · rw [if_neg hn, if_pos (h.resolve_left hn).1]
theorem uniM_bes {a b : Mach} (va : Valid a) (vb : Valid b) (hio : a.ins = b.ins) : (uniM a b).rows.map (·.2) = (besM a b).rows.map (·.2) := by
  have hai := va.ins
  have e1 := rows_tab va (N := a.ins.toNat) (by omega)
  simp only [uniM, besM, List.map_append]
  rw [e1]
  congr 1
  · simp only [rowsOf, List.map_map]; rfl
  · simp only [rowsOf, List.map_map]
    refine List.map_congr_left fun s hs => ?_
    simp only [Function.comp, besRow, hio]
    refine List.map_congr_left fun i hi => ?_
    have hs := List.mem_range.1 hs
    have hi := List.mem_range.1 hi
    obtain ⟨_, _, _, h⟩ := eAt_fit vb hs (show (i : Int) < b.ins by omega)
    exact none_neg (m := b) h _
theorem uniM_len (a b : Mach) : (uniM a b).rows.length = a.rows.length + b.rows.length := by simp [uniM, rowsOf_len]
theorem uniM_a {a b : Mach} {s i : Nat} (hs : s < a.rows.length) (hi : i < a.ins.toNat) : eAt (uniM a b) s i = eAt a s i := by
  have h1 : (uniM a b).rows[s]? = (rowsOf a a.ins.toNat id)[s]? := by simp only [uniM]; rw [List.getElem?_append_left (by rw [rowsOf_len]; exact hs)]
  unfold eAt
  rw [h1, rowsOf, List.getElem?_map, List.getElem?_range hs]
  simp [hi, eAt]
theorem uniM_b {a b : Mach} {s i : Nat} (hs : s < b.rows.length) (hi : i < a.ins.toNat) : eAt (uniM a b) (a.rows.length + s) i = latE a.rows.length (eAt b s i) := by
  have h1 : (uniM a b).rows[a.rows.length + s]? = (rowsOf b a.ins.toNat (latE a.rows.length))[s]? := by
    simp only [uniM]; rw [List.getElem?_append_right (by rw [rowsOf_len]; omega), rowsOf_len, Nat.add_sub_cancel_left]
  have h2 : ∀ e : Int × Int, eAt (uniM a b) (a.rows.length + s) i = e ↔ ((((rowsOf b a.ins.toNat (latE a.rows.length))[s]?).map (·.2)).getD [])[i]?.getD (-1, -1) = e := fun e => by unfold eAt; rw [h1]
  rw [h2, rowsOf, List.getElem?_map, List.getElem?_range hs]
  simp [hi]
theorem uniM_valid {a b : Mach} (va : Valid a) (vb : Valid b) (hio : a.ins = b.ins) (h64 : a.rows.length + b.rows.length ≤ 64) : Valid (uniM a b) := by
  have hai := va.ins
  have hao := va.outs
  have hbo := vb.outs
  have hra := va.rows
  have hmo : a.outs ≤ (uniM a b).outs ∧ b.outs ≤ (uniM a b).outs ∧ (uniM a b).outs ≤ 16 := by simp only [uniM]; split <;> omega
  refine ⟨hai, by omega, by rw [uniM_len]; omega, fun r hr => ?_⟩
  rw [uniM_len]
  have key : ∀ (m : Mach) (f : Int × Int → Int × Int), r ∈ rowsOf m a.ins.toNat f → Valid m → m.ins = a.ins → (∀ e : Int × Int, (isNone e = true ∨ (0 ≤ e.1 ∧ e.1 < m.rows.length ∧ 0 ≤ e.2 ∧ e.2 < m.outs)) → fitsR ((a.rows.length + b.rows.length : Nat) : Int) (uniM a b).outs (f e).1 (f e).2 = true) →
      (r.2.length : Int) = (uniM a b).ins ∧ ∀ e ∈ r.2, fitsR ((a.rows.length + b.rows.length : Nat) : Int) (uniM a b).outs e.1 e.2 = true := by
    intro m f hr vm hm hf
    obtain ⟨s, hs, rfl⟩ := List.mem_map.1 hr
    refine ⟨by simp only [List.length_map, List.length_range, uniM]; omega, fun e he => ?_⟩
    obtain ⟨i, hi, rfl⟩ := List.mem_map.1 he
    obtain ⟨_, _, _, h⟩ := eAt_fit vm (List.mem_range.1 hs) (show (i : Int) < m.ins by have := List.mem_range.1 hi; omega)
    exact hf _ h
  simp only [uniM] at hr
  rcases List.mem_append.1 hr with hr | hr
  · refine key a id hr va rfl fun e h => ?_
    unfold fitsR
    rcases h with h | h
    · unfold isNone at h; simp only [Bool.and_eq_true, decide_eq_true_eq] at h; simp [h.1, h.2]
    · simp only [id, Bool.or_eq_true, Bool.and_eq_true, decide_eq_true_eq]; omega
  · refine key b _ hr vb hio.symm fun e h => ?_
    unfold fitsR latE
    rcases h with h | h
    · rw [if_pos h]
      unfold isNone at h; simp only [Bool.and_eq_true, decide_eq_true_eq] at h; simp [h.1, h.2]
    · rw [if_neg (by unfold isNone; simp; omega)]
      simp only [Bool.or_eq_true, Bool.and_eq_true, decide_eq_true_eq]; omega
theorem uniM_runA {a b : Mach} (va : Valid a) (w : List Int) (hw : ∀ x ∈ w, 0 ≤ x ∧ x < a.ins) : runR (uniM a b) 0 w = runR a 0 w := by
  have hai := va.ins
  have := runR_rel (m := a) (m' := uniM a b) (R := fun s s' => s' = s ∧ s < a.rows.length) (g := id) (h := id) (fun s s' x hR h0 h1 => by
    obtain ⟨rfl, hs⟩ := hR
    by_cases hn : s' < 0
    · rw [id, stepR_neg hn, stepR_neg hn]; exact ⟨⟨rfl, by simp only; omega⟩, rfl⟩
    · obtain ⟨k, rfl⟩ : ∃ k : Nat, s' = k := ⟨s'.toNat, by omega⟩
      have e : stepR (uniM a b) (k : Int) x = stepR a (k : Int) x := by rw [stepR_eAt h0, stepR_eAt h0, uniM_a (by omega) (by omega)]
      rw [id, e]
      exact ⟨⟨rfl, stepR_lt va hs ⟨h0, h1⟩⟩, rfl⟩) w 0 0 ⟨rfl, by have := va.rows; omega⟩ hw
  simpa using this
theorem uniM_runB {a b : Mach} (va : Valid a) (vb : Valid b) (hio : a.ins = b.ins) (w : List Int) (hw : ∀ x ∈ w, 0 ≤ x ∧ x < b.ins) {s : Nat} (hs : s < b.rows.length) : runR (uniM a b) ((a.rows.length : Int) + s) w = runR b s w := by
  have hai := va.ins
  have := runR_rel (m := b) (m' := uniM a b) (R := fun s s' => (s < 0 ∧ s' < 0) ∨ (0 ≤ s ∧ s < b.rows.length ∧ s' = a.rows.length + s)) (g := id) (h := id) (fun s s' x hR h0 h1 => by
    rcases hR with ⟨k1, k2⟩ | ⟨k1, k2, rfl⟩
    · rw [id, stepR_neg k1, stepR_neg k2]; exact ⟨.inl ⟨by decide, by decide⟩, rfl⟩
    · obtain ⟨k, rfl⟩ : ∃ k : Nat, s = k := ⟨s.toNat, by omega⟩
      have e : stepR (uniM a b) ((a.rows.length : Int) + (k : Int)) x = latE a.rows.length (eAt b k x.toNat) := by
        rw [show (a.rows.length : Int) + (k : Int) = ((a.rows.length + k : Nat) : Int) by omega, stepR_eAt h0, uniM_b (by omega) (by omega)]
      obtain ⟨_, _, _, h⟩ := eAt_fit vb (show k < b.rows.length by omega) (show ((x.toNat : Nat) : Int) < b.ins by omega)
      rw [id, e, stepR_eAt h0]
      unfold latE
      by_cases hn : isNone (eAt b k x.toNat) = true
      · rw [if_pos hn]
        have : (eAt b k x.toNat).1 = -1 := by unfold isNone at hn; simp only [Bool.and_eq_true, decide_eq_true_eq] at hn; exact hn.1
        exact ⟨.inl ⟨by omega, by omega⟩, rfl⟩
      · rw [if_neg hn]
        have h := h.resolve_left hn
        exact ⟨.inr ⟨h.1, h.2.1, by simp only; omega⟩, rfl⟩) w s ((a.rows.length : Int) + s) (.inr ⟨by omega, by omega, rfl⟩) hw
  simpa using this
end Go.Avl
namespace Go.Avl
open Go Go.Proofs.Try
set_option maxRecDepth 10000
set_option linter.unusedSimpArgs false

theorem wcells_norefs (nl : Bool) (w : List Int) (c : Cp) : AV.norefs [.sl nl (w.map u8C) c] = true := by simp [AV.norefs, AV.noref]
theorem joinsUnite_is {x y : LM} (hx : x.Ok) (hy : y.Ok) (nl : Bool) (w : List Int) (c : Cp) (hw : ∀ a ∈ w, 0 ≤ a ∧ a < 256) : PureIs prog 8 [.ag x.cells, .ag y.cells, .ag [.sl nl (w.map u8C) c]] (.sc (.bool true)) := by
  obtain ⟨z, hz⟩ : ∃ z : LM, z = { y with ins := x.ins } := ⟨_, rfl⟩
  have hzo : z.Ok := by rw [hz]; exact ⟨hy.st, hx.ins, hy.outs, hy.es⟩
  have va := LM.valid hx
  have vb := LM.valid hzo
  obtain ⟨a, ha⟩ : ∃ a, a = x.mach := ⟨_, rfl⟩
  obtain ⟨b, hb⟩ : ∃ b, b = z.mach := ⟨_, rfl⟩
  rw [← ha] at va
  rw [← hb] at vb
  refine PureIs.of (nv := 13) (hid := [42, 47, 63]) func8 rfl (by kernel_rfl) (by simp [ntmps8]) fun _ => ?_
  rw [ntmps8, results8]
  have hA : PureIs prog 12 [.ag [.sc (.int .u8 x.st), .sc (.int .u8 x.ins), .sc (.int .u8 x.outs), .sc (.bool x.part), .sl x.nl (x.es.map u16C) x.cap]] (.ag [.sc (.int .i64 a.ins), .sc (.int .i64 a.outs), .sl a.nl (a.rows.map rowC) .unk]) := by
    have := mOf_is hx; rw [← ha] at this; exact this
  have hB : PureIs prog 12 [.ag [.sc (.int .u8 y.st), .sc (.int .u8 x.ins), .sc (.int .u8 y.outs), .sc (.bool y.part), .sl y.nl (y.es.map u16C) y.cap]] (.ag [.sc (.int .i64 b.ins), .sc (.int .i64 b.outs), .sl b.nl (b.rows.map rowC) .unk]) := by
    have := mOf_is hzo; rw [← hb, hz] at this; exact this
  have hio : a.ins = b.ins := by rw [ha, hb, hz]; rfl
  have hra : a.rows.length ≤ 6 := by rw [ha]; simp only [LM.mach, List.length_map, List.length_range]; have := LM.bounds hx; omega
  have hrb : b.rows.length ≤ 6 := by rw [hb]; simp only [LM.mach, List.length_map, List.length_range]; have := LM.bounds hzo; omega
  have hab : a.outs ≤ 3 ∧ b.outs ≤ 3 := by rw [ha, hb]; simp only [LM.mach]; have := LM.bounds hx; have := LM.bounds hzo; omega
  refine EvC.seq (EvC.rg (by (simp only [go_sem, LM.cells]) <;> rfl) (by simp) ?_)
  refine EvC.seq (EvC.rg (by (simp only [go_sem]) <;> rfl) (by simp) ?_)
  apply EvC.seq
  apply EvC.drw mixed
  · apply Tr.run
    · (simp only [go_sem]) <;> rfl
    · simp
    apply Tr.cons
    · exact .call rfl rfl (by (simp only [go_sem]) <;> rfl) (by (simp only [go_sem]) <;> rfl) (by (simp only [go_sem]) <;> rfl) (by (simp only [go_sem]) <;> rfl) (by (simp only [go_sem]) <;> rfl) (hA)
    apply Tr.run
    · (simp only [go_sem]) <;> rfl
    · simp
    apply Tr.cons
    · exact .call rfl rfl (by (simp only [go_sem]) <;> rfl) (by (simp only [go_sem]) <;> rfl) (by (simp only [go_sem]) <;> rfl) (by (simp only [go_sem]) <;> rfl) (by (simp only [go_sem]) <;> rfl) (hB)
    apply Tr.done
    · (simp only [go_sem]) <;> rfl
    · simp
  · kernel_rfl
  refine EvC.frzB 12 (by (simp only [go_sem]) <;> rfl) ?_
  refine EvC.frzB 13 (by (simp only [go_sem]) <;> rfl) ?_
  refine EvC.frzB 2 (by (simp only [go_sem]) <;> rfl) ?_
  obtain ⟨W, hW⟩ : ∃ W, W = wOf w a.ins := ⟨_, rfl⟩
  have hai := va.ins
  have hWl : W.length ≤ 12 := by rw [hW]; exact wOf_len _ _
  have hWo : ∀ v ∈ W, 0 ≤ v ∧ v < a.ins := by rw [hW]; exact wOf_ok (by omega)
  have hWC : PureIs prog 13 [.ag [.sl nl (w.map u8C) c], .sc (.int .i64 a.ins)] (.sl W.isEmpty (W.map intC) .unk) := by
    rw [hW]; exact wOf_is nl w c a.ins (by omega) hw
  obtain ⟨m, hm⟩ : ∃ m, m = uniM a b := ⟨_, rfl⟩
  have hv64 : a.rows.length + b.rows.length ≤ 64 := by omega
  have vm : Valid m := by rw [hm]; exact uniM_valid va vb hio hv64
  have hU : PureIs prog 32 [.ag a.cells, .ag b.cells] (.tu [.ag [.sc (.int .i64 m.ins), .sc (.int .i64 m.outs), .sl m.nl (m.rows.map rowG) .full], .sc (.int .i64 0)]) := by
    have := unite_is a b va.small vb.small
    rw [uniteA, if_neg (by simp [bothE_of va.check vb.check]), if_neg (by simp [hio]), if_neg (by omega), ← hm] at this
    exact this
  have hml : m.rows.length = a.rows.length + b.rows.length := by rw [hm]; exact uniM_len a b
  have har := va.rows
  have hMC : PureIs prog 21 [.ag m.cellsF, .sc (.int .i64 0), .ag (besM a b).cells] (.sc (.bool true)) := machine_is (by rw [hm]; rfl) (by rw [hm]; rfl) (by rw [hm]; exact uniM_bes va vb hio) (by omega) vm.small
  have hRm := runF_is vm W.isEmpty W .unk (by rw [hm]; exact hWo) (by omega)
  have hRb := fun s hs => run04_is vb s hs W.isEmpty W .unk (by rw [← hio]; exact hWo) (by omega)
  have hRa := fun s hs => run04_is va s hs W.isEmpty W .unk hWo (by omega)
  have hm0 : decide ((m.rows.length : Int) = 0) = false := decide_eq_false (by omega)
  apply EvC.seq
  apply EvC.tr
  · apply Tr.run
    · (simp only [go_sem]) <;> rfl
    · simp
    apply Tr.cons
    · exact .call rfl rfl (by (simp only [go_sem]) <;> rfl) (by (simp only [go_sem]) <;> rfl) (by (simp only [go_sem]) <;> rfl) (by (simp only [go_sem]) <;> rfl) (by (simp only [go_sem]) <;> rfl) (hWC)
    apply Tr.done
    · (simp only [go_sem]) <;> rfl
    · simp
  apply EvC.seq
  apply EvC.tr
  · apply Tr.run
    · (simp only [go_sem]) <;> rfl
    · simp
    apply Tr.cons
    · exact .call rfl rfl (by (simp only [go_sem]) <;> rfl) (by (simp only [go_sem]) <;> rfl) (by (simp only [go_sem]) <;> rfl) (by (simp only [go_sem]) <;> rfl) (by (simp only [go_sem]) <;> rfl) (hU)
    apply Tr.done
    · (simp only [go_sem]) <;> rfl
    · simp
  refine EvC.seq ?_
  apply EvC.seq
  apply EvC.drw mixed
  · apply Tr.run
    · (simp only [go_sem, hm0]) <;> rfl
    · simp
    apply Tr.cons
    · exact .callG rfl rfl (by (simp only [go_sem]) <;> rfl) rfl (by (simp only [go_sem]) <;> rfl) (by (simp only [go_sem]) <;> rfl) (by (simp only [go_sem]) <;> rfl) (by (simp only [go_sem]) <;> rfl) (by (simp only [go_sem]) <;> rfl) (beside_is va vb)
    apply Tr.run
    · (simp only [go_sem, hm0]) <;> rfl
    · simp
    apply Tr.cons
    · exact .callG rfl rfl (by (simp only [go_sem]) <;> rfl) rfl (by (simp only [go_sem]) <;> rfl) (by (simp only [go_sem]) <;> rfl) (by (simp only [go_sem]) <;> rfl) (by (simp only [go_sem]) <;> rfl) (by (simp only [go_sem]) <;> rfl) (hMC)
    apply Tr.done
    · (simp only [go_sem]) <;> rfl
    · simp
  · kernel_rfl
  refine EvC.cond_false (by (simp only [go_sem]) <;> rfl) ?_
  refine EvC.skip ?_
  refine EvC.seq ?_
  refine EvC.frzB 27 (by (simp only [go_sem]) <;> rfl) ?_
  refine EvC.seq (EvC.rg (by (simp only [go_sem]) <;> rfl) (by simp) ?_)
  refine EvC.block ?_  -- 0
  refine EvC.loopS (σ := Nat) (fun i => ⟨[(7, .ia a.cells), (8, .ia b.cells), (9, .sl W.isEmpty (W.map intC) .unk), (10, .ia m.cellsF), (12, .sc (.int .i64 i))], [], [], 0⟩) (fun i => b.rows.length - i) (fun i => i ≤ b.rows.length) [7, 8, 9, 10, 12] 0 ?_ ?_
  · exact ⟨[], 0, rfl, (by (simp only [go_sem, Mach.cells, Mach.cellsF, Int.natCast_zero]) <;> rfl), Nat.zero_le _⟩
  intro i h1
  refine EvC.seq ?_
  refine EvC.seq (EvC.rg (by (simp only [go_sem, Mach.cells, List.length_map]) <;> rfl) (by simp) ?_)
  refine EvC.cond (by (simp only [go_sem]) <;> rfl) (fun hc => ?_) (fun hc => ?_)
  rotate_left
  · refine EvC.exit ?_  -- 0
    have e1 : runR m 0 W = runR a 0 W := by rw [hm]; exact uniM_runA va W hWo
    have hS : PureIs prog 30 [.sl (runR m 0 W).isEmpty ((runR m 0 W).map intC) .unk, .sl (runR a 0 W).isEmpty ((runR a 0 W).map intC) .unk] (.sc (.bool true)) := by
      have := same_is (runR m 0 W).isEmpty (runR m 0 W) .unk (runR a 0 W).isEmpty (runR a 0 W) .unk (by rw [runR_len]; omega)
      rwa [decide_eq_true e1] at this
    apply EvC.seq
    apply EvC.drw mixed
    · apply Tr.run
      · (simp only [go_sem, Mach.cells, Mach.cellsF]) <;> rfl
      · simp
      apply Tr.cons
      · exact .call rfl rfl (by (simp only [go_sem]) <;> rfl) (by (simp only [go_sem]) <;> rfl) (by (simp only [go_sem]) <;> rfl) (by (simp only [go_sem]) <;> rfl) (by (simp only [go_sem]) <;> rfl) (hRm 0 (by omega))
      apply Tr.run
      · (simp only [go_sem, Mach.cells, Mach.cellsF]) <;> rfl
      · simp
      apply Tr.cons
      · exact .call rfl rfl (by (simp only [go_sem]) <;> rfl) (by (simp only [go_sem]) <;> rfl) (by (simp only [go_sem]) <;> rfl) (by (simp only [go_sem]) <;> rfl) (by (simp only [go_sem]) <;> rfl) (hRa 0 (by omega))
      apply Tr.run
      · (simp only [go_sem, Mach.cells, Mach.cellsF]) <;> rfl
      · simp
      apply Tr.cons
      · exact .call rfl rfl (by (simp only [go_sem]) <;> rfl) (by (simp only [go_sem]) <;> rfl) (by (simp only [go_sem]) <;> rfl) (by (simp only [go_sem]) <;> rfl) (by (simp only [go_sem]) <;> rfl) (hS)
      apply Tr.run
      · (simp only [go_sem, Mach.cells, Mach.cellsF]) <;> rfl
      · simp
      apply Tr.cons
      · exact .callG rfl rfl (by (simp only [go_sem]) <;> rfl) rfl (by (simp only [go_sem]) <;> rfl) (by (simp only [go_sem]) <;> rfl) (by (simp only [go_sem]) <;> rfl) (by (simp only [go_sem]) <;> rfl) (by (simp only [go_sem]) <;> rfl) (lives_is)
      apply Tr.done
      · (simp only [go_sem]) <;> rfl
      · simp
    · kernel_rfl
    refine EvC.ret ⟨.inl rfl, _, (by (simp only [go_sem]) <;> rfl), ?_, rfl⟩
    simp only [go_sem]
  have hi : i < b.rows.length := by simpa using hc
  clear hc
  have hI : inI64 ((a.rows.length : Int) + i) = true := inI64_of (by omega) (by omega)
  have e2 : runR m ((a.rows.length : Int) + i) W = runR b i W := by rw [hm]; exact uniM_runB va vb hio W (by rw [← hio]; exact hWo) hi
  have hS : PureIs prog 30 [.sl (runR m ((a.rows.length : Int) + i) W).isEmpty ((runR m ((a.rows.length : Int) + i) W).map intC) .unk, .sl (runR b i W).isEmpty ((runR b i W).map intC) .unk] (.sc (.bool true)) := by
    have := same_is (runR m ((a.rows.length : Int) + i) W).isEmpty (runR m ((a.rows.length : Int) + i) W) .unk (runR b i W).isEmpty (runR b i W) .unk (by rw [runR_len]; omega)
    rwa [decide_eq_true e2] at this
  refine EvC.skip ?_
  refine EvC.seq ?_
  refine EvC.block ?_  -- 1
  apply EvC.seq
  apply EvC.drw mixed
  · apply Tr.run
    · (simp only [go_sem, List.length_map, Mach.cells, Mach.cellsF]) <;> rfl
    · simp [hI]
    apply Tr.cons
    · exact .call rfl rfl (by (simp only [go_sem]) <;> rfl) (by (simp only [go_sem]) <;> rfl) (by (simp only [go_sem]) <;> rfl) (by (simp only [go_sem]) <;> rfl) (by (simp only [go_sem]) <;> rfl) (hRm ((a.rows.length : Int) + i) (by omega))
    apply Tr.run
    · (simp only [go_sem, List.length_map, Mach.cells, Mach.cellsF]) <;> rfl
    · simp [hI]
    apply Tr.cons
    · exact .call rfl rfl (by (simp only [go_sem]) <;> rfl) (by (simp only [go_sem]) <;> rfl) (by (simp only [go_sem]) <;> rfl) (by (simp only [go_sem]) <;> rfl) (by (simp only [go_sem]) <;> rfl) (hRb i (by omega))
    apply Tr.run
    · (simp only [go_sem, List.length_map, Mach.cells, Mach.cellsF]) <;> rfl
    · simp [hI]
    apply Tr.cons
    · exact .call rfl rfl (by (simp only [go_sem]) <;> rfl) (by (simp only [go_sem]) <;> rfl) (by (simp only [go_sem]) <;> rfl) (by (simp only [go_sem]) <;> rfl) (by (simp only [go_sem]) <;> rfl) (hS)
    apply Tr.done
    · (simp only [go_sem]) <;> rfl
    · simp
  · kernel_rfl
  refine EvC.cond_false (by (simp only [go_sem]) <;> rfl) ?_
  refine EvC.skip ?_
  refine EvC.rg (by (simp only [go_sem]) <;> rfl) (by exact inI64_of (by omega) (by omega)) ?_
  exact ⟨[], i + 1, rfl, (by (simp only [go_sem, Int.natCast_add, Int.natCast_one]) <;> rfl), hi, by omega⟩
end Go.Avl
namespace Go.Avl
open Go Go.Proofs.Try
set_option maxRecDepth 10000
set_option linter.unusedSimpArgs false

/-! ### Restricted machines -/
def gAt (l : List Int) (i : Int) : Int := (l[i.toNat]?).getD 0
def resF (m : Mach) (l : List Int) (s k : Nat) : Int × Int := eAt m s (gAt l k).toNat
theorem map_gAt {α : Type} (f : Int → α) (l : List Int) : l.map f = (List.range l.length).map fun k : Nat => f (gAt l k) := by
  refine List.ext_getElem (by simp) fun k h1 h2 => ?_
  have : k < l.length := by simpa using h1
  simp [gAt, this]
theorem resM_tab (m : Mach) (l : List Int) : resM m l = ⟨l.length, m.outs, false, (List.range m.rows.length).map fun s => (false, (List.range l.length).map (resF m l s))⟩ := by
  unfold resM resRow
  congr 1
  refine List.map_congr_left fun s _ => ?_
  rw [map_gAt]; rfl
theorem gAt_mem {l : List Int} {k : Nat} (h : k < l.length) : gAt l k ∈ l := by
  simp [gAt, h]
theorem gAt_get {l : List Int} {k : Nat} {x : Int} (h : l[k]? = some x) : gAt l k = x := by simp [gAt, h]
theorem resM_valid {m : Mach} (hv : Valid m) {l : List Int} (hl : l.length ≤ 16) (ho : okIns m l = true) : Valid (resM m l) := by
  obtain ⟨h1, -, h3⟩ := okIns_true.1 ho
  have h4 : 1 ≤ l.length := by
    cases l with
    | nil => exact absurd rfl h3
    | cons a b => simp
  rw [resM_tab]
  refine valid_tab rfl ⟨h4, hl⟩ hv.outs hv.rows fun s k hs hk => ?_
  have hg := h1 _ (gAt_mem hk)
  obtain ⟨_, _, _, h⟩ := eAt_fit hv hs (show (((gAt l k).toNat : Nat) : Int) < m.ins by omega)
  exact h
theorem resM_len (m : Mach) (l : List Int) : (resM m l).rows.length = m.rows.length := by simp [resM]
theorem resM_step {m : Mach} {l : List Int} (ho : okIns m l = true) {s k : Int} (hs : s < m.rows.length) (hk : 0 ≤ k ∧ k < l.length) : stepR (resM m l) s k = stepR m s (gAt l k) := by
  by_cases hn : s < 0
  · rw [stepR_neg hn, stepR_neg hn]
  obtain ⟨s, rfl⟩ : ∃ t : Nat, s = t := ⟨s.toNat, by omega⟩
  obtain ⟨k, rfl⟩ : ∃ t : Nat, k = t := ⟨k.toNat, by omega⟩
  have hg := (okIns_true.1 ho).1 _ (gAt_mem (l := l) (k := k) (by omega))
  rw [stepR_eAt (by omega), stepR_eAt hg.1, resM_tab, eAt_tab (by omega) (by omega)]
  rfl
theorem afterR_rel {m m' : Mach} {R : Int → Int → Prop} {h : Int → Int} (hs : ∀ s s' a, R s s' → 0 ≤ a → a < m.ins → R (stepR m s a).1 (stepR m' s' (h a)).1) :
    ∀ (w : List Int) (s s' : Int), R s s' → (∀ a ∈ w, 0 ≤ a ∧ a < m.ins) → R (afterR m s w) (afterR m' s' (w.map h))
  | [], _, _, hR, _ => hR
  | a :: w, s, s', hR, hw => by
    obtain ⟨h0, h1⟩ := hw a List.mem_cons_self
    exact afterR_rel hs w _ _ (hs s s' a hR h0 h1) fun b hb => hw b (List.mem_cons_of_mem _ hb)
theorem resM_rel {m : Mach} (hv : Valid m) {l : List Int} (ho : okIns m l = true) (s s' a : Int) (hR : s' = s ∧ s < m.rows.length) (h0 : 0 ≤ a) (h1 : a < (resM m l).ins) :
    ((stepR m s' (gAt l a)).1 = (stepR (resM m l) s a).1 ∧ (stepR (resM m l) s a).1 < m.rows.length) ∧ (stepR m s' (gAt l a)).2 = (stepR (resM m l) s a).2 := by
  obtain ⟨rfl, hs⟩ := hR
  have h1 : a < l.length := h1
  rw [resM_step ho hs ⟨h0, h1⟩]
  obtain ⟨k, rfl⟩ : ∃ t : Nat, a = t := ⟨a.toNat, by omega⟩
  exact ⟨⟨rfl, stepR_lt hv hs ((okIns_true.1 ho).1 _ (gAt_mem (by omega)))⟩, rfl⟩
theorem resM_run {m : Mach} (hv : Valid m) {l : List Int} (ho : okIns m l = true) {w : List Int} (hw : ∀ a ∈ w, 0 ≤ a ∧ a < (l.length : Int)) {s : Int} (hs : s < m.rows.length) : runR m s (w.map (gAt l)) = runR (resM m l) s w := by
  have := runR_rel (m := resM m l) (m' := m) (R := fun s s' => s' = s ∧ s < m.rows.length) (g := id) (h := gAt l) (fun s s' a hR h0 h1 => resM_rel hv ho s s' a hR h0 h1) w s s ⟨rfl, hs⟩ hw
  simpa using this
theorem resM_after {m : Mach} (hv : Valid m) {l : List Int} (ho : okIns m l = true) {w : List Int} (hw : ∀ a ∈ w, 0 ≤ a ∧ a < (l.length : Int)) {s : Int} (hs : s < m.rows.length) : afterR m s (w.map (gAt l)) = afterR (resM m l) s w :=
  (afterR_rel (m := resM m l) (m' := m) (R := fun s s' => s' = s ∧ s < m.rows.length) (h := gAt l) (fun s s' a hR h0 h1 => (resM_rel hv ho s s' a hR h0 h1).1) w s s ⟨rfl, hs⟩ hw).1
theorem afterF_is {m : Mach} (hv : Valid m) (nl : Bool) (w : List Int) (c : Cp) (hw : ∀ a ∈ w, 0 ≤ a ∧ a < m.ins) (hl : w.length < 1000000) (s : Int) (hs : s < m.rows.length) :
    PureIs prog 31 [.ag m.cellsF, .sc (.int .i64 s), .sl nl (w.map intC) c] (.sc (.int .i64 (afterR m s w))) := by
  refine PureIs.weak ?_
  simp only [List.map_cons, List.map_nil, AV.unk, Mach.cellsF_unk, ints_unk]
  exact after22_is hv w s nl .unk hs hw hl

/-! ### Lists of inputs, as far as they are read -/
def goodB (m : Mach) (l : List Int) : Bool := (l.all fun x => decide (0 ≤ x) && decide (x < m.ins)) && decide l.Nodup
def errO (b : Bool) : Int := if b = true then 0 else 1
theorem okIns_good (m : Mach) (l : List Int) : okIns m l = (goodB m l && !l.isEmpty) := rfl
theorem goodB_snoc (m : Mach) (l : List Int) (x : Int) : goodB m (l ++ [x]) = ((goodB m l && decide (x ∉ l)) && (decide (0 ≤ x) && decide (x < m.ins))) := by
  rw [Bool.eq_iff_iff]
  simp only [goodB, List.all_append, List.all_cons, List.all_nil, Bool.and_true, Bool.and_eq_true, List.all_eq_true, decide_eq_true_eq, List.nodup_append, List.nodup_cons, List.not_mem_nil, not_false_eq_true, List.nodup_nil, and_self, true_and, List.mem_cons, or_false, forall_eq, ne_eq]
  constructor
  · rintro ⟨⟨h1, h2⟩, h3, h4⟩
    exact ⟨⟨⟨h1, h3⟩, fun h => h4 x h rfl⟩, h2⟩
  · rintro ⟨⟨⟨h1, h3⟩, h4⟩, h2⟩
    exact ⟨⟨h1, h2⟩, h3, fun a ha hx => h4 (hx ▸ ha)⟩
theorem errO_false {b : Bool} (h : b = false) : errO b = 1 := by rw [h]; rfl
theorem restrictA_tu (a : Mach) (ha : checkM a = 0) (l : List Int) : ∃ (M : Mach) (cp : Cp) (e : Int), restrictA a l = .tu [.ag [.sc (.int .i64 M.ins), .sc (.int .i64 M.outs), .sl M.nl (M.rows.map rowG) cp], .sc (.int .i64 e)] ∧ ((16 < l.length ∧ M = ⟨0, 0, true, []⟩ ∧ cp = .zer ∧ e = 3) ∨ (l.length ≤ 16 ∧ okIns a l = false ∧ M = ⟨0, 0, true, []⟩ ∧ cp = .zer ∧ e = 1) ∨ (l.length ≤ 16 ∧ okIns a l = true ∧ M = resM a l ∧ cp = .full ∧ e = 0)) := by
  unfold restrictA
  rw [if_neg (by simp [ha])]
  by_cases h : 16 < l.length
  · rw [if_pos h]
    exact ⟨⟨0, 0, true, []⟩, .zer, 3, rfl, .inl ⟨h, rfl, rfl, rfl⟩⟩
  rw [if_neg h]
  by_cases ho : okIns a l = true
  · rw [if_pos ho]
    exact ⟨resM a l, .full, 0, rfl, .inr (.inr ⟨by omega, ho, rfl, rfl, rfl⟩)⟩
  · rw [if_neg ho]
    exact ⟨⟨0, 0, true, []⟩, .zer, 1, rfl, .inr (.inl ⟨by omega, by simpa using ho, rfl, rfl, rfl⟩)⟩
end Go.Avl
namespace Go.Avl
open Go Go.Proofs.Try
set_option maxRecDepth 10000
set_option linter.unusedSimpArgs false

theorem joinsRestrict_is {x : LM} (hx : x.Ok) (nl : Bool) (l : List Int) (c : Cp) (wn : Bool) (w : List Int) (wc : Cp) (hw : ∀ a ∈ w, 0 ≤ a ∧ a < 256) : PureIs prog 7 [.ag x.cells, .sl nl (l.map intC) c, .ag [.sl wn (w.map u8C) wc]] (.sc (.bool true)) := by
  have va := LM.valid hx
  obtain ⟨a, ha⟩ : ∃ a, a = x.mach := ⟨_, rfl⟩
  rw [← ha] at va
  have hA : PureIs prog 12 [.ag [.sc (.int .u8 x.st), .sc (.int .u8 x.ins), .sc (.int .u8 x.outs), .sc (.bool x.part), .sl x.nl (x.es.map u16C) x.cap]] (.ag [.sc (.int .i64 a.ins), .sc (.int .i64 a.outs), .sl a.nl (a.rows.map rowC) .unk]) := by
    have := mOf_is hx; rw [← ha] at this; exact this
  have hra := va.rows
  have hai := va.ins
  refine PureIs.of (nv := 4) (hid := [5, 6, 7, 8, 9, 10, 11, 12, 13, 14, 15, 16, 19, 31, 36, 47, 61, 64, 67, 69, 106, 114, 131, 154]) func7 rfl (by kernel_rfl) (by simp [ntmps7]) fun _ => ?_
  rw [ntmps7, results7]
  refine EvC.seq (EvC.rg (by (simp only [go_sem, LM.cells]) <;> rfl) (by simp) ?_)
  refine EvC.seq ?_
  refine EvC.seq (EvC.rg (by (simp only [go_sem]) <;> rfl) (by simp) ?_)
  refine EvC.cond (by (simp only [go_sem, List.length_map]) <;> rfl) (fun hc => ?_) (fun hc => ?_)
  · -- then
    refine EvC.seq (EvC.rg (by (simp only [go_sem]) <;> rfl) (by simp) ?_)
    refine EvC.ret ⟨.inl rfl, _, (by (simp only [go_sem]) <;> rfl), ?_, rfl⟩
    simp only [go_sem]
  have hl40 : l.length ≤ 40 := by have : ¬ (40 : Int) < l.length := by simpa using hc
                                  omega
  clear hc
  have hRs := restrict_is a va.small nl l c (by omega)
  obtain ⟨M, cp, e, hM, hcs⟩ := restrictA_tu a va.check l
  rw [hM] at hRs
  refine EvC.skip ?_
  apply EvC.seq
  apply EvC.tr
  · apply Tr.run
    · (simp only [go_sem]) <;> rfl
    · simp
    apply Tr.cons
    · exact .call rfl rfl (by (simp only [go_sem]) <;> rfl) (by (simp only [go_sem]) <;> rfl) (by (simp only [go_sem]) <;> rfl) (by (simp only [go_sem]) <;> rfl) (by (simp only [go_sem]) <;> rfl) (hA)
    apply Tr.done
    · (simp only [go_sem]) <;> rfl
    · simp
  apply EvC.seq
  apply EvC.tr
  · apply Tr.run
    · (simp only [go_sem]) <;> rfl
    · simp
    apply Tr.cons
    · exact .call rfl rfl (by (simp only [go_sem]) <;> rfl) (by (simp only [go_sem]) <;> rfl) (by (simp only [go_sem]) <;> rfl) (by (simp only [go_sem]) <;> rfl) (by (simp only [go_sem]) <;> rfl) (hRs)
    apply Tr.done
    · (simp only [go_sem]) <;> rfl
    · simp
  refine EvC.frzB 1 (by (simp only [go_sem]) <;> rfl) ?_
  refine EvC.frzB 8 (by (simp only [go_sem]) <;> rfl) ?_
  refine EvC.frzB 16 (by (simp only [go_sem]) <;> rfl) ?_
  obtain ⟨Mc, hMc⟩ : ∃ Mc : List AV, Mc = [.sc (.int .i64 M.ins), .sc (.int .i64 M.outs), .sl M.nl (M.rows.map rowG) cp] := ⟨_, rfl⟩
  have hMn : AV.norefs Mc = true := by rw [hMc]; simp [AV.norefs, AV.noref]
  rw [← hMc]
  refine EvC.seq (EvC.rg (by (simp only [go_sem]) <;> rfl) (by simp) ?_)
  refine EvC.seq ?_
  refine EvC.seq (EvC.rg (by (simp only [go_sem]) <;> rfl) (by simp) ?_)
  refine EvC.block ?_  -- 0
  refine EvC.loopS (σ := Nat) (fun k => ⟨[(1, .sl nl (l.map intC) c), (5, .ia [.sl wn (w.map u8C) wc]), (7, .ia a.cells), (8, .ia Mc), (9, .sc (.int .i64 e)), (10, .sc (.int .i64 (errO (goodB a (l.take k))))), (11, .sc (.int .i64 k))], [], [], 0⟩) (fun k => l.length - k) (fun k => k ≤ l.length) [1, 5, 7, 8, 9, 10, 11] 0 ?_ ?_
  · exact ⟨[], 0, rfl, (by (simp only [go_sem, Mach.cells, Int.natCast_zero, List.take_zero, errO, goodB, List.all_nil, List.nodup_nil, decide_true, Bool.and_true]) <;> rfl), Nat.zero_le _⟩
  intro k hk
  refine EvC.seq ?_
  refine EvC.seq (EvC.rg (by (simp only [go_sem, List.length_map]) <;> rfl) (by simp) ?_)
  refine EvC.cond (by (simp only [go_sem]) <;> rfl) (fun hc => ?_) (fun hc => ?_)
  rotate_left
  · -- else
    refine EvC.exit ?_  -- 0
    obtain rfl : l.length = k := by have : ¬ k < l.length := by simpa using hc
                                    omega
    clear hc
    rw [List.take_length]
    rcases hcs with ⟨h16, rfl, rfl, rfl⟩ | ⟨h16, ho, rfl, rfl, rfl⟩ | ⟨h16, ho, hMm, rfl, rfl⟩
    · -- too many
      have d0 : decide ((l.length : Int) = 0) = false := decide_eq_false (by omega)
      have d1 : decide ((16 : Int) < l.length) = true := decide_eq_true (by omega)
      subst hMc
      refine EvC.seq ?_
      refine EvC.seq (EvC.rg (by (simp only [go_sem, List.length_map]) <;> rfl) (by simp) ?_)
      refine EvC.cond_false (by (simp only [go_sem, d0]) <;> rfl) ?_
      refine EvC.skip ?_
      refine EvC.seq ?_
      refine EvC.seq (EvC.rg (by (simp only [go_sem, List.length_map]) <;> rfl) (by simp) ?_)
      refine EvC.cond_true (by (simp only [go_sem, d1]) <;> rfl) ?_
      refine EvC.rg (by (simp only [go_sem]) <;> rfl) (by simp) ?_
      refine EvC.seq ?_
      refine EvC.seq (EvC.rg (by (simp only [go_sem]) <;> rfl) (by simp) ?_)
      refine EvC.cond_true (by (simp only [go_sem]) <;> rfl) ?_
      apply EvC.seq
      apply EvC.tr
      · apply Tr.run
        · (simp only [go_sem]) <;> rfl
        · simp
        apply Tr.cons
        · exact .call rfl rfl (by (simp only [go_sem]) <;> rfl) (by (simp only [go_sem]) <;> rfl) (by (simp only [go_sem]) <;> rfl) (by (simp only [go_sem]) <;> rfl) (by (simp only [go_sem]) <;> rfl) (nothing_is 3 .zer)
        apply Tr.run
        · (simp only [go_sem]) <;> rfl
        · simp
        apply Tr.cons
        · exact .callG rfl rfl (by (simp only [go_sem]) <;> rfl) rfl (by (simp only [go_sem]) <;> rfl) (by (simp only [go_sem]) <;> rfl) (by (simp only [go_sem]) <;> rfl) (by (simp only [go_sem]) <;> rfl) (by (simp only [go_sem]) <;> rfl) (lives_is)
        apply Tr.done
        · (simp only [go_sem]) <;> rfl
        · simp
      refine EvC.ret ⟨.inl rfl, _, (by (simp only [go_sem]) <;> rfl), ?_, rfl⟩
      simp only [go_sem]
    · -- no list of inputs
      have d1 : decide ((16 : Int) < l.length) = false := decide_eq_false (by omega)
      subst hMc
      refine EvC.seq ?_
      refine EvC.seq (EvC.rg (by (simp only [go_sem, List.length_map]) <;> rfl) (by simp) ?_)
      by_cases h0 : l.length = 0
      · have d0 : decide ((l.length : Int) = 0) = true := decide_eq_true (by omega)
        refine EvC.cond_true (by (simp only [go_sem, d0]) <;> rfl) ?_
        refine EvC.rg (by (simp only [go_sem]) <;> rfl) (by simp) ?_
        refine EvC.seq ?_
        refine EvC.seq (EvC.rg (by (simp only [go_sem, List.length_map]) <;> rfl) (by simp) ?_)
        refine EvC.cond_false (by (simp only [go_sem, d1]) <;> rfl) ?_
        refine EvC.skip ?_
        refine EvC.seq ?_
        refine EvC.seq (EvC.rg (by (simp only [go_sem]) <;> rfl) (by simp) ?_)
        refine EvC.cond_true (by (simp only [go_sem]) <;> rfl) ?_
        apply EvC.seq
        apply EvC.tr
        · apply Tr.run
          · (simp only [go_sem]) <;> rfl
          · simp
          apply Tr.cons
          · exact .call rfl rfl (by (simp only [go_sem]) <;> rfl) (by (simp only [go_sem]) <;> rfl) (by (simp only [go_sem]) <;> rfl) (by (simp only [go_sem]) <;> rfl) (by (simp only [go_sem]) <;> rfl) (nothing_is 1 .zer)
          apply Tr.run
          · (simp only [go_sem]) <;> rfl
          · simp
          apply Tr.cons
          · exact .callG rfl rfl (by (simp only [go_sem]) <;> rfl) rfl (by (simp only [go_sem]) <;> rfl) (by (simp only [go_sem]) <;> rfl) (by (simp only [go_sem]) <;> rfl) (by (simp only [go_sem]) <;> rfl) (by (simp only [go_sem]) <;> rfl) (lives_is)
          apply Tr.done
          · (simp only [go_sem]) <;> rfl
          · simp
        refine EvC.ret ⟨.inl rfl, _, (by (simp only [go_sem]) <;> rfl), ?_, rfl⟩
        simp only [go_sem]
      have d0 : decide ((l.length : Int) = 0) = false := decide_eq_false (by omega)
      have hg : errO (goodB a l) = 1 := by
        apply errO_false
        rw [okIns_good] at ho
        cases l with
        | nil => simp at h0
        | cons b t => simpa using ho
      refine EvC.cond_false (by (simp only [go_sem, d0]) <;> rfl) ?_
      refine EvC.skip ?_
      refine EvC.seq ?_
      refine EvC.seq (EvC.rg (by (simp only [go_sem, List.length_map]) <;> rfl) (by simp) ?_)
      refine EvC.cond_false (by (simp only [go_sem, d1]) <;> rfl) ?_
      refine EvC.skip ?_
      refine EvC.seq ?_
      refine EvC.seq (EvC.rg (by (simp only [go_sem, hg]) <;> rfl) (by simp) ?_)
      refine EvC.cond_true (by (simp only [go_sem]) <;> rfl) ?_
      apply EvC.seq
      apply EvC.tr
      · apply Tr.run
        · (simp only [go_sem]) <;> rfl
        · simp
        apply Tr.cons
        · exact .call rfl rfl (by (simp only [go_sem]) <;> rfl) (by (simp only [go_sem]) <;> rfl) (by (simp only [go_sem]) <;> rfl) (by (simp only [go_sem]) <;> rfl) (by (simp only [go_sem]) <;> rfl) (nothing_is 1 .zer)
        apply Tr.run
        · (simp only [go_sem]) <;> rfl
        · simp
        apply Tr.cons
        · exact .callG rfl rfl (by (simp only [go_sem]) <;> rfl) rfl (by (simp only [go_sem]) <;> rfl) (by (simp only [go_sem]) <;> rfl) (by (simp only [go_sem]) <;> rfl) (by (simp only [go_sem]) <;> rfl) (by (simp only [go_sem]) <;> rfl) (lives_is)
        apply Tr.done
        · (simp only [go_sem]) <;> rfl
        · simp
      refine EvC.ret ⟨.inl rfl, _, (by (simp only [go_sem]) <;> rfl), ?_, rfl⟩
      simp only [go_sem]
    -- a list of inputs
    have h0 : l.length ≠ 0 := by
      intro h
      exact (okIns_true.1 ho).2.2 (List.eq_nil_of_length_eq_zero h)
    have d0 : decide ((l.length : Int) = 0) = false := decide_eq_false (by omega)
    have d1 : decide ((16 : Int) < l.length) = false := decide_eq_false (by omega)
    have hg : errO (goodB a l) = 0 := by
      rw [okIns_good, Bool.and_eq_true] at ho
      rw [ho.1]; rfl
    obtain ⟨m, hm⟩ : ∃ m, m = resM a l := ⟨_, rfl⟩
    have hMc' : Mc = m.cellsF := by rw [hMc, hMm, hm]; rfl
    have vm : Valid m := by rw [hm]; exact resM_valid va h16 ho
    have hmi : m.ins = (l.length : Int) := by rw [hm]; rfl
    have hmo : m.outs = a.outs := by rw [hm]; rfl
    have hml : m.rows.length = a.rows.length := by rw [hm]; exact resM_len a l
    clear hMc hMn
    subst hMc'
    obtain ⟨W, hW⟩ : ∃ W, W = wOf w l.length := ⟨_, rfl⟩
    have hWl : W.length ≤ 12 := by rw [hW]; exact wOf_len _ _
    have hWo : ∀ v ∈ W, 0 ≤ v ∧ v < (l.length : Int) := by rw [hW]; exact wOf_ok (by omega)
    have hWC : PureIs prog 13 [.ag [.sl wn (w.map u8C) wc], .sc (.int .i64 l.length)] (.sl W.isEmpty (W.map intC) .unk) := by
      rw [hW]; exact wOf_is wn w wc l.length (by omega) hw
    refine EvC.seq ?_
    refine EvC.seq (EvC.rg (by (simp only [go_sem, List.length_map]) <;> rfl) (by simp) ?_)
    refine EvC.cond_false (by (simp only [go_sem, d0]) <;> rfl) ?_
    refine EvC.skip ?_
    refine EvC.seq ?_
    refine EvC.seq (EvC.rg (by (simp only [go_sem, List.length_map]) <;> rfl) (by simp) ?_)
    refine EvC.cond_false (by (simp only [go_sem, d1]) <;> rfl) ?_
    refine EvC.skip ?_
    refine EvC.seq ?_
    refine EvC.seq (EvC.rg (by (simp only [go_sem, hg]) <;> rfl) (by simp) ?_)
    refine EvC.cond_false (by (simp only [go_sem]) <;> rfl) ?_
    refine EvC.skip ?_
    refine EvC.seq ?_
    have hCl : PureIs prog 16 [.ag [.sc (.int .i64 l.length), .sc (.int .i64 a.outs), .sl m.nl (m.rows.map rowG) .full]] (.sc (.bool true)) := by
      have := clipped_is m (by omega)
      rwa [Mach.cellsF, hmi, hmo] at this
    apply EvC.seq
    apply EvC.tr
    · apply Tr.run
      · (simp only [go_sem, Mach.cells, Mach.cellsF, List.length_map, hmi, hmo, hml, decide_true]) <;> rfl
      · simp
      apply Tr.cons
      · exact .callG rfl rfl (by (simp only [go_sem]) <;> rfl) rfl (by (simp only [go_sem]) <;> rfl) (by (simp only [go_sem]) <;> rfl) (by (simp only [go_sem]) <;> rfl) (by (simp only [go_sem]) <;> rfl) (by (simp only [go_sem]) <;> rfl) (hCl)
      apply Tr.done
      · (simp only [go_sem, Mach.cells, Mach.cellsF, List.length_map, hmi, hmo, hml, decide_true]) <;> rfl
      · simp
    refine EvC.cond_false (by (simp only [go_sem]) <;> rfl) ?_
    refine EvC.skip ?_
    apply EvC.seq
    apply EvC.tr
    · apply Tr.run
      · (simp only [go_sem, List.length_map]) <;> rfl
      · simp
      apply Tr.cons
      · exact .call rfl rfl (by (simp only [go_sem]) <;> rfl) (by (simp only [go_sem]) <;> rfl) (by (simp only [go_sem]) <;> rfl) (by (simp only [go_sem]) <;> rfl) (by (simp only [go_sem]) <;> rfl) (hWC)
      apply Tr.done
      · (simp only [go_sem]) <;> rfl
      · simp
    refine EvC.seq (EvC.rg (by (simp only [go_sem]) <;> rfl) (by simp) ?_)
    refine EvC.seq ?_
    refine EvC.seq (EvC.rg (by (simp only [go_sem]) <;> rfl) (by simp) ?_)
    refine EvC.block ?_  -- 4
    refine EvC.loopS (σ := Nat) (fun k => ⟨[(1, .sl nl (l.map intC) c), (7, .ia a.cells), (8, .ia m.cellsF), (13, .sl W.isEmpty (W.map intC) .unk), (14, .tl 0 k (k == 0)), (15, .sc (.int .i64 k))], [], [(0, .arr 1 (((W.take k).map (gAt l)).map intC) true)], 1⟩) (fun k => W.length - k) (fun k => k ≤ W.length) [1, 7, 8, 13, 14, 15] 1 ?_ ?_
    · exact ⟨[(47, 0)], 0, rfl, (by (simp only [go_sem, Mach.cells, Mach.cellsF, hmi, hmo, List.take_zero, List.map_nil, Int.natCast_zero]) <;> rfl), Nat.zero_le _⟩
    intro k hk
    have htl : (((W.take k).map (gAt l)).map intC).length = k := by simp; omega
    have htl2 : (W.take k).length = k := by simp; omega
    refine EvC.seq ?_
    refine EvC.seq (EvC.rg (by (simp only [go_sem, List.length_map]) <;> rfl) (by simp) ?_)
    refine EvC.cond (by (simp only [go_sem]) <;> rfl) (fun hc => ?_) (fun hc => ?_)
    rotate_left
    · -- else
      refine EvC.exit ?_  -- 4
      obtain rfl : W.length = k := by have : ¬ k < W.length := by simpa using hc
                                      omega
      clear hc
      rw [List.take_length] at htl
      obtain ⟨V, hV⟩ : ∃ V, V = W.map (gAt l) := ⟨_, rfl⟩
      have hVl : V.length = W.length := by rw [hV]; simp
      have hVo : ∀ v ∈ V, 0 ≤ v ∧ v < a.ins := by
        intro v hv
        rw [hV] at hv
        obtain ⟨k, hk, rfl⟩ := List.mem_map.1 hv
        obtain ⟨k1, k2⟩ := hWo k hk
        obtain ⟨t, rfl⟩ : ∃ t : Nat, k = t := ⟨k.toNat, by omega⟩
        exact (okIns_true.1 ho).1 _ (gAt_mem (by omega))
      rw [List.take_length, ← hV]
      rw [← hV] at htl
      refine EvC.frz 0 (by (simp only [go_sem, htl, List.length_map, hVl]) <;> rfl) ?_
      refine EvC.seq ?_
      refine EvC.seq (EvC.rg (by (simp only [go_sem]) <;> rfl) (by simp) ?_)
      refine EvC.block ?_  -- 6
      have hRm := runF_is vm W.isEmpty W .unk (by rw [hmi]; exact hWo) (by omega)
      have hAm := afterF_is vm W.isEmpty W .unk (by rw [hmi]; exact hWo) (by omega)
      have hRa := fun nl c s hs => run04_is va s hs nl V c hVo (by omega)
      have hAa := fun nl c s hs => after22_is va V s nl c hs hVo (by omega)
      refine EvC.loopS (σ := Nat) (fun s => ⟨[(7, .ia a.cells), (8, .ia m.cellsF), (13, .sl W.isEmpty (W.map intC) .unk), (14, .sl (W.length == 0) (V.map intC) .unk), (16, .sc (.int .i64 s))], [], [], 0⟩) (fun s => a.rows.length - s) (fun s => s ≤ a.rows.length) [7, 8, 13, 14, 16] 0 ?_ ?_
      · exact ⟨[], 0, rfl, (by (simp only [go_sem, Mach.cells, Mach.cellsF, hmi, hmo, Int.natCast_zero]) <;> rfl), Nat.zero_le _⟩
      intro s hs
      refine EvC.seq ?_
      refine EvC.seq (EvC.rg (by (simp only [go_sem, Mach.cells, List.length_map]) <;> rfl) (by simp) ?_)
      refine EvC.cond (by (simp only [go_sem]) <;> rfl) (fun hc => ?_) (fun hc => ?_)
      rotate_left
      · -- else
        refine EvC.exit ?_  -- 6
        apply EvC.seq
        apply EvC.tr
        · apply Tr.run
          · (simp only [go_sem]) <;> rfl
          · simp
          apply Tr.cons
          · exact .call rfl rfl (by (simp only [go_sem]) <;> rfl) (by (simp only [go_sem]) <;> rfl) (by (simp only [go_sem]) <;> rfl) (by (simp only [go_sem]) <;> rfl) (by (simp only [go_sem]) <;> rfl) (lives_is)
          apply Tr.done
          · (simp only [go_sem]) <;> rfl
          · simp
        refine EvC.ret ⟨.inl rfl, _, (by (simp only [go_sem]) <;> rfl), ?_, rfl⟩
        simp only [go_sem]
      have hsl : s < a.rows.length := by simpa using hc
      clear hc
      have e1 : runR m s W = runR a s V := by rw [hV, hm, resM_run va ho hWo (by omega)]
      have e2 : afterR m s W = afterR a s V := by rw [hV, hm, resM_after va ho hWo (by omega)]
      have hS : PureIs prog 30 [.sl (runR m s W).isEmpty ((runR m s W).map intC) .unk, .sl (runR a s V).isEmpty ((runR a s V).map intC) .unk] (.sc (.bool true)) := by
        have := same_is (runR m s W).isEmpty (runR m s W) .unk (runR a s V).isEmpty (runR a s V) .unk (by rw [runR_len]; omega)
        rwa [decide_eq_true e1] at this
      refine EvC.skip ?_
      refine EvC.seq ?_
      refine EvC.block ?_  -- 7
      apply EvC.seq
      apply EvC.drw mixed
      · apply Tr.run
        · (simp only [go_sem, Mach.cells, Mach.cellsF]) <;> rfl
        · simp
        apply Tr.cons
        · exact .call rfl rfl (by (simp only [go_sem]) <;> rfl) (by (simp only [go_sem]) <;> rfl) (by (simp only [go_sem]) <;> rfl) (by (simp only [go_sem]) <;> rfl) (by (simp only [go_sem]) <;> rfl) (hRm s (by omega))
        apply Tr.run
        · (simp only [go_sem, Mach.cells, Mach.cellsF]) <;> rfl
        · simp
        apply Tr.cons
        · exact .call rfl rfl (by (simp only [go_sem]) <;> rfl) (by (simp only [go_sem]) <;> rfl) (by (simp only [go_sem]) <;> rfl) (by (simp only [go_sem]) <;> rfl) (by (simp only [go_sem]) <;> rfl) (hRa _ _ s (by omega))
        apply Tr.run
        · (simp only [go_sem, Mach.cells, Mach.cellsF]) <;> rfl
        · simp
        apply Tr.cons
        · exact .call rfl rfl (by (simp only [go_sem]) <;> rfl) (by (simp only [go_sem]) <;> rfl) (by (simp only [go_sem]) <;> rfl) (by (simp only [go_sem]) <;> rfl) (by (simp only [go_sem]) <;> rfl) (hS)
        apply Tr.run
        · (simp only [go_sem, Mach.cells, Mach.cellsF]) <;> rfl
        · simp
        apply Tr.cons
        · exact .callG rfl rfl (by (simp only [go_sem]) <;> rfl) rfl (by (simp only [go_sem]) <;> rfl) (by (simp only [go_sem]) <;> rfl) (by (simp only [go_sem]) <;> rfl) (by (simp only [go_sem]) <;> rfl) (by (simp only [go_sem]) <;> rfl) (hAm s (by omega))
        apply Tr.run
        · (simp only [go_sem, Mach.cells, Mach.cellsF]) <;> rfl
        · simp
        apply Tr.cons
        · exact .callG rfl rfl (by (simp only [go_sem]) <;> rfl) rfl (by (simp only [go_sem]) <;> rfl) (by (simp only [go_sem]) <;> rfl) (by (simp only [go_sem]) <;> rfl) (by (simp only [go_sem]) <;> rfl) (by (simp only [go_sem]) <;> rfl) (hAa _ _ s (by omega))
        apply Tr.done
        · (simp only [go_sem, e2, decide_true]) <;> rfl
        · simp
      · kernel_rfl
      refine EvC.cond_false (by (simp only [go_sem]) <;> rfl) ?_
      refine EvC.skip ?_
      refine EvC.rg (by (simp only [go_sem]) <;> rfl) (by exact inI64_of (by omega) (by omega)) ?_
      exact ⟨[], s + 1, rfl, (by (simp only [go_sem, Mach.cells, Mach.cellsF, Int.natCast_add, Int.natCast_one]) <;> rfl), hsl, by omega⟩
    have hkl : k < W.length := by simpa using hc
    clear hc
    have hek : W[k]? = some W[k] := List.getElem?_eq_getElem hkl
    have htk : W.take (k + 1) = W.take k ++ [W[k]] := by rw [List.take_add_one, hek]; rfl
    obtain ⟨v1, v2⟩ := hWo _ (List.getElem_mem hkl)
    generalize W[k] = v at hek htk v1 v2
    obtain ⟨t, rfl⟩ : ∃ t : Nat, v = t := ⟨v.toNat, by omega⟩
    have het : l[t]? = some (gAt l t) := by
      have : t < l.length := by omega
      simp [gAt, this]
    refine EvC.skip ?_
    refine EvC.seq ?_
    refine EvC.block ?_  -- 5
    refine EvC.rg (by (simp only [go_sem, hek, het, intC, Int.toNat_natCast]) <;> rfl) (by simp [room_eq, AV.norefs, AV.noref, htl]; try omega) ?_
    refine EvC.rg (by (simp only [go_sem]) <;> rfl) (by exact inI64_of (by omega) (by omega)) ?_
    refine ⟨[(0, 0)], k + 1, rfl, ?_, hkl, by omega⟩
    have h0 : (k + 1 == 0) = false := rfl
    rw [htk]
    (simp only [go_sem, h0, Mach.cells, Mach.cellsF, hmi, hmo, htl, htl2, intC, List.map_append, List.map_cons, List.map_nil, Int.natCast_add, Int.natCast_one, List.length_map]) <;> rfl
  have hkl : k < l.length := by simpa using hc
  clear hc
  have hek : l[k]? = some l[k] := List.getElem?_eq_getElem hkl
  have htk : l.take (k + 1) = l.take k ++ [l[k]] := by rw [List.take_add_one, hek]; rfl
  generalize l[k] = v at hek htk
  refine EvC.skip ?_
  refine EvC.seq ?_
  refine EvC.block ?_  -- 1
  refine EvC.seq ?_
  refine EvC.seq (EvC.rg (by (simp only [go_sem]) <;> rfl) (by simp) ?_)
  refine EvC.block ?_  -- 2
  refine EvC.loopS (σ := Nat) (fun n => ⟨[(1, .sl nl (l.map intC) c), (5, .ia [.sl wn (w.map u8C) wc]), (7, .ia a.cells), (8, .ia Mc), (9, .sc (.int .i64 e)), (10, .sc (.int .i64 (errO (goodB a (l.take k) && decide (v ∉ l.take n))))), (11, .sc (.int .i64 k)), (12, .sc (.int .i64 n))], [], [], 0⟩) (fun n => k - n) (fun n => n ≤ k) [1, 5, 7, 8, 9, 10, 11, 12] 0 ?_ ?_
  · exact ⟨[], 0, rfl, (by (simp only [go_sem, Int.natCast_zero, List.take_zero, List.not_mem_nil, not_false_eq_true, decide_true, Bool.and_true]) <;> rfl), Nat.zero_le _⟩
  intro n hn
  refine EvC.seq ?_
  refine EvC.seq (EvC.rg (by (simp only [go_sem]) <;> rfl) (by simp) ?_)
  refine EvC.cond (by (simp only [go_sem]) <;> rfl) (fun hc => ?_) (fun hc => ?_)
  rotate_left
  · -- else
    refine EvC.exit ?_  -- 2
    obtain rfl : k = n := by have : ¬ n < k := by simpa using hc
                             omega
    clear hc
    have hsn := goodB_snoc a (l.take k) v
    rw [← htk] at hsn
    by_cases hv0 : v < 0
    · have d1 : decide (v < 0) = true := decide_eq_true hv0
      have hg : errO (goodB a (l.take (k + 1))) = 1 := errO_false (by rw [hsn]; simp; omega)
      apply EvC.seq
      apply EvC.drd mixed
      · (simp only [go_sem, hek, intC, d1]) <;> rfl
      · simp
      · kernel_rfl
      refine EvC.cond_true (by (simp only [go_sem]) <;> rfl) ?_
      refine EvC.rg (by (simp only [go_sem]) <;> rfl) (by simp) ?_
      refine EvC.rg (by (simp only [go_sem]) <;> rfl) (by exact inI64_of (by omega) (by omega)) ?_
      exact ⟨[], k + 1, rfl, (by (simp only [go_sem, hg, Int.natCast_add, Int.natCast_one]) <;> rfl), hkl, by omega⟩
    have d1 : decide (v < 0) = false := decide_eq_false hv0
    apply EvC.seq
    apply EvC.drd mixed
    · (simp only [go_sem, hek, intC, d1, Mach.cells]) <;> rfl
    · simp
    · kernel_rfl
    refine EvC.cond (by (simp only [go_sem]) <;> rfl) (fun hc => ?_) (fun hc => ?_)
    · have hv1 : a.ins ≤ v := by simpa using hc
      have hg : errO (goodB a (l.take (k + 1))) = 1 := errO_false (by rw [hsn]; simp; omega)
      refine EvC.rg (by (simp only [go_sem]) <;> rfl) (by simp) ?_
      refine EvC.rg (by (simp only [go_sem]) <;> rfl) (by exact inI64_of (by omega) (by omega)) ?_
      exact ⟨[], k + 1, rfl, (by (simp only [go_sem, hg, Mach.cells, Int.natCast_add, Int.natCast_one]) <;> rfl), hkl, by omega⟩
    have hv1 : ¬ a.ins ≤ v := by simpa using hc
    have hg : goodB a (l.take (k + 1)) = (goodB a (l.take k) && decide (v ∉ l.take k)) := by
      rw [hsn, decide_eq_true (show 0 ≤ v by omega), decide_eq_true (show v < a.ins by omega)]; simp
    refine EvC.skip ?_
    refine EvC.rg (by (simp only [go_sem]) <;> rfl) (by exact inI64_of (by omega) (by omega)) ?_
    exact ⟨[], k + 1, rfl, (by (simp only [go_sem, hg, Mach.cells, Int.natCast_add, Int.natCast_one]) <;> rfl), hkl, by omega⟩
  have hnk : n < k := by simpa using hc
  clear hc
  have hen : l[n]? = some (l[n]'(by omega)) := List.getElem?_eq_getElem (by omega)
  have htn : l.take (n + 1) = l.take n ++ [l[n]'(by omega)] := by rw [List.take_add_one, hen]; rfl
  generalize l[n]'(by omega) = u at hen htn
  refine EvC.skip ?_
  refine EvC.seq ?_
  refine EvC.block ?_  -- 3
  apply EvC.seq
  apply EvC.drd mixed
  · (simp only [go_sem, hek, hen, intC]) <;> rfl
  · simp
  · kernel_rfl
  refine EvC.cond (by (simp only [go_sem]) <;> rfl) (fun hc => ?_) (fun hc => ?_)
  · -- then
    have huv : u = v := by simpa using hc
    have hg : errO (goodB a (l.take k) && decide (v ∉ l.take (n + 1))) = 1 := errO_false (by rw [htn, huv]; simp)
    refine EvC.rg (by (simp only [go_sem]) <;> rfl) (by simp) ?_
    refine EvC.rg (by (simp only [go_sem]) <;> rfl) (by exact inI64_of (by omega) (by omega)) ?_
    exact ⟨[], n + 1, rfl, (by (simp only [go_sem, hg, Int.natCast_add, Int.natCast_one]) <;> rfl), hnk, by omega⟩
  have huv : ¬ u = v := by simpa using hc
  have hg : decide (v ∉ l.take (n + 1)) = decide (v ∉ l.take n) := by
    rw [decide_eq_decide, htn]; simp only [List.mem_append, List.mem_cons, List.not_mem_nil, or_false, not_or]
    exact ⟨fun h => h.1, fun h => ⟨h, fun h' => huv h'.symm⟩⟩
  refine EvC.skip ?_
  refine EvC.rg (by (simp only [go_sem]) <;> rfl) (by exact inI64_of (by omega) (by omega)) ?_
  exact ⟨[], n + 1, rfl, (by (simp only [go_sem, hg, Int.natCast_add, Int.natCast_one]) <;> rfl), hnk, by omega⟩
end Go.Avl
namespace Go.Avl
open Go Go.Proofs.Try
set_option maxRecDepth 10000
set_option linter.unusedSimpArgs false

/-! ### The machine of the pairs -/
theorem stOf_eq {a b : Mach} {par : Int} {p : Pr} {i : Nat} {q : Pr × Int} (h : stOf a b par p i = some q) : stepJ a b par p i = q ∧ 0 ≤ q.2 := by
  unfold stOf at h
  split at h
  · cases h
  · cases h; exact ⟨rfl, by omega⟩
theorem stOf_to {a b : Mach} {par : Int} (hf : Fit a b par) {p : Pr} {i : Nat} {q : Pr × Int} (hp : inPr a b p) (hi : (i : Int) < a.ins) (h : stOf a b par p i = some q) : inPr a b q.1 := by
  obtain ⟨h1, h2⟩ := stOf_eq h
  rcases stepJ_ok hf (s := p.1) (t := p.2) (i := (i : Int)) hp.1 hp.2 (by omega) with e | e
  · have e' : stepJ a b par p i = ((0, 0), -1) := e
    rw [h1] at e'; rw [e'] at h2; simp at h2
  · have h1' : stepJ a b par (p.1, p.2) i = q := h1
    rw [h1'] at e
    exact ⟨⟨e.2.1, e.2.2.1⟩, e.2.2.2⟩
theorem RS_in {a b : Mach} {par : Int} (hf : Fit a b par) {p : Pr} (h : RS (stOf a b par) a.ins.toNat p) : inPr a b p ∧ ReachJ a b par p.1.toNat p.2.toNat := by
  have hai := hf.va.ins
  induction h with
  | zero => exact ⟨inPr_zero hf, .start⟩
  | @step p q o i _ hi hs ih =>
    obtain ⟨h1, h2⟩ := stOf_eq hs
    have hq := stOf_to hf ih.1 (by omega) hs
    refine ⟨hq, ?_⟩
    obtain ⟨⟨i1, i2⟩, hr⟩ := ih
    have e : ((p.1.toNat : Nat) : Int) = p.1 := by omega
    have e' : ((p.2.toNat : Nat) : Int) = p.2 := by omega
    have hst : stepJ a b par (((p.1.toNat : Nat) : Int), ((p.2.toNat : Nat) : Int)) i = (q, o) := by rw [e, e']; exact h1
    have := ReachJ.step p.1.toNat p.2.toNat i hr (by omega) (by rw [hst]; exact h2)
    rw [hst] at this
    exact this
theorem RS_of {a b : Mach} {par : Int} (hf : Fit a b par) {s t : Nat} (h : ReachJ a b par s t) : RS (stOf a b par) a.ins.toNat ((s : Int), (t : Int)) := by
  have hai := hf.va.ins
  induction h with
  | start => exact .zero
  | step s t i hr hi hd ih =>
    have hp : inPr a b ((s : Int), (t : Int)) := (RS_in hf ih).1
    have hs : stOf a b par ((s : Int), (t : Int)) i = some (stepJ a b par (s, t) i) := stOf_some rfl hd
    have hq := stOf_to hf hp hi hs
    refine RS.step ih (i := i) (o := (stepJ a b par (s, t) i).2) (by omega) ?_
    rw [hs]
    have e1 := Int.toNat_of_nonneg hq.1.1
    have e2 := Int.toNat_of_nonneg hq.2.1
    rw [e1, e2]
def jQ (a b : Mach) (par : Int) : List Pr := jq (stOf a b par) a.ins.toNat 64
theorem jQ_reach {a b : Mach} {par : Int} : ∀ p ∈ jQ a b par, RS (stOf a b par) a.ins.toNat p := jq_reach _ _ 64
theorem jQ_nodup (a b : Mach) (par : Int) : (jQ a b par).Nodup := jq_nodup _ _ 64
theorem jQ_pos (a b : Mach) (par : Int) : 1 ≤ (jQ a b par).length := jq_pos _ _ 64
theorem jQ_zero (a b : Mach) (par : Int) : (jQ a b par)[0]? = some (0, 0) := jq_zero _ _ 64
theorem jQ_all {a b : Mach} {par : Int} (h : (jQ a b par).length ≤ 64) {p : Pr} (hp : RS (stOf a b par) a.ins.toNat p) : p ∈ jQ a b par := jq_all h hp
theorem jQ_mono {a b : Mach} {par : Int} {k : Nat} (h : k ≤ 64) : jq (stOf a b par) a.ins.toNat k <+: jQ a b par := jq_mono _ _ h
theorem jQ_fix {a b : Mach} {par : Int} {k : Nat} (h : (jq (stOf a b par) a.ins.toNat k).length ≤ k) (hk : k ≤ 64) : jQ a b par = jq (stOf a b par) a.ins.toNat k ∧ jrows (stOf a b par) a.ins.toNat 64 = jrows (stOf a b par) a.ins.toNat k := jq_fix' h hk
theorem jointA_eq (a b : Mach) (par : Int) (outs : Int) (h64 : (jQ a b par).length ≤ 64) : jointA a.ins outs a.ins.toNat (stOf a b par) = .tu [.ag [.sc (.int .i64 a.ins), .sc (.int .i64 outs), .sl false ((jrows (stOf a b par) a.ins.toNat 64).map rowH) .full], .sc (.int .i64 0)] := if_pos h64
theorem jointA_big {a b : Mach} {par outs : Int} (h : ¬ (jQ a b par).length ≤ 64) : jointA a.ins outs a.ins.toNat (stOf a b par) = errA 3 := by
  unfold jointA; exact if_neg h
theorem jQ_def (a b : Mach) (par : Int) : jQ a b par = jq (stOf a b par) a.ins.toNat 64 := rfl
attribute [irreducible] jQ
open Classical in
theorem reach_list (a b : Mach) (par : Int) : reachN a b par = ((prs a.rows.length b.rows.length).filter fun p => decide (ReachJ a b par p.1 p.2)).length := by
  rw [reachN, cntM, List.countP_eq_length_filter]
def natP (p : Pr) : Nat × Nat := (p.1.toNat, p.2.toNat)
theorem natQ_nodup {a b : Mach} {par : Int} (hf : Fit a b par) : ((jQ a b par).map natP).Nodup := by
  rw [List.nodup_iff_pairwise_ne, List.pairwise_map]
  have h := List.nodup_iff_pairwise_ne.1 (jQ_nodup a b par)
  refine List.Pairwise.imp_of_mem (fun {p q} hp hq hne e => hne ?_) h
  have h1 := (RS_in hf (jQ_reach p hp)).1
  have h2 := (RS_in hf (jQ_reach q hq)).1
  simp only [natP, Prod.mk.injEq] at e
  obtain ⟨⟨a1, -⟩, a2, -⟩ := h1
  obtain ⟨⟨b1, -⟩, b2, -⟩ := h2
  exact Prod.ext (by omega) (by omega)
open Classical in
theorem natQ_sub {a b : Mach} {par : Int} (hf : Fit a b par) : (jQ a b par).map natP ⊆ (prs a.rows.length b.rows.length).filter fun p => decide (ReachJ a b par p.1 p.2) := by
  intro p hp
  obtain ⟨q, hq, rfl⟩ := List.mem_map.1 hp
  have h := (RS_in hf (jQ_reach q hq)).2
  have := reachJ_lt hf h
  rw [List.mem_filter, mem_prs]
  exact ⟨this, decide_eq_true h⟩
theorem jQ_le {a b : Mach} {par : Int} (hf : Fit a b par) : (jQ a b par).length ≤ reachN a b par := by
  rw [reach_list]
  have := (natQ_nodup hf).length_le_of_subset (natQ_sub hf)
  rwa [List.length_map] at this
open Classical in
theorem jQ_len {a b : Mach} {par : Int} (hf : Fit a b par) (h64 : (jQ a b par).length ≤ 64) : reachN a b par = (jQ a b par).length := by
  refine Nat.le_antisymm ?_ (jQ_le hf)
  rw [reach_list, ← List.length_map (f := natP)]
  refine List.Nodup.length_le_of_subset ((nodup_prs _ _).filter _) fun p hp => ?_
  rw [List.mem_filter, decide_eq_true_eq] at hp
  have := jQ_all h64 (RS_of hf hp.2)
  exact List.mem_map.2 ⟨_, this, by simp [natP]⟩
theorem reachN_le (a b : Mach) (par : Int) : reachN a b par ≤ a.rows.length * b.rows.length := cntM_le _ _ _
def jRow (a b : Mach) (par : Int) (p : Pr) : Row := (false, jrow (stOf a b par) (jQ a b par) p a.ins.toNat)
def jM (a b : Mach) (par outs : Int) : Mach := ⟨a.ins, outs, false, (jQ a b par).map (jRow a b par)⟩
theorem jM_len (a b : Mach) (par outs : Int) : (jM a b par outs).rows.length = (jQ a b par).length := by simp [jM]
theorem jq_at {a b : Mach} {par : Int} (h64 : (jQ a b par).length ≤ 64) : jq (stOf a b par) a.ins.toNat (jQ a b par).length = jQ a b par ∧ jrows (stOf a b par) a.ins.toNat 64 = jrows (stOf a b par) a.ins.toNat (jQ a b par).length := by
  have h1 := (jQ_mono (a := a) (b := b) (par := par) h64).length_le
  have := jQ_fix h1 h64
  exact ⟨this.1.symm, this.2⟩
theorem jM_rows {a b : Mach} {par : Int} (outs : Int) (h64 : (jQ a b par).length ≤ 64) : (jrows (stOf a b par) a.ins.toNat 64).map rowH = (jM a b par outs).rows.map rowG := by
  obtain ⟨h1, h2⟩ := jq_at h64
  rw [h2, jrows_eq (m := (jQ a b par).length) (Nat.le_refl _) (by rw [h1]; exact Nat.le_refl _), h1, List.take_length]
  simp only [jM, List.map_map]; rfl
theorem jM_tu {a b : Mach} {par : Int} (outs : Int) (h64 : (jQ a b par).length ≤ 64) : jointA a.ins outs a.ins.toNat (stOf a b par) = .tu [.ag (jM a b par outs).cellsF, .sc (.int .i64 0)] := by
  rw [jointA_eq a b par outs h64, jM_rows outs h64]; rfl
/-- The list behind k of its pairs, and what comes next. -/
theorem jq_lt {a b : Mach} {par : Int} (h64 : (jQ a b par).length ≤ 64) {k : Nat} (hk : k < (jQ a b par).length) : k < (jq (stOf a b par) a.ins.toNat k).length := by
  rcases Nat.lt_or_ge k (jq (stOf a b par) a.ins.toNat k).length with h | h
  · exact h
  · have := (jQ_fix h (show k ≤ 64 by omega)).1
    rw [this] at hk; omega
theorem jed_some {a b : Mach} {par : Int} {p : Pr} {i : Nat} {q : Pr × Int} (h : stOf a b par p i = some q) : jed (stOf a b par) (jQ a b par) p i = ((((jQ a b par).idxOf q.1 : Nat) : Int), q.2) := by simp [jed, h]
theorem jed_none {a b : Mach} {par : Int} {p : Pr} {i : Nat} (h : stOf a b par p i = none) : jed (stOf a b par) (jQ a b par) p i = (-1, -1) := by simp [jed, h]
theorem jrow_get {a b : Mach} {par : Int} (p : Pr) {i : Nat} (hi : i < a.ins.toNat) : (jRow a b par p).2[i]? = some (jed (stOf a b par) (jQ a b par) p i) := by
  simp only [jRow, jrow]; rw [List.getElem?_map, List.getElem?_range hi]; rfl
/-- How great outputs are. -/
theorem stepJ_out {a b : Mach} {par outs : Int} (hf : Fit a b par) (ho : outs = if par = 1 then a.outs * b.outs else b.outs) {p : Pr} {i : Nat} {q : Pr × Int} (hp : inPr a b p) (hi : (i : Int) < a.ins) (h : stOf a b par p i = some q) : 0 ≤ q.2 ∧ q.2 < outs := by
  obtain ⟨h1, h2⟩ := stOf_eq h
  refine ⟨h2, ?_⟩
  obtain ⟨s, t⟩ := p
  obtain ⟨hs, ht⟩ := hp
  simp only at hs ht
  obtain ⟨r1, x, k1, k2, k3, k4⟩ := stepR_get hf.va hs.1 hs.2 (show 0 ≤ (i : Int) ∧ (i : Int) < a.ins by omega)
  have hx := fits_edge k4
  by_cases hx0 : x.1 < 0
  · have : stepJ a b par (s, t) i = ((0, 0), -1) := by simp [stepJ, k3, hx0]
    rw [h1] at this; rw [this] at h2; simp at h2
  by_cases hpp : par = 1
  · obtain ⟨r2, y, l1, l2, l3, l4⟩ := stepR_get hf.vb ht.1 ht.2 (show 0 ≤ (i : Int) ∧ (i : Int) < b.ins by rw [← hf.par hpp]; omega)
    have hy := fits_edge l4
    by_cases hy0 : y.1 < 0
    · have : stepJ a b par (s, t) i = ((0, 0), -1) := by simp [stepJ, k3, l3, hpp, hx0, hy0]
      rw [h1] at this; rw [this] at h2; simp at h2
    · simp only [stepJ, k3, l3, if_neg hx0, if_pos hpp, if_neg hy0] at h1
      rw [← h1, ho, if_pos hpp]
      have h3 : (x.2 + 1) * b.outs ≤ a.outs * b.outs := Int.mul_le_mul_of_nonneg_right (by omega) (by have := hf.vb.outs; omega)
      rw [Int.add_mul, Int.one_mul] at h3
      simp only
      omega
  · have hp0 : par = 0 := by rcases hf.p with h | h; exact h; exact absurd h hpp
    obtain ⟨r2, y, l1, l2, l3, l4⟩ := stepR_get hf.vb ht.1 ht.2 (show 0 ≤ x.2 ∧ x.2 < b.ins by rw [← hf.ser hp0]; omega)
    have hy := fits_edge l4
    by_cases hy0 : y.1 < 0
    · have : stepJ a b par (s, t) i = ((0, 0), -1) := by simp [stepJ, k3, l3, hpp, hx0, hy0]
      rw [h1] at this; rw [this] at h2; simp at h2
    · simp only [stepJ, k3, l3, if_neg hx0, if_neg hpp, if_neg hy0] at h1
      rw [← h1, ho, if_neg hpp]
      simp only
      omega
theorem jM_valid {a b : Mach} {par outs : Int} (hf : Fit a b par) (h64 : (jQ a b par).length ≤ 64) (ho : outs = if par = 1 then a.outs * b.outs else b.outs) (h16 : 1 ≤ outs ∧ outs ≤ 16) : Valid (jM a b par outs) := by
  have hai := hf.va.ins
  refine ⟨hai, h16, by rw [jM_len]; exact ⟨jQ_pos a b par, h64⟩, fun r hr => ?_⟩
  rw [jM_len]
  obtain ⟨p, hp, rfl⟩ := List.mem_map.1 hr
  have hpi := (RS_in hf (jQ_reach p hp)).1
  refine ⟨by simp [jRow, jrow, jM]; omega, fun e he => ?_⟩
  simp only [jRow, jrow, List.mem_map, List.mem_range] at he
  obtain ⟨i, hi, rfl⟩ := he
  cases hst : stOf a b par p i with
  | none => rw [jed_none hst]; simp [fitsR]
  | some q =>
    rw [jed_some hst]
    have h1 := stepJ_out hf ho hpi (by omega) hst
    have h2 : q.1 ∈ jQ a b par := jQ_all h64 (RS.step (jQ_reach p hp) hi (o := q.2) (by rw [hst]))
    have h3 := List.idxOf_lt_length_of_mem h2
    simp only [fitsR, Bool.or_eq_true, Bool.and_eq_true, decide_eq_true_eq, jM]
    exact .inr ⟨⟨⟨by omega, by omega⟩, h1.1⟩, decide_eq_true h1.2⟩
end Go.Avl
namespace Go.Avl
open Go Go.Proofs.Try
set_option maxRecDepth 10000
set_option linter.unusedSimpArgs false

theorem check34F_is {m : Mach} (hv : Valid m) : PureIs prog 34 [.ag m.cellsF] (.sc (.int .i64 0)) := by
  refine PureIs.weak ?_
  simp only [List.map_cons, List.map_nil, AV.unk, Mach.cellsF_unk]
  have := check27_is m hv.small
  rwa [hv.check] at this
theorem edgesC_two (l : List (Int × Int)) : ((l.map edgeC).all fun y => decide (y.length = 2)) = true := by simp [edgeC, List.all_eq_true]

set_option maxHeartbeats 4000000 in
theorem joint15_is {a b : Mach} {par outs : Int} (hf : Fit a b par) (h64 : (jQ a b par).length ≤ 64) (ho : outs = if par = 1 then a.outs * b.outs else b.outs) (h16 : 1 ≤ outs ∧ outs ≤ 16) :
    PureIs prog 15 [.ag (jM a b par outs).cellsF, .ag a.cells, .ag b.cells, .sc (.int .i64 par)] (.sc (.int .i64 1)) := by
  have vm := jM_valid hf h64 ho h16
  have hrn := jQ_len hf h64
  have hml := jM_len a b par outs
  have hQ1 := jQ_pos a b par
  have hrow : ∀ {k : Nat} {p : Pr}, (jQ a b par)[k]? = some p → (jM a b par outs).rows[k]? = some (jRow a b par p) := by
    intro k p h
    simp only [jM]; rw [List.getElem?_map, h]; rfl
  have hmi : (jM a b par outs).ins = a.ins := rfl
  have hmo : (jM a b par outs).outs = outs := rfl
  generalize jM a b par outs = m at vm hml hrow hmi hmo
  obtain ⟨Q, hQ⟩ : ∃ Q, Q = jQ a b par := ⟨_, rfl⟩
  rw [← hQ] at h64 hrn hml hQ1 hrow
  obtain ⟨N, hN⟩ : ∃ N, N = a.ins.toNat := ⟨_, rfl⟩
  have hai := hf.va.ins
  have hao := hf.va.outs
  have hbo := hf.vb.outs
  have hNi : a.ins = (N : Int) := by omega
  obtain ⟨st, hst⟩ : ∃ st, st = stOf a b par := ⟨_, rfl⟩
  have hR := reached_is hf
  have hm1 : 0 ≤ a.outs * b.outs := Int.mul_nonneg (by omega) (by omega)
  have hm2 : a.outs * b.outs ≤ 16 * 16 := Int.mul_le_mul (by omega) (by omega) (by omega) (by omega)
  have hI : inI64 (a.outs * b.outs) = true := inI64_of (by omega) (by omega)
  refine PureIs.of (nv := 7) (hid := [8, 9, 10, 11, 12, 13, 14, 15, 19, 50, 57, 63, 67, 93, 95, 100, 105, 116, 52]) func15 rfl (by kernel_rfl) (by simp [ntmps15]) fun _ => ?_
  rw [ntmps15, results15]
  refine EvC.seq (EvC.rg (by (simp only [go_sem, Mach.cells, Mach.cellsF]) <;> rfl) (by simp) ?_)
  refine EvC.frzB 0 (by (simp only [go_sem]) <;> rfl) ?_
  refine EvC.frzB 1 (by (simp only [go_sem]) <;> rfl) ?_
  refine EvC.frzB 2 (by (simp only [go_sem]) <;> rfl) ?_
  refine EvC.seq (EvC.rg (by (simp only [go_sem]) <;> rfl) (by simp) ?_)
  refine EvC.seq ?_
  refine EvC.seq (EvC.rg (by (simp only [go_sem]) <;> rfl) (by simp) ?_)
  have hQr : ∀ p ∈ Q, inPr a b p ∧ RS st N p := fun p hp => by
    rw [hQ] at hp
    have := jQ_reach p hp
    rw [hst, hN]
    exact ⟨(RS_in hf this).1, this⟩
  have hpre : ∀ {k : Nat}, k ≤ 64 → jq st N k <+: Q := fun h => by rw [hQ, hst, hN]; exact jQ_mono h
  have hlt : ∀ {k : Nat}, k < Q.length → k < (jq st N k).length := fun h => by
    rw [hst, hN]; rw [hQ] at h h64; exact jq_lt h64 h
  have hmr := vm.rows
  rw [hml] at hmr
  refine EvC.cond (by (simp only [go_sem]) <;> rfl) (fun hc => ?_) (fun hc => ?_)
  have hp : par = 1 := by simpa using hc
  rw [if_pos hp] at ho
  subst ho
  clear hc hp
  refine EvC.rg (by (simp only [go_sem, Mach.cells]) <;> rfl) (by simp [hI]) ?_
  rotate_left
  have hp : ¬ par = 1 := by simpa using hc
  rw [if_neg hp] at ho
  subst ho
  clear hc hp
  refine EvC.skip ?_
  rotate_left
  all_goals
    refine EvC.seq ?_
    have hCk := check34F_is vm
    rw [Mach.cellsF, hmi, hmo] at hCk
    apply EvC.seq
    apply EvC.drw mixed
    · apply Tr.run
      · (simp only [go_sem, Mach.cells, Mach.cellsF, hmi, hmo, List.length_map, hml, hrn, decide_true]) <;> rfl
      · simp
      apply Tr.cons
      · exact .call rfl rfl (by (simp only [go_sem]) <;> rfl) (by (simp only [go_sem]) <;> rfl) (by (simp only [go_sem]) <;> rfl) (by (simp only [go_sem]) <;> rfl) (by (simp only [go_sem]) <;> rfl) (hCk)
      apply Tr.run
      · (simp only [go_sem, Mach.cells, Mach.cellsF, hmi, hmo, List.length_map, hml, hrn, decide_true]) <;> rfl
      · simp
      apply Tr.cons
      · exact .callG rfl rfl (by (simp only [go_sem]) <;> rfl) rfl (by (simp only [go_sem]) <;> rfl) (by (simp only [go_sem]) <;> rfl) (by (simp only [go_sem]) <;> rfl) (by (simp only [go_sem]) <;> rfl) (by (simp only [go_sem]) <;> rfl) (hR)
      apply Tr.done
      · (simp only [go_sem, Mach.cells, Mach.cellsF, hmi, hmo, List.length_map, hml, hrn, decide_true]) <;> rfl
      · simp
    · kernel_rfl
    refine EvC.cond_false (by (simp only [go_sem]) <;> rfl) ?_
    refine EvC.skip ?_
    refine EvC.seq (EvC.rg (by (simp only [go_sem]) <;> rfl) (by simp) ?_)
    refine EvC.seq ?_
    refine EvC.seq (EvC.rg (by (simp only [go_sem]) <;> rfl) (by simp) ?_)
    refine EvC.block ?_  -- 0
    refine EvC.loopS (σ := Nat) (fun k => ⟨[(3, .sc (.int .i64 par)), (4, .ia m.cellsF), (5, .ia a.cells), (6, .ia b.cells), (10, .tl 0 (jq st N k).length false), (11, .sc (.int .i64 k))], [], [(0, .arr 2 ((jq st N k).map edgeC) false)], 1⟩) (fun k => Q.length - k) (fun k => k ≤ Q.length) [3, 4, 5, 6, 10, 11] 1 ?_ ?_
    · first
      | (refine ⟨[(42, 0)], 0, rfl, ?_, Nat.zero_le _⟩; (simp only [go_sem, Mach.cells, Mach.cellsF, hmi, hmo, jq, edgeC, List.map_nil, List.map_cons, List.length_cons, List.length_nil, Int.natCast_zero]) <;> rfl)
      | (refine ⟨[(36, 0)], 0, rfl, ?_, Nat.zero_le _⟩; (simp only [go_sem, Mach.cells, Mach.cellsF, hmi, hmo, jq, edgeC, List.map_nil, List.map_cons, List.length_cons, List.length_nil, Int.natCast_zero]) <;> rfl)
    intro k hk
    refine EvC.seq ?_
    refine EvC.seq (EvC.rg (by (simp only [go_sem, Mach.cells, Mach.cellsF, hmi, hmo, List.length_map, hml]) <;> rfl) (by simp) ?_)
    refine EvC.cond (by (simp only [go_sem]) <;> rfl) (fun hc => ?_) (fun hc => ?_)
    rotate_left
    · -- else
      refine EvC.exit ?_  -- 0
      refine EvC.seq (EvC.rg (by (simp only [go_sem]) <;> rfl) (by simp) ?_)
      refine EvC.ret ⟨.inl rfl, _, (by (simp only [go_sem]) <;> rfl), ?_, rfl⟩
      simp only [go_sem]
    have hkl : k < Q.length := by simpa using hc
    clear hc
    have hkj := hlt hkl
    have h65 := (hpre (show k ≤ 64 by omega)).length_le
    have he : (jq st N k)[k]? = some (jq st N k)[k] := List.getElem?_eq_getElem hkj
    have hq1 : jq st N (k + 1) = jl st (jq st N k)[k] (jq st N k) N := by simp only [jq, he]
    have heQ : Q[k]? = some (jq st N k)[k] := by
      obtain ⟨t, ht⟩ := hpre (show k ≤ 64 by omega)
      rw [← ht, List.getElem?_append_left hkj]; exact he
    have hpre1 := hpre (show k + 1 ≤ 64 by omega)
    rw [hq1] at hpre1
    generalize (jq st N k)[k] = p at he hq1 heQ hpre1
    obtain ⟨hpi, hpr⟩ := hQr p (List.mem_of_getElem? heQ)
    have hrk := hrow heQ
    obtain ⟨L, hL⟩ : ∃ L, L = jq st N k := ⟨_, rfl⟩
    rw [← hL] at he hq1 hkj h65 hpre1
    rw [← hL]
    have hne : decide ((k : Int) = (L.length : Int)) = false := decide_eq_false (by omega)
    refine EvC.skip ?_
    refine EvC.seq ?_
    refine EvC.block ?_  -- 1
    refine EvC.seq ?_
    refine EvC.seq (EvC.rg (by (simp only [go_sem]) <;> rfl) (by simp) ?_)
    refine EvC.cond_false (by (simp only [go_sem, hne]) <;> rfl) ?_
    refine EvC.skip ?_
    refine EvC.seq (EvC.rg (by (simp only [go_sem]) <;> rfl) (by simp) ?_)
    refine EvC.block ?_  -- 2
    refine EvC.loopS (σ := Nat) (fun i => ⟨[(3, .sc (.int .i64 par)), (4, .ia m.cellsF), (5, .ia a.cells), (6, .ia b.cells), (10, .tl 0 (jl st p L i).length false), (11, .sc (.int .i64 k)), (12, .sc (.int .i64 i))], [], [(0, .arr 2 ((jl st p L i).map edgeC) false)], 1⟩) (fun i => N - i) (fun i => i ≤ N) [3, 4, 5, 6, 10, 11, 12] 1 ?_ ?_
    · exact ⟨[(0, 0)], 0, rfl, (by (simp only [go_sem, Mach.cells, Mach.cellsF, hmi, hmo, jl, Int.natCast_zero]) <;> rfl), Nat.zero_le _⟩
    intro i hi
    refine EvC.seq ?_
    refine EvC.seq (EvC.rg (by (simp only [go_sem, Mach.cells, Mach.cellsF, hmi, hmo]) <;> rfl) (by simp) ?_)
    refine EvC.cond (by (simp only [go_sem]) <;> rfl) (fun hc => ?_) (fun hc => ?_)
    rotate_left
    · -- else
      refine EvC.exit ?_  -- 2
      obtain rfl : N = i := by have : ¬ (i : Int) < a.ins := by simpa using hc
                               omega
      refine EvC.rg (by (simp only [go_sem]) <;> rfl) (by exact inI64_of (by omega) (by omega)) ?_
      refine ⟨[(0, 0)], k + 1, rfl, ?_, hkl, by omega⟩
      rw [hq1]
      (simp only [go_sem, Mach.cells, Mach.cellsF, hmi, hmo, Int.natCast_add, Int.natCast_one]) <;> rfl
    have hil : i < N := by have : (i : Int) < a.ins := by simpa using hc
                           omega
    clear hc
    have hIi : inI64 ((i : Int) + 1) = true := inI64_of (by omega) (by omega)
    have hmono := jl_mono st p L (show i + 1 ≤ N by omega)
    have hl1 : jl st p L (i + 1) = jadd st p (jl st p L i) i := rfl
    have hlen := jl_len st p L i
    obtain ⟨L', hL'⟩ : ∃ L', L' = jl st p L i := ⟨_, rfl⟩
    have heL : L'[k]? = some p := by
      obtain ⟨t, ht⟩ := jl_pre st p L i
      rw [hL', ← ht, List.getElem?_append_left hkj]; exact he
    have hpL : jadd st p L' i <+: Q := by rw [hL', ← hl1]; exact hmono.trans hpre1
    have hje := jrow_get (a := a) (b := b) (par := par) p (i := i) (by omega)
    rw [← hst, ← hQ] at hje
    have hSt := step40_is hf p.1 p.2 i hpi.1 hpi.2 (by omega)
    rw [← hL'] at hl1 hlen ⊢
    generalize jRow a b par p = r at hrk hje
    refine EvC.skip ?_
    refine EvC.seq ?_
    refine EvC.block ?_  -- 3
    cases hs : st p i with
    | none =>
      have hja : jadd st p L' i = L' := by simp only [jadd, hs]
      have hj0 : stepJ a b par (p.1, p.2) i = ((0, 0), -1) := by
        rcases stepJ_ok hf (s := p.1) (t := p.2) (i := (i : Int)) hpi.1 hpi.2 (by omega) with e | e
        · exact e
        · rw [hst, stOf_some (q := stepJ a b par p i) rfl e.1] at hs; cases hs
      rw [hj0] at hSt
      have hed : jed st Q p i = (-1, -1) := by simp [jed, hs]
      rw [hed] at hje
      apply EvC.seq
      apply EvC.drw mixed
      · apply Tr.run
        · (simp only [go_sem, heL, edgeC, List.length_map]) <;> rfl
        · simp; try omega
        apply Tr.cons
        · exact .call rfl rfl (by (simp only [go_sem]) <;> rfl) (by (simp only [go_sem]) <;> rfl) (by (simp only [go_sem]) <;> rfl) (by (simp only [go_sem]) <;> rfl) (by (simp only [go_sem]) <;> rfl) (hSt)
        apply Tr.done
        · (simp only [go_sem, edgeA]) <;> rfl
        · simp; try omega
      · kernel_rfl
      refine EvC.seq (EvC.rg (by (simp only [go_sem, Mach.cells, Mach.cellsF, hrk, rowG, hje, edgeC]) <;> rfl) (by simp; try omega) ?_)
      refine EvC.seq ?_
      refine EvC.seq (EvC.rg (by (simp only [go_sem]) <;> rfl) (by simp) ?_)
      refine EvC.cond_false (by (simp only [go_sem]) <;> rfl) ?_
      refine EvC.skip ?_
      refine EvC.seq ?_
      refine EvC.seq (EvC.rg (by (simp only [go_sem]) <;> rfl) (by simp) ?_)
      refine EvC.cond_true (by (simp only [go_sem]) <;> rfl) ?_
      refine EvC.exit ?_  -- 3
      refine EvC.rg (by (simp only [go_sem]) <;> rfl) (by exact hIi) ?_
      exact ⟨[(0, 0)], i + 1, rfl, (by rw [hl1, hja]; (simp only [go_sem, Mach.cells, Mach.cellsF, hmi, hmo, Int.natCast_add, Int.natCast_one]) <;> rfl), hil, by omega⟩
    | some q =>
      have hja : jadd st p L' i = jput L' q.1 := by simp only [jadd, hs]
      rw [hja] at hl1 hpL
      rw [hst] at hs
      obtain ⟨hj1, hj2⟩ := stOf_eq hs
      have hj1 : stepJ a b par (p.1, p.2) i = q := hj1
      rw [hj1] at hSt
      rw [← hst] at hs
      have hed : jed st Q p i = (((Q.idxOf q.1 : Nat) : Int), q.2) := by simp [jed, hs]
      rw [hed] at hje
      have hqd : decide (q.2 < 0) = false := decide_eq_false (by omega)
      have hqt : edgeA q.1 = .ag [.sc (.int .i64 q.1.1), .sc (.int .i64 q.1.2)] := rfl
      obtain ⟨x, hx⟩ : ∃ x, x = Q.idxOf q.1 := ⟨_, rfl⟩
      rw [← hx] at hje
      have hput : ∀ y, y ∈ jput L' q.1 → Q.idxOf y = (jput L' q.1).idxOf y := fun y hy => idxOf_pre hpL hy
      have hxi : x = (jput L' q.1).idxOf q.1 := by rw [hx]; exact hput _ (by rw [mem_jput]; exact .inr rfl)
      apply EvC.seq
      apply EvC.drw mixed
      · apply Tr.run
        · (simp only [go_sem, heL, edgeC, List.length_map]) <;> rfl
        · simp; try omega
        apply Tr.cons
        · exact .call rfl rfl (by (simp only [go_sem]) <;> rfl) (by (simp only [go_sem]) <;> rfl) (by (simp only [go_sem]) <;> rfl) (by (simp only [go_sem]) <;> rfl) (by (simp only [go_sem]) <;> rfl) (hSt)
        apply Tr.done
        · (simp only [go_sem, edgeA]) <;> rfl
        · simp; try omega
      · kernel_rfl
      refine EvC.seq (EvC.rg (by (simp only [go_sem, Mach.cells, Mach.cellsF, hrk, rowG, hje, edgeC]) <;> rfl) (by simp; try omega) ?_)
      refine EvC.seq ?_
      refine EvC.seq (EvC.rg (by (simp only [go_sem]) <;> rfl) (by simp) ?_)
      refine EvC.cond_false (by (simp only [go_sem, decide_true]) <;> rfl) ?_
      refine EvC.skip ?_
      refine EvC.seq ?_
      refine EvC.seq (EvC.rg (by (simp only [go_sem]) <;> rfl) (by simp) ?_)
      refine EvC.cond_false (by (simp only [go_sem, hqd]) <;> rfl) ?_
      refine EvC.skip ?_
      by_cases hmem : q.1 ∈ L'
      · have hjp : jput L' q.1 = L' := if_pos hmem
        rw [hjp] at hxi hl1
        have hxl : x < L'.length := by rw [hxi]; exact List.idxOf_lt_length_of_mem hmem
        have hgx : L'[x]? = some q.1 := by
          subst hxi
          rw [List.getElem?_eq_getElem hxl, List.getElem_idxOf hxl]
        have d1 : decide ((L'.length : Int) < (x : Int)) = false := decide_eq_false (by omega)
        have d2 : decide ((x : Int) = (L'.length : Int)) = false := decide_eq_false (by omega)
        refine EvC.seq ?_
        refine EvC.seq (EvC.rg (by (simp only [go_sem, List.length_map]) <;> rfl) (by simp) ?_)
        refine EvC.cond_false (by (simp only [go_sem, d1]) <;> rfl) ?_
        refine EvC.skip ?_
        refine EvC.seq ?_
        refine EvC.seq (EvC.rg (by (simp only [go_sem, List.length_map]) <;> rfl) (by simp) ?_)
        refine EvC.cond_false (by (simp only [go_sem, d2]) <;> rfl) ?_
        refine EvC.skip ?_
        apply EvC.seq
        apply EvC.drd mixed
        · (simp only [go_sem, hgx, edgeC, List.length_map, Int.toNat_natCast]) <;> rfl
        · simp; try omega
        · kernel_rfl
        refine EvC.cond_false (by (simp only [go_sem]) <;> rfl) ?_
        refine EvC.skip ?_
        refine EvC.rg (by (simp only [go_sem]) <;> rfl) (by exact hIi) ?_
        exact ⟨[(0, 0)], i + 1, rfl, (by rw [hl1]; (simp only [go_sem, Mach.cells, Mach.cellsF, hmi, hmo, Int.natCast_add, Int.natCast_one]) <;> rfl), hil, by omega⟩
      · have hjp : jput L' q.1 = L' ++ [q.1] := if_neg hmem
        rw [hjp] at hxi hl1
        have hxl : x = L'.length := by
          rw [hxi, List.idxOf_append, if_neg hmem]; simp
        clear hxi hx
        subst hxl
        have hL64 := hpL.length_le
        rw [hjp, List.length_append, List.length_singleton] at hL64
        obtain ⟨D, hD⟩ : ∃ D, D = L' ++ [q.1] := ⟨_, rfl⟩
        have hDl : D.length = L'.length + 1 := by rw [hD]; simp
        have hgx : D[L'.length]? = some q.1 := by rw [hD]; simp
        refine EvC.seq ?_
        refine EvC.seq (EvC.rg (by (simp only [go_sem, List.length_map]) <;> rfl) (by simp) ?_)
        refine EvC.cond_false (by (simp only [go_sem, Int.lt_irrefl, decide_false]) <;> rfl) ?_
        refine EvC.skip ?_
        refine EvC.seq ?_
        refine EvC.seq (EvC.rg (by (simp only [go_sem, List.length_map]) <;> rfl) (by simp) ?_)
        refine EvC.cond_true (by (simp only [go_sem, decide_true]) <;> rfl) ?_
        refine EvC.rg (by (simp only [go_sem, edgeC, List.length_map]) <;> rfl) (by simp [room_eq, AV.norefs, AV.noref]; try omega) ?_
        have hap : L'.map edgeC ++ [[.sc (.int .i64 q.1.1), .sc (.int .i64 q.1.2)]] = D.map edgeC := by rw [hD]; simp [edgeC]
        rw [hap]
        apply EvC.seq
        apply EvC.drd mixed
        · (simp only [go_sem, hgx, edgeC, List.length_map, hDl, Int.toNat_natCast]) <;> rfl
        · simp; try omega
        · kernel_rfl
        refine EvC.cond_false (by (simp only [go_sem]) <;> rfl) ?_
        refine EvC.skip ?_
        refine EvC.rg (by (simp only [go_sem]) <;> rfl) (by exact hIi) ?_
        exact ⟨[(0, 0)], i + 1, rfl, (by rw [hl1, ← hD]; (simp only [go_sem, Mach.cells, Mach.cellsF, hmi, hmo, hDl, List.length_map, Int.natCast_add, Int.natCast_one]) <;> rfl), hil, by omega⟩
end Go.Avl
namespace Go.Avl
open Go Go.Proofs.Try
set_option maxRecDepth 10000
set_option linter.unusedSimpArgs false

/-! ### Responses in parallel -/
def par2 (o x y : Int) : Int := if 0 ≤ x ∧ 0 ≤ y then x * o + y else -1
theorem jM_step {a b : Mach} {par outs : Int} {k : Nat} {p : Pr} (hk : (jQ a b par)[k]? = some p) {x : Int} (hx : 0 ≤ x ∧ x < a.ins) : stepR (jM a b par outs) k x = jed (stOf a b par) (jQ a b par) p x.toNat := by
  have h1 : (jM a b par outs).rows[k]? = some (jRow a b par p) := by
    simp only [jM]; rw [List.getElem?_map, hk]; rfl
  have h2 := jrow_get (a := a) (b := b) (par := par) p (i := x.toNat) (by omega)
  rw [stepR, if_neg (by omega), Int.toNat_natCast, h1]
  simp only [Option.map_some, Option.getD_some, h2]
theorem runR_bd {m : Mach} (hv : Valid m) : ∀ (w : List Int) (s : Int), s < m.rows.length → (∀ x ∈ w, 0 ≤ x ∧ x < m.ins) → ∀ y ∈ runR m s w, -1 ≤ y ∧ y < 16
  | [], _, _, _, _, h => by cases h
  | x :: w, s, hs, hw, y, h => by
    have hx := hw x List.mem_cons_self
    simp only [runR, List.mem_cons] at h
    rcases h with rfl | h
    · by_cases hn : s < 0
      · rw [stepR_neg hn]; decide
      · obtain ⟨r, e, k1, k2, k3, k4⟩ := stepR_get hv (by omega) hs hx
        have := fits_edge k4
        have := hv.outs
        rw [k3]; omega
    · exact runR_bd hv w _ (stepR_lt hv hs hx) (fun z hz => hw z (List.mem_cons_of_mem _ hz)) y h
def ParRel (a b : Mach) (s s1 s2 : Int) : Prop := (s < 0 ∧ (s1 < 0 ∨ s2 < 0)) ∨ (∃ k : Nat, s = k ∧ (jQ a b 1)[k]? = some (s1, s2))
theorem par_step {a b : Mach} {outs : Int} (hf : Fit a b 1) (h64 : (jQ a b 1).length ≤ 64) {s s1 s2 x : Int} (hx : 0 ≤ x ∧ x < a.ins) (hR : ParRel a b s s1 s2) :
    ParRel a b (stepR (jM a b 1 outs) s x).1 (stepR a s1 x).1 (stepR b s2 x).1 ∧ (stepR (jM a b 1 outs) s x).2 = par2 b.outs (stepR a s1 x).2 (stepR b s2 x).2 := by
  rcases hR with ⟨h1, h2⟩ | ⟨k, rfl, hk⟩
  · rw [stepR_neg h1]
    rcases h2 with h2 | h2
    · rw [stepR_neg h2]; exact ⟨.inl ⟨by decide, .inl (by decide)⟩, rfl⟩
    · rw [stepR_neg h2]; exact ⟨.inl ⟨by decide, .inr (by decide)⟩, by simp [par2]⟩
  · have hm := List.mem_of_getElem? hk
    have hr := jQ_reach _ hm
    obtain ⟨⟨i1, i2⟩, -⟩ := RS_in hf hr
    simp only at i1 i2
    rw [jM_step hk hx]
    obtain ⟨r1, e, k1, k2, k3, k4⟩ := stepR_get hf.va i1.1 i1.2 hx
    obtain ⟨r2, f, l1, l2, l3, l4⟩ := stepR_get hf.vb i2.1 i2.2 (show 0 ≤ x ∧ x < b.ins by rw [← hf.par rfl]; exact hx)
    have he := fits_edge k4
    have hf' := fits_edge l4
    have hxt : ((x.toNat : Nat) : Int) = x := by omega
    rw [k3, l3]
    by_cases hn : e.1 < 0 ∨ f.1 < 0
    · have hJ : stepJ a b 1 (s1, s2) (x.toNat : Nat) = ((0, 0), -1) := by
        rw [hxt]
        rcases hn with h | h
        · simp [stepJ, k3, h]
        · by_cases h' : e.1 < 0
          · simp [stepJ, k3, h']
          · simp [stepJ, k3, l3, h, h']
      rw [jed_none (stOf_none hJ)]
      refine ⟨.inl ⟨by decide, hn⟩, ?_⟩
      unfold par2
      rw [if_neg (by omega)]
    · have hJ : stepJ a b 1 (s1, s2) (x.toNat : Nat) = ((e.1, f.1), e.2 * b.outs + f.2) := by
        rw [hxt]
        have h1 : ¬ e.1 < 0 := by omega
        have h2 : ¬ f.1 < 0 := by omega
        simp [stepJ, k3, l3, h1, h2]
      have hm1 : 0 ≤ e.2 * b.outs := Int.mul_nonneg (by omega) (by have := hf.vb.outs; omega)
      have hs := stOf_some hJ (show 0 ≤ e.2 * b.outs + f.2 by omega)
      rw [jed_some hs]
      have hq : (e.1, f.1) ∈ jQ a b 1 := jQ_all h64 (RS.step hr (i := x.toNat) (by omega) hs)
      refine ⟨.inr ⟨_, rfl, ?_⟩, ?_⟩
      · have hl := List.idxOf_lt_length_of_mem hq
        rw [List.getElem?_eq_getElem hl, List.getElem_idxOf hl]
      · unfold par2; rw [if_pos (by omega)]
theorem par_run {a b : Mach} {outs : Int} (hf : Fit a b 1) (h64 : (jQ a b 1).length ≤ 64) : ∀ (w : List Int) (s s1 s2 : Int), ParRel a b s s1 s2 → (∀ x ∈ w, 0 ≤ x ∧ x < a.ins) →
    runR (jM a b 1 outs) s w = List.zipWith (par2 b.outs) (runR a s1 w) (runR b s2 w)
  | [], _, _, _, _, _ => rfl
  | x :: w, s, s1, s2, hR, hw => by
    obtain ⟨h1, h2⟩ := par_step (outs := outs) hf h64 (hw x List.mem_cons_self) hR
    simp only [runR, List.zipWith_cons_cons]
    rw [h2, par_run hf h64 w _ _ _ h1 fun z hz => hw z (List.mem_cons_of_mem _ hz)]
end Go.Avl
namespace Go.Avl
open Go Go.Proofs.Try
set_option maxRecDepth 10000
set_option linter.unusedSimpArgs false

theorem joinsParallel_is {x y : LM} (hx : x.Ok) (hy : y.Ok) (nl : Bool) (w : List Int) (c : Cp) (hw : ∀ a ∈ w, 0 ≤ a ∧ a < 256) : PureIs prog 4 [.ag x.cells, .ag y.cells, .ag [.sl nl (w.map u8C) c]] (.sc (.bool true)) := by
  obtain ⟨z, hz⟩ : ∃ z : LM, z = { y with ins := x.ins } := ⟨_, rfl⟩
  have hzo : z.Ok := by rw [hz]; exact ⟨hy.st, hx.ins, hy.outs, hy.es⟩
  have va := LM.valid hx
  have vb := LM.valid hzo
  obtain ⟨a, ha⟩ : ∃ a, a = x.mach := ⟨_, rfl⟩
  obtain ⟨b, hb⟩ : ∃ b, b = z.mach := ⟨_, rfl⟩
  rw [← ha] at va
  rw [← hb] at vb
  have hA : PureIs prog 12 [.ag [.sc (.int .u8 x.st), .sc (.int .u8 x.ins), .sc (.int .u8 x.outs), .sc (.bool x.part), .sl x.nl (x.es.map u16C) x.cap]] (.ag [.sc (.int .i64 a.ins), .sc (.int .i64 a.outs), .sl a.nl (a.rows.map rowC) .unk]) := by
    have := mOf_is hx; rw [← ha] at this; exact this
  have hB : PureIs prog 12 [.ag [.sc (.int .u8 y.st), .sc (.int .u8 x.ins), .sc (.int .u8 y.outs), .sc (.bool y.part), .sl y.nl (y.es.map u16C) y.cap]] (.ag [.sc (.int .i64 b.ins), .sc (.int .i64 b.outs), .sl b.nl (b.rows.map rowC) .unk]) := by
    have := mOf_is hzo; rw [← hb, hz] at this; exact this
  have hio : a.ins = b.ins := by rw [ha, hb, hz]; rfl
  have hra : a.rows.length ≤ 6 := by rw [ha]; simp only [LM.mach, List.length_map, List.length_range]; have := LM.bounds hx; omega
  have hrb : b.rows.length ≤ 6 := by rw [hb]; simp only [LM.mach, List.length_map, List.length_range]; have := LM.bounds hzo; omega
  have hab : a.outs ≤ 3 ∧ b.outs ≤ 3 := by rw [ha, hb]; simp only [LM.mach]; have := LM.bounds hx; have := LM.bounds hzo; omega
  have hf : Fit a b 1 := ⟨va, vb, .inr rfl, fun h => absurd h (by decide), fun _ => hio⟩
  have hao := va.outs
  have hbo := vb.outs
  have h64 : (jQ a b 1).length ≤ 64 := by
    have h1 := jQ_le hf
    have h2 := reachN_le a b 1
    have h3 : a.rows.length * b.rows.length ≤ 6 * 6 := Nat.mul_le_mul hra hrb
    omega
  obtain ⟨o, ho⟩ : ∃ o, o = a.outs * b.outs := ⟨_, rfl⟩
  have hm1 : 1 * 1 ≤ a.outs * b.outs := Int.mul_le_mul (by omega) (by omega) (by omega) (by omega)
  have hm2 : a.outs * b.outs ≤ 3 * 3 := Int.mul_le_mul (by omega) (by omega) (by omega) (by omega)
  have ho16 : 1 ≤ o ∧ o ≤ 16 := by omega
  obtain ⟨W, hW⟩ : ∃ W, W = wOf w a.ins := ⟨_, rfl⟩
  have hai := va.ins
  have hWl : W.length ≤ 12 := by rw [hW]; exact wOf_len _ _
  have hWo : ∀ v ∈ W, 0 ≤ v ∧ v < a.ins := by rw [hW]; exact wOf_ok (by omega)
  have hWC : PureIs prog 13 [.ag [.sl nl (w.map u8C) c], .sc (.int .i64 a.ins)] (.sl W.isEmpty (W.map intC) .unk) := by
    rw [hW]; exact wOf_is nl w c a.ins (by omega) hw
  have vm := jM_valid hf h64 (outs := o) (by rw [if_pos rfl]; exact ho) ho16
  have hJC := joint15_is hf h64 (outs := o) (by rw [if_pos rfl]; exact ho) ho16
  have hP : PureIs prog 22 [.ag a.cells, .ag b.cells] (.tu [.ag (jM a b 1 o).cellsF, .sc (.int .i64 0)]) := by
    have := parallel_is a b va.small vb.small
    rw [parallelA, if_neg (by simp [bothE_of va.check vb.check]), if_neg (by simp [hio]), if_neg (by omega), ← ho, jM_tu o h64] at this
    exact this
  have hrun := par_run (outs := o) hf h64 W 0 0 0 (.inr ⟨0, rfl, jQ_zero a b 1⟩) hWo
  have hmi : (jM a b 1 o).ins = a.ins := rfl
  have hml := jM_len a b 1 o
  have hQ1 := jQ_pos a b 1
  rw [← hml] at hQ1 h64
  generalize jM a b 1 o = m at vm hJC hP hrun hmi hml hQ1 h64
  have hP : PureIs prog 22 [.ag a.cells, .ag b.cells] (.tu [.ag [.sc (.int .i64 m.ins), .sc (.int .i64 m.outs), .sl m.nl (m.rows.map rowG) .full], .sc (.int .i64 0)]) := hP
  have hm0 : decide ((m.rows.length : Int) = 0) = false := decide_eq_false (by omega)
  have hRm := runF_is vm W.isEmpty W .unk (by rw [hmi]; exact hWo) (by omega) 0 (by omega)
  have har := va.rows
  have hbr := vb.rows
  have hRa := run04_is va 0 (by omega) W.isEmpty W .unk hWo (by omega)
  have hRb := run04_is vb 0 (by omega) W.isEmpty W .unk (by rw [← hio]; exact hWo) (by omega)
  have hpb := runR_bd va W 0 (by omega) hWo
  have hqb := runR_bd vb W 0 (by omega) (by rw [← hio]; exact hWo)
  have hpl := runR_len a 0 W
  have hql := runR_len b 0 W
  have hrl := runR_len m 0 W
  generalize runR a 0 W = p at hrun hRa hpb hpl
  generalize runR b 0 W = q at hrun hRb hqb hql
  generalize runR m 0 W = r at hrun hRm hrl
  refine PureIs.of (nv := 17) (hid := [53, 66, 80, 98]) func4 rfl (by kernel_rfl) (by simp [ntmps4]) fun _ => ?_
  rw [ntmps4, results4]
  refine EvC.seq (EvC.rg (by (simp only [go_sem, LM.cells]) <;> rfl) (by simp) ?_)
  refine EvC.seq (EvC.rg (by (simp only [go_sem]) <;> rfl) (by simp) ?_)
  apply EvC.seq
  apply EvC.drw mixed
  · apply Tr.run
    · (simp only [go_sem]) <;> rfl
    · simp
    apply Tr.cons
    · exact .call rfl rfl (by (simp only [go_sem]) <;> rfl) (by (simp only [go_sem]) <;> rfl) (by (simp only [go_sem]) <;> rfl) (by (simp only [go_sem]) <;> rfl) (by (simp only [go_sem]) <;> rfl) (hA)
    apply Tr.run
    · (simp only [go_sem]) <;> rfl
    · simp
    apply Tr.cons
    · exact .call rfl rfl (by (simp only [go_sem]) <;> rfl) (by (simp only [go_sem]) <;> rfl) (by (simp only [go_sem]) <;> rfl) (by (simp only [go_sem]) <;> rfl) (by (simp only [go_sem]) <;> rfl) (hB)
    apply Tr.done
    · (simp only [go_sem]) <;> rfl
    · simp
  · kernel_rfl
  refine EvC.frzB 12 (by (simp only [go_sem]) <;> rfl) ?_
  refine EvC.frzB 13 (by (simp only [go_sem]) <;> rfl) ?_
  refine EvC.frzB 2 (by (simp only [go_sem]) <;> rfl) ?_
  apply EvC.seq
  apply EvC.tr
  · apply Tr.run
    · (simp only [go_sem]) <;> rfl
    · simp
    apply Tr.cons
    · exact .call rfl rfl (by (simp only [go_sem]) <;> rfl) (by (simp only [go_sem]) <;> rfl) (by (simp only [go_sem]) <;> rfl) (by (simp only [go_sem]) <;> rfl) (by (simp only [go_sem]) <;> rfl) (hWC)
    apply Tr.done
    · (simp only [go_sem]) <;> rfl
    · simp
  apply EvC.seq
  apply EvC.tr
  · apply Tr.run
    · (simp only [go_sem]) <;> rfl
    · simp
    apply Tr.cons
    · exact .call rfl rfl (by (simp only [go_sem]) <;> rfl) (by (simp only [go_sem]) <;> rfl) (by (simp only [go_sem]) <;> rfl) (by (simp only [go_sem]) <;> rfl) (by (simp only [go_sem]) <;> rfl) (hP)
    apply Tr.done
    · (simp only [go_sem]) <;> rfl
    · simp
  refine EvC.frzB 27 (by (simp only [go_sem]) <;> rfl) ?_
  refine EvC.seq ?_
  apply EvC.seq
  apply EvC.tr
  · apply Tr.run
    · (simp only [go_sem, hm0]) <;> rfl
    · simp
    apply Tr.cons
    · exact .callG rfl rfl (by (simp only [go_sem]) <;> rfl) rfl (by (simp only [go_sem]) <;> rfl) (by (simp only [go_sem]) <;> rfl) (by (simp only [go_sem]) <;> rfl) (by (simp only [go_sem]) <;> rfl) (by (simp only [go_sem]) <;> rfl) (hJC)
    apply Tr.run
    · (simp only [go_sem, hm0]) <;> rfl
    · simp
    apply Tr.cons
    · exact .callG rfl rfl (by (simp only [go_sem]) <;> rfl) rfl (by (simp only [go_sem]) <;> rfl) (by (simp only [go_sem]) <;> rfl) (by (simp only [go_sem]) <;> rfl) (by (simp only [go_sem]) <;> rfl) (by (simp only [go_sem]) <;> rfl) (clipped_is m (by omega))
    apply Tr.done
    · (simp only [go_sem]) <;> rfl
    · simp
  refine EvC.cond_false (by (simp only [go_sem]) <;> rfl) ?_
  refine EvC.skip ?_
  apply EvC.seq
  apply EvC.drw mixed
  · apply Tr.run
    · (simp only [go_sem]) <;> rfl
    · simp
    apply Tr.cons
    · exact .call rfl rfl (by (simp only [go_sem]) <;> rfl) (by (simp only [go_sem]) <;> rfl) (by (simp only [go_sem]) <;> rfl) (by (simp only [go_sem]) <;> rfl) (by (simp only [go_sem]) <;> rfl) (hRa)
    apply Tr.run
    · (simp only [go_sem]) <;> rfl
    · simp
    apply Tr.cons
    · exact .call rfl rfl (by (simp only [go_sem]) <;> rfl) (by (simp only [go_sem]) <;> rfl) (by (simp only [go_sem]) <;> rfl) (by (simp only [go_sem]) <;> rfl) (by (simp only [go_sem]) <;> rfl) (hRb)
    apply Tr.run
    · (simp only [go_sem]) <;> rfl
    · simp
    apply Tr.cons
    · exact .call rfl rfl (by (simp only [go_sem]) <;> rfl) (by (simp only [go_sem]) <;> rfl) (by (simp only [go_sem]) <;> rfl) (by (simp only [go_sem]) <;> rfl) (by (simp only [go_sem]) <;> rfl) (hRm)
    apply Tr.done
    · (simp only [go_sem]) <;> rfl
    · simp
  · kernel_rfl
  refine EvC.seq ?_
  refine EvC.seq (EvC.rg (by (simp only [go_sem]) <;> rfl) (by simp) ?_)
  refine EvC.block ?_  -- 0
  refine EvC.loopS (σ := Nat) (fun k => ⟨[(8, .ia b.cells), (9, .sl W.isEmpty (W.map intC) .unk), (12, .sl p.isEmpty (p.map intC) .unk), (13, .sl q.isEmpty (q.map intC) .unk), (14, .sl r.isEmpty (r.map intC) .unk), (15, .sc (.int .i64 k))], [], [], 0⟩) (fun k => W.length - k) (fun k => k ≤ W.length) [8, 9, 12, 13, 14, 15] 0 ?_ ?_
  · exact ⟨[], 0, rfl, (by (simp only [go_sem, Mach.cells, Int.natCast_zero]) <;> rfl), Nat.zero_le _⟩
  intro k hk
  refine EvC.seq ?_
  refine EvC.seq (EvC.rg (by (simp only [go_sem, List.length_map]) <;> rfl) (by simp) ?_)
  refine EvC.cond (by (simp only [go_sem]) <;> rfl) (fun hc => ?_) (fun hc => ?_)
  rotate_left
  · -- else
    refine EvC.exit ?_  -- 0
    apply EvC.seq
    apply EvC.tr
    · apply Tr.run
      · (simp only [go_sem]) <;> rfl
      · simp
      apply Tr.cons
      · exact .call rfl rfl (by (simp only [go_sem]) <;> rfl) (by (simp only [go_sem]) <;> rfl) (by (simp only [go_sem]) <;> rfl) (by (simp only [go_sem]) <;> rfl) (by (simp only [go_sem]) <;> rfl) (lives_is)
      apply Tr.done
      · (simp only [go_sem]) <;> rfl
      · simp
    refine EvC.ret ⟨.inl rfl, _, (by (simp only [go_sem]) <;> rfl), ?_, rfl⟩
    simp only [go_sem]
  have hkl : k < W.length := by simpa using hc
  clear hc
  have hkp : k < p.length := by omega
  have hkq : k < q.length := by omega
  clear hrl
  have hpk : p[k]? = some (p[k]'hkp) := List.getElem?_eq_getElem hkp
  have hqk : q[k]? = some (q[k]'hkq) := List.getElem?_eq_getElem hkq
  have hu := hpb _ (List.getElem_mem hkp)
  have hv := hqb _ (List.getElem_mem hkq)
  have hrk : r[k]? = some (par2 b.outs (p[k]'hkp) (q[k]'hkq)) := by
    rw [hrun, List.getElem?_zipWith, hpk, hqk]
  generalize p[k]'hkp = u at hpk hrk hu
  generalize q[k]'hkq = v at hqk hrk hv
  refine EvC.skip ?_
  refine EvC.seq ?_
  refine EvC.block ?_  -- 1
  refine EvC.seq (EvC.rg (by (simp only [go_sem]) <;> rfl) (by simp) ?_)
  refine EvC.seq ?_
  by_cases h1 : 0 ≤ u
  · have d1 : decide (0 ≤ u) = true := decide_eq_true h1
    by_cases h2 : 0 ≤ v
    · have d2 : decide (0 ≤ v) = true := decide_eq_true h2
      have hp2 : par2 b.outs u v = u * b.outs + v := by rw [par2, if_pos ⟨h1, h2⟩]
      have hn1 : 0 ≤ u * b.outs := Int.mul_nonneg h1 (by omega)
      have hn2 : u * b.outs ≤ 16 * 16 := Int.mul_le_mul (by omega) (by omega) (by omega) (by omega)
      have hI1 : inI64 (u * b.outs) = true := inI64_of (by omega) (by omega)
      have hI2 : inI64 (u * b.outs + v) = true := inI64_of (by omega) (by omega)
      rw [hp2] at hrk
      apply EvC.seq
      apply EvC.trd
      · (simp only [go_sem, hpk, hqk, intC, d1, d2]) <;> rfl
      · simp; try omega
      refine EvC.cond_true (by (simp only [go_sem]) <;> rfl) ?_
      apply EvC.drd mixed
      · (simp only [go_sem, hpk, hqk, intC, Mach.cells]) <;> rfl
      · simp [hI1, hI2]; try omega
      · kernel_rfl
      refine EvC.seq (EvC.rg (by (simp only [go_sem, hrk, intC]) <;> rfl) (by simp; try omega) ?_)
      refine EvC.cond_false (by (simp only [go_sem, decide_true]) <;> rfl) ?_
      refine EvC.skip ?_
      refine EvC.rg (by (simp only [go_sem]) <;> rfl) (by exact inI64_of (by omega) (by omega)) ?_
      exact ⟨[], k + 1, rfl, (by (simp only [go_sem, Mach.cells, Int.natCast_add, Int.natCast_one]) <;> rfl), hkl, by omega⟩
    · have d2 : decide (0 ≤ v) = false := decide_eq_false h2
      have hp2 : par2 b.outs u v = -1 := by rw [par2, if_neg (by omega)]
      rw [hp2] at hrk
      apply EvC.seq
      apply EvC.trd
      · (simp only [go_sem, hpk, hqk, intC, d1, d2]) <;> rfl
      · simp; try omega
      refine EvC.cond_false (by (simp only [go_sem]) <;> rfl) ?_
      refine EvC.skip ?_
      refine EvC.seq (EvC.rg (by (simp only [go_sem, hrk, intC]) <;> rfl) (by simp; try omega) ?_)
      refine EvC.cond_false (by (simp only [go_sem, decide_true]) <;> rfl) ?_
      refine EvC.skip ?_
      refine EvC.rg (by (simp only [go_sem]) <;> rfl) (by exact inI64_of (by omega) (by omega)) ?_
      exact ⟨[], k + 1, rfl, (by (simp only [go_sem, Mach.cells, Int.natCast_add, Int.natCast_one]) <;> rfl), hkl, by omega⟩
  · have d1 : decide (0 ≤ u) = false := decide_eq_false h1
    have hp2 : par2 b.outs u v = -1 := by rw [par2, if_neg (by omega)]
    rw [hp2] at hrk
    apply EvC.seq
    apply EvC.trd
    · (simp only [go_sem, hpk, hqk, intC, d1]) <;> rfl
    · simp; try omega
    refine EvC.cond_false (by (simp only [go_sem]) <;> rfl) ?_
    refine EvC.skip ?_
    refine EvC.seq (EvC.rg (by (simp only [go_sem, hrk, intC]) <;> rfl) (by simp; try omega) ?_)
    refine EvC.cond_false (by (simp only [go_sem, decide_true]) <;> rfl) ?_
    refine EvC.skip ?_
    refine EvC.rg (by (simp only [go_sem]) <;> rfl) (by exact inI64_of (by omega) (by omega)) ?_
    exact ⟨[], k + 1, rfl, (by (simp only [go_sem, Mach.cells, Int.natCast_add, Int.natCast_one]) <;> rfl), hkl, by omega⟩
end Go.Avl
namespace Go.Avl
open Go Go.Proofs.Try
set_option maxRecDepth 10000
set_option linter.unusedSimpArgs false

/-- What came of two machines of which the second is valid. -/
structure ResJ (rows : List (List AV)) (i o e : Int) (nl : Bool) (c : Cp) (a m : Mach) (par : Int) (fit : Prop) (great : Prop) : Prop where
  nr : rows.all AV.norefs = true
  alpha : ¬ fit → e = 5
  limit : fit → great → e = 3
  nth : fit → great → PureIs prog 18 [.ag [.sc (.int .i64 i), .sc (.int .i64 o), .sl nl rows c], .sc (.int .i64 3), .sc (.int .i64 3)] (.sc (.bool true))
  ok : fit → ¬ great → e = 0
  joint : fit → ¬ great → PureIs prog 15 [.ag [.sc (.int .i64 i), .sc (.int .i64 o), .sl nl rows c], .ag a.cells, .ag m.cells, .sc (.int .i64 par)] (.sc (.int .i64 1))
theorem series_res {a m : Mach} (va : Valid a) (vm : Valid m) : ∃ rows i o e nl c, ResJ rows i o e nl c a m 0 (a.outs = m.ins) (64 < reachN a m 0) ∧
    PureIs prog 14 [.ag a.cells, .ag m.cells] (.tu [.ag [.sc (.int .i64 i), .sc (.int .i64 o), .sl nl rows c], .sc (.int .i64 e)]) := by
  have hS := series_is a m va.small vm.small
  rw [seriesA, if_neg (by simp [bothE_of va.check vm.check])] at hS
  by_cases hf : a.outs = m.ins
  · rw [if_neg (by simpa using hf)] at hS
    have hF : Fit a m 0 := ⟨va, vm, .inl rfl, fun _ => hf, fun h => absurd h (by decide)⟩
    by_cases h64 : (jQ a m 0).length ≤ 64
    · rw [jM_tu m.outs h64] at hS
      have hn := jQ_len hF h64
      have hJ := joint15_is hF h64 (outs := m.outs) (by rw [if_neg (by decide)]) vm.outs
      exact ⟨_, _, _, _, _, _, ⟨by simp [List.all_eq_true, rowG, AV.norefs, AV.noref], fun h => absurd hf h, fun _ h => by omega, fun _ h => by omega, fun _ _ => rfl, fun _ _ => hJ⟩, hS⟩
    · rw [jointA_big h64] at hS
      have hn := jQ_le hF
      exact ⟨_, _, _, _, _, _, ⟨rfl, fun h => absurd hf h, fun _ _ => rfl, fun _ _ => nothing_is 3 _, fun _ h => by omega, fun _ h => by omega⟩, hS⟩
  · rw [if_pos hf] at hS
    exact ⟨_, _, _, _, _, _, ⟨rfl, fun _ => rfl, fun h => absurd h hf, fun h => absurd h hf, fun h => absurd h hf, fun h => absurd h hf⟩, hS⟩
theorem parallel_res {a m : Mach} (va : Valid a) (vm : Valid m) : ∃ rows i o e nl c, ResJ rows i o e nl c a m 1 (a.ins = m.ins) (64 < reachN a m 1 ∨ 16 < a.outs * m.outs) ∧
    PureIs prog 22 [.ag a.cells, .ag m.cells] (.tu [.ag [.sc (.int .i64 i), .sc (.int .i64 o), .sl nl rows c], .sc (.int .i64 e)]) := by
  have hS := parallel_is a m va.small vm.small
  rw [parallelA, if_neg (by simp [bothE_of va.check vm.check])] at hS
  by_cases hf : a.ins = m.ins
  · rw [if_neg (by simpa using hf)] at hS
    have hF : Fit a m 1 := ⟨va, vm, .inr rfl, fun h => absurd h (by decide), fun _ => hf⟩
    have ha := va.outs
    have hb := vm.outs
    have hm1 : 1 * 1 ≤ a.outs * m.outs := Int.mul_le_mul (by omega) (by omega) (by omega) (by omega)
    obtain ⟨o, ho⟩ : ∃ o, o = a.outs * m.outs := ⟨_, rfl⟩
    rw [← ho] at hm1 hS ⊢
    by_cases h16 : 16 < o
    · rw [if_pos h16] at hS
      exact ⟨_, _, _, _, _, _, ⟨rfl, fun h => absurd hf h, fun _ _ => rfl, fun _ _ => nothing_is 3 _, fun _ h => by omega, fun _ h => by omega⟩, hS⟩
    rw [if_neg h16] at hS
    by_cases h64 : (jQ a m 1).length ≤ 64
    · rw [jM_tu o h64] at hS
      have hn := jQ_len hF h64
      have hJ := joint15_is hF h64 (outs := o) (by rw [if_pos rfl]; exact ho) (by omega)
      exact ⟨_, _, _, _, _, _, ⟨by simp [List.all_eq_true, rowG, AV.norefs, AV.noref], fun h => absurd hf h, fun _ h => by omega, fun _ h => by omega, fun _ _ => rfl, fun _ _ => hJ⟩, hS⟩
    · rw [jointA_big h64] at hS
      have hn := jQ_le hF
      exact ⟨_, _, _, _, _, _, ⟨rfl, fun h => absurd hf h, fun _ _ => rfl, fun _ _ => nothing_is 3 _, fun _ h => by omega, fun _ h => by omega⟩, hS⟩
  · rw [if_pos hf] at hS
    exact ⟨_, _, _, _, _, _, ⟨rfl, fun _ => rfl, fun h => absurd h hf, fun h => absurd h hf, fun h => absurd h hf, fun h => absurd h hf⟩, hS⟩
structure ResU (rows : List (List AV)) (i o e : Int) (nl : Bool) (c : Cp) (a m : Mach) : Prop where
  nr : rows.all AV.norefs = true
  alpha : ¬ a.ins = m.ins → e = 5
  limit : a.ins = m.ins → 64 < a.rows.length + m.rows.length → e = 3
  nth : a.ins = m.ins → 64 < a.rows.length + m.rows.length → PureIs prog 18 [.ag [.sc (.int .i64 i), .sc (.int .i64 o), .sl nl rows c], .sc (.int .i64 3), .sc (.int .i64 3)] (.sc (.bool true))
  ok : a.ins = m.ins → ¬ 64 < a.rows.length + m.rows.length → e = 0
  bes : a.ins = m.ins → ¬ 64 < a.rows.length + m.rows.length → PureIs prog 21 [.ag [.sc (.int .i64 i), .sc (.int .i64 o), .sl nl rows c], .sc (.int .i64 0), .ag (besM a m).cells] (.sc (.bool true))
theorem unite_res {a m : Mach} (va : Valid a) (vm : Valid m) : ∃ rows i o e nl c, ResU rows i o e nl c a m ∧
    PureIs prog 32 [.ag a.cells, .ag m.cells] (.tu [.ag [.sc (.int .i64 i), .sc (.int .i64 o), .sl nl rows c], .sc (.int .i64 e)]) := by
  have hS := unite_is a m va.small vm.small
  rw [uniteA, if_neg (by simp [bothE_of va.check vm.check])] at hS
  by_cases hf : a.ins = m.ins
  · rw [if_neg (by simpa using hf)] at hS
    by_cases h64 : 64 < a.rows.length + m.rows.length
    · rw [if_pos h64] at hS
      exact ⟨_, _, _, _, _, _, ⟨rfl, fun h => absurd hf h, fun _ _ => rfl, fun _ _ => nothing_is 3 _, fun _ h => absurd h64 h, fun _ h => absurd h64 h⟩, hS⟩
    · rw [if_neg h64] at hS
      have vu := uniM_valid va vm hf (by omega)
      have := vu.rows
      exact ⟨_, _, _, _, _, _, ⟨by simp [List.all_eq_true, rowG, AV.norefs, AV.noref], fun h => absurd hf h, fun _ h => absurd h h64, fun _ h => absurd h h64, fun _ _ => rfl, fun _ _ => machine_is (a := uniM a m) (b := besM a m) rfl rfl (uniM_bes va vm hf) (by omega) vu.small⟩, hS⟩
  · rw [if_pos hf] at hS
    exact ⟨_, _, _, _, _, _, ⟨rfl, fun _ => rfl, fun h => absurd h hf, fun h => absurd h hf, fun h => absurd h hf, fun h => absurd h hf⟩, hS⟩

/-- What follows goes on from a state that says less. -/
theorem EvC.seqGc {P : Program} {fr : Fr} {ro : Option Nat} {ds : DS} {x y : Code} {st : St} {Q : Exit → St → Prop} (T : St) (L : List Nat) (K : List (Nat × Nat)) (hk : gcOk fr.base T.nx K = true)
    (h : EvC P fr ro ds x st (thenE (fun st' => st'.gc L K T.nx = T) Q)) (h2 : EvC P fr ro ds y T Q) : EvC P fr ro ds (.seq x y) st Q :=
  EvC.seq (EvC.mono h fun e st' hh => by cases e <;> first | exact hh | (simp only [thenE] at hh ⊢; exact EvC.gc L K T.nx hk (by rw [hh]; exact h2)))
end Go.Avl
namespace Go.Avl
open Go Go.Proofs.Try
set_option maxRecDepth 10000
set_option linter.unusedSimpArgs false

set_option maxHeartbeats 4000000 in
theorem joinsErrors_is (m : Mach) {x : LM} (hx : x.Ok) (hm : (m.rows.length : Int) ≤ 140737488355328) : PureIs prog 9 [.ag m.cells, .ag x.cells] (.sc (.bool true)) := by
  have va := LM.valid hx
  obtain ⟨a, ha⟩ : ∃ a, a = x.mach := ⟨_, rfl⟩
  rw [← ha] at va
  have hA : PureIs prog 12 [.ag [.sc (.int .u8 x.st), .sc (.int .u8 x.ins), .sc (.int .u8 x.outs), .sc (.bool x.part), .sl x.nl (x.es.map u16C) x.cap]] (.ag [.sc (.int .i64 a.ins), .sc (.int .i64 a.outs), .sl a.nl (a.rows.map rowC) .unk]) := by
    have := mOf_is hx; rw [← ha] at this; exact this
  refine PureIs.of (nv := 26) (hid := [29, 34, 43, 67, 159, 164, 193, 198, 233, 261]) func9 rfl (by kernel_rfl) (by simp [ntmps9]) fun _ => ?_
  rw [ntmps9, results9]
  refine EvC.seq (EvC.rg (by (simp only [go_sem, Mach.cells, LM.cells]) <;> rfl) (by simp) ?_)
  refine EvC.frzB 0 (by (simp only [go_sem]) <;> rfl) ?_
  refine EvC.frzB 1 (by (simp only [go_sem]) <;> rfl) ?_
  refine EvC.seq ?_
  refine EvC.seq (EvC.rg (by (simp only [go_sem]) <;> rfl) (by simp) ?_)
  refine EvC.cond (by (simp only [go_sem]) <;> rfl) (fun hc => ?_) (fun hc => ?_)
  · -- then
    refine EvC.seq (EvC.rg (by (simp only [go_sem]) <;> rfl) (by simp) ?_)
    refine EvC.ret ⟨.inl rfl, _, (by (simp only [go_sem]) <;> rfl), ?_, rfl⟩
    simp only [go_sem]
  have hml : (m.rows.length : Int) ≤ 70 := by simpa using hc
  clear hc
  refine EvC.skip ?_
  refine EvC.seq ?_
  refine EvC.seq (EvC.rg (by (simp only [go_sem]) <;> rfl) (by simp) ?_)
  refine EvC.block ?_  -- 0
  refine EvC.loopS (σ := Nat) (fun i => ⟨[(2, .ia m.cells), (3, .ia [.sc (.int .u8 x.st), .sc (.int .u8 x.ins), .sc (.int .u8 x.outs), .sc (.bool x.part), .sl x.nl (x.es.map u16C) x.cap]), (5, .sc (.int .i64 i))], [], [], 0⟩) (fun i => m.rows.length - i) (fun i => i ≤ m.rows.length ∧ ∀ r ∈ m.rows.take i, r.2.length ≤ 20) [2, 3, 5] 0 ?_ ?_
  · refine ⟨[], 0, rfl, (by (simp only [go_sem, Mach.cells]) <;> rfl), Nat.zero_le _, by simp⟩
  rintro i ⟨h1, h2⟩
  refine EvC.seq ?_
  refine EvC.seq (EvC.rg (by (simp only [go_sem, Mach.cells]) <;> rfl) (by simp) ?_)
  refine EvC.cond (by (simp only [go_sem]) <;> rfl) (fun hc => ?_) (fun hc => ?_)
  rotate_left
  · -- else
    refine EvC.exit ?_  -- 0
    have hi : ¬ i < m.rows.length := by simpa using hc
    rw [List.take_of_length_le (by omega)] at h2
    clear hc hi h1
    have hr : ∀ r ∈ m.rows, r.2.length < 1000000 := fun r h => by have := h2 r h; omega
    clear h2
    apply EvC.seq
    apply EvC.tr
    · apply Tr.run
      · (simp only [go_sem, Mach.cells]) <;> rfl
      · simp
      apply Tr.cons
      · exact .call rfl rfl (by (simp only [go_sem]) <;> rfl) (by (simp only [go_sem]) <;> rfl) (by (simp only [go_sem]) <;> rfl) (by (simp only [go_sem]) <;> rfl) (by (simp only [go_sem]) <;> rfl) (hA)
      apply Tr.done
      · (simp only [go_sem]) <;> rfl
      · simp
    apply EvC.seq
    apply EvC.tr
    · apply Tr.run
      · (simp only [go_sem, Mach.cells]) <;> rfl
      · simp
      apply Tr.cons
      · exact .call rfl rfl (by (simp only [go_sem]) <;> rfl) (by (simp only [go_sem]) <;> rfl) (by (simp only [go_sem]) <;> rfl) (by (simp only [go_sem]) <;> rfl) (by (simp only [go_sem]) <;> rfl) (check27_is m hr)
      apply Tr.done
      · (simp only [go_sem]) <;> rfl
      · simp
    by_cases h0 : checkM m = 0
    rotate_left
    · have hb1 : bothE a m = checkM m := by simp [bothE, va.check]
      have hb2 : bothE m a = checkM m := by simp [bothE, h0]
      have k1 := series_is a m va.small hr
      rw [seriesA, hb1, if_pos h0] at k1
      have k2 := parallel_is m a hr va.small
      rw [parallelA, hb2, if_pos h0] at k2
      have k3 := unite_is a m va.small hr
      rw [uniteA, hb1, if_pos h0] at k3
      have k4 := series_is m a hr va.small
      rw [seriesA, hb2, if_pos h0] at k4
      have k5 := rename_is m hr true true true [] [] [] .zer .zer .zer (by decide) (by decide) (by decide)
      rw [renameA, if_pos h0] at k5
      have k6 := fill_is m hr 9 (-1) (by decide)
      rw [fillA, if_pos h0] at k6
      have k7 := restrict_is m hr true [] .zer (by decide)
      rw [restrictA, if_pos h0] at k7
      clear hb1 hb2
      simp only [errA, zeroM] at k1 k2 k3 k4 k5 k6 k7
      generalize checkM m = k at k1 k2 k3 k4 k5 k6 k7 h0 ⊢
      have h0' : decide (k = 0) = false := decide_eq_false h0
      have kn := nothing_is k .zer
      apply EvC.seq
      apply EvC.tr
      · apply Tr.run
        · (simp only [go_sem, Mach.cells]) <;> rfl
        · simp
        apply Tr.cons
        · exact .call rfl rfl (by (simp only [go_sem]) <;> rfl) (by (simp only [go_sem]) <;> rfl) (by (simp only [go_sem]) <;> rfl) (by (simp only [go_sem]) <;> rfl) (by (simp only [go_sem]) <;> rfl) (k1)
        apply Tr.done
        · (simp only [go_sem]) <;> rfl
        · simp
      apply EvC.seq
      apply EvC.tr
      · apply Tr.run
        · (simp only [go_sem, Mach.cells]) <;> rfl
        · simp
        apply Tr.cons
        · exact .call rfl rfl (by (simp only [go_sem]) <;> rfl) (by (simp only [go_sem]) <;> rfl) (by (simp only [go_sem]) <;> rfl) (by (simp only [go_sem]) <;> rfl) (by (simp only [go_sem]) <;> rfl) (k2)
        apply Tr.done
        · (simp only [go_sem]) <;> rfl
        · simp
      apply EvC.seq
      apply EvC.tr
      · apply Tr.run
        · (simp only [go_sem, Mach.cells]) <;> rfl
        · simp
        apply Tr.cons
        · exact .call rfl rfl (by (simp only [go_sem]) <;> rfl) (by (simp only [go_sem]) <;> rfl) (by (simp only [go_sem]) <;> rfl) (by (simp only [go_sem]) <;> rfl) (by (simp only [go_sem]) <;> rfl) (k3)
        apply Tr.done
        · (simp only [go_sem]) <;> rfl
        · simp
      refine EvC.seq ?_
      refine EvC.seq (EvC.rg (by (simp only [go_sem, h0']) <;> rfl) (by simp) ?_)
      refine EvC.cond_true (by (simp only [go_sem]) <;> rfl) ?_
      apply EvC.seq
      apply EvC.tr
      · apply Tr.run
        · (simp only [go_sem, Mach.cells]) <;> rfl
        · simp
        apply Tr.cons
        · exact .call rfl rfl (by (simp only [go_sem]) <;> rfl) (by (simp only [go_sem]) <;> rfl) (by (simp only [go_sem]) <;> rfl) (by (simp only [go_sem]) <;> rfl) (by (simp only [go_sem]) <;> rfl) (k4)
        apply Tr.done
        · (simp only [go_sem]) <;> rfl
        · simp
      apply EvC.seq
      apply EvC.tr
      · apply Tr.run
        · (simp only [go_sem, Mach.cells]) <;> rfl
        · simp
        apply Tr.cons
        · exact .call rfl rfl (by (simp only [go_sem]) <;> rfl) (by (simp only [go_sem]) <;> rfl) (by (simp only [go_sem]) <;> rfl) (by (simp only [go_sem]) <;> rfl) (by (simp only [go_sem]) <;> rfl) (k5)
        apply Tr.done
        · (simp only [go_sem]) <;> rfl
        · simp
      apply EvC.seq
      apply EvC.tr
      · apply Tr.run
        · (simp only [go_sem, Mach.cells]) <;> rfl
        · simp
        apply Tr.cons
        · exact .call rfl rfl (by (simp only [go_sem]) <;> rfl) (by (simp only [go_sem]) <;> rfl) (by (simp only [go_sem]) <;> rfl) (by (simp only [go_sem]) <;> rfl) (by (simp only [go_sem]) <;> rfl) (k6)
        apply Tr.done
        · (simp only [go_sem]) <;> rfl
        · simp
      apply EvC.seq
      apply EvC.tr
      · apply Tr.run
        · (simp only [go_sem, Mach.cells]) <;> rfl
        · simp
        apply Tr.cons
        · exact .call rfl rfl (by (simp only [go_sem]) <;> rfl) (by (simp only [go_sem]) <;> rfl) (by (simp only [go_sem]) <;> rfl) (by (simp only [go_sem]) <;> rfl) (by (simp only [go_sem]) <;> rfl) (k7)
        apply Tr.done
        · (simp only [go_sem]) <;> rfl
        · simp
      apply EvC.seq
      apply EvC.tr
      · apply Tr.run
        · (simp only [go_sem]) <;> rfl
        · simp
        apply Tr.cons
        · exact .call rfl rfl (by (simp only [go_sem]) <;> rfl) (by (simp only [go_sem]) <;> rfl) (by (simp only [go_sem]) <;> rfl) (by (simp only [go_sem]) <;> rfl) (by (simp only [go_sem]) <;> rfl) (kn)
        apply Tr.run
        · (simp only [go_sem]) <;> rfl
        · simp
        apply Tr.cons
        · exact .callG rfl rfl (by (simp only [go_sem]) <;> rfl) rfl (by (simp only [go_sem]) <;> rfl) (by (simp only [go_sem]) <;> rfl) (by (simp only [go_sem]) <;> rfl) (by (simp only [go_sem]) <;> rfl) (by (simp only [go_sem]) <;> rfl) (kn)
        apply Tr.run
        · (simp only [go_sem]) <;> rfl
        · simp
        apply Tr.cons
        · exact .callG rfl rfl (by (simp only [go_sem]) <;> rfl) rfl (by (simp only [go_sem]) <;> rfl) (by (simp only [go_sem]) <;> rfl) (by (simp only [go_sem]) <;> rfl) (by (simp only [go_sem]) <;> rfl) (by (simp only [go_sem]) <;> rfl) (kn)
        apply Tr.run
        · (simp only [go_sem]) <;> rfl
        · simp
        apply Tr.cons
        · exact .callG rfl rfl (by (simp only [go_sem]) <;> rfl) rfl (by (simp only [go_sem]) <;> rfl) (by (simp only [go_sem]) <;> rfl) (by (simp only [go_sem]) <;> rfl) (by (simp only [go_sem]) <;> rfl) (by (simp only [go_sem]) <;> rfl) (kn)
        apply Tr.run
        · (simp only [go_sem]) <;> rfl
        · simp
        apply Tr.cons
        · exact .callG rfl rfl (by (simp only [go_sem]) <;> rfl) rfl (by (simp only [go_sem]) <;> rfl) (by (simp only [go_sem]) <;> rfl) (by (simp only [go_sem]) <;> rfl) (by (simp only [go_sem]) <;> rfl) (by (simp only [go_sem]) <;> rfl) (kn)
        apply Tr.run
        · (simp only [go_sem]) <;> rfl
        · simp
        apply Tr.cons
        · exact .callG rfl rfl (by (simp only [go_sem]) <;> rfl) rfl (by (simp only [go_sem]) <;> rfl) (by (simp only [go_sem]) <;> rfl) (by (simp only [go_sem]) <;> rfl) (by (simp only [go_sem]) <;> rfl) (by (simp only [go_sem]) <;> rfl) (kn)
        apply Tr.run
        · (simp only [go_sem]) <;> rfl
        · simp
        apply Tr.cons
        · exact .callG rfl rfl (by (simp only [go_sem]) <;> rfl) rfl (by (simp only [go_sem]) <;> rfl) (by (simp only [go_sem]) <;> rfl) (by (simp only [go_sem]) <;> rfl) (by (simp only [go_sem]) <;> rfl) (by (simp only [go_sem]) <;> rfl) (kn)
        apply Tr.run
        · (simp only [go_sem]) <;> rfl
        · simp
        apply Tr.cons
        · exact .callG rfl rfl (by (simp only [go_sem]) <;> rfl) rfl (by (simp only [go_sem]) <;> rfl) (by (simp only [go_sem]) <;> rfl) (by (simp only [go_sem]) <;> rfl) (by (simp only [go_sem]) <;> rfl) (by (simp only [go_sem]) <;> rfl) (lives_is)
        apply Tr.done
        · (simp only [go_sem]) <;> rfl
        · simp
      refine EvC.ret ⟨.inl rfl, _, (by (simp only [go_sem]) <;> rfl), ?_, rfl⟩
      simp only [go_sem]
    have vm := Valid.of h0
    rw [h0]
    obtain ⟨r1, i1, o1, e1, n1, c1, hs, hS⟩ := series_res va vm
    obtain ⟨r2, i2, o2, e2, n2, c2, hp, hP⟩ := parallel_res vm va
    obtain ⟨r3, i3, o3, e3, n3, c3, hu, hU⟩ := unite_res va vm
    have q1 := hs.nr
    have q2 := hp.nr
    have q3 := hu.nr
    apply EvC.seq
    apply EvC.tr
    · apply Tr.run
      · (simp only [go_sem, Mach.cells, q1]) <;> rfl
      · simp
      apply Tr.cons
      · exact .call rfl rfl (by (simp only [go_sem]) <;> rfl) (by (simp only [go_sem]) <;> rfl) (by (simp only [go_sem]) <;> rfl) (by (simp only [go_sem]) <;> rfl) (by (simp only [go_sem]) <;> rfl) (hS)
      apply Tr.done
      · (simp only [go_sem]) <;> rfl
      · simp
    apply EvC.seq
    apply EvC.tr
    · apply Tr.run
      · (simp only [go_sem, Mach.cells, q2]) <;> rfl
      · simp
      apply Tr.cons
      · exact .call rfl rfl (by (simp only [go_sem]) <;> rfl) (by (simp only [go_sem]) <;> rfl) (by (simp only [go_sem]) <;> rfl) (by (simp only [go_sem]) <;> rfl) (by (simp only [go_sem]) <;> rfl) (hP)
      apply Tr.done
      · (simp only [go_sem]) <;> rfl
      · simp
    apply EvC.seq
    apply EvC.tr
    · apply Tr.run
      · (simp only [go_sem, Mach.cells, q3]) <;> rfl
      · simp
      apply Tr.cons
      · exact .call rfl rfl (by (simp only [go_sem]) <;> rfl) (by (simp only [go_sem]) <;> rfl) (by (simp only [go_sem]) <;> rfl) (by (simp only [go_sem]) <;> rfl) (by (simp only [go_sem]) <;> rfl) (hU)
      apply Tr.done
      · (simp only [go_sem]) <;> rfl
      · simp
    refine EvC.seq ?_
    refine EvC.seq (EvC.rg (by (simp only [go_sem]) <;> rfl) (by simp) ?_)
    refine EvC.cond_false (by (simp only [go_sem]) <;> rfl) ?_
    refine EvC.skip ?_
    refine EvC.seq ?_
    obtain ⟨f1, hf1⟩ : ∃ b, decide (a.outs = m.ins) = b := ⟨_, rfl⟩
    obtain ⟨f2, hf2⟩ : ∃ b, decide (a.ins = m.ins) = b := ⟨_, rfl⟩
    have w1 : decide (e1 = 5) = !f1 := by
      by_cases h : a.outs = m.ins
      · rw [← hf1, decide_eq_true h]
        by_cases g : 64 < reachN a m 0
        · rw [hs.limit h g]; decide
        · rw [hs.ok h g]; decide
      · rw [← hf1, decide_eq_false h, hs.alpha h]; decide
    have w2 : decide (e2 = 5) = !f2 := by
      by_cases h : m.ins = a.ins
      · rw [← hf2, decide_eq_true h.symm]
        by_cases g : 64 < reachN m a 1 ∨ 16 < m.outs * a.outs
        · rw [hp.limit h g]; decide
        · rw [hp.ok h g]; decide
      · rw [← hf2, decide_eq_false (fun k : a.ins = m.ins => h k.symm), hp.alpha h]; decide
    have w3 : decide (e3 = 5) = !f2 := by
      by_cases h : a.ins = m.ins
      · rw [← hf2, decide_eq_true h]
        by_cases g : 64 < a.rows.length + m.rows.length
        · rw [hu.limit h g]; decide
        · rw [hu.ok h g]; decide
      · rw [← hf2, decide_eq_false h, hu.alpha h]; decide
    apply EvC.seq
    apply EvC.trd
    · (simp only [go_sem, Mach.cells, hf1, hf2, w1, w2, w3, beq_self_eq_true, Bool.not_true]) <;> rfl
    · simp
    refine EvC.cond_false (by (simp only [go_sem]) <;> rfl) ?_
    refine EvC.skip ?_
    refine EvC.seqGc ⟨[(2, .ia m.cells), (6, .rf 0 0), (10, .rf 1 0), (11, .sc (.int .i64 e2)), (12, .rf 2 0), (13, .sc (.int .i64 e3))], [], [(0, .cells a.cells), (1, .cells [.sc (.int .i64 i2), .sc (.int .i64 o2), .sl n2 r2 c2]), (2, .cells [.sc (.int .i64 i3), .sc (.int .i64 o3), .sl n3 r3 c3])], 3⟩ [2, 6, 10, 11, 12, 13] [(7, 0), (27, 1), (36, 2)] rfl ?_ ?_
    · clear hP hU hp hu w2 w3
      refine EvC.seq (EvC.rg (by (simp only [go_sem, Mach.cells, hf1]) <;> rfl) (by simp) ?_)
      cases f1 with
      | false =>
        refine EvC.cond_false (by (simp only [go_sem]) <;> rfl) ?_
        refine EvC.skip (show St.gc _ _ _ _ = _ from ?_)
        (simp only [go_sem, Mach.cells]) <;> rfl
      | true =>
        have fit : a.outs = m.ins := of_decide_eq_true hf1
        have hF : Fit a m 0 := ⟨va, vm, .inl rfl, fun _ => fit, fun h => absurd h (by decide)⟩
        refine EvC.cond_true (by (simp only [go_sem]) <;> rfl) ?_
        apply EvC.seq
        apply EvC.tr
        · apply Tr.run
          · (simp only [go_sem, Mach.cells]) <;> rfl
          · simp
          apply Tr.cons
          · exact .call rfl rfl (by (simp only [go_sem]) <;> rfl) (by (simp only [go_sem]) <;> rfl) (by (simp only [go_sem]) <;> rfl) (by (simp only [go_sem]) <;> rfl) (by (simp only [go_sem]) <;> rfl) (reached_is hF)
          apply Tr.done
          · (simp only [go_sem]) <;> rfl
          · simp
        by_cases g : 64 < reachN a m 0
        · have d1 : decide (64 < (reachN a m 0 : Int)) = true := decide_eq_true (by omega)
          have d2 : decide ((reachN a m 0 : Int) ≤ 64) = false := decide_eq_false (by omega)
          have hn := hs.nth fit g
          obtain rfl := hs.limit fit g
          apply EvC.seq
          apply EvC.tr
          · apply Tr.run
            · (simp only [go_sem, d1, d2, beq_self_eq_true, Bool.not_true]) <;> rfl
            · simp
            apply Tr.cons
            · exact .skipv (.sc (.int .i64 0)) rfl rfl (by (simp only [go_sem]) <;> rfl) (by (simp only [go_sem]) <;> rfl)
            apply Tr.run
            · (simp only [go_sem, d1, d2, beq_self_eq_true, Bool.not_true]) <;> rfl
            · simp
            apply Tr.cons
            · exact .callG rfl rfl (by (simp only [go_sem]) <;> rfl) rfl (by (simp only [go_sem]) <;> rfl) (by (simp only [go_sem]) <;> rfl) (by (simp only [go_sem]) <;> rfl) (by (simp only [go_sem]) <;> rfl) (by (simp only [go_sem]) <;> rfl) (hn)
            apply Tr.done
            · (simp only [go_sem]) <;> rfl
            · simp
          refine EvC.cond_false (by (simp only [go_sem]) <;> rfl) ?_
          refine EvC.skip (show St.gc _ _ _ _ = _ from ?_)
          (simp only [go_sem, Mach.cells]) <;> rfl
        · have d1 : decide (64 < (reachN a m 0 : Int)) = false := decide_eq_false (by omega)
          have d2 : decide ((reachN a m 0 : Int) ≤ 64) = true := decide_eq_true (by omega)
          have hn := hs.joint fit g
          obtain rfl := hs.ok fit g
          apply EvC.seq
          apply EvC.tr
          · apply Tr.run
            · (simp only [go_sem, d1, d2, Mach.cells, beq_self_eq_true, Bool.not_true]) <;> rfl
            · simp
            apply Tr.cons
            · exact .callG rfl rfl (by (simp only [go_sem]) <;> rfl) rfl (by (simp only [go_sem]) <;> rfl) (by (simp only [go_sem]) <;> rfl) (by (simp only [go_sem]) <;> rfl) (by (simp only [go_sem]) <;> rfl) (by (simp only [go_sem]) <;> rfl) (hn)
            apply Tr.run
            · (simp only [go_sem, d1, d2, Mach.cells, beq_self_eq_true, Bool.not_true]) <;> rfl
            · simp
            apply Tr.cons
            · exact .skipv (.sc (.bool false)) rfl rfl (by (simp only [go_sem]) <;> rfl) (by (simp only [go_sem]) <;> rfl)
            apply Tr.done
            · (simp only [go_sem]) <;> rfl
            · simp
          refine EvC.cond_false (by (simp only [go_sem]) <;> rfl) ?_
          refine EvC.skip (show St.gc _ _ _ _ = _ from ?_)
          (simp only [go_sem, Mach.cells]) <;> rfl
    clear hS hs w1
    refine EvC.seqGc ⟨[], [], [], 0⟩ [] [] rfl ?_ ?_
    · refine EvC.seq (EvC.rg (by (simp only [go_sem, Mach.cells, hf2]) <;> rfl) (by simp) ?_)
      cases f2 with
      | false =>
        refine EvC.cond_false (by (simp only [go_sem]) <;> rfl) ?_
        refine EvC.skip (show St.gc _ _ _ _ = _ from ?_)
        (simp only [go_sem]) <;> rfl
      | true =>
        have fit : a.ins = m.ins := of_decide_eq_true hf2
        have hF : Fit m a 1 := ⟨vm, va, .inr rfl, fun h => absurd h (by decide), fun _ => fit.symm⟩
        have hcm : a.outs * m.outs = m.outs * a.outs := Int.mul_comm _ _
        have b1 := va.outs
        have b2 := vm.outs
        have hm2 : a.outs * m.outs ≤ 16 * 16 := Int.mul_le_mul (by omega) (by omega) (by omega) (by omega)
        have hm1 : 1 * 1 ≤ a.outs * m.outs := Int.mul_le_mul (by omega) (by omega) (by omega) (by omega)
        have hI : inI64 (a.outs * m.outs) = true := inI64_of (by omega) (by omega)
        have b3 := va.rows
        have hI2 : inI64 ((a.rows.length : Int) + m.rows.length) = true := inI64_of (by omega) (by omega)
        refine EvC.cond_true (by (simp only [go_sem]) <;> rfl) ?_
        apply EvC.seq
        apply EvC.tr
        · apply Tr.run
          · (simp only [go_sem, Mach.cells]) <;> rfl
          · simp
          apply Tr.cons
          · exact .call rfl rfl (by (simp only [go_sem]) <;> rfl) (by (simp only [go_sem]) <;> rfl) (by (simp only [go_sem]) <;> rfl) (by (simp only [go_sem]) <;> rfl) (by (simp only [go_sem]) <;> rfl) (reached_is hF)
          apply Tr.done
          · (simp only [go_sem]) <;> rfl
          · simp
        obtain ⟨g, hg⟩ : ∃ g, decide (64 < reachN m a 1 ∨ 16 < m.outs * a.outs) = g := ⟨_, rfl⟩
        refine EvC.seqGc ⟨[(2, .ia m.cells), (6, .rf 0 0), (10, .rf 1 0), (11, .sc (.int .i64 e2)), (12, .rf 2 0), (13, .sc (.int .i64 e3)), (24, .sc (.bool g))], [], [(0, .cells a.cells), (1, .cells [.sc (.int .i64 i2), .sc (.int .i64 o2), .sl n2 r2 c2]), (2, .cells [.sc (.int .i64 i3), .sc (.int .i64 o3), .sl n3 r3 c3])], 3⟩ [2, 6, 10, 11, 12, 13, 24] [(0, 0), (1, 1), (2, 2)] rfl ?_ ?_
        · by_cases h64 : 64 < reachN m a 1
          · have d1 : decide (64 < (reachN m a 1 : Int)) = true := decide_eq_true (by omega)
            rw [decide_eq_true (.inl h64)] at hg
            subst hg
            apply EvC.trd
            · (simp only [go_sem, d1]) <;> rfl
            · simp
            show St.gc _ _ _ _ = _
            (simp only [go_sem, Mach.cells]) <;> rfl
          · have d1 : decide (64 < (reachN m a 1 : Int)) = false := decide_eq_false (by omega)
            have d2 : decide (16 < a.outs * m.outs) = g := by rw [hcm, ← hg]; exact decide_eq_decide.2 ⟨.inr, fun h => h.resolve_left h64⟩
            apply EvC.trd
            · (simp only [go_sem, d1, d2, Mach.cells]) <;> rfl
            · simp [hI]
            show St.gc _ _ _ _ = _
            (simp only [go_sem, Mach.cells]) <;> rfl
        obtain ⟨my, hmy⟩ : ∃ b, decide (64 < (a.rows.length : Int) + m.rows.length) = b := ⟨_, rfl⟩
        refine EvC.seqGc ⟨[(2, .ia m.cells), (6, .rf 0 0), (12, .rf 2 0), (13, .sc (.int .i64 e3))], [], [(0, .cells a.cells), (2, .cells [.sc (.int .i64 i3), .sc (.int .i64 o3), .sl n3 r3 c3])], 3⟩ [2, 6, 12, 13] [(0, 0), (2, 2)] rfl ?_ ?_
        · cases g with
          | true =>
            have hg : 64 < reachN m a 1 ∨ 16 < m.outs * a.outs := of_decide_eq_true hg
            have hn := hp.nth fit.symm hg
            obtain rfl := hp.limit fit.symm hg
            apply EvC.seq
            apply EvC.tr
            · apply Tr.run
              · (simp only [go_sem, Bool.not_true]) <;> rfl
              · simp
              apply Tr.cons
              · exact .callG rfl rfl (by (simp only [go_sem]) <;> rfl) rfl (by (simp only [go_sem]) <;> rfl) (by (simp only [go_sem]) <;> rfl) (by (simp only [go_sem]) <;> rfl) (by (simp only [go_sem]) <;> rfl) (by (simp only [go_sem]) <;> rfl) (hn)
              apply Tr.run
              · (simp only [go_sem, Bool.not_true]) <;> rfl
              · simp
              apply Tr.cons
              · exact .skipv (.sc (.int .i64 0)) rfl rfl (by (simp only [go_sem]) <;> rfl) (by (simp only [go_sem]) <;> rfl)
              apply Tr.done
              · (simp only [go_sem]) <;> rfl
              · simp
            refine EvC.cond_false (by (simp only [go_sem]) <;> rfl) ?_
            refine EvC.skip (show St.gc _ _ _ _ = _ from ?_)
            (simp only [go_sem, Mach.cells]) <;> rfl
          | false =>
            have hg : ¬ (64 < reachN m a 1 ∨ 16 < m.outs * a.outs) := of_decide_eq_false hg
            have hn := hp.joint fit.symm hg
            obtain rfl := hp.ok fit.symm hg
            apply EvC.seq
            apply EvC.tr
            · apply Tr.run
              · (simp only [go_sem, Bool.not_true, Bool.not_false, Mach.cells]) <;> rfl
              · simp
              apply Tr.cons
              · exact .skipv (.sc (.bool false)) rfl rfl (by (simp only [go_sem]) <;> rfl) (by (simp only [go_sem]) <;> rfl)
              apply Tr.run
              · (simp only [go_sem, Bool.not_true, Bool.not_false, Mach.cells]) <;> rfl
              · simp
              apply Tr.cons
              · exact .callG rfl rfl (by (simp only [go_sem]) <;> rfl) rfl (by (simp only [go_sem]) <;> rfl) (by (simp only [go_sem]) <;> rfl) (by (simp only [go_sem]) <;> rfl) (by (simp only [go_sem]) <;> rfl) (by (simp only [go_sem]) <;> rfl) (hn)
              apply Tr.done
              · (simp only [go_sem]) <;> rfl
              · simp
            refine EvC.cond_false (by (simp only [go_sem]) <;> rfl) ?_
            refine EvC.skip (show St.gc _ _ _ _ = _ from ?_)
            (simp only [go_sem, Mach.cells]) <;> rfl
        apply EvC.seq
        apply EvC.trd
        · (simp only [go_sem, Mach.cells, hmy, List.length_map]) <;> rfl
        · simp [hI2]
        cases my with
        | true =>
          have hg : 64 < a.rows.length + m.rows.length := by have := of_decide_eq_true hmy; omega
          have hn := hu.nth fit hg
          obtain rfl := hu.limit fit hg
          apply EvC.seq
          apply EvC.drw mixed
          · apply Tr.run
            · (simp only [go_sem, Bool.not_true]) <;> rfl
            · simp
            apply Tr.cons
            · exact .callG rfl rfl (by (simp only [go_sem]) <;> rfl) rfl (by (simp only [go_sem]) <;> rfl) (by (simp only [go_sem]) <;> rfl) (by (simp only [go_sem]) <;> rfl) (by (simp only [go_sem]) <;> rfl) (by (simp only [go_sem]) <;> rfl) (hn)
            apply Tr.run
            · (simp only [go_sem, Bool.not_true]) <;> rfl
            · simp
            apply Tr.cons
            · exact .skipv (.sc (.int .i64 0)) rfl rfl (by (simp only [go_sem]) <;> rfl) (by (simp only [go_sem]) <;> rfl)
            apply Tr.run
            · (simp only [go_sem, Bool.not_true]) <;> rfl
            · simp
            apply Tr.cons
            · exact .skipv (.sc (.bool false)) rfl rfl (by (simp only [go_sem]) <;> rfl) (by (simp only [go_sem]) <;> rfl)
            apply Tr.done
            · (simp only [go_sem]) <;> rfl
            · simp
          · kernel_rfl
          refine EvC.cond_false (by (simp only [go_sem]) <;> rfl) ?_
          refine EvC.skip (show St.gc _ _ _ _ = _ from ?_)
          (simp only [go_sem]) <;> rfl
        | false =>
          have hg : ¬ 64 < a.rows.length + m.rows.length := by have := of_decide_eq_false hmy; omega
          have hn := hu.bes fit hg
          obtain rfl := hu.ok fit hg
          have hbs := beside_is va vm
          apply EvC.seq
          apply EvC.drw mixed
          · apply Tr.run
            · (simp only [go_sem, Bool.not_true, Bool.not_false, Mach.cells]) <;> rfl
            · simp
            apply Tr.cons
            · exact .skipv (.sc (.bool false)) rfl rfl (by (simp only [go_sem]) <;> rfl) (by (simp only [go_sem]) <;> rfl)
            apply Tr.run
            · (simp only [go_sem, Bool.not_true, Bool.not_false, Mach.cells]) <;> rfl
            · simp
            apply Tr.cons
            · exact .callG rfl rfl (by (simp only [go_sem]) <;> rfl) rfl (by (simp only [go_sem]) <;> rfl) (by (simp only [go_sem]) <;> rfl) (by (simp only [go_sem]) <;> rfl) (by (simp only [go_sem]) <;> rfl) (by (simp only [go_sem]) <;> rfl) (hbs)
            apply Tr.run
            · (simp only [go_sem, Bool.not_true, Bool.not_false, Mach.cells]) <;> rfl
            · simp
            apply Tr.cons
            · exact .callG rfl rfl (by (simp only [go_sem]) <;> rfl) rfl (by (simp only [go_sem]) <;> rfl) (by (simp only [go_sem]) <;> rfl) (by (simp only [go_sem]) <;> rfl) (by (simp only [go_sem]) <;> rfl) (by (simp only [go_sem]) <;> rfl) (hn)
            apply Tr.done
            · (simp only [go_sem]) <;> rfl
            · simp
          · kernel_rfl
          refine EvC.cond_false (by (simp only [go_sem]) <;> rfl) ?_
          refine EvC.skip (show St.gc _ _ _ _ = _ from ?_)
          (simp only [go_sem]) <;> rfl
    apply EvC.seq
    apply EvC.tr
    · apply Tr.run
      · (simp only [go_sem]) <;> rfl
      · simp
      apply Tr.cons
      · exact .call rfl rfl (by (simp only [go_sem]) <;> rfl) (by (simp only [go_sem]) <;> rfl) (by (simp only [go_sem]) <;> rfl) (by (simp only [go_sem]) <;> rfl) (by (simp only [go_sem]) <;> rfl) (lives_is)
      apply Tr.done
      · (simp only [go_sem]) <;> rfl
      · simp
    refine EvC.ret ⟨.inl rfl, _, (by (simp only [go_sem]) <;> rfl), ?_, rfl⟩
    simp only [go_sem]
  have hi : i < m.rows.length := by simpa using hc
  have he : m.rows[i]? = some m.rows[i] := List.getElem?_eq_getElem hi
  have htk : m.rows.take (i + 1) = m.rows.take i ++ [m.rows[i]] := by rw [List.take_add_one, he]; rfl
  generalize m.rows[i] = r at he htk
  refine EvC.skip ?_
  refine EvC.seq ?_
  refine EvC.block ?_  -- 1
  refine EvC.seq (EvC.rg (by (simp only [go_sem, Mach.cells, he, rowC]) <;> rfl) (by simp) ?_)
  refine EvC.cond (by (simp only [go_sem]) <;> rfl) (fun hc => ?_) (fun hc => ?_)
  · -- then
    refine EvC.seq (EvC.rg (by (simp only [go_sem]) <;> rfl) (by simp) ?_)
    refine EvC.ret ⟨.inl rfl, _, (by (simp only [go_sem]) <;> rfl), ?_, rfl⟩
    simp only [go_sem]
  have hl : (r.2.length : Int) ≤ 20 := by simpa using hc
  refine EvC.skip ?_
  have hI1 : inI64 ((i : Int) + 1) = true := inI64_of (by omega) (by omega)
  refine EvC.rg (by (simp only [go_sem, hI1]) <;> rfl) (by simp) ?_
  refine ⟨[], i + 1, rfl, (by (simp only [go_sem, Mach.cells]) <;> rfl), ⟨by omega, ?_⟩, by omega⟩
  rw [htk]
  intro r' hr'
  rcases List.mem_append.1 hr' with h | h
  · exact h2 r' h
  · simp at h; subst h; omega
end Go.Avl
namespace Go.Avl
open Go Go.Proofs.Try
set_option maxRecDepth 10000
set_option linter.unusedSimpArgs false

/-! ### How many edges are defined -/
def defP (m : Mach) (N s i : Nat) : Nat := (prs s N ++ (List.range i).map fun k => (s, k)).countP fun p => decide (0 ≤ (eAt m p.1 p.2).1)
theorem defP_zero (m : Mach) (N : Nat) : defP m N 0 0 = 0 := rfl
theorem defP_step (m : Mach) (N s i : Nat) : defP m N s (i + 1) = defP m N s i + if 0 ≤ (eAt m s i).1 then 1 else 0 := by
  rw [defP, List.range_succ, List.map_append, ← List.append_assoc, List.countP_append]
  simp [defP, List.countP_cons, List.countP_nil]
theorem defP_row (m : Mach) (N s : Nat) : defP m N s N = defP m N (s + 1) 0 := by
  rw [defP, defP, prs_succ]; simp
theorem defP_le (m : Mach) (N s : Nat) : defP m N s 0 ≤ s * N := by
  have := List.countP_le_length (p := fun p : Nat × Nat => decide (0 ≤ (eAt m p.1 p.2).1)) (l := prs s N)
  rw [prs_len] at this
  simpa [defP] using this
theorem defP_le' (m : Mach) (N s i : Nat) : defP m N s i ≤ s * N + i := by
  have := List.countP_le_length (p := fun p : Nat × Nat => decide (0 ≤ (eAt m p.1 p.2).1)) (l := prs s N ++ (List.range i).map fun k => (s, k))
  rw [List.length_append, prs_len, List.length_map, List.length_range] at this
  exact this
def compD (m : Mach) (N : Nat) : Bool := decide (defP m N m.rows.length 0 = m.rows.length * N)
theorem defined_is {m : Mach} (hv : Valid m) {N : Nat} (hN : m.ins = (N : Int)) : PureIs prog 50 [.ag m.cells] (.sc (.int .i64 (defP m N m.rows.length 0))) := by
  have hrw := hv.rows
  have hin := hv.ins
  obtain ⟨n, hn⟩ : ∃ n, n = m.rows.length := ⟨_, rfl⟩
  rw [← hn] at hrw ⊢
  refine PureIs.of (nv := 6) (hid := [10, 16, 28]) func50 rfl (by kernel_rfl) (by simp [ntmps50]) fun _ => ?_
  rw [ntmps50, results50]
  refine EvC.seq (EvC.rg (by (simp only [go_sem, Mach.cells]) <;> rfl) (by simp) ?_)
  refine EvC.frzB 0 (by (simp only [go_sem]) <;> rfl) ?_
  refine EvC.seq (EvC.rg (by (simp only [go_sem]) <;> rfl) (by simp) ?_)
  refine EvC.seq ?_
  refine EvC.seq (EvC.rg (by (simp only [go_sem]) <;> rfl) (by simp) ?_)
  refine EvC.block ?_  -- 0
  refine EvC.loopS (σ := Nat) (fun s => ⟨[(1, .ia m.cells), (3, .sc (.int .i64 (defP m N s 0))), (4, .sc (.int .i64 s))], [], [], 0⟩) (fun s => n - s) (fun s => s ≤ n) [1, 3, 4] 0 ?_ ?_
  · exact ⟨[], 0, rfl, (by (simp only [go_sem, defP_zero, Mach.cells, Int.natCast_zero]) <;> rfl), Nat.zero_le _⟩
  intro s hs
  refine EvC.seq ?_
  refine EvC.seq (EvC.rg (by (simp only [go_sem, Mach.cells, List.length_map, ← hn]) <;> rfl) (by simp) ?_)
  refine EvC.cond (by (simp only [go_sem]) <;> rfl) (fun hc => ?_) (fun hc => ?_)
  rotate_left
  · refine EvC.exit ?_  -- 0
    obtain rfl : n = s := by have : ¬ s < n := by simpa using hc
                             omega
    refine EvC.seq (EvC.rg (by (simp only [go_sem]) <;> rfl) (by simp) ?_)
    refine EvC.ret ⟨.inl rfl, _, (by (simp only [go_sem]) <;> rfl), ?_, rfl⟩
    simp only [go_sem]
  have hsl : s < n := by simpa using hc
  clear hc
  have he : m.rows[s]? = some (m.rows[s]'(by omega)) := List.getElem?_eq_getElem (by omega)
  have hrN : (m.rows[s]'(by omega)).2.length = N := by have := (hv.row _ (List.getElem_mem (show s < m.rows.length by omega))).1; omega
  generalize m.rows[s]'(by omega) = r at he hrN
  refine EvC.skip ?_
  refine EvC.seq ?_
  refine EvC.block ?_  -- 1
  refine EvC.seq (EvC.rg (by (simp only [go_sem]) <;> rfl) (by simp) ?_)
  refine EvC.block ?_  -- 2
  refine EvC.loopS (σ := Nat) (fun i => ⟨[(1, .ia m.cells), (3, .sc (.int .i64 (defP m N s i))), (4, .sc (.int .i64 s)), (5, .sc (.int .i64 i))], [], [], 0⟩) (fun i => N - i) (fun i => i ≤ N) [1, 3, 4, 5] 0 ?_ ?_
  · exact ⟨[], 0, rfl, (by (simp only [go_sem, Mach.cells, Int.natCast_zero]) <;> rfl), Nat.zero_le _⟩
  intro i hi
  refine EvC.seq ?_
  refine EvC.seq (EvC.rg (by (simp only [go_sem, Mach.cells, hN]) <;> rfl) (by simp) ?_)
  refine EvC.cond (by (simp only [go_sem]) <;> rfl) (fun hc => ?_) (fun hc => ?_)
  rotate_left
  · refine EvC.exit ?_  -- 2
    obtain rfl : N = i := by have : ¬ i < N := by simpa using hc
                             omega
    refine EvC.rg (by (simp only [go_sem]) <;> rfl) (by exact inI64_of (by omega) (by omega)) ?_
    exact ⟨[], s + 1, rfl, (by rw [← defP_row]; (simp only [go_sem, Mach.cells, hN, Int.natCast_add, Int.natCast_one]) <;> rfl), hsl, by omega⟩
  have hil : i < N := by simpa using hc
  clear hc
  have hre : r.2[i]? = some (r.2[i]'(by omega)) := List.getElem?_eq_getElem (by omega)
  generalize r.2[i]'(by omega) = e at hre
  have hq := eAt_get he hre
  have hst := defP_step m N s i
  rw [hq] at hst
  have hle := defP_le' m N s i
  have hsN : s * N ≤ 64 * 16 := Nat.mul_le_mul (by omega) (by omega)
  refine EvC.skip ?_
  refine EvC.seq ?_
  refine EvC.block ?_  -- 3
  refine EvC.seq (EvC.rg (by (simp only [go_sem, Mach.cells, he, rowC, hre, edgeC]) <;> rfl) (by simp) ?_)
  refine EvC.cond (by (simp only [go_sem]) <;> rfl) (fun hc => ?_) (fun hc => ?_)
  · have h0 : 0 ≤ e.1 := by simpa using hc
    rw [if_pos h0] at hst
    refine EvC.rg (by (simp only [go_sem]) <;> rfl) (by exact inI64_of (by omega) (by omega)) ?_
    refine EvC.rg (by (simp only [go_sem]) <;> rfl) (by exact inI64_of (by omega) (by omega)) ?_
    exact ⟨[], i + 1, rfl, (by rw [hst]; (simp only [go_sem, Mach.cells, hN, Int.natCast_add, Int.natCast_one]) <;> rfl), hil, by omega⟩
  have h0 : ¬ 0 ≤ e.1 := by simpa using hc
  rw [if_neg h0] at hst
  refine EvC.skip ?_
  refine EvC.rg (by (simp only [go_sem]) <;> rfl) (by exact inI64_of (by omega) (by omega)) ?_
  exact ⟨[], i + 1, rfl, (by rw [hst]; (simp only [go_sem, Mach.cells, hN, Int.natCast_add, Int.natCast_one]) <;> rfl), hil, by omega⟩
theorem complete28_is {m : Mach} (hv : Valid m) {N : Nat} (hN : m.ins = (N : Int)) : PureIs prog 28 [.ag m.cells] (.sc (.bool (compD m N))) := by
  have hrw := hv.rows
  have hin := hv.ins
  have hD := defined_is hv hN
  have hm2 : (m.rows.length : Int) * N ≤ 64 * 16 := Int.mul_le_mul (by omega) (by omega) (by omega) (by omega)
  have hm1 : (0 : Int) ≤ (m.rows.length : Int) * N := Int.mul_nonneg (by omega) (by omega)
  have hI : inI64 ((m.rows.length : Int) * N) = true := inI64_of (by omega) (by omega)
  have hb : compD m N = decide ((defP m N m.rows.length 0 : Int) = (m.rows.length : Int) * N) := by
    unfold compD
    refine decide_eq_decide.2 ⟨fun h => by rw [h]; exact Int.natCast_mul _ _, fun h => ?_⟩
    rw [← Int.natCast_mul] at h; exact Int.ofNat.inj h
  rw [hb]
  refine PureIs.of (nv := 3) (hid := []) func28 rfl (by kernel_rfl) (by simp [ntmps28]) fun _ => ?_
  rw [ntmps28, results28]
  refine EvC.seq (EvC.rg (by (simp only [go_sem, Mach.cells]) <;> rfl) (by simp) ?_)
  refine EvC.frzB 0 (by (simp only [go_sem]) <;> rfl) ?_
  apply EvC.seq
  apply EvC.drw mixed
  · apply Tr.run
    · (simp only [go_sem, Mach.cells]) <;> rfl
    · simp
    apply Tr.cons
    · exact .call rfl rfl (by (simp only [go_sem]) <;> rfl) (by (simp only [go_sem]) <;> rfl) (by (simp only [go_sem]) <;> rfl) (by (simp only [go_sem]) <;> rfl) (by (simp only [go_sem]) <;> rfl) (hD)
    apply Tr.done
    · (simp only [go_sem, List.length_map, hN]) <;> rfl
    · simp [hI]
  · kernel_rfl
  refine EvC.ret ⟨.inl rfl, _, (by (simp only [go_sem]) <;> rfl), ?_, rfl⟩
  simp only [go_sem]
theorem complete28F_is {m : Mach} (hv : Valid m) {N : Nat} (hN : m.ins = (N : Int)) : PureIs prog 28 [.ag m.cellsF] (.sc (.bool (compD m N))) := by
  refine PureIs.weak ?_
  simp only [List.map_cons, List.map_nil, AV.unk, Mach.cellsF_unk, Mach.cells_unk]
  exact complete28_is hv hN
/-- Both tests of completeness agree. -/
theorem compD_iff {m : Mach} {N : Nat} : compD m N = true ↔ ∀ s i, s < m.rows.length → i < N → 0 ≤ (eAt m s i).1 := by
  have h1 : defP m N m.rows.length 0 = (prs m.rows.length N).countP fun p => decide (0 ≤ (eAt m p.1 p.2).1) := by simp [defP]
  unfold compD
  rw [h1, ← prs_len, decide_eq_true_eq, List.countP_eq_length]
  constructor
  · intro h s i hs hi
    simpa using h (s, i) (mem_prs.2 ⟨hs, hi⟩)
  · intro h p hp
    have := mem_prs.1 hp
    simpa using h p.1 p.2 this.1 this.2
theorem comp_iff {m : Mach} {N : Nat} : comp m N = true ↔ ∀ s i, s < m.rows.length → i < N → isNone (eAt m s i) = false := by
  unfold comp undL
  rw [List.isEmpty_iff, List.filter_eq_nil_iff]
  constructor
  · intro h s i hs hi
    simpa using h (s, i) (mem_prs.2 ⟨hs, hi⟩)
  · intro h p hp
    have := mem_prs.1 hp
    simp [h p.1 p.2 this.1 this.2]
theorem comp_compD {m : Mach} (hv : Valid m) {N : Nat} (hN : m.ins = (N : Int)) : compD m N = comp m N := by
  rw [Bool.eq_iff_iff, compD_iff, comp_iff]
  have key : ∀ s i, s < m.rows.length → i < N → (0 ≤ (eAt m s i).1 ↔ isNone (eAt m s i) = false) := fun s i hs hi => by
    obtain ⟨r, _, _, h⟩ := eAt_fit hv hs (i := i) (by omega)
    unfold isNone at h ⊢
    rcases h with h | h
    · simp only [Bool.and_eq_true, decide_eq_true_eq] at h
      simp [h.1, h.2]
    · have : ¬ (eAt m s i).1 = -1 := by omega
      simp [this, h.1]
  exact ⟨fun h s i hs hi => (key s i hs hi).1 (h s i hs hi), fun h s i hs hi => (key s i hs hi).2 (h s i hs hi)⟩
end Go.Avl
namespace Go.Avl
open Go

def retB (P : Program) (fr : Fr) (results : List ResultVar) (R : AV → Mem → Nat → Prop) : Exit → St → Prop :=
  fun e st => (e = .ret ∨ e = .normal) ∧ ∃ rs, resAllR P fr st results = some rs ∧ R (mkRes rs) st.mem st.nx
def BodyIs (P : Program) (f : FuncId) (args : List AV) (M : Mem) (nx : Nat) (R : AV → Mem → Nat → Prop) : Prop :=
  ∃ fn c nv hid, P.funcs[f]? = some fn ∧ fn.body = some c ∧ (fn.name == "runtime.NumGoroutine") = false ∧ args.length ≤ fn.ntmps ∧
    ∀ h0 : Nat, EvC P ⟨nx, nv, hid, fn.ntmps⟩ none ⟨h0, none, false⟩ c ⟨vars0 0 args, [], M, nx⟩ (retB P ⟨nx, nv, hid, fn.ntmps⟩ fn.results.toList R)

section
variable {P : Program} {fr : Fr} {ro : Option Nat} {ds : DS} {st st' : St} {Q Q' : Exit → St → Prop} {c : Code} {M : Mem} {ops : Array Oper} {l rest : List Oper} {o : Oper}

theorem BodyIs.of {f : FuncId} {fn : Func} {args : List AV} {nx nv : Nat} {hid : List Nat} {R : AV → Mem → Nat → Prop} (hf : P.funcs[f]? = some fn) (hb : fn.body = some c) (hnm : (fn.name == "runtime.NumGoroutine") = false) (hsz : args.length ≤ fn.ntmps)
    (h : ∀ h0 : Nat, EvC P ⟨nx, nv, hid, fn.ntmps⟩ none ⟨h0, none, false⟩ c ⟨vars0 0 args, [], M, nx⟩ (retB P ⟨nx, nv, hid, fn.ntmps⟩ fn.results.toList R)) : BodyIs P f args M nx R :=
  ⟨fn, c, nv, hid, hf, hb, hnm, hsz, h⟩
theorem BodyIs.mono {f : FuncId} {args : List AV} {nx : Nat} {R R' : AV → Mem → Nat → Prop} (h : BodyIs P f args M nx R) (hr : ∀ r M nx, R r M nx → R' r M nx) : BodyIs P f args M nx R' := by
  obtain ⟨fn, c, nv, hid, h1, h2, h3, h4, h5⟩ := h
  exact ⟨fn, c, nv, hid, h1, h2, h3, h4, fun h0 => (h5 h0).mono fun e st ⟨k1, rs, k2, k3⟩ => ⟨k1, rs, k2, hr _ _ _ k3⟩⟩
theorem XR.callI {f : FuncId} {cs : List AV} {callee : Operand} {args : Array Operand} {tys : Array TypeId} {xs : List AV} (hg : o.guard = none) (hop : o.op = .call ⟨.value callee, args, tys⟩) (hd : dok fr o.dst = true)
    (hcal : od fr st true callee = .fn f cs) (hxs : bodyArgs fr st args ++ cs = xs)
    (hb : BodyIs P f xs st.mem st.nx fun r M' nx' => XR P fr ro ds ops rest ((⟨st.vars, st.tmps, M', nx'⟩ : St).put fr o.dst r) Q) : XR P fr ro ds ops (o :: rest) st Q := by
  obtain ⟨fn, c, nv, hid, h1, h2, h3, h4, h5⟩ := hb
  exact XR.callB nv hid hg hop hd hcal hxs h1 h2 h3 h4 fun h0 => (h5 h0).mono fun e st ⟨k1, rs, k2, k3⟩ => ⟨k1, rs, k2, k3⟩
theorem XR.callIG {j k : Nat} {want : Bool} {f : FuncId} {cs : List AV} {callee : Operand} {args : Array Operand} {tys : Array TypeId} {xs : List AV} (hg : o.guard = some (j, want)) (hj : gslot ops j = some k) (hk : gval want (st.get fr k) = some true)
    (hop : o.op = .call ⟨.value callee, args, tys⟩) (hd : dok fr o.dst = true)
    (hcal : od fr st true callee = .fn f cs) (hxs : bodyArgs fr st args ++ cs = xs)
    (hb : BodyIs P f xs st.mem st.nx fun r M' nx' => XR P fr ro ds ops rest ((⟨st.vars, st.tmps, M', nx'⟩ : St).put fr o.dst r) Q) : XR P fr ro ds ops (o :: rest) st Q :=
  fun _ _ _ _ _ _ a w S s => by
    have hw := wanted_ok s hg hj hk
    simp only [wpListIn, hw, if_true]
    obtain ⟨fn, c, nv, hid, h1, h2, h3, h4, h5⟩ := hb
    exact s.callB (R := fun r M' nx' => XR P fr ro ds ops rest ((⟨st.vars, st.tmps, M', nx'⟩ : St).put fr o.dst r) Q) hop (dok_spec hd) hcal hxs h1 h2 h3 h4 h5
      fun _ _ _ _ _ _ _ hR s' S' => hR _ _ _ _ _ _ _ _ (S.trans (by rw [St.put_mem]; exact S'.mono fun _ _ => trivial)) s'
end
attribute [go_sem] resAllR resOneR bodyArgs
end Go.Avl
namespace Go.Avl
open Go Go.Proofs.Try
set_option maxRecDepth 10000
set_option linter.unusedSimpArgs false

/-! ### Rows grown by append -/
def tcell (m n : Nat) : List (List AV) := (List.range n).map fun s => [.tl s m false]
theorem tcell_len (m n : Nat) : (tcell m n).length = n := by simp [tcell]
theorem tcell_get {m n s : Nat} (h : s < n) : (tcell m n)[s]? = some [.tl s m false] := by rw [tcell, List.getElem?_map, List.getElem?_range h]; rfl
theorem tcell_succ (m n : Nat) : tcell m n ++ [[.tl n m false]] = tcell m (n + 1) := by simp [tcell, List.range_succ]
theorem tcell_ren {m n : Nat} {K : List (Nat × Nat)} (h : ∀ s, s < n → rlook K s = some s) : (tcell m n).map (fun c => c.map (AV.ren K)) = tcell m n := by
  rw [tcell, List.map_map]
  refine List.map_congr_left fun s hs => ?_
  simp only [Function.comp, List.map_cons, List.map_nil, AV.ren, AV.noref, Bool.false_eq_true, if_false, AV.deep, renLeaf, h s (List.mem_range.1 hs)]
theorem tcell_snap {m n e : Nat} {M : Mem} {row : Nat → List (List AV)} (h : ∀ s, s < n → mlook M s = some (.arr e (row s) true)) (hl : ∀ s, s < n → (row s).length = m) : (tcell m n).map (fun c => c.map (AV.deep (snap M))) = (List.range n).map fun s => [.sl false (row s) .unk] := by
  rw [tcell, List.map_map]
  refine List.map_congr_left fun s hs => ?_
  have hs := List.mem_range.1 hs
  simp only [Function.comp, List.map_cons, List.map_nil, AV.deep, snap, h s hs, hl s hs, if_true]
theorem tcell_norefs {m n : Nat} (h : 0 < n) : (tcell m n).all AV.norefs = false := by
  rw [List.all_eq_false]
  exact ⟨[.tl 0 m false], List.mem_map.2 ⟨0, List.mem_range.2 h, rfl⟩, by simp [AV.norefs, AV.noref]⟩
theorem row_gcells {m : Mach} {N s : Nat} {r : Row} (he : m.rows[s]? = some r) (hN : r.2.length = N) : r.2.map edgeC = gcells edgeC (eAt m s) N := by
  rw [gcells_edge]
  congr 1
  refine List.ext_getElem (by simp [hN]) fun i k1 k2 => ?_
  simp only [List.getElem_map, List.getElem_range]
  exact (eAt_get he (List.getElem?_eq_getElem k1)).symm

set_option maxHeartbeats 4000000 in
/-- A machine copied: the rows in new objects. -/
theorem copy_is {m : Mach} (hv : Valid m) {N : Nat} (hN : m.ins = (N : Int)) {R : AV → Mem → Nat → Prop}
    (hR : R (.ag [.sc (.int .i64 m.ins), .sc (.int .i64 m.outs), .tl 1000002 m.rows.length false]) ((1000000, .cells [.sc (.int .i64 m.ins), .sc (.int .i64 m.outs), .tl 1000002 m.rows.length false]) :: (1000001, .cells [.sc (.int .i64 m.ins), .sc (.int .i64 m.outs), .tl 1000002 m.rows.length false]) :: (1000002, .arr 1 (tcell N m.rows.length) false) :: gtab 2 edgeC (eAt m) m.rows.length N) 1000011) :
    BodyIs prog 26 [.ag m.cells] [] 0 R := by
  have hrw := hv.rows
  have hin := hv.ins
  obtain ⟨n, hn⟩ : ∃ n, n = m.rows.length := ⟨_, rfl⟩
  rw [← hn] at hrw hR
  refine BodyIs.of (nv := 5) (hid := [14, 26]) func26 rfl (by kernel_rfl) (by simp [ntmps26]) fun h0 => ?_
  rw [ntmps26, results26]
  refine EvC.seq (EvC.rg (by (simp only [go_sem, Mach.cells]) <;> rfl) (by simp) ?_)
  refine EvC.frzB 0 (by (simp only [go_sem]) <;> rfl) ?_
  refine EvC.seq (EvC.rg (by (simp only [go_sem]) <;> rfl) (by simp) ?_)
  refine EvC.seq ?_
  refine EvC.seq (EvC.rg (by (simp only [go_sem]) <;> rfl) (by simp) ?_)
  refine EvC.block ?_  -- 0
  refine EvC.ownC 7 2 1 (by (simp only [go_sem]) <;> rfl) ?_
  refine EvC.thaw 10 (by (simp only [go_sem]) <;> rfl) ?_
  refine EvC.loopS (σ := Nat) (fun s => ⟨[(1, .ia m.cells), (2, .rf 1000000 0), (3, .rf 1000001 0), (4, .sc (.int .i64 s))], [], (1000000, .cells [.sc (.int .i64 0), .sc (.int .i64 0), .sl true [] .zer]) :: (1000001, .cells [.sc (.int .i64 m.ins), .sc (.int .i64 m.outs), .tl 1000002 s (s == 0)]) :: (1000002, .arr 1 (tcell N s) false) :: gtab 2 edgeC (eAt m) s N, 1000004⟩) (fun s => n - s) (fun s => s ≤ n) [1, 2, 3, 4] 1000004 ?_ ?_
  · exact ⟨[(1, 1000000), (7, 1000001), (10, 1000002)], 0, rfl, (by (simp only [go_sem, Mach.cells, tcell, gtab_zero, List.range_zero, List.map_nil, Int.natCast_zero]) <;> rfl), Nat.zero_le _⟩
  intro s hs
  have hml := tcell_len N s
  refine EvC.seq ?_
  refine EvC.seq (EvC.rg (by (simp only [go_sem, Mach.cells, List.length_map, ← hn]) <;> rfl) (by simp) ?_)
  refine EvC.cond (by (simp only [go_sem]) <;> rfl) (fun hc => ?_) (fun hc => ?_)
  rotate_left
  · refine EvC.exit ?_  -- 0
    obtain rfl : n = s := by have : ¬ s < n := by simpa using hc
                             omega
    have hs0 : (n == 0) = false := by simp; omega
    refine EvC.seq (EvC.rg (by (simp only [go_sem, hs0, hml]) <;> rfl) (by simp) ?_)
    refine EvC.ret ⟨.inl rfl, _, (by (simp only [go_sem]) <;> rfl), ?_⟩
    exact hR
  have hsl : s < n := by simpa using hc
  clear hc
  have hn1 : s ≤ 1000000 := by omega
  have hs0 : (s + 1 == 0) = false := rfl
  have he : m.rows[s]? = some (m.rows[s]'(by omega)) := List.getElem?_eq_getElem (by omega)
  have hrN : (m.rows[s]'(by omega)).2.length = N := by have := (hv.row _ (List.getElem_mem (show s < m.rows.length by omega))).1; omega
  generalize m.rows[s]'(by omega) = r at he hrN
  have hrow := row_gcells he hrN
  have hgl := gcells_len edgeC (eAt m s) N
  refine EvC.skip ?_
  refine EvC.seq ?_
  refine EvC.block ?_  -- 1
  apply EvC.drd mixed
  · (simp only [go_sem, Mach.cells, he, rowC, hrow, hgl, hml, mlook_mset, mset_mset_same]) <;> rfl
  · simp [room_eq, gcells_all (C := edgeC) (e := 2) (fun _ => rfl), hgl, hml]; try omega
  · kernel_rfl
  refine EvC.rg (by (simp only [go_sem]) <;> rfl) (by exact inI64_of (by omega) (by omega)) ?_
  refine ⟨segK [(1000000, 1000000), (1000001, 1000001), (1000002, 1000002)] s [(1000017, s)], s + 1, segK_ok1 (A := [(1000000, 1000000), (1000001, 1000001), (1000002, 1000002)]) rfl rfl rfl (by omega) (by omega), ?_, by omega, by omega⟩
  have hlo : ∀ k, k < s → rlook (segK [(1000000, 1000000), (1000001, 1000001), (1000002, 1000002)] s [(1000017, s)]) k = some k := fun k hk => rlook_segK_lo hk hn1 (A := [(1000000, 1000000), (1000001, 1000001), (1000002, 1000002)]) rfl
  (simp only [go_sem, Mach.cells, hs0, hml, rlook_segK_hi hn1, List.cons_append, List.nil_append, renMem_idK_cons hn1, renMem_idK_mset hn1, mlook_mset, gcells_norefs hEn, gtab_ren 2 hEn, gtab_snoc, tcell_ren hlo, tcell_succ, Int.natCast_add, Int.natCast_one]) <;> rfl
end Go.Avl
