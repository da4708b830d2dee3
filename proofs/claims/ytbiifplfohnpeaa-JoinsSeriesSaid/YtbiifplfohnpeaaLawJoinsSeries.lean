/-
  Lemmas.
  Lemmas.
  Lemmas.
  Lemmas.
  Lemmas.
  Lemmas.
  Lemmas.
  Lemmas.
  Lemmas.
  How the arguments of the law of machines in series read.
  JoinsSeries returns true at every input, and each argument reads behind the call as it read before.
  Conditions: those of the given row alone (no others).
-/
import Derived.Test.YtbiifplfohnpeaaPart7
set_option linter.unusedSimpArgs false
set_option linter.unusedVariables false
set_option linter.unnecessarySimpa false
set_option linter.deprecated false
namespace Go.Avl
open Go Go.Proofs.Try
set_option maxRecDepth 10000
set_option linter.unusedSimpArgs false

theorem Valid.check {m : Mach} (h : Valid m) : checkM m = 0 := by
  have h1 := h.ins
  have h2 := h.outs
  have h3 := h.rows
  unfold checkM
  rw [if_neg (by omega), if_neg (by omega), if_pos]
  rw [List.all_eq_true]
  intro r hr
  obtain ⟨k1, k2⟩ := h.row r hr
  simp only [rowOk, Bool.and_eq_true, decide_eq_true_eq, Bool.not_eq_true', List.any_eq_false]
  exact ⟨k1, fun e he => by simpa using k2 e he⟩
theorem ints_unk (l : List Int) : AV.unkss (l.map intC) = l.map intC := unkss_map intC (fun _ => rfl) l
theorem Valid.small {q : Mach} (hq : Valid q) : ∀ r ∈ q.rows, r.2.length < 1000000 := by
  intro r hr
  have h1 := (hq.row r hr).1
  have h2 := hq.ins
  omega
theorem runF_is {m : Mach} (hv : Valid m) (nl : Bool) (w : List Int) (c : Cp) (hw : ∀ a ∈ w, 0 ≤ a ∧ a < m.ins) (hl : w.length < 1000000) (s : Int) (hs : s < m.rows.length) :
    PureIs prog 17 [.ag m.cellsF, .sc (.int .i64 s), .sl nl (w.map intC) c] (.sl (runR m s w).isEmpty ((runR m s w).map intC) .unk) := by
  refine PureIs.weak ?_
  simp only [List.map_cons, List.map_nil, AV.unk, Mach.cellsF_unk, ints_unk]
  exact run04_is hv s hs nl w .unk hw hl
theorem LM.valid {x : LM} (h : x.Ok) : Valid x.mach := by
  obtain ⟨b1, b2, b3, b4, b5, b6, -, -⟩ := LM.bounds h
  have hl : x.mach.rows.length = x.n := by simp [LM.mach]
  refine ⟨⟨by show (1 : Int) ≤ x.i; omega, by show (x.i : Int) ≤ 16; omega⟩, ⟨b5, by show x.o ≤ 16; omega⟩, by rw [hl]; omega, fun r hr => ?_⟩
  rw [hl]
  simp only [LM.mach, List.mem_map, List.mem_range] at hr ⊢
  obtain ⟨s, hs, rfl⟩ := hr
  refine ⟨by simp [LM.row], fun e he => ?_⟩
  simp only [LM.row, List.mem_map, List.mem_range] at he
  obtain ⟨i, hi, rfl⟩ := he
  obtain ⟨v1, v2⟩ := LM.v_ok h s i
  unfold LM.edge
  split
  · simp [fitsR]
  · have h1 := Int.emod_nonneg (x.v s i / 4) (b := x.n) (by omega)
    have h2 := Int.emod_lt_of_pos (x.v s i / 4) (b := x.n) (by omega)
    have h3 := Int.emod_nonneg (x.v s i / 4 / x.n) (b := x.o) (by omega)
    have h4 := Int.emod_lt_of_pos (x.v s i / 4 / x.n) (b := x.o) (by omega)
    simp [fitsR, h1, h2, h3, h4]
theorem wOf_ok {l : List Int} {n : Int} (hn : 1 ≤ n) : ∀ a ∈ wOf l n, 0 ≤ a ∧ a < n := by
  intro a ha
  simp only [wOf, List.mem_map] at ha
  obtain ⟨y, -, rfl⟩ := ha
  exact ⟨Int.emod_nonneg _ (by omega), Int.emod_lt_of_pos _ (by omega)⟩
theorem wOf_len (l : List Int) (n : Int) : (wOf l n).length ≤ 12 := by simp [wOf]; omega
theorem runR_len (m : Mach) : ∀ (s : Int) (w : List Int), (runR m s w).length = w.length
  | _, [] => rfl
  | s, a :: w => by simp only [runR, List.length_cons]; rw [runR_len m _ w]
/-! ### Machines, edge by edge -/
theorem eAt_fit {m : Mach} (hv : Valid m) {s i : Nat} (hs : s < m.rows.length) (hi : (i : Int) < m.ins) : ∃ r, m.rows[s]? = some r ∧ r.2[i]? = some (eAt m s i) ∧ (isNone (eAt m s i) = true ∨ (0 ≤ (eAt m s i).1 ∧ (eAt m s i).1 < m.rows.length ∧ 0 ≤ (eAt m s i).2 ∧ (eAt m s i).2 < m.outs)) := by
  have h1 : m.rows[s]? = some m.rows[s] := List.getElem?_eq_getElem hs
  obtain ⟨h2, h3⟩ := hv.row _ (List.getElem_mem hs)
  have h4 : (m.rows[s]).2[i]? = some ((m.rows[s]).2[i]'(by omega)) := List.getElem?_eq_getElem _
  have he := eAt_get h1 h4
  refine ⟨_, h1, by rw [he]; exact h4, ?_⟩
  have hf := fits_edge (h3 _ (List.getElem_mem (show i < (m.rows[s]).2.length by omega)))
  rw [he]
  rcases hf with h | h
  · left; simp [isNone, h]
  · exact .inr h
/-- A machine given by a table is valid. -/
theorem valid_tab {ins outs : Int} {nl : Bool} {n N : Nat} {f : Nat → Nat → Int × Int} (hN : ins = (N : Int)) (h1 : 1 ≤ N ∧ N ≤ 16) (h2 : 1 ≤ outs ∧ outs ≤ 16) (h3 : 1 ≤ n ∧ n ≤ 64)
    (hf : ∀ s i, s < n → i < N → isNone (f s i) = true ∨ (0 ≤ (f s i).1 ∧ (f s i).1 < n ∧ 0 ≤ (f s i).2 ∧ (f s i).2 < outs)) : Valid ⟨ins, outs, nl, (List.range n).map fun s => (false, (List.range N).map (f s))⟩ := by
  refine ⟨by simp only; omega, h2, by simpa using h3, fun r hr => ?_⟩
  obtain ⟨s, hs, rfl⟩ := List.mem_map.1 hr
  refine ⟨by simp [hN], fun e he => ?_⟩
  obtain ⟨i, hi, rfl⟩ := List.mem_map.1 he
  simp only [List.length_map, List.length_range]
  have := hf s i (List.mem_range.1 hs) (List.mem_range.1 hi)
  unfold fitsR
  rcases this with h | h
  · unfold isNone at h; simp only [Bool.and_eq_true, decide_eq_true_eq] at h; simp [h.1, h.2]
  · simp [h.1, h.2.1, h.2.2.1, h.2.2.2]
theorem eAt_tab {ins outs : Int} {nl : Bool} {n N : Nat} {f : Nat → Nat → Int × Int} {s i : Nat} (hs : s < n) (hi : i < N) : eAt ⟨ins, outs, nl, (List.range n).map fun s => (false, (List.range N).map (f s))⟩ s i = f s i := by
  refine eAt_get (r := (false, (List.range N).map (f s))) ?_ ?_
  · simp only; rw [List.getElem?_map, List.getElem?_range hs]; rfl
  · simp only; rw [List.getElem?_map, List.getElem?_range hi]; rfl
/-- A valid machine is its table. -/
theorem rows_tab {m : Mach} (hv : Valid m) {N : Nat} (hN : m.ins = (N : Int)) : m.rows.map (·.2) = (List.range m.rows.length).map fun s => (List.range N).map (eAt m s) := by
  refine List.ext_getElem (by simp) fun s h1 h2 => ?_
  simp only [List.getElem_map, List.getElem_range]
  have hs : s < m.rows.length := by simpa using h1
  have hr := (hv.row _ (List.getElem_mem hs)).1
  refine List.ext_getElem (by simp; omega) fun i k1 k2 => ?_
  simp only [List.getElem_map, List.getElem_range]
  exact (eAt_get (List.getElem?_eq_getElem hs) (List.getElem?_eq_getElem k1)).symm
theorem stepR_eAt {m : Mach} {s : Nat} {a : Int} (ha : 0 ≤ a) : stepR m (s : Int) a = eAt m s a.toNat := by
  rw [eAt_stepR, Int.toNat_of_nonneg ha]
theorem stepR_neg {m : Mach} {s a : Int} (hs : s < 0) : stepR m s a = (-1, -1) := by rw [stepR, if_pos hs]
/-- Responses, one step after the other, along a relation of states. -/
theorem runR_rel {m m' : Mach} {R : Int → Int → Prop} {g : Int → Int} {h : Int → Int} (hs : ∀ s s' a, R s s' → 0 ≤ a → a < m.ins → R (stepR m s a).1 (stepR m' s' (h a)).1 ∧ (stepR m' s' (h a)).2 = g (stepR m s a).2) :
    ∀ (w : List Int) (s s' : Int), R s s' → (∀ a ∈ w, 0 ≤ a ∧ a < m.ins) → runR m' s' (w.map h) = (runR m s w).map g
  | [], _, _, _, _ => rfl
  | a :: w, s, s', hR, hw => by
    obtain ⟨h0, h1⟩ := hw a List.mem_cons_self
    obtain ⟨k1, k2⟩ := hs s s' a hR h0 h1
    simp only [List.map_cons, runR]
    rw [k2, runR_rel hs w _ _ k1 fun b hb => hw b (List.mem_cons_of_mem _ hb)]

end Go.Avl
namespace Go.Avl
open Go Go.Proofs.Try
set_option maxRecDepth 10000
set_option linter.unusedSimpArgs false

/-! ### United machines -/
theorem none_neg {m : Mach} {e : Int × Int} {n : Int} (h : isNone e = true ∨ (0 ≤ e.1 ∧ e.1 < n ∧ 0 ≤ e.2 ∧ e.2 < m.outs)) (k : Int) : latE k e = besE k e := by
  unfold latE besE
  by_cases hn : isNone e = true
  · have : e.1 = -1 := by unfold isNone at hn; simp only [Bool.and_eq_true, decide_eq_true_eq] at hn; exact hn.1
    rw [if_pos hn, if_neg (by omega)]
  · rw [if_neg hn, if_pos (h.resolve_left hn).1]
theorem uniM_bes {a b : Mach} (va : Valid a) (vb : Valid b) (hio : a.ins = b.ins) : (uniM a b).rows.map (·.2) = (besM a b).rows.map (·.2) := by
  have hai := va.ins
  have e1 := rows_tab va (N := a.ins.toNat) (by omega)
  simp only [uniM, besM, List.map_append]
  rw [e1]
  congr 1
  · simp only [rowsOf, List.map_map]; rfl
  · simp only [rowsOf, List.map_map]
    refine List.map_congr_left fun s hs => ?_
    simp only [Function.comp, besRow, hio]
    refine List.map_congr_left fun i hi => ?_
    have hs := List.mem_range.1 hs
    have hi := List.mem_range.1 hi
    obtain ⟨_, _, _, h⟩ := eAt_fit vb hs (show (i : Int) < b.ins by omega)
    exact none_neg (m := b) h _
theorem uniM_len (a b : Mach) : (uniM a b).rows.length = a.rows.length + b.rows.length := by simp [uniM, rowsOf_len]
theorem uniM_a {a b : Mach} {s i : Nat} (hs : s < a.rows.length) (hi : i < a.ins.toNat) : eAt (uniM a b) s i = eAt a s i := by
  have h1 : (uniM a b).rows[s]? = (rowsOf a a.ins.toNat id)[s]? := by simp only [uniM]; rw [List.getElem?_append_left (by rw [rowsOf_len]; exact hs)]
  unfold eAt
  rw [h1, rowsOf, List.getElem?_map, List.getElem?_range hs]
  simp [hi, eAt]
theorem uniM_b {a b : Mach} {s i : Nat} (hs : s < b.rows.length) (hi : i < a.ins.toNat) : eAt (uniM a b) (a.rows.length + s) i = latE a.rows.length (eAt b s i) := by
  have h1 : (uniM a b).rows[a.rows.length + s]? = (rowsOf b a.ins.toNat (latE a.rows.length))[s]? := by
    simp only [uniM]; rw [List.getElem?_append_right (by rw [rowsOf_len]; omega), rowsOf_len, Nat.add_sub_cancel_left]
  have h2 : ∀ e : Int × Int, eAt (uniM a b) (a.rows.length + s) i = e ↔ ((((rowsOf b a.ins.toNat (latE a.rows.length))[s]?).map (·.2)).getD [])[i]?.getD (-1, -1) = e := fun e => by unfold eAt; rw [h1]
  rw [h2, rowsOf, List.getElem?_map, List.getElem?_range hs]
  simp [hi]
theorem uniM_valid {a b : Mach} (va : Valid a) (vb : Valid b) (hio : a.ins = b.ins) (h64 : a.rows.length + b.rows.length ≤ 64) : Valid (uniM a b) := by
  have hai := va.ins
  have hao := va.outs
  have hbo := vb.outs
  have hra := va.rows
  have hmo : a.outs ≤ (uniM a b).outs ∧ b.outs ≤ (uniM a b).outs ∧ (uniM a b).outs ≤ 16 := by simp only [uniM]; split <;> omega
  refine ⟨hai, by omega, by rw [uniM_len]; omega, fun r hr => ?_⟩
  rw [uniM_len]
  have key : ∀ (m : Mach) (f : Int × Int → Int × Int), r ∈ rowsOf m a.ins.toNat f → Valid m → m.ins = a.ins → (∀ e : Int × Int, (isNone e = true ∨ (0 ≤ e.1 ∧ e.1 < m.rows.length ∧ 0 ≤ e.2 ∧ e.2 < m.outs)) → fitsR ((a.rows.length + b.rows.length : Nat) : Int) (uniM a b).outs (f e).1 (f e).2 = true) →
      (r.2.length : Int) = (uniM a b).ins ∧ ∀ e ∈ r.2, fitsR ((a.rows.length + b.rows.length : Nat) : Int) (uniM a b).outs e.1 e.2 = true := by
    intro m f hr vm hm hf
    obtain ⟨s, hs, rfl⟩ := List.mem_map.1 hr
    refine ⟨by simp only [List.length_map, List.length_range, uniM]; omega, fun e he => ?_⟩
    obtain ⟨i, hi, rfl⟩ := List.mem_map.1 he
    obtain ⟨_, _, _, h⟩ := eAt_fit vm (List.mem_range.1 hs) (show (i : Int) < m.ins by have := List.mem_range.1 hi; omega)
    exact hf _ h
  simp only [uniM] at hr
  rcases List.mem_append.1 hr with hr | hr
  · refine key a id hr va rfl fun e h => ?_
    unfold fitsR
    rcases h with h | h
    · unfold isNone at h; simp only [Bool.and_eq_true, decide_eq_true_eq] at h; simp [h.1, h.2]
    · simp only [id, Bool.or_eq_true, Bool.and_eq_true, decide_eq_true_eq]; omega
  · refine key b _ hr vb hio.symm fun e h => ?_
    unfold fitsR latE
    rcases h with h | h
    · rw [if_pos h]
      unfold isNone at h; simp only [Bool.and_eq_true, decide_eq_true_eq] at h; simp [h.1, h.2]
    · rw [if_neg (by unfold isNone; simp; omega)]
      simp only [Bool.or_eq_true, Bool.and_eq_true, decide_eq_true_eq]; omega
theorem uniM_runA {a b : Mach} (va : Valid a) (w : List Int) (hw : ∀ x ∈ w, 0 ≤ x ∧ x < a.ins) : runR (uniM a b) 0 w = runR a 0 w := by
  have hai := va.ins
  have := runR_rel (m := a) (m' := uniM a b) (R := fun s s' => s' = s ∧ s < a.rows.length) (g := id) (h := id) (fun s s' x hR h0 h1 => by
    obtain ⟨rfl, hs⟩ := hR
    by_cases hn : s' < 0
    · rw [id, stepR_neg hn, stepR_neg hn]; exact ⟨⟨rfl, by simp only; omega⟩, rfl⟩
    · obtain ⟨k, rfl⟩ : ∃ k : Nat, s' = k := ⟨s'.toNat, by omega⟩
      have e : stepR (uniM a b) (k : Int) x = stepR a (k : Int) x := by rw [stepR_eAt h0, stepR_eAt h0, uniM_a (by omega) (by omega)]
      rw [id, e]
      exact ⟨⟨rfl, stepR_lt va hs ⟨h0, h1⟩⟩, rfl⟩) w 0 0 ⟨rfl, by have := va.rows; omega⟩ hw
  simpa using this
theorem uniM_runB {a b : Mach} (va : Valid a) (vb : Valid b) (hio : a.ins = b.ins) (w : List Int) (hw : ∀ x ∈ w, 0 ≤ x ∧ x < b.ins) {s : Nat} (hs : s < b.rows.length) : runR (uniM a b) ((a.rows.length : Int) + s) w = runR b s w := by
  have hai := va.ins
  have := runR_rel (m := b) (m' := uniM a b) (R := fun s s' => (s < 0 ∧ s' < 0) ∨ (0 ≤ s ∧ s < b.rows.length ∧ s' = a.rows.length + s)) (g := id) (h := id) (fun s s' x hR h0 h1 => by
    rcases hR with ⟨k1, k2⟩ | ⟨k1, k2, rfl⟩
    · rw [id, stepR_neg k1, stepR_neg k2]; exact ⟨.inl ⟨by decide, by decide⟩, rfl⟩
    · obtain ⟨k, rfl⟩ : ∃ k : Nat, s = k := ⟨s.toNat, by omega⟩
      have e : stepR (uniM a b) ((a.rows.length : Int) + (k : Int)) x = latE a.rows.length (eAt b k x.toNat) := by
        rw [show (a.rows.length : Int) + (k : Int) = ((a.rows.length + k : Nat) : Int) by omega, stepR_eAt h0, uniM_b (by omega) (by omega)]
      obtain ⟨_, _, _, h⟩ := eAt_fit vb (show k < b.rows.length by omega) (show ((x.toNat : Nat) : Int) < b.ins by omega)
      rw [id, e, stepR_eAt h0]
      unfold latE
      by_cases hn : isNone (eAt b k x.toNat) = true
      · rw [if_pos hn]
        have : (eAt b k x.toNat).1 = -1 := by unfold isNone at hn; simp only [Bool.and_eq_true, decide_eq_true_eq] at hn; exact hn.1
        exact ⟨.inl ⟨by omega, by omega⟩, rfl⟩
      · rw [if_neg hn]
        have h := h.resolve_left hn
        exact ⟨.inr ⟨h.1, h.2.1, by simp only; omega⟩, rfl⟩) w s ((a.rows.length : Int) + s) (.inr ⟨by omega, by omega, rfl⟩) hw
  simpa using this
end Go.Avl
namespace Go.Avl
open Go Go.Proofs.Try
set_option maxRecDepth 10000
set_option linter.unusedSimpArgs false

/-! ### The machine of the pairs -/
theorem stOf_eq {a b : Mach} {par : Int} {p : Pr} {i : Nat} {q : Pr × Int} (h : stOf a b par p i = some q) : stepJ a b par p i = q ∧ 0 ≤ q.2 := by
  unfold stOf at h
  split at h
  · cases h
  · cases h; exact ⟨rfl, by omega⟩
theorem stOf_to {a b : Mach} {par : Int} (hf : Fit a b par) {p : Pr} {i : Nat} {q : Pr × Int} (hp : inPr a b p) (hi : (i : Int) < a.ins) (h : stOf a b par p i = some q) : inPr a b q.1 := by
  obtain ⟨h1, h2⟩ := stOf_eq h
  rcases stepJ_ok hf (s := p.1) (t := p.2) (i := (i : Int)) hp.1 hp.2 (by omega) with e | e
  · have e' : stepJ a b par p i = ((0, 0), -1) := e
    rw [h1] at e'; rw [e'] at h2; simp at h2
  · have h1' : stepJ a b par (p.1, p.2) i = q := h1
    rw [h1'] at e
    exact ⟨⟨e.2.1, e.2.2.1⟩, e.2.2.2⟩
theorem RS_in {a b : Mach} {par : Int} (hf : Fit a b par) {p : Pr} (h : RS (stOf a b par) a.ins.toNat p) : inPr a b p ∧ ReachJ a b par p.1.toNat p.2.toNat := by
  have hai := hf.va.ins
  induction h with
  | zero => exact ⟨inPr_zero hf, .start⟩
  | @step p q o i _ hi hs ih =>
    obtain ⟨h1, h2⟩ := stOf_eq hs
    have hq := stOf_to hf ih.1 (by omega) hs
    refine ⟨hq, ?_⟩
    obtain ⟨⟨i1, i2⟩, hr⟩ := ih
    have e : ((p.1.toNat : Nat) : Int) = p.1 := by omega
    have e' : ((p.2.toNat : Nat) : Int) = p.2 := by omega
    have hst : stepJ a b par (((p.1.toNat : Nat) : Int), ((p.2.toNat : Nat) : Int)) i = (q, o) := by rw [e, e']; exact h1
    have := ReachJ.step p.1.toNat p.2.toNat i hr (by omega) (by rw [hst]; exact h2)
    rw [hst] at this
    exact this
theorem RS_of {a b : Mach} {par : Int} (hf : Fit a b par) {s t : Nat} (h : ReachJ a b par s t) : RS (stOf a b par) a.ins.toNat ((s : Int), (t : Int)) := by
  have hai := hf.va.ins
  induction h with
  | start => exact .zero
  | step s t i hr hi hd ih =>
    have hp : inPr a b ((s : Int), (t : Int)) := (RS_in hf ih).1
    have hs : stOf a b par ((s : Int), (t : Int)) i = some (stepJ a b par (s, t) i) := stOf_some rfl hd
    have hq := stOf_to hf hp hi hs
    refine RS.step ih (i := i) (o := (stepJ a b par (s, t) i).2) (by omega) ?_
    rw [hs]
    have e1 := Int.toNat_of_nonneg hq.1.1
    have e2 := Int.toNat_of_nonneg hq.2.1
    rw [e1, e2]
def jQ (a b : Mach) (par : Int) : List Pr := jq (stOf a b par) a.ins.toNat 64
theorem jQ_reach {a b : Mach} {par : Int} : ∀ p ∈ jQ a b par, RS (stOf a b par) a.ins.toNat p := jq_reach _ _ 64
theorem jQ_nodup (a b : Mach) (par : Int) : (jQ a b par).Nodup := jq_nodup _ _ 64
theorem jQ_pos (a b : Mach) (par : Int) : 1 ≤ (jQ a b par).length := jq_pos _ _ 64
theorem jQ_zero (a b : Mach) (par : Int) : (jQ a b par)[0]? = some (0, 0) := jq_zero _ _ 64
theorem jQ_all {a b : Mach} {par : Int} (h : (jQ a b par).length ≤ 64) {p : Pr} (hp : RS (stOf a b par) a.ins.toNat p) : p ∈ jQ a b par := jq_all h hp
theorem jQ_mono {a b : Mach} {par : Int} {k : Nat} (h : k ≤ 64) : jq (stOf a b par) a.ins.toNat k <+: jQ a b par := jq_mono _ _ h
theorem jQ_fix {a b : Mach} {par : Int} {k : Nat} (h : (jq (stOf a b par) a.ins.toNat k).length ≤ k) (hk : k ≤ 64) : jQ a b par = jq (stOf a b par) a.ins.toNat k ∧ jrows (stOf a b par) a.ins.toNat 64 = jrows (stOf a b par) a.ins.toNat k := jq_fix' h hk
theorem jointA_eq (a b : Mach) (par : Int) (outs : Int) (h64 : (jQ a b par).length ≤ 64) : jointA a.ins outs a.ins.toNat (stOf a b par) = .tu [.ag [.sc (.int .i64 a.ins), .sc (.int .i64 outs), .sl false ((jrows (stOf a b par) a.ins.toNat 64).map rowH) .full], .sc (.int .i64 0)] := if_pos h64
theorem jointA_big {a b : Mach} {par outs : Int} (h : ¬ (jQ a b par).length ≤ 64) : jointA a.ins outs a.ins.toNat (stOf a b par) = errA 3 := by
  unfold jointA; exact if_neg h
theorem jQ_def (a b : Mach) (par : Int) : jQ a b par = jq (stOf a b par) a.ins.toNat 64 := rfl
attribute [irreducible] jQ
open Classical in
theorem reach_list (a b : Mach) (par : Int) : reachN a b par = ((prs a.rows.length b.rows.length).filter fun p => decide (ReachJ a b par p.1 p.2)).length := by
  rw [reachN, cntM, List.countP_eq_length_filter]
def natP (p : Pr) : Nat × Nat := (p.1.toNat, p.2.toNat)
theorem natQ_nodup {a b : Mach} {par : Int} (hf : Fit a b par) : ((jQ a b par).map natP).Nodup := by
  rw [List.nodup_iff_pairwise_ne, List.pairwise_map]
  have h := List.nodup_iff_pairwise_ne.1 (jQ_nodup a b par)
  refine List.Pairwise.imp_of_mem (fun {p q} hp hq hne e => hne ?_) h
  have h1 := (RS_in hf (jQ_reach p hp)).1
  have h2 := (RS_in hf (jQ_reach q hq)).1
  simp only [natP, Prod.mk.injEq] at e
  obtain ⟨⟨a1, -⟩, a2, -⟩ := h1
  obtain ⟨⟨b1, -⟩, b2, -⟩ := h2
  exact Prod.ext (by omega) (by omega)
open Classical in
theorem natQ_sub {a b : Mach} {par : Int} (hf : Fit a b par) : (jQ a b par).map natP ⊆ (prs a.rows.length b.rows.length).filter fun p => decide (ReachJ a b par p.1 p.2) := by
  intro p hp
  obtain ⟨q, hq, rfl⟩ := List.mem_map.1 hp
  have h := (RS_in hf (jQ_reach q hq)).2
  have := reachJ_lt hf h
  rw [List.mem_filter, mem_prs]
  exact ⟨this, decide_eq_true h⟩
theorem jQ_le {a b : Mach} {par : Int} (hf : Fit a b par) : (jQ a b par).length ≤ reachN a b par := by
  rw [reach_list]
  have := (natQ_nodup hf).length_le_of_subset (natQ_sub hf)
  rwa [List.length_map] at this
open Classical in
theorem jQ_len {a b : Mach} {par : Int} (hf : Fit a b par) (h64 : (jQ a b par).length ≤ 64) : reachN a b par = (jQ a b par).length := by
  refine Nat.le_antisymm ?_ (jQ_le hf)
  rw [reach_list, ← List.length_map (f := natP)]
  refine List.Nodup.length_le_of_subset ((nodup_prs _ _).filter _) fun p hp => ?_
  rw [List.mem_filter, decide_eq_true_eq] at hp
  have := jQ_all h64 (RS_of hf hp.2)
  exact List.mem_map.2 ⟨_, this, by simp [natP]⟩
theorem reachN_le (a b : Mach) (par : Int) : reachN a b par ≤ a.rows.length * b.rows.length := cntM_le _ _ _
def jRow (a b : Mach) (par : Int) (p : Pr) : Row := (false, jrow (stOf a b par) (jQ a b par) p a.ins.toNat)
def jM (a b : Mach) (par outs : Int) : Mach := ⟨a.ins, outs, false, (jQ a b par).map (jRow a b par)⟩
theorem jM_len (a b : Mach) (par outs : Int) : (jM a b par outs).rows.length = (jQ a b par).length := by simp [jM]
theorem jq_at {a b : Mach} {par : Int} (h64 : (jQ a b par).length ≤ 64) : jq (stOf a b par) a.ins.toNat (jQ a b par).length = jQ a b par ∧ jrows (stOf a b par) a.ins.toNat 64 = jrows (stOf a b par) a.ins.toNat (jQ a b par).length := by
  have h1 := (jQ_mono (a := a) (b := b) (par := par) h64).length_le
  have := jQ_fix h1 h64
  exact ⟨this.1.symm, this.2⟩
theorem jM_rows {a b : Mach} {par : Int} (outs : Int) (h64 : (jQ a b par).length ≤ 64) : (jrows (stOf a b par) a.ins.toNat 64).map rowH = (jM a b par outs).rows.map rowG := by
  obtain ⟨h1, h2⟩ := jq_at h64
  rw [h2, jrows_eq (m := (jQ a b par).length) (Nat.le_refl _) (by rw [h1]; exact Nat.le_refl _), h1, List.take_length]
  simp only [jM, List.map_map]; rfl
theorem jM_tu {a b : Mach} {par : Int} (outs : Int) (h64 : (jQ a b par).length ≤ 64) : jointA a.ins outs a.ins.toNat (stOf a b par) = .tu [.ag (jM a b par outs).cellsF, .sc (.int .i64 0)] := by
  rw [jointA_eq a b par outs h64, jM_rows outs h64]; rfl
/-- The list behind k of its pairs, and what comes next. -/
theorem jq_lt {a b : Mach} {par : Int} (h64 : (jQ a b par).length ≤ 64) {k : Nat} (hk : k < (jQ a b par).length) : k < (jq (stOf a b par) a.ins.toNat k).length := by
  rcases Nat.lt_or_ge k (jq (stOf a b par) a.ins.toNat k).length with h | h
  · exact h
  · have := (jQ_fix h (show k ≤ 64 by omega)).1
    rw [this] at hk; omega
theorem jed_some {a b : Mach} {par : Int} {p : Pr} {i : Nat} {q : Pr × Int} (h : stOf a b par p i = some q) : jed (stOf a b par) (jQ a b par) p i = ((((jQ a b par).idxOf q.1 : Nat) : Int), q.2) := by simp [jed, h]
theorem jed_none {a b : Mach} {par : Int} {p : Pr} {i : Nat} (h : stOf a b par p i = none) : jed (stOf a b par) (jQ a b par) p i = (-1, -1) := by simp [jed, h]
theorem jrow_get {a b : Mach} {par : Int} (p : Pr) {i : Nat} (hi : i < a.ins.toNat) : (jRow a b par p).2[i]? = some (jed (stOf a b par) (jQ a b par) p i) := by
  simp only [jRow, jrow]; rw [List.getElem?_map, List.getElem?_range hi]; rfl
/-- How great outputs are. -/
theorem stepJ_out {a b : Mach} {par outs : Int} (hf : Fit a b par) (ho : outs = if par = 1 then a.outs * b.outs else b.outs) {p : Pr} {i : Nat} {q : Pr × Int} (hp : inPr a b p) (hi : (i : Int) < a.ins) (h : stOf a b par p i = some q) : 0 ≤ q.2 ∧ q.2 < outs := by
  obtain ⟨h1, h2⟩ := stOf_eq h
  refine ⟨h2, ?_⟩
  obtain ⟨s, t⟩ := p
  obtain ⟨hs, ht⟩ := hp
  simp only at hs ht
  obtain ⟨r1, x, k1, k2, k3, k4⟩ := stepR_get hf.va hs.1 hs.2 (show 0 ≤ (i : Int) ∧ (i : Int) < a.ins by omega)
  have hx := fits_edge k4
  by_cases hx0 : x.1 < 0
  · have : stepJ a b par (s, t) i = ((0, 0), -1) := by simp [stepJ, k3, hx0]
    rw [h1] at this; rw [this] at h2; simp at h2
  by_cases hpp : par = 1
  · obtain ⟨r2, y, l1, l2, l3, l4⟩ := stepR_get hf.vb ht.1 ht.2 (show 0 ≤ (i : Int) ∧ (i : Int) < b.ins by rw [← hf.par hpp]; omega)
    have hy := fits_edge l4
    by_cases hy0 : y.1 < 0
    · have : stepJ a b par (s, t) i = ((0, 0), -1) := by simp [stepJ, k3, l3, hpp, hx0, hy0]
      rw [h1] at this; rw [this] at h2; simp at h2
    · simp only [stepJ, k3, l3, if_neg hx0, if_pos hpp, if_neg hy0] at h1
      rw [← h1, ho, if_pos hpp]
      have h3 : (x.2 + 1) * b.outs ≤ a.outs * b.outs := Int.mul_le_mul_of_nonneg_right (by omega) (by have := hf.vb.outs; omega)
      rw [Int.add_mul, Int.one_mul] at h3
      simp only
      omega
  · have hp0 : par = 0 := by rcases hf.p with h | h; exact h; exact absurd h hpp
    obtain ⟨r2, y, l1, l2, l3, l4⟩ := stepR_get hf.vb ht.1 ht.2 (show 0 ≤ x.2 ∧ x.2 < b.ins by rw [← hf.ser hp0]; omega)
    have hy := fits_edge l4
    by_cases hy0 : y.1 < 0
    · have : stepJ a b par (s, t) i = ((0, 0), -1) := by simp [stepJ, k3, l3, hpp, hx0, hy0]
      rw [h1] at this; rw [this] at h2; simp at h2
    · simp only [stepJ, k3, l3, if_neg hx0, if_neg hpp, if_neg hy0] at h1
      rw [← h1, ho, if_neg hpp]
      simp only
      omega
theorem jM_valid {a b : Mach} {par outs : Int} (hf : Fit a b par) (h64 : (jQ a b par).length ≤ 64) (ho : outs = if par = 1 then a.outs * b.outs else b.outs) (h16 : 1 ≤ outs ∧ outs ≤ 16) : Valid (jM a b par outs) := by
  have hai := hf.va.ins
  refine ⟨hai, h16, by rw [jM_len]; exact ⟨jQ_pos a b par, h64⟩, fun r hr => ?_⟩
  rw [jM_len]
  obtain ⟨p, hp, rfl⟩ := List.mem_map.1 hr
  have hpi := (RS_in hf (jQ_reach p hp)).1
  refine ⟨by simp [jRow, jrow, jM]; omega, fun e he => ?_⟩
  simp only [jRow, jrow, List.mem_map, List.mem_range] at he
  obtain ⟨i, hi, rfl⟩ := he
  cases hst : stOf a b par p i with
  | none => rw [jed_none hst]; simp [fitsR]
  | some q =>
    rw [jed_some hst]
    have h1 := stepJ_out hf ho hpi (by omega) hst
    have h2 : q.1 ∈ jQ a b par := jQ_all h64 (RS.step (jQ_reach p hp) hi (o := q.2) (by rw [hst]))
    have h3 := List.idxOf_lt_length_of_mem h2
    simp only [fitsR, Bool.or_eq_true, Bool.and_eq_true, decide_eq_true_eq, jM]
    exact .inr ⟨⟨⟨by omega, by omega⟩, h1.1⟩, decide_eq_true h1.2⟩
end Go.Avl
namespace Go.Avl
open Go Go.Proofs.Try
set_option maxRecDepth 10000
set_option linter.unusedSimpArgs false

theorem check34F_is {m : Mach} (hv : Valid m) : PureIs prog 34 [.ag m.cellsF] (.sc (.int .i64 0)) := by
  refine PureIs.weak ?_
  simp only [List.map_cons, List.map_nil, AV.unk, Mach.cellsF_unk]
  have := check27_is m hv.small
  rwa [hv.check] at this
theorem edgesC_two (l : List (Int × Int)) : ((l.map edgeC).all fun y => decide (y.length = 2)) = true := by simp [edgeC, List.all_eq_true]

set_option maxHeartbeats 4000000 in
theorem joint15_is {a b : Mach} {par outs : Int} (hf : Fit a b par) (h64 : (jQ a b par).length ≤ 64) (ho : outs = if par = 1 then a.outs * b.outs else b.outs) (h16 : 1 ≤ outs ∧ outs ≤ 16) :
    PureIs prog 15 [.ag (jM a b par outs).cellsF, .ag a.cells, .ag b.cells, .sc (.int .i64 par)] (.sc (.int .i64 1)) := by
  have vm := jM_valid hf h64 ho h16
  have hrn := jQ_len hf h64
  have hml := jM_len a b par outs
  have hQ1 := jQ_pos a b par
  have hrow : ∀ {k : Nat} {p : Pr}, (jQ a b par)[k]? = some p → (jM a b par outs).rows[k]? = some (jRow a b par p) := by
    intro k p h
    simp only [jM]; rw [List.getElem?_map, h]; rfl
  have hmi : (jM a b par outs).ins = a.ins := rfl
  have hmo : (jM a b par outs).outs = outs := rfl
  generalize jM a b par outs = m at vm hml hrow hmi hmo
  obtain ⟨Q, hQ⟩ : ∃ Q, Q = jQ a b par := ⟨_, rfl⟩
  rw [← hQ] at h64 hrn hml hQ1 hrow
  obtain ⟨N, hN⟩ : ∃ N, N = a.ins.toNat := ⟨_, rfl⟩
  have hai := hf.va.ins
  have hao := hf.va.outs
  have hbo := hf.vb.outs
  have hNi : a.ins = (N : Int) := by omega
  obtain ⟨st, hst⟩ : ∃ st, st = stOf a b par := ⟨_, rfl⟩
  have hR := reached_is hf
  have hm1 : 0 ≤ a.outs * b.outs := Int.mul_nonneg (by omega) (by omega)
  have hm2 : a.outs * b.outs ≤ 16 * 16 := Int.mul_le_mul (by omega) (by omega) (by omega) (by omega)
  have hI : inI64 (a.outs * b.outs) = true := inI64_of (by omega) (by omega)
  refine PureIs.of (nv := 7) (hid := [8, 9, 10, 11, 12, 13, 14, 15, 19, 50, 57, 63, 67, 93, 95, 100, 105, 116, 52]) func15 rfl (by kernel_rfl) (by simp [ntmps15]) fun _ => ?_
  rw [ntmps15, results15]
  refine EvC.seq (EvC.rg (by (simp only [go_sem, Mach.cells, Mach.cellsF]) <;> rfl) (by simp) ?_)
  refine EvC.frzB 0 (by (simp only [go_sem]) <;> rfl) ?_
  refine EvC.frzB 1 (by (simp only [go_sem]) <;> rfl) ?_
  refine EvC.frzB 2 (by (simp only [go_sem]) <;> rfl) ?_
  refine EvC.seq (EvC.rg (by (simp only [go_sem]) <;> rfl) (by simp) ?_)
  refine EvC.seq ?_
  refine EvC.seq (EvC.rg (by (simp only [go_sem]) <;> rfl) (by simp) ?_)
  have hQr : ∀ p ∈ Q, inPr a b p ∧ RS st N p := fun p hp => by
    rw [hQ] at hp
    have := jQ_reach p hp
    rw [hst, hN]
    exact ⟨(RS_in hf this).1, this⟩
  have hpre : ∀ {k : Nat}, k ≤ 64 → jq st N k <+: Q := fun h => by rw [hQ, hst, hN]; exact jQ_mono h
  have hlt : ∀ {k : Nat}, k < Q.length → k < (jq st N k).length := fun h => by
    rw [hst, hN]; rw [hQ] at h h64; exact jq_lt h64 h
  have hmr := vm.rows
  rw [hml] at hmr
  refine EvC.cond (by (simp only [go_sem]) <;> rfl) (fun hc => ?_) (fun hc => ?_)
  have hp : par = 1 := by simpa using hc
  rw [if_pos hp] at ho
  subst ho
  clear hc hp
  refine EvC.rg (by (simp only [go_sem, Mach.cells]) <;> rfl) (by simp [hI]) ?_
  rotate_left
  have hp : ¬ par = 1 := by simpa using hc
  rw [if_neg hp] at ho
  subst ho
  clear hc hp
  refine EvC.skip ?_
  rotate_left
  all_goals
    refine EvC.seq ?_
    have hCk := check34F_is vm
    rw [Mach.cellsF, hmi, hmo] at hCk
    apply EvC.seq
    apply EvC.drw mixed
    · apply Tr.run
      · (simp only [go_sem, Mach.cells, Mach.cellsF, hmi, hmo, List.length_map, hml, hrn, decide_true]) <;> rfl
      · simp
      apply Tr.cons
      · exact .call rfl rfl (by (simp only [go_sem]) <;> rfl) (by (simp only [go_sem]) <;> rfl) (by (simp only [go_sem]) <;> rfl) (by (simp only [go_sem]) <;> rfl) (by (simp only [go_sem]) <;> rfl) (hCk)
      apply Tr.run
      · (simp only [go_sem, Mach.cells, Mach.cellsF, hmi, hmo, List.length_map, hml, hrn, decide_true]) <;> rfl
      · simp
      apply Tr.cons
      · exact .callG rfl rfl (by (simp only [go_sem]) <;> rfl) rfl (by (simp only [go_sem]) <;> rfl) (by (simp only [go_sem]) <;> rfl) (by (simp only [go_sem]) <;> rfl) (by (simp only [go_sem]) <;> rfl) (by (simp only [go_sem]) <;> rfl) (hR)
      apply Tr.done
      · (simp only [go_sem, Mach.cells, Mach.cellsF, hmi, hmo, List.length_map, hml, hrn, decide_true]) <;> rfl
      · simp
    · kernel_rfl
    refine EvC.cond_false (by (simp only [go_sem]) <;> rfl) ?_
    refine EvC.skip ?_
    refine EvC.seq (EvC.rg (by (simp only [go_sem]) <;> rfl) (by simp) ?_)
    refine EvC.seq ?_
    refine EvC.seq (EvC.rg (by (simp only [go_sem]) <;> rfl) (by simp) ?_)
    refine EvC.block ?_  -- 0
    refine EvC.loopS (σ := Nat) (fun k => ⟨[(3, .sc (.int .i64 par)), (4, .ia m.cellsF), (5, .ia a.cells), (6, .ia b.cells), (10, .tl 0 (jq st N k).length false), (11, .sc (.int .i64 k))], [], [(0, .arr 2 ((jq st N k).map edgeC) false)], 1⟩) (fun k => Q.length - k) (fun k => k ≤ Q.length) [3, 4, 5, 6, 10, 11] 1 ?_ ?_
    · first
      | (refine ⟨[(42, 0)], 0, rfl, ?_, Nat.zero_le _⟩; (simp only [go_sem, Mach.cells, Mach.cellsF, hmi, hmo, jq, edgeC, List.map_nil, List.map_cons, List.length_cons, List.length_nil, Int.natCast_zero]) <;> rfl)
      | (refine ⟨[(36, 0)], 0, rfl, ?_, Nat.zero_le _⟩; (simp only [go_sem, Mach.cells, Mach.cellsF, hmi, hmo, jq, edgeC, List.map_nil, List.map_cons, List.length_cons, List.length_nil, Int.natCast_zero]) <;> rfl)
    intro k hk
    refine EvC.seq ?_
    refine EvC.seq (EvC.rg (by (simp only [go_sem, Mach.cells, Mach.cellsF, hmi, hmo, List.length_map, hml]) <;> rfl) (by simp) ?_)
    refine EvC.cond (by (simp only [go_sem]) <;> rfl) (fun hc => ?_) (fun hc => ?_)
    rotate_left
    · -- else
      refine EvC.exit ?_  -- 0
      refine EvC.seq (EvC.rg (by (simp only [go_sem]) <;> rfl) (by simp) ?_)
      refine EvC.ret ⟨.inl rfl, _, (by (simp only [go_sem]) <;> rfl), ?_, rfl⟩
      simp only [go_sem]
    have hkl : k < Q.length := by simpa using hc
    clear hc
    have hkj := hlt hkl
    have h65 := (hpre (show k ≤ 64 by omega)).length_le
    have he : (jq st N k)[k]? = some (jq st N k)[k] := List.getElem?_eq_getElem hkj
    have hq1 : jq st N (k + 1) = jl st (jq st N k)[k] (jq st N k) N := by simp only [jq, he]
    have heQ : Q[k]? = some (jq st N k)[k] := by
      obtain ⟨t, ht⟩ := hpre (show k ≤ 64 by omega)
      rw [← ht, List.getElem?_append_left hkj]; exact he
    have hpre1 := hpre (show k + 1 ≤ 64 by omega)
    rw [hq1] at hpre1
    generalize (jq st N k)[k] = p at he hq1 heQ hpre1
    obtain ⟨hpi, hpr⟩ := hQr p (List.mem_of_getElem? heQ)
    have hrk := hrow heQ
    obtain ⟨L, hL⟩ : ∃ L, L = jq st N k := ⟨_, rfl⟩
    rw [← hL] at he hq1 hkj h65 hpre1
    rw [← hL]
    have hne : decide ((k : Int) = (L.length : Int)) = false := decide_eq_false (by omega)
    refine EvC.skip ?_
    refine EvC.seq ?_
    refine EvC.block ?_  -- 1
    refine EvC.seq ?_
    refine EvC.seq (EvC.rg (by (simp only [go_sem]) <;> rfl) (by simp) ?_)
    refine EvC.cond_false (by (simp only [go_sem, hne]) <;> rfl) ?_
    refine EvC.skip ?_
    refine EvC.seq (EvC.rg (by (simp only [go_sem]) <;> rfl) (by simp) ?_)
    refine EvC.block ?_  -- 2
    refine EvC.loopS (σ := Nat) (fun i => ⟨[(3, .sc (.int .i64 par)), (4, .ia m.cellsF), (5, .ia a.cells), (6, .ia b.cells), (10, .tl 0 (jl st p L i).length false), (11, .sc (.int .i64 k)), (12, .sc (.int .i64 i))], [], [(0, .arr 2 ((jl st p L i).map edgeC) false)], 1⟩) (fun i => N - i) (fun i => i ≤ N) [3, 4, 5, 6, 10, 11, 12] 1 ?_ ?_
    · exact ⟨[(0, 0)], 0, rfl, (by (simp only [go_sem, Mach.cells, Mach.cellsF, hmi, hmo, jl, Int.natCast_zero]) <;> rfl), Nat.zero_le _⟩
    intro i hi
    refine EvC.seq ?_
    refine EvC.seq (EvC.rg (by (simp only [go_sem, Mach.cells, Mach.cellsF, hmi, hmo]) <;> rfl) (by simp) ?_)
    refine EvC.cond (by (simp only [go_sem]) <;> rfl) (fun hc => ?_) (fun hc => ?_)
    rotate_left
    · -- else
      refine EvC.exit ?_  -- 2
      obtain rfl : N = i := by have : ¬ (i : Int) < a.ins := by simpa using hc
                               omega
      refine EvC.rg (by (simp only [go_sem]) <;> rfl) (by exact inI64_of (by omega) (by omega)) ?_
      refine ⟨[(0, 0)], k + 1, rfl, ?_, hkl, by omega⟩
      rw [hq1]
      (simp only [go_sem, Mach.cells, Mach.cellsF, hmi, hmo, Int.natCast_add, Int.natCast_one]) <;> rfl
    have hil : i < N := by have : (i : Int) < a.ins := by simpa using hc
                           omega
    clear hc
    have hIi : inI64 ((i : Int) + 1) = true := inI64_of (by omega) (by omega)
    have hmono := jl_mono st p L (show i + 1 ≤ N by omega)
    have hl1 : jl st p L (i + 1) = jadd st p (jl st p L i) i := rfl
    have hlen := jl_len st p L i
    obtain ⟨L', hL'⟩ : ∃ L', L' = jl st p L i := ⟨_, rfl⟩
    have heL : L'[k]? = some p := by
      obtain ⟨t, ht⟩ := jl_pre st p L i
      rw [hL', ← ht, List.getElem?_append_left hkj]; exact he
    have hpL : jadd st p L' i <+: Q := by rw [hL', ← hl1]; exact hmono.trans hpre1
    have hje := jrow_get (a := a) (b := b) (par := par) p (i := i) (by omega)
    rw [← hst, ← hQ] at hje
    have hSt := step40_is hf p.1 p.2 i hpi.1 hpi.2 (by omega)
    rw [← hL'] at hl1 hlen ⊢
    generalize jRow a b par p = r at hrk hje
    refine EvC.skip ?_
    refine EvC.seq ?_
    refine EvC.block ?_  -- 3
    cases hs : st p i with
    | none =>
      have hja : jadd st p L' i = L' := by simp only [jadd, hs]
      have hj0 : stepJ a b par (p.1, p.2) i = ((0, 0), -1) := by
        rcases stepJ_ok hf (s := p.1) (t := p.2) (i := (i : Int)) hpi.1 hpi.2 (by omega) with e | e
        · exact e
        · rw [hst, stOf_some (q := stepJ a b par p i) rfl e.1] at hs; cases hs
      rw [hj0] at hSt
      have hed : jed st Q p i = (-1, -1) := by simp [jed, hs]
      rw [hed] at hje
      apply EvC.seq
      apply EvC.drw mixed
      · apply Tr.run
        · (simp only [go_sem, heL, edgeC, List.length_map]) <;> rfl
        · simp; try omega
        apply Tr.cons
        · exact .call rfl rfl (by (simp only [go_sem]) <;> rfl) (by (simp only [go_sem]) <;> rfl) (by (simp only [go_sem]) <;> rfl) (by (simp only [go_sem]) <;> rfl) (by (simp only [go_sem]) <;> rfl) (hSt)
        apply Tr.done
        · (simp only [go_sem, edgeA]) <;> rfl
        · simp; try omega
      · kernel_rfl
      refine EvC.seq (EvC.rg (by (simp only [go_sem, Mach.cells, Mach.cellsF, hrk, rowG, hje, edgeC]) <;> rfl) (by simp; try omega) ?_)
      refine EvC.seq ?_
      refine EvC.seq (EvC.rg (by (simp only [go_sem]) <;> rfl) (by simp) ?_)
      refine EvC.cond_false (by (simp only [go_sem]) <;> rfl) ?_
      refine EvC.skip ?_
      refine EvC.seq ?_
      refine EvC.seq (EvC.rg (by (simp only [go_sem]) <;> rfl) (by simp) ?_)
      refine EvC.cond_true (by (simp only [go_sem]) <;> rfl) ?_
      refine EvC.exit ?_  -- 3
      refine EvC.rg (by (simp only [go_sem]) <;> rfl) (by exact hIi) ?_
      exact ⟨[(0, 0)], i + 1, rfl, (by rw [hl1, hja]; (simp only [go_sem, Mach.cells, Mach.cellsF, hmi, hmo, Int.natCast_add, Int.natCast_one]) <;> rfl), hil, by omega⟩
    | some q =>
      have hja : jadd st p L' i = jput L' q.1 := by simp only [jadd, hs]
      rw [hja] at hl1 hpL
      rw [hst] at hs
      obtain ⟨hj1, hj2⟩ := stOf_eq hs
      have hj1 : stepJ a b par (p.1, p.2) i = q := hj1
      rw [hj1] at hSt
      rw [← hst] at hs
      have hed : jed st Q p i = (((Q.idxOf q.1 : Nat) : Int), q.2) := by simp [jed, hs]
      rw [hed] at hje
      have hqd : decide (q.2 < 0) = false := decide_eq_false (by omega)
      have hqt : edgeA q.1 = .ag [.sc (.int .i64 q.1.1), .sc (.int .i64 q.1.2)] := rfl
      obtain ⟨x, hx⟩ : ∃ x, x = Q.idxOf q.1 := ⟨_, rfl⟩
      rw [← hx] at hje
      have hput : ∀ y, y ∈ jput L' q.1 → Q.idxOf y = (jput L' q.1).idxOf y := fun y hy => idxOf_pre hpL hy
      have hxi : x = (jput L' q.1).idxOf q.1 := by rw [hx]; exact hput _ (by rw [mem_jput]; exact .inr rfl)
      apply EvC.seq
      apply EvC.drw mixed
      · apply Tr.run
        · (simp only [go_sem, heL, edgeC, List.length_map]) <;> rfl
        · simp; try omega
        apply Tr.cons
        · exact .call rfl rfl (by (simp only [go_sem]) <;> rfl) (by (simp only [go_sem]) <;> rfl) (by (simp only [go_sem]) <;> rfl) (by (simp only [go_sem]) <;> rfl) (by (simp only [go_sem]) <;> rfl) (hSt)
        apply Tr.done
        · (simp only [go_sem, edgeA]) <;> rfl
        · simp; try omega
      · kernel_rfl
      refine EvC.seq (EvC.rg (by (simp only [go_sem, Mach.cells, Mach.cellsF, hrk, rowG, hje, edgeC]) <;> rfl) (by simp; try omega) ?_)
      refine EvC.seq ?_
      refine EvC.seq (EvC.rg (by (simp only [go_sem]) <;> rfl) (by simp) ?_)
      refine EvC.cond_false (by (simp only [go_sem, decide_true]) <;> rfl) ?_
      refine EvC.skip ?_
      refine EvC.seq ?_
      refine EvC.seq (EvC.rg (by (simp only [go_sem]) <;> rfl) (by simp) ?_)
      refine EvC.cond_false (by (simp only [go_sem, hqd]) <;> rfl) ?_
      refine EvC.skip ?_
      by_cases hmem : q.1 ∈ L'
      · have hjp : jput L' q.1 = L' := if_pos hmem
        rw [hjp] at hxi hl1
        have hxl : x < L'.length := by rw [hxi]; exact List.idxOf_lt_length_of_mem hmem
        have hgx : L'[x]? = some q.1 := by
          subst hxi
          rw [List.getElem?_eq_getElem hxl, List.getElem_idxOf hxl]
        have d1 : decide ((L'.length : Int) < (x : Int)) = false := decide_eq_false (by omega)
        have d2 : decide ((x : Int) = (L'.length : Int)) = false := decide_eq_false (by omega)
        refine EvC.seq ?_
        refine EvC.seq (EvC.rg (by (simp only [go_sem, List.length_map]) <;> rfl) (by simp) ?_)
        refine EvC.cond_false (by (simp only [go_sem, d1]) <;> rfl) ?_
        refine EvC.skip ?_
        refine EvC.seq ?_
        refine EvC.seq (EvC.rg (by (simp only [go_sem, List.length_map]) <;> rfl) (by simp) ?_)
        refine EvC.cond_false (by (simp only [go_sem, d2]) <;> rfl) ?_
        refine EvC.skip ?_
        apply EvC.seq
        apply EvC.drd mixed
        · (simp only [go_sem, hgx, edgeC, List.length_map, Int.toNat_natCast]) <;> rfl
        · simp; try omega
        · kernel_rfl
        refine EvC.cond_false (by (simp only [go_sem]) <;> rfl) ?_
        refine EvC.skip ?_
        refine EvC.rg (by (simp only [go_sem]) <;> rfl) (by exact hIi) ?_
        exact ⟨[(0, 0)], i + 1, rfl, (by rw [hl1]; (simp only [go_sem, Mach.cells, Mach.cellsF, hmi, hmo, Int.natCast_add, Int.natCast_one]) <;> rfl), hil, by omega⟩
      · have hjp : jput L' q.1 = L' ++ [q.1] := if_neg hmem
        rw [hjp] at hxi hl1
        have hxl : x = L'.length := by
          rw [hxi, List.idxOf_append, if_neg hmem]; simp
        clear hxi hx
        subst hxl
        have hL64 := hpL.length_le
        rw [hjp, List.length_append, List.length_singleton] at hL64
        obtain ⟨D, hD⟩ : ∃ D, D = L' ++ [q.1] := ⟨_, rfl⟩
        have hDl : D.length = L'.length + 1 := by rw [hD]; simp
        have hgx : D[L'.length]? = some q.1 := by rw [hD]; simp
        refine EvC.seq ?_
        refine EvC.seq (EvC.rg (by (simp only [go_sem, List.length_map]) <;> rfl) (by simp) ?_)
        refine EvC.cond_false (by (simp only [go_sem, Int.lt_irrefl, decide_false]) <;> rfl) ?_
        refine EvC.skip ?_
        refine EvC.seq ?_
        refine EvC.seq (EvC.rg (by (simp only [go_sem, List.length_map]) <;> rfl) (by simp) ?_)
        refine EvC.cond_true (by (simp only [go_sem, decide_true]) <;> rfl) ?_
        refine EvC.rg (by (simp only [go_sem, edgeC, List.length_map]) <;> rfl) (by simp [room_eq, AV.norefs, AV.noref]; try omega) ?_
        have hap : L'.map edgeC ++ [[.sc (.int .i64 q.1.1), .sc (.int .i64 q.1.2)]] = D.map edgeC := by rw [hD]; simp [edgeC]
        rw [hap]
        apply EvC.seq
        apply EvC.drd mixed
        · (simp only [go_sem, hgx, edgeC, List.length_map, hDl, Int.toNat_natCast]) <;> rfl
        · simp; try omega
        · kernel_rfl
        refine EvC.cond_false (by (simp only [go_sem]) <;> rfl) ?_
        refine EvC.skip ?_
        refine EvC.rg (by (simp only [go_sem]) <;> rfl) (by exact hIi) ?_
        exact ⟨[(0, 0)], i + 1, rfl, (by rw [hl1, ← hD]; (simp only [go_sem, Mach.cells, Mach.cellsF, hmi, hmo, hDl, List.length_map, Int.natCast_add, Int.natCast_one]) <;> rfl), hil, by omega⟩
end Go.Avl
namespace Go.Avl
open Go Go.Proofs.Try
set_option maxRecDepth 10000
set_option linter.unusedSimpArgs false

/-! ### Responses in parallel -/
def par2 (o x y : Int) : Int := if 0 ≤ x ∧ 0 ≤ y then x * o + y else -1
theorem jM_step {a b : Mach} {par outs : Int} {k : Nat} {p : Pr} (hk : (jQ a b par)[k]? = some p) {x : Int} (hx : 0 ≤ x ∧ x < a.ins) : stepR (jM a b par outs) k x = jed (stOf a b par) (jQ a b par) p x.toNat := by
  have h1 : (jM a b par outs).rows[k]? = some (jRow a b par p) := by
    simp only [jM]; rw [List.getElem?_map, hk]; rfl
  have h2 := jrow_get (a := a) (b := b) (par := par) p (i := x.toNat) (by omega)
  rw [stepR, if_neg (by omega), Int.toNat_natCast, h1]
  simp only [Option.map_some, Option.getD_some, h2]
theorem runR_bd {m : Mach} (hv : Valid m) : ∀ (w : List Int) (s : Int), s < m.rows.length → (∀ x ∈ w, 0 ≤ x ∧ x < m.ins) → ∀ y ∈ runR m s w, -1 ≤ y ∧ y < 16
  | [], _, _, _, _, h => by cases h
  | x :: w, s, hs, hw, y, h => by
    have hx := hw x List.mem_cons_self
    simp only [runR, List.mem_cons] at h
    rcases h with rfl | h
    · by_cases hn : s < 0
      · rw [stepR_neg hn]; decide
      · obtain ⟨r, e, k1, k2, k3, k4⟩ := stepR_get hv (by omega) hs hx
        have := fits_edge k4
        have := hv.outs
        rw [k3]; omega
    · exact runR_bd hv w _ (stepR_lt hv hs hx) (fun z hz => hw z (List.mem_cons_of_mem _ hz)) y h
def ParRel (a b : Mach) (s s1 s2 : Int) : Prop := (s < 0 ∧ (s1 < 0 ∨ s2 < 0)) ∨ (∃ k : Nat, s = k ∧ (jQ a b 1)[k]? = some (s1, s2))
theorem par_step {a b : Mach} {outs : Int} (hf : Fit a b 1) (h64 : (jQ a b 1).length ≤ 64) {s s1 s2 x : Int} (hx : 0 ≤ x ∧ x < a.ins) (hR : ParRel a b s s1 s2) :
    ParRel a b (stepR (jM a b 1 outs) s x).1 (stepR a s1 x).1 (stepR b s2 x).1 ∧ (stepR (jM a b 1 outs) s x).2 = par2 b.outs (stepR a s1 x).2 (stepR b s2 x).2 := by
  rcases hR with ⟨h1, h2⟩ | ⟨k, rfl, hk⟩
  · rw [stepR_neg h1]
    rcases h2 with h2 | h2
    · rw [stepR_neg h2]; exact ⟨.inl ⟨by decide, .inl (by decide)⟩, rfl⟩
    · rw [stepR_neg h2]; exact ⟨.inl ⟨by decide, .inr (by decide)⟩, by simp [par2]⟩
  · have hm := List.mem_of_getElem? hk
    have hr := jQ_reach _ hm
    obtain ⟨⟨i1, i2⟩, -⟩ := RS_in hf hr
    simp only at i1 i2
    rw [jM_step hk hx]
    obtain ⟨r1, e, k1, k2, k3, k4⟩ := stepR_get hf.va i1.1 i1.2 hx
    obtain ⟨r2, f, l1, l2, l3, l4⟩ := stepR_get hf.vb i2.1 i2.2 (show 0 ≤ x ∧ x < b.ins by rw [← hf.par rfl]; exact hx)
    have he := fits_edge k4
    have hf' := fits_edge l4
    have hxt : ((x.toNat : Nat) : Int) = x := by omega
    rw [k3, l3]
    by_cases hn : e.1 < 0 ∨ f.1 < 0
    · have hJ : stepJ a b 1 (s1, s2) (x.toNat : Nat) = ((0, 0), -1) := by
        rw [hxt]
        rcases hn with h | h
        · simp [stepJ, k3, h]
        · by_cases h' : e.1 < 0
          · simp [stepJ, k3, h']
          · simp [stepJ, k3, l3, h, h']
      rw [jed_none (stOf_none hJ)]
      refine ⟨.inl ⟨by decide, hn⟩, ?_⟩
      unfold par2
      rw [if_neg (by omega)]
    · have hJ : stepJ a b 1 (s1, s2) (x.toNat : Nat) = ((e.1, f.1), e.2 * b.outs + f.2) := by
        rw [hxt]
        have h1 : ¬ e.1 < 0 := by omega
        have h2 : ¬ f.1 < 0 := by omega
        simp [stepJ, k3, l3, h1, h2]
      have hm1 : 0 ≤ e.2 * b.outs := Int.mul_nonneg (by omega) (by have := hf.vb.outs; omega)
      have hs := stOf_some hJ (show 0 ≤ e.2 * b.outs + f.2 by omega)
      rw [jed_some hs]
      have hq : (e.1, f.1) ∈ jQ a b 1 := jQ_all h64 (RS.step hr (i := x.toNat) (by omega) hs)
      refine ⟨.inr ⟨_, rfl, ?_⟩, ?_⟩
      · have hl := List.idxOf_lt_length_of_mem hq
        rw [List.getElem?_eq_getElem hl, List.getElem_idxOf hl]
      · unfold par2; rw [if_pos (by omega)]
theorem par_run {a b : Mach} {outs : Int} (hf : Fit a b 1) (h64 : (jQ a b 1).length ≤ 64) : ∀ (w : List Int) (s s1 s2 : Int), ParRel a b s s1 s2 → (∀ x ∈ w, 0 ≤ x ∧ x < a.ins) →
    runR (jM a b 1 outs) s w = List.zipWith (par2 b.outs) (runR a s1 w) (runR b s2 w)
  | [], _, _, _, _, _ => rfl
  | x :: w, s, s1, s2, hR, hw => by
    obtain ⟨h1, h2⟩ := par_step (outs := outs) hf h64 (hw x List.mem_cons_self) hR
    simp only [runR, List.zipWith_cons_cons]
    rw [h2, par_run hf h64 w _ _ _ h1 fun z hz => hw z (List.mem_cons_of_mem _ hz)]
end Go.Avl
namespace Go.Avl
open Go Go.Proofs.Try
set_option maxRecDepth 10000
set_option linter.unusedSimpArgs false

/-- What came of two machines of which the second is valid. -/
structure ResJ (rows : List (List AV)) (i o e : Int) (nl : Bool) (c : Cp) (a m : Mach) (par : Int) (fit : Prop) (great : Prop) : Prop where
  nr : rows.all AV.norefs = true
  alpha : ¬ fit → e = 5
  limit : fit → great → e = 3
  nth : fit → great → PureIs prog 18 [.ag [.sc (.int .i64 i), .sc (.int .i64 o), .sl nl rows c], .sc (.int .i64 3), .sc (.int .i64 3)] (.sc (.bool true))
  ok : fit → ¬ great → e = 0
  joint : fit → ¬ great → PureIs prog 15 [.ag [.sc (.int .i64 i), .sc (.int .i64 o), .sl nl rows c], .ag a.cells, .ag m.cells, .sc (.int .i64 par)] (.sc (.int .i64 1))
theorem series_res {a m : Mach} (va : Valid a) (vm : Valid m) : ∃ rows i o e nl c, ResJ rows i o e nl c a m 0 (a.outs = m.ins) (64 < reachN a m 0) ∧
    PureIs prog 14 [.ag a.cells, .ag m.cells] (.tu [.ag [.sc (.int .i64 i), .sc (.int .i64 o), .sl nl rows c], .sc (.int .i64 e)]) := by
  have hS := series_is a m va.small vm.small
  rw [seriesA, if_neg (by simp [bothE_of va.check vm.check])] at hS
  by_cases hf : a.outs = m.ins
  · rw [if_neg (by simpa using hf)] at hS
    have hF : Fit a m 0 := ⟨va, vm, .inl rfl, fun _ => hf, fun h => absurd h (by decide)⟩
    by_cases h64 : (jQ a m 0).length ≤ 64
    · rw [jM_tu m.outs h64] at hS
      have hn := jQ_len hF h64
      have hJ := joint15_is hF h64 (outs := m.outs) (by rw [if_neg (by decide)]) vm.outs
      exact ⟨_, _, _, _, _, _, ⟨by simp [List.all_eq_true, rowG, AV.norefs, AV.noref], fun h => absurd hf h, fun _ h => by omega, fun _ h => by omega, fun _ _ => rfl, fun _ _ => hJ⟩, hS⟩
    · rw [jointA_big h64] at hS
      have hn := jQ_le hF
      exact ⟨_, _, _, _, _, _, ⟨rfl, fun h => absurd hf h, fun _ _ => rfl, fun _ _ => nothing_is 3 _, fun _ h => by omega, fun _ h => by omega⟩, hS⟩
  · rw [if_pos hf] at hS
    exact ⟨_, _, _, _, _, _, ⟨rfl, fun _ => rfl, fun h => absurd h hf, fun h => absurd h hf, fun h => absurd h hf, fun h => absurd h hf⟩, hS⟩
theorem parallel_res {a m : Mach} (va : Valid a) (vm : Valid m) : ∃ rows i o e nl c, ResJ rows i o e nl c a m 1 (a.ins = m.ins) (64 < reachN a m 1 ∨ 16 < a.outs * m.outs) ∧
    PureIs prog 22 [.ag a.cells, .ag m.cells] (.tu [.ag [.sc (.int .i64 i), .sc (.int .i64 o), .sl nl rows c], .sc (.int .i64 e)]) := by
  have hS := parallel_is a m va.small vm.small
  rw [parallelA, if_neg (by simp [bothE_of va.check vm.check])] at hS
  by_cases hf : a.ins = m.ins
  · rw [if_neg (by simpa using hf)] at hS
    have hF : Fit a m 1 := ⟨va, vm, .inr rfl, fun h => absurd h (by decide), fun _ => hf⟩
    have ha := va.outs
    have hb := vm.outs
    have hm1 : 1 * 1 ≤ a.outs * m.outs := Int.mul_le_mul (by omega) (by omega) (by omega) (by omega)
    obtain ⟨o, ho⟩ : ∃ o, o = a.outs * m.outs := ⟨_, rfl⟩
    rw [← ho] at hm1 hS ⊢
    by_cases h16 : 16 < o
    · rw [if_pos h16] at hS
      exact ⟨_, _, _, _, _, _, ⟨rfl, fun h => absurd hf h, fun _ _ => rfl, fun _ _ => nothing_is 3 _, fun _ h => by omega, fun _ h => by omega⟩, hS⟩
    rw [if_neg h16] at hS
    by_cases h64 : (jQ a m 1).length ≤ 64
    · rw [jM_tu o h64] at hS
      have hn := jQ_len hF h64
      have hJ := joint15_is hF h64 (outs := o) (by rw [if_pos rfl]; exact ho) (by omega)
      exact ⟨_, _, _, _, _, _, ⟨by simp [List.all_eq_true, rowG, AV.norefs, AV.noref], fun h => absurd hf h, fun _ h => by omega, fun _ h => by omega, fun _ _ => rfl, fun _ _ => hJ⟩, hS⟩
    · rw [jointA_big h64] at hS
      have hn := jQ_le hF
      exact ⟨_, _, _, _, _, _, ⟨rfl, fun h => absurd hf h, fun _ _ => rfl, fun _ _ => nothing_is 3 _, fun _ h => by omega, fun _ h => by omega⟩, hS⟩
  · rw [if_pos hf] at hS
    exact ⟨_, _, _, _, _, _, ⟨rfl, fun _ => rfl, fun h => absurd h hf, fun h => absurd h hf, fun h => absurd h hf, fun h => absurd h hf⟩, hS⟩
structure ResU (rows : List (List AV)) (i o e : Int) (nl : Bool) (c : Cp) (a m : Mach) : Prop where
  nr : rows.all AV.norefs = true
  alpha : ¬ a.ins = m.ins → e = 5
  limit : a.ins = m.ins → 64 < a.rows.length + m.rows.length → e = 3
  nth : a.ins = m.ins → 64 < a.rows.length + m.rows.length → PureIs prog 18 [.ag [.sc (.int .i64 i), .sc (.int .i64 o), .sl nl rows c], .sc (.int .i64 3), .sc (.int .i64 3)] (.sc (.bool true))
  ok : a.ins = m.ins → ¬ 64 < a.rows.length + m.rows.length → e = 0
  bes : a.ins = m.ins → ¬ 64 < a.rows.length + m.rows.length → PureIs prog 21 [.ag [.sc (.int .i64 i), .sc (.int .i64 o), .sl nl rows c], .sc (.int .i64 0), .ag (besM a m).cells] (.sc (.bool true))
theorem unite_res {a m : Mach} (va : Valid a) (vm : Valid m) : ∃ rows i o e nl c, ResU rows i o e nl c a m ∧
    PureIs prog 32 [.ag a.cells, .ag m.cells] (.tu [.ag [.sc (.int .i64 i), .sc (.int .i64 o), .sl nl rows c], .sc (.int .i64 e)]) := by
  have hS := unite_is a m va.small vm.small
  rw [uniteA, if_neg (by simp [bothE_of va.check vm.check])] at hS
  by_cases hf : a.ins = m.ins
  · rw [if_neg (by simpa using hf)] at hS
    by_cases h64 : 64 < a.rows.length + m.rows.length
    · rw [if_pos h64] at hS
      exact ⟨_, _, _, _, _, _, ⟨rfl, fun h => absurd hf h, fun _ _ => rfl, fun _ _ => nothing_is 3 _, fun _ h => absurd h64 h, fun _ h => absurd h64 h⟩, hS⟩
    · rw [if_neg h64] at hS
      have vu := uniM_valid va vm hf (by omega)
      have := vu.rows
      exact ⟨_, _, _, _, _, _, ⟨by simp [List.all_eq_true, rowG, AV.norefs, AV.noref], fun h => absurd hf h, fun _ h => absurd h h64, fun _ h => absurd h h64, fun _ _ => rfl, fun _ _ => machine_is (a := uniM a m) (b := besM a m) rfl rfl (uniM_bes va vm hf) (by omega) vu.small⟩, hS⟩
  · rw [if_pos hf] at hS
    exact ⟨_, _, _, _, _, _, ⟨rfl, fun _ => rfl, fun h => absurd h hf, fun h => absurd h hf, fun h => absurd h hf, fun h => absurd h hf⟩, hS⟩

/-- What follows goes on from a state that says less. -/
theorem EvC.seqGc {P : Program} {fr : Fr} {ro : Option Nat} {ds : DS} {x y : Code} {st : St} {Q : Exit → St → Prop} (T : St) (L : List Nat) (K : List (Nat × Nat)) (hk : gcOk fr.base T.nx K = true)
    (h : EvC P fr ro ds x st (thenE (fun st' => st'.gc L K T.nx = T) Q)) (h2 : EvC P fr ro ds y T Q) : EvC P fr ro ds (.seq x y) st Q :=
  EvC.seq (EvC.mono h fun e st' hh => by cases e <;> first | exact hh | (simp only [thenE] at hh ⊢; exact EvC.gc L K T.nx hk (by rw [hh]; exact h2)))
end Go.Avl
namespace Go.Avl
open Go Go.Proofs.Try
set_option maxRecDepth 10000
set_option linter.unusedSimpArgs false

/-! ### Two explorations that correspond -/
structure Corr (R : Pr → Pr → Prop) (L L' : List Pr) : Prop where
  len : L.length = L'.length
  get : ∀ (i : Nat) (p p' : Pr), L[i]? = some p → L'[i]? = some p' → R p p'
def InjR (R : Pr → Pr → Prop) : Prop := ∀ p p' q q', R p p' → R q q' → (p = q ↔ p' = q')
def StepsR (R : Pr → Pr → Prop) (st st' : StF) (n : Nat) : Prop := ∀ p p' i, R p p' → i < n → (st p i = none ∧ st' p' i = none) ∨ ∃ q q' o, st p i = some (q, o) ∧ st' p' i = some (q', o) ∧ R q q'
section
variable {R : Pr → Pr → Prop} {L L' : List Pr} {st st' : StF} {n : Nat} {x x' : Pr}
theorem Corr.at (h : Corr R L L') {i : Nat} {p : Pr} (hp : L[i]? = some p) : ∃ p', L'[i]? = some p' ∧ R p p' := by
  obtain ⟨hi, _⟩ := List.getElem?_eq_some_iff.1 hp
  have h2 : L'[i]? = some (L'[i]'(by have := h.len; omega)) := List.getElem?_eq_getElem _
  exact ⟨_, h2, h.get _ _ _ hp h2⟩
theorem Corr.symm (h : Corr R L L') : Corr (fun a b => R b a) L' L := ⟨h.len.symm, fun i p p' h1 h2 => h.get i _ _ h2 h1⟩
theorem Corr.mem (hR : InjR R) (h : Corr R L L') (hx : R x x') (hm : x ∈ L) : x' ∈ L' := by
  obtain ⟨i, hi⟩ := List.getElem?_of_mem hm
  obtain ⟨y, hy, hr⟩ := h.at hi
  have := (hR _ _ _ _ hr hx).1 rfl
  rw [← this]; exact List.mem_of_getElem? hy
theorem InjR.symm (hR : InjR R) : InjR fun a b => R b a := fun p p' q q' h1 h2 => (hR _ _ _ _ h1 h2).symm
theorem Corr.jput (hR : InjR R) (h : Corr R L L') (hx : R x x') : Corr R (jput L x) (jput L' x') := by
  unfold Avl.jput
  by_cases hm : x ∈ L
  · rw [if_pos hm, if_pos (h.mem hR hx hm)]; exact h
  · rw [if_neg hm, if_neg fun h' => hm (h.symm.mem hR.symm hx h')]
    refine ⟨by simp [h.len], fun i p p' h1 h2 => ?_⟩
    have hl := h.len
    by_cases hi : i < L.length
    · rw [List.getElem?_append_left hi] at h1
      rw [List.getElem?_append_left (by omega)] at h2
      exact h.get i _ _ h1 h2
    · rw [List.getElem?_append_right (by omega)] at h1 h2
      rw [← hl] at h2
      have h0 : i - L.length = 0 := by
        obtain ⟨hh, _⟩ := List.getElem?_eq_some_iff.1 h1
        simp at hh; omega
      rw [h0] at h1 h2
      cases h1; cases h2; exact hx
theorem Corr.jl (hR : InjR R) (hS : StepsR R st st' n) (h : Corr R L L') (hx : R x x') : ∀ i, i ≤ n → Corr R (jl st x L i) (jl st' x' L' i)
  | 0, _ => h
  | i + 1, hi => by
    have ih := Corr.jl hR hS h hx i (by omega)
    simp only [Avl.jl, jadd]
    rcases hS x x' i hx (by omega) with ⟨h1, h2⟩ | ⟨q, q', o, h1, h2, h3⟩
    · rw [h1, h2]; exact ih
    · rw [h1, h2]; exact ih.jput hR h3
theorem Corr.jq (hR : InjR R) (hS : StepsR R st st' n) (h0 : R (0, 0) (0, 0)) : ∀ k, Corr R (jq st n k) (jq st' n k)
  | 0 => ⟨rfl, fun i p p' h1 h2 => by
      cases i with
      | zero => simp [Avl.jq] at h1 h2; subst h1; subst h2; exact h0
      | succ i => simp [Avl.jq] at h1⟩
  | k + 1 => by
    have ih := Corr.jq hR hS h0 k
    simp only [Avl.jq]
    cases hp : (Avl.jq st n k)[k]? with
    | none =>
      have : (Avl.jq st' n k)[k]? = none := List.getElem?_eq_none (by have := List.getElem?_eq_none_iff.1 hp; have := ih.len; omega)
      rw [this]; exact ih
    | some p =>
      obtain ⟨p', hp', hr⟩ := ih.at hp
      rw [hp']
      exact ih.jl hR hS hr n (Nat.le_refl _)
theorem Corr.idx (hR : InjR R) (h : Corr R L L') (hn : L'.Nodup) (hx : R x x') (hm : x ∈ L) : L.idxOf x = L'.idxOf x' := by
  have hl := List.idxOf_lt_length_of_mem hm
  have h1 : L[L.idxOf x]? = some x := by rw [List.getElem?_eq_getElem hl, List.getElem_idxOf hl]
  obtain ⟨y, hy, hr⟩ := h.at h1
  have := (hR _ _ _ _ hr hx).1 rfl
  subst this
  obtain ⟨hi, he⟩ := List.getElem?_eq_some_iff.1 hy
  have hl' := List.idxOf_lt_length_of_mem (List.mem_of_getElem? hy)
  have : L'[L'.idxOf y] = L'[L.idxOf x] := by rw [he, List.getElem_idxOf hl']
  exact ((List.getElem_inj hn).1 this).symm
theorem Corr.jrow (hR : InjR R) (hS : StepsR R st st' n) (h : Corr R L L') (hn : L'.Nodup) (hx : R x x') (hc : ∀ i, i < n → ∀ q, st x i = some q → q.1 ∈ L) : jrow st L x n = jrow st' L' x' n := by
  refine List.map_congr_left fun i hi => ?_
  have hi : i < n := List.mem_range.1 hi
  rcases hS x x' i hx hi with ⟨h1, h2⟩ | ⟨q, q', o, h1, h2, h3⟩
  · simp only [jed, h1, h2]
  · simp only [jed, h1, h2]
    rw [h.idx hR hn h3 (hc i hi _ h1)]
theorem Corr.jrows (hR : InjR R) (hS : StepsR R st st' n) (h0 : R (0, 0) (0, 0)) : ∀ k, jrows st n k = jrows st' n k
  | 0 => rfl
  | k + 1 => by
    have ih := Corr.jrows hR hS h0 k
    have hq := Corr.jq hR hS h0 k
    simp only [Avl.jrows]
    cases hp : (Avl.jq st n k)[k]? with
    | none =>
      have : (Avl.jq st' n k)[k]? = none := List.getElem?_eq_none (by have := List.getElem?_eq_none_iff.1 hp; have := hq.len; omega)
      rw [this]; exact ih
    | some p =>
      obtain ⟨p', hp', hr⟩ := hq.at hp
      rw [hp', ih]
      simp only
      have hq1 := Corr.jq hR hS h0 (k + 1)
      have e : Avl.jq st n (k + 1) = Avl.jl st p (Avl.jq st n k) n := by simp only [Avl.jq, hp]
      rw [hq1.jrow hR hS (jq_nodup _ _ _) hr fun i hi q hs => by rw [e]; exact mem_jl hs hi]
end

/-! ### Machines in series -/
theorem stepR_fit {m : Mach} (hv : Valid m) {s a : Int} (h0 : 0 ≤ s) (hs : s < m.rows.length) (ha : 0 ≤ a ∧ a < m.ins) : ((stepR m s a).1 = -1 ∧ (stepR m s a).2 = -1) ∨ (0 ≤ (stepR m s a).1 ∧ (stepR m s a).1 < m.rows.length ∧ 0 ≤ (stepR m s a).2 ∧ (stepR m s a).2 < m.outs) := by
  obtain ⟨r, e, _, _, h3, h4⟩ := stepR_get hv h0 hs ha
  rw [h3]; exact fits_edge h4
theorem stOf_ser {a b : Mach} (hf : Fit a b 0) {s t : Int} (hp : inPr a b (s, t)) {i : Nat} (hi : (i : Int) < a.ins) : stOf a b 0 (s, t) i =
    if (stepR a s i).1 < 0 then none else if (stepR b t (stepR a s i).2).1 < 0 then none else some (((stepR a s i).1, (stepR b t (stepR a s i).2).1), (stepR b t (stepR a s i).2).2) := by
  obtain ⟨⟨p1, p2⟩, p3, p4⟩ := hp
  simp only at p1 p2 p3 p4
  have h1 := stepR_fit hf.va p1 p2 (a := (i : Int)) (by omega)
  have hs := hf.ser rfl
  have e0 : stepJ a b 0 (s, t) (i : Int) = if (stepR a s i).1 < 0 then ((0, 0), -1) else if (stepR b t (stepR a s i).2).1 < 0 then ((0, 0), -1) else (((stepR a s i).1, (stepR b t (stepR a s i).2).1), (stepR b t (stepR a s i).2).2) := by
    unfold stepJ
    by_cases k1 : (stepR a s i).1 < 0
    · rw [if_pos k1, if_pos k1]
    · rw [if_neg k1, if_neg k1, if_neg (by decide)]
  unfold stOf
  rw [e0]
  by_cases k1 : (stepR a s i).1 < 0
  · rw [if_pos k1, if_pos k1, if_pos (by decide)]
  · rw [if_neg k1, if_neg k1]
    have h2 := stepR_fit hf.vb p3 p4 (a := (stepR a s i).2) (by omega)
    by_cases k2 : (stepR b t (stepR a s i).2).1 < 0
    · rw [if_pos k2, if_pos k2, if_pos (by decide)]
    · rw [if_neg k2, if_neg k2]
      simp only
      rw [if_neg (by omega)]
theorem runR_fit {m : Mach} (hv : Valid m) : ∀ (w : List Int) (s : Int), s < m.rows.length → (∀ x ∈ w, 0 ≤ x ∧ x < m.ins) → ∀ y ∈ runR m s w, y < m.outs
  | [], _, _, _, _, h => by cases h
  | x :: w, s, hs, hw, y, h => by
    have hx := hw x List.mem_cons_self
    have ho := hv.outs
    simp only [runR, List.mem_cons] at h
    rcases h with rfl | h
    · by_cases hn : s < 0
      · rw [stepR_neg hn]; simp only; omega
      · have := stepR_fit hv (by omega) hs hx
        omega
    · exact runR_fit hv w _ (stepR_lt hv hs hx) (fun z hz => hw z (List.mem_cons_of_mem _ hz)) y h
def SerR (a b c : Mach) (p p' : Pr) : Prop := ∃ (k v : Nat) (s t u : Int), p = ((k : Int), u) ∧ p' = (s, (v : Int)) ∧ (jQ a b 0)[k]? = some (s, t) ∧ (jQ b c 0)[v]? = some (t, u)
theorem nodup_idx {l : List Pr} (h : l.Nodup) {i j : Nat} {x : Pr} (h1 : l[i]? = some x) (h2 : l[j]? = some x) : i = j := by
  obtain ⟨hi, e1⟩ := List.getElem?_eq_some_iff.1 h1
  obtain ⟨hj, e2⟩ := List.getElem?_eq_some_iff.1 h2
  exact (List.getElem_inj h).1 (e1.trans e2.symm)
theorem serR_inj (a b c : Mach) : InjR (SerR a b c) := by
  rintro p p' q q' ⟨k, v, s, t, u, rfl, rfl, h1, h2⟩ ⟨k', v', s', t', u', rfl, rfl, g1, g2⟩
  constructor
  · intro e
    simp only [Prod.mk.injEq] at e
    obtain ⟨e1, rfl⟩ := e
    have : k = k' := by omega
    subst this
    rw [h1] at g1; cases g1
    have := nodup_idx (jQ_nodup b c 0) h2 g2
    subst this; rfl
  · intro e
    simp only [Prod.mk.injEq] at e
    obtain ⟨rfl, e1⟩ := e
    have : v = v' := by omega
    subst this
    rw [h2] at g2; cases g2
    have := nodup_idx (jQ_nodup a b 0) h1 g1
    subst this; rfl
theorem jQ_idx {a b : Mach} {par : Int} {q : Pr} (h : q ∈ jQ a b par) : (jQ a b par)[(jQ a b par).idxOf q]? = some q := by
  have hl := List.idxOf_lt_length_of_mem h
  rw [List.getElem?_eq_getElem hl, List.getElem_idxOf hl]
theorem serR_steps {a b c : Mach} (hab : Fit a b 0) (hbc : Fit b c 0) (h1 : (jQ a b 0).length ≤ 64) (h2 : (jQ b c 0).length ≤ 64) (vm : Valid (jM a b 0 b.outs)) (vq : Valid (jM b c 0 c.outs)) :
    StepsR (SerR a b c) (stOf (jM a b 0 b.outs) c 0) (stOf a (jM b c 0 c.outs) 0) a.ins.toNat := by
  rintro p p' i ⟨k, v, s, t, u, rfl, rfl, g1, g2⟩ hi
  have hf1 : Fit (jM a b 0 b.outs) c 0 := ⟨vm, hbc.vb, .inl rfl, fun _ => hbc.ser rfl, fun h => absurd h (by decide)⟩
  have hf2 : Fit a (jM b c 0 c.outs) 0 := ⟨hab.va, vq, .inl rfl, fun _ => hab.ser rfl, fun h => absurd h (by decide)⟩
  have hr1 := jQ_reach _ (List.mem_of_getElem? g1)
  have hr2 := jQ_reach _ (List.mem_of_getElem? g2)
  have i1 := (RS_in hab hr1).1
  have i2 := (RS_in hbc hr2).1
  have hai := hab.va.ins
  have hi' : (i : Int) < a.ins := by omega
  have hk : k < (jQ a b 0).length := (List.getElem?_eq_some_iff.1 g1).1
  have hv : v < (jQ b c 0).length := (List.getElem?_eq_some_iff.1 g2).1
  have hst := hab.ser rfl
  have j1 : inPr (jM a b 0 b.outs) c ((k : Int), u) := ⟨⟨by simp only; omega, by simp only [jM_len]; omega⟩, i2.2⟩
  have j2 : inPr a (jM b c 0 c.outs) (s, (v : Int)) := ⟨i1.1, ⟨by simp only; omega, by simp only [jM_len]; omega⟩⟩
  have e1 := stOf_ser hf1 j1 (i := i) hi'
  have e2 := stOf_ser hf2 j2 (i := i) hi'
  have e3 := stOf_ser hab i1 (i := i) hi'
  have m1 : stepR (jM a b 0 b.outs) (k : Int) (i : Int) = jed (stOf a b 0) (jQ a b 0) (s, t) i := by
    have := jM_step (outs := b.outs) g1 (x := (i : Int)) (by omega)
    rwa [Int.toNat_natCast] at this
  have fa := stepR_fit hab.va i1.1.1 i1.1.2 (a := (i : Int)) (by omega)
  simp only at fa
  generalize hEa : stepR a s (i : Int) = e at *
  by_cases k1 : e.1 < 0
  · rw [if_pos k1] at e3 e2
    rw [jed_none e3] at m1
    rw [m1, if_pos (by decide)] at e1
    exact .inl ⟨e1, e2⟩
  · rw [if_neg k1] at e3 e2
    have he2 : 0 ≤ e.2 ∧ e.2 < b.ins := by omega
    have hxt : ((e.2.toNat : Nat) : Int) = e.2 := by omega
    have fb := stepR_fit hab.vb i1.2.1 i1.2.2 (a := e.2) (by omega)
    simp only at fb
    have m2 : stepR (jM b c 0 c.outs) (v : Int) e.2 = jed (stOf b c 0) (jQ b c 0) (t, u) e.2.toNat := jM_step (outs := c.outs) g2 he2
    have e4 := stOf_ser hbc i2 (i := e.2.toNat) (by omega)
    rw [hxt] at e4
    generalize hFb : stepR b t e.2 = f at *
    by_cases k2 : f.1 < 0
    · rw [if_pos k2] at e3 e4
      rw [jed_none e3] at m1
      rw [jed_none e4] at m2
      rw [m1, if_pos (by decide)] at e1
      rw [m2, if_pos (by decide)] at e2
      exact .inl ⟨e1, e2⟩
    · rw [if_neg k2] at e3 e4
      rw [jed_some e3] at m1
      have hq1 : (e.1, f.1) ∈ jQ a b 0 := jQ_all h1 (RS.step hr1 hi e3)
      rw [m1] at e1
      simp only at e1
      rw [if_neg (by omega)] at e1
      by_cases k3 : (stepR c u f.2).1 < 0
      · rw [if_pos k3] at e4 e1
        rw [jed_none e4] at m2
        rw [m2, if_pos (by decide)] at e2
        exact .inl ⟨e1, e2⟩
      · rw [if_neg k3] at e4 e1
        have hq2 : (f.1, (stepR c u f.2).1) ∈ jQ b c 0 := jQ_all h2 (RS.step hr2 (i := e.2.toNat) (by omega) e4)
        rw [jed_some e4] at m2
        rw [m2] at e2
        simp only at e2
        rw [if_neg (by omega)] at e2
        exact .inr ⟨_, _, _, e1, e2, _, _, _, _, _, rfl, rfl, jQ_idx hq1, jQ_idx hq2⟩
/-- It does not matter which two are put together first. -/
theorem series_assoc {a b c : Mach} (hab : Fit a b 0) (hbc : Fit b c 0) (h1 : (jQ a b 0).length ≤ 64) (h2 : (jQ b c 0).length ≤ 64) (vm : Valid (jM a b 0 b.outs)) (vq : Valid (jM b c 0 c.outs)) :
    (jQ (jM a b 0 b.outs) c 0).length = (jQ a (jM b c 0 c.outs) 0).length ∧ jrows (stOf (jM a b 0 b.outs) c 0) a.ins.toNat 64 = jrows (stOf a (jM b c 0 c.outs) 0) a.ins.toNat 64 := by
  have hS := serR_steps hab hbc h1 h2 vm vq
  have h0 : SerR a b c (0, 0) (0, 0) := ⟨0, 0, 0, 0, 0, rfl, rfl, jQ_zero a b 0, jQ_zero b c 0⟩
  have := Corr.jq (serR_inj a b c) hS h0 64
  rw [jQ_def, jQ_def]
  exact ⟨this.len, Corr.jrows (serR_inj a b c) hS h0 64⟩

/-! ### Responses in series -/
def tk (l : List Int) : List Int := l.takeWhile fun x => decide (0 ≤ x)
theorem runR_neg {m : Mach} : ∀ (w : List Int) {s : Int}, s < 0 → runR m s w = List.replicate w.length (-1)
  | [], _, _ => rfl
  | x :: w, s, h => by
    simp only [runR, stepR_neg h, List.length_cons, List.replicate_succ]
    rw [runR_neg w (by decide)]
theorem tk_neg : ∀ n : Nat, tk (List.replicate n (-1)) = []
  | 0 => rfl
  | n + 1 => by simp [tk, List.replicate_succ]
def serL (a b : Mach) (s1 s2 : Int) (w : List Int) : List Int := runR b s2 (tk (runR a s1 w)) ++ List.replicate (w.length - (tk (runR a s1 w)).length) (-1)
theorem tk_len (l : List Int) : (tk l).length ≤ l.length := (List.takeWhile_prefix _).length_le
def SerRel (a b : Mach) (s s1 s2 : Int) : Prop := (s < 0 ∧ (s1 < 0 ∨ s2 < 0)) ∨ (∃ k : Nat, s = k ∧ (jQ a b 0)[k]? = some (s1, s2))
theorem ser_neg {a b : Mach} {s1 s2 : Int} (h : s1 < 0 ∨ s2 < 0) (w : List Int) : serL a b s1 s2 w = List.replicate w.length (-1) := by
  have hl := tk_len (runR a s1 w)
  rw [runR_len] at hl
  unfold serL
  rcases h with h | h
  · rw [runR_neg w h, tk_neg]; rfl
  · rw [runR_neg _ h, List.replicate_append_replicate]
    congr 1; omega
theorem ser_run {a b : Mach} {outs : Int} (hf : Fit a b 0) (h64 : (jQ a b 0).length ≤ 64) : ∀ (w : List Int) (s s1 s2 : Int), SerRel a b s s1 s2 → (∀ x ∈ w, 0 ≤ x ∧ x < a.ins) →
    runR (jM a b 0 outs) s w = serL a b s1 s2 w
  | [], _, _, _, _, _ => rfl
  | x :: w, s, s1, s2, hR, hw => by
    rcases hR with ⟨h1, h2⟩ | ⟨k, rfl, hk⟩
    · rw [runR_neg _ h1, ser_neg h2]
    have hx := hw x List.mem_cons_self
    have hr := jQ_reach _ (List.mem_of_getElem? hk)
    have i1 := (RS_in hf hr).1
    have hxt : ((x.toNat : Nat) : Int) = x := by omega
    have e3 := stOf_ser hf i1 (i := x.toNat) (by omega)
    rw [hxt] at e3
    have m1 := jM_step (outs := outs) hk hx
    have fa := stepR_fit hf.va i1.1.1 i1.1.2 (a := x) (by omega)
    simp only at fa
    have hs := hf.ser rfl
    have ih := ser_run (outs := outs) hf h64 w
    by_cases k1 : (stepR a s1 x).1 < 0
    · rw [if_pos k1] at e3
      rw [jed_none e3] at m1
      have k2 : (stepR a s1 x).2 = -1 := by omega
      have ht : tk (runR a s1 (x :: w)) = [] := by simp [runR, k2, tk]
      unfold serL
      rw [ht]
      simp only [runR, m1, List.nil_append, List.length_nil, Nat.sub_zero, List.length_cons, List.replicate_succ]
      rw [runR_neg w (by decide)]
    · rw [if_neg k1] at e3
      have k2 : 0 ≤ (stepR a s1 x).2 := by omega
      have ht : tk (runR a s1 (x :: w)) = (stepR a s1 x).2 :: tk (runR a (stepR a s1 x).1 w) := by simp [runR, k2, tk]
      have fb := stepR_fit hf.vb i1.2.1 i1.2.2 (a := (stepR a s1 x).2) (by omega)
      simp only at fb
      have hL : serL a b s1 s2 (x :: w) = (stepR b s2 (stepR a s1 x).2).2 :: serL a b (stepR a s1 x).1 (stepR b s2 (stepR a s1 x).2).1 w := by
        unfold serL
        rw [ht]
        simp only [runR, List.length_cons, List.cons_append, Nat.add_sub_add_right]
      rw [hL]
      by_cases k3 : (stepR b s2 (stepR a s1 x).2).1 < 0
      · rw [if_pos k3] at e3
        rw [jed_none e3] at m1
        have k4 : (stepR b s2 (stepR a s1 x).2).2 = -1 := by omega
        simp only [runR, m1, k4]
        rw [ih (-1) _ _ (.inl ⟨by decide, .inr k3⟩) fun z hz => hw z (List.mem_cons_of_mem _ hz)]
      · rw [if_neg k3] at e3
        have hq1 := jQ_all h64 (RS.step hr (i := x.toNat) (by omega) e3)
        rw [jed_some e3] at m1
        simp only [runR, m1]
        rw [ih _ _ _ (.inr ⟨_, rfl, jQ_idx hq1⟩) fun z hz => hw z (List.mem_cons_of_mem _ hz)]
end Go.Avl
namespace Go.Avl
open Go Go.Proofs.Try
set_option maxRecDepth 10000
set_option linter.unusedSimpArgs false

theorem behind_is (x y : LM) : PureIs prog 11 [.ag [.sc (.int .u8 x.st), .sc (.int .u8 x.ins), .sc (.int .u8 x.outs), .sc (.bool x.part), .sl x.nl (x.es.map u16C) x.cap], .ag [.sc (.int .u8 y.st), .sc (.int .u8 y.ins), .sc (.int .u8 y.outs), .sc (.bool y.part), .sl y.nl (y.es.map u16C) y.cap]]
    (.ag [.sc (.int .u8 y.st), .sc (.int .u8 x.outs), .sc (.int .u8 y.outs), .sc (.bool y.part), .sl y.nl (y.es.map u16C) y.cap]) := by
  refine PureIs.of (nv := 5) (hid := []) func11 rfl (by kernel_rfl) (by simp [ntmps11]) fun _ => ?_
  rw [ntmps11, results11]
  refine EvC.seq (EvC.rg (by (simp only [go_sem]) <;> rfl) (by simp) ?_)
  refine EvC.seq (EvC.rg (by (simp only [go_sem]) <;> rfl) (by simp) ?_)
  refine EvC.seq (EvC.rg (by (simp only [go_sem]) <;> rfl) (by simp) ?_)
  refine EvC.ret ⟨.inl rfl, _, (by (simp only [go_sem]) <;> rfl), ?_, rfl⟩
  simp only [go_sem]
/-- Of the pairs of machines in series. -/
theorem ser_good {a b : Mach} (va : Valid a) (vb : Valid b) (hio : a.outs = b.ins) (ha : a.rows.length ≤ 6) (hb : b.rows.length ≤ 6) :
    Fit a b 0 ∧ (jQ a b 0).length ≤ 64 ∧ Valid (jM a b 0 b.outs) ∧ PureIs prog 14 [.ag a.cells, .ag b.cells] (.tu [.ag (jM a b 0 b.outs).cellsF, .sc (.int .i64 0)]) ∧
    PureIs prog 15 [.ag (jM a b 0 b.outs).cellsF, .ag a.cells, .ag b.cells, .sc (.int .i64 0)] (.sc (.int .i64 1)) := by
  have hf : Fit a b 0 := ⟨va, vb, .inl rfl, fun _ => hio, fun h => absurd h (by decide)⟩
  have h64 : (jQ a b 0).length ≤ 64 := by
    have h1 := jQ_le hf
    have h2 := reachN_le a b 0
    have h3 : a.rows.length * b.rows.length ≤ 6 * 6 := Nat.mul_le_mul ha hb
    omega
  have ho : b.outs = if (0 : Int) = 1 then a.outs * b.outs else b.outs := by rw [if_neg (by decide)]
  refine ⟨hf, h64, jM_valid hf h64 ho vb.outs, ?_, joint15_is hf h64 ho vb.outs⟩
  have := series_is a b va.small vb.small
  rw [seriesA, if_neg (by simp [bothE_of va.check vb.check]), if_neg (by simpa using hio), jM_tu b.outs h64] at this
  exact this
theorem edgeC_inj : ∀ {l l' : List (Int × Int)}, l.map edgeC = l'.map edgeC → l = l'
  | [], [], _ => rfl
  | [], _ :: _, h => by cases h
  | _ :: _, [], h => by cases h
  | (a, b) :: l, (c, d) :: l', h => by
    simp only [List.map_cons, List.cons.injEq, edgeC, AV.sc.injEq, Value.int.injEq, true_and, and_true] at h
    rw [edgeC_inj h.2, h.1.1, h.1.2]
theorem rowG_inj : ∀ {l l' : List Row}, l.map rowG = l'.map rowG → l = l'
  | [], [], _ => rfl
  | [], _ :: _, h => by cases h
  | _ :: _, [], h => by cases h
  | (a, b) :: l, (c, d) :: l', h => by
    simp only [List.map_cons, List.cons.injEq, rowG, AV.sl.injEq, and_true] at h
    rw [rowG_inj h.2, h.1.1, edgeC_inj h.1.2]
theorem seriesF_is (a b : Mach) (ha : ∀ r ∈ a.rows, r.2.length < 1000000) (hb : ∀ r ∈ b.rows, r.2.length < 1000000) : PureIs prog 14 [.ag a.cellsF, .ag b.cells] (seriesA a b) := by
  refine PureIs.weak ?_
  simp only [List.map_cons, List.map_nil, AV.unk, Mach.cellsF_unk, Mach.cells_unk]
  exact series_is a b ha hb
theorem seriesF2_is (a b : Mach) (ha : ∀ r ∈ a.rows, r.2.length < 1000000) (hb : ∀ r ∈ b.rows, r.2.length < 1000000) : PureIs prog 14 [.ag a.cells, .ag b.cellsF] (seriesA a b) := by
  refine PureIs.weak ?_
  simp only [List.map_cons, List.map_nil, AV.unk, Mach.cellsF_unk, Mach.cells_unk]
  exact series_is a b ha hb
theorem reachedF_is {a b : Mach} {par : Int} (hf : Fit a b par) : PureIs prog 19 [.ag a.cellsF, .ag b.cells, .sc (.int .i64 par)] (.sc (.int .i64 (reachN a b par))) := by
  refine PureIs.weak ?_
  simp only [List.map_cons, List.map_nil, AV.unk, Mach.cellsF_unk, Mach.cells_unk]
  exact reached_is hf
/-- What comes of the three machines, whichever are put together first. -/
theorem assoc_res {a b c : Mach} (hab : Fit a b 0) (hbc : Fit b c 0) (h1 : (jQ a b 0).length ≤ 64) (h2 : (jQ b c 0).length ≤ 64) (vm : Valid (jM a b 0 b.outs)) (vq : Valid (jM b c 0 c.outs)) :
    (64 < reachN (jM a b 0 b.outs) c 0 ∧ PureIs prog 14 [.ag (jM a b 0 b.outs).cellsF, .ag c.cells] (errA 3) ∧ PureIs prog 14 [.ag a.cells, .ag (jM b c 0 c.outs).cellsF] (errA 3)) ∨
    ∃ u v : Mach, PureIs prog 14 [.ag (jM a b 0 b.outs).cellsF, .ag c.cells] (.tu [.ag u.cellsF, .sc (.int .i64 0)]) ∧ PureIs prog 14 [.ag a.cells, .ag (jM b c 0 c.outs).cellsF] (.tu [.ag v.cellsF, .sc (.int .i64 0)]) ∧
      PureIs prog 21 [.ag u.cellsF, .sc (.int .i64 0), .ag v.cellsF] (.sc (.bool true)) := by
  have hf1 : Fit (jM a b 0 b.outs) c 0 := ⟨vm, hbc.vb, .inl rfl, fun _ => hbc.ser rfl, fun h => absurd h (by decide)⟩
  have hf2 : Fit a (jM b c 0 c.outs) 0 := ⟨hab.va, vq, .inl rfl, fun _ => hab.ser rfl, fun h => absurd h (by decide)⟩
  have p1 := seriesF_is _ c vm.small hbc.vb.small
  have p2 := seriesF2_is a _ hab.va.small vq.small
  rw [seriesA, if_neg (by simp [bothE_of vm.check hbc.vb.check]), if_neg (by simpa using hf1.ser rfl)] at p1
  rw [seriesA, if_neg (by simp [bothE_of hab.va.check vq.check]), if_neg (by simpa using hf2.ser rfl)] at p2
  obtain ⟨hl, hr⟩ := series_assoc hab hbc h1 h2 vm vq
  by_cases h64 : (jQ (jM a b 0 b.outs) c 0).length ≤ 64
  · refine .inr ⟨_, _, by rw [jM_tu c.outs h64] at p1; exact p1, by rw [jM_tu (a := a) (b := jM b c 0 c.outs) (par := 0) (jM b c 0 c.outs).outs (by omega)] at p2; exact p2, ?_⟩
    have r1 := jM_rows (a := jM a b 0 b.outs) (b := c) (par := 0) c.outs h64
    have r2 := jM_rows (a := a) (b := jM b c 0 c.outs) (par := 0) c.outs (by omega)
    have hai : (jM a b 0 b.outs).ins.toNat = a.ins.toNat := rfl
    rw [hai, hr, r2] at r1
    have hrows : (jM a (jM b c 0 c.outs) 0 c.outs).rows = (jM (jM a b 0 b.outs) c 0 c.outs).rows := rowG_inj r1
    have vu := jM_valid hf1 h64 (outs := c.outs) (by rw [if_neg (by decide)]) hbc.vb.outs
    have := vu.rows
    exact machineF_is rfl rfl (by show _ = (jM a (jM b c 0 c.outs) 0 c.outs).rows.map _; rw [hrows]) (by omega) vu.small
  · rw [jointA_big h64] at p1
    rw [jointA_big (by omega)] at p2
    have := jQ_le hf1
    exact .inl ⟨by omega, p1, p2⟩
end Go.Avl
namespace Go.Avl
open Go Go.Proofs.Try
set_option maxRecDepth 10000
set_option linter.unusedSimpArgs false

theorem tk_cons (a : Int) (l : List Int) : tk (a :: l) = if 0 ≤ a then a :: tk l else [] := by
  by_cases h : 0 ≤ a <;> simp [tk, h]
theorem tk_take : ∀ l : List Int, tk l = l.take (tk l).length
  | [] => rfl
  | a :: l => by
    rw [tk_cons]
    by_cases h : 0 ≤ a
    · rw [if_pos h, List.length_cons, List.take_succ_cons, ← tk_take l]
    · rw [if_neg h]; rfl
theorem tk_ok : ∀ {l : List Int} (x : Int), x ∈ tk l → x ∈ l ∧ 0 ≤ x
  | [], _, h => by cases h
  | a :: l, x, h => by
    rw [tk_cons] at h
    by_cases ha : 0 ≤ a
    · rw [if_pos ha] at h
      rcases List.mem_cons.1 h with rfl | h
      · exact ⟨List.mem_cons_self, ha⟩
      · exact ⟨List.mem_cons_of_mem _ (tk_ok x h).1, (tk_ok x h).2⟩
    · rw [if_neg ha] at h; cases h
theorem tk_get {l : List Int} {i : Nat} (h : i < (tk l).length) : ∃ x, l[i]? = some x ∧ 0 ≤ x := by
  have h1 : (tk l)[i]? = some (tk l)[i] := List.getElem?_eq_getElem h
  refine ⟨_, ?_, (tk_ok _ (List.getElem_mem h)).2⟩
  rw [← h1]; conv => rhs; rw [tk_take l]
  rw [List.getElem?_take, if_pos h]
theorem tk_end : ∀ (l : List Int) (x : Int), l[(tk l).length]? = some x → x < 0
  | [], _, h => by cases h
  | a :: l, x, h => by
    by_cases ha : 0 ≤ a
    · have ht : tk (a :: l) = a :: tk l := by simp [tk, ha]
      rw [ht] at h
      exact tk_end l x (by simpa using h)
    · have ht : tk (a :: l) = [] := by simp [tk, ha]
      rw [ht] at h
      simp at h; omega

set_option maxHeartbeats 4000000 in
theorem joinsSeries_is {x y z : LM} (hx : x.Ok) (hy : y.Ok) (hz : z.Ok) (nl : Bool) (w : List Int) (c : Cp) (hw : ∀ a ∈ w, 0 ≤ a ∧ a < 256) :
    PureIs prog 3 [.ag x.cells, .ag y.cells, .ag [.sc (.int .u8 z.st), .sc (.int .u8 z.ins), .sc (.int .u8 z.outs), .sc (.bool z.part), .sl z.nl (z.es.map u16C) z.cap, .sl nl (w.map u8C) c]] (.sc (.bool true)) := by
  obtain ⟨y', hy'⟩ : ∃ y' : LM, y' = { y with ins := x.outs } := ⟨_, rfl⟩
  obtain ⟨z', hz'⟩ : ∃ z' : LM, z' = { z with ins := y.outs } := ⟨_, rfl⟩
  have hyo : y'.Ok := by rw [hy']; exact ⟨hy.st, hx.outs, hy.outs, hy.es⟩
  have hzo : z'.Ok := by rw [hz']; exact ⟨hz.st, hy.outs, hz.outs, hz.es⟩
  have bx := LM.bounds hx
  have by' := LM.bounds hyo
  have bz' := LM.bounds hzo
  have va := LM.valid hx
  have vb := LM.valid hyo
  have vd := LM.valid hzo
  have hio1 : x.mach.outs = y'.mach.ins := by
    have : y'.ins = x.outs := by rw [hy']
    simp only [LM.mach, LM.o]; rw [by'.2.2.2.2.2.2.2, this]
  have hio2 : y'.mach.outs = z'.mach.ins := by
    have : z'.ins = y'.outs := by rw [hz', hy']
    simp only [LM.mach, LM.o]; rw [bz'.2.2.2.2.2.2.2, this]
  have hra : x.mach.rows.length ≤ 6 := by simp only [LM.mach, List.length_map, List.length_range]; omega
  have hrb : y'.mach.rows.length ≤ 6 := by simp only [LM.mach, List.length_map, List.length_range]; omega
  have hrd : z'.mach.rows.length ≤ 6 := by simp only [LM.mach, List.length_map, List.length_range]; omega
  have cA := mOf_is hx
  have cB := mOf_is hyo
  have cD := mOf_is hzo
  generalize x.mach = a at va hio1 hra cA
  generalize y'.mach = b at vb hio1 hio2 hrb cB
  generalize z'.mach = d at vd hio2 hrd cD
  have hA : PureIs prog 12 [.ag [.sc (.int .u8 x.st), .sc (.int .u8 x.ins), .sc (.int .u8 x.outs), .sc (.bool x.part), .sl x.nl (x.es.map u16C) x.cap]] (.ag [.sc (.int .i64 a.ins), .sc (.int .i64 a.outs), .sl a.nl (a.rows.map rowC) .unk]) := cA
  have hB : PureIs prog 12 [.ag [.sc (.int .u8 y.st), .sc (.int .u8 x.outs), .sc (.int .u8 y.outs), .sc (.bool y.part), .sl y.nl (y.es.map u16C) y.cap]] (.ag [.sc (.int .i64 b.ins), .sc (.int .i64 b.outs), .sl b.nl (b.rows.map rowC) .unk]) := by rw [hy'] at cB; exact cB
  have hD : PureIs prog 12 [.ag [.sc (.int .u8 z.st), .sc (.int .u8 y.outs), .sc (.int .u8 z.outs), .sc (.bool z.part), .sl z.nl (z.es.map u16C) z.cap]] (.ag [.sc (.int .i64 d.ins), .sc (.int .i64 d.outs), .sl d.nl (d.rows.map rowC) .unk]) := by rw [hz'] at cD; exact cD
  clear cA cB cD bx by' bz' hyo hzo
  obtain ⟨hab, h1, vm, pS1, pJ1⟩ := ser_good va vb hio1 hra hrb
  obtain ⟨hbd, h2, vq, pS2, pJ2⟩ := ser_good vb vd hio2 hrb hrd
  have hres := assoc_res hab hbd h1 h2 vm vq
  have hF1 : Fit (jM a b 0 b.outs) d 0 := ⟨vm, vd, .inl rfl, fun _ => hio2, fun h => absurd h (by decide)⟩
  obtain ⟨W, hW⟩ : ∃ W, W = wOf w a.ins := ⟨_, rfl⟩
  have hai := va.ins
  have hWl : W.length ≤ 12 := by rw [hW]; exact wOf_len _ _
  have hWo : ∀ v ∈ W, 0 ≤ v ∧ v < a.ins := by rw [hW]; exact wOf_ok (by omega)
  have hWC : PureIs prog 13 [.ag [.sl nl (w.map u8C) c], .sc (.int .i64 a.ins)] (.sl W.isEmpty (W.map intC) .unk) := by
    rw [hW]; exact wOf_is nl w c a.ins (by omega) hw
  have hrun := ser_run (outs := b.outs) hab h1 W 0 0 0 (.inr ⟨0, rfl, jQ_zero a b 0⟩) hWo
  have hmi : (jM a b 0 b.outs).ins = a.ins := rfl
  have hmn := vm.rows
  generalize jM a b 0 b.outs = m at vm pS1 pJ1 hres hF1 hrun hmi hmn
  generalize jM b d 0 d.outs = q at vq pS2 pJ2 hres
  have hm0 : decide ((m.rows.length : Int) = 0) = false := decide_eq_false (by omega)
  have hRm := runF_is vm W.isEmpty W .unk (by rw [hmi]; exact hWo) (by omega) 0 (by omega)
  have har := va.rows
  have hbr := vb.rows
  have hRa := run04_is va 0 (by omega) W.isEmpty W .unk hWo (by omega)
  have hpb := runR_fit va W 0 (by omega) hWo
  have hpl := runR_len a 0 W
  have hrl := runR_len m 0 W
  unfold serL at hrun
  generalize runR a 0 W = p at hrun hRa hpb hpl
  generalize runR m 0 W = r at hrun hRm hrl
  obtain ⟨T, hT⟩ : ∃ T, T = tk p := ⟨_, rfl⟩
  have hTl : T.length ≤ p.length := by rw [hT]; exact tk_len p
  have hTt : p.take T.length = T := by rw [hT]; exact (tk_take p).symm
  have hTo : ∀ v ∈ T, 0 ≤ v ∧ v < b.ins := fun v hv => by
    rw [hT] at hv
    obtain ⟨k1, k2⟩ := tk_ok v hv
    have := hpb v k1
    omega
  have hTg : ∀ i, i < T.length → ∃ x, p[i]? = some x ∧ 0 ≤ x := by rw [hT]; exact fun i => tk_get
  have hTe : ∀ x, p[T.length]? = some x → x < 0 := by rw [hT]; exact tk_end p
  rw [← hT] at hrun
  have hRb := fun nl => run04_is vb 0 (by omega) nl T .unk hTo (by omega)
  have hql := runR_len b 0 T
  generalize runR b 0 T = l2 at hrun hRb hql
  clear hT
  have hS1 : PureIs prog 14 [.ag a.cells, .ag b.cells] (.tu [.ag [.sc (.int .i64 m.ins), .sc (.int .i64 m.outs), .sl m.nl (m.rows.map rowG) .full], .sc (.int .i64 0)]) := pS1
  have hS2 : PureIs prog 14 [.ag b.cells, .ag d.cells] (.tu [.ag [.sc (.int .i64 q.ins), .sc (.int .i64 q.outs), .sl q.nl (q.rows.map rowG) .full], .sc (.int .i64 0)]) := pS2
  have hcl := clipped_is m (by omega)
  refine PureIs.of (nv := 25) (hid := [70, 84, 98, 103, 113, 138, 140]) func3 rfl (by kernel_rfl) (by simp [ntmps3]) fun _ => ?_
  rw [ntmps3, results3]
  refine EvC.seq (EvC.rg (by (simp only [go_sem, LM.cells]) <;> rfl) (by simp) ?_)
  apply EvC.seq
  apply EvC.tr
  · apply Tr.run
    · (simp only [go_sem]) <;> rfl
    · simp
    apply Tr.cons
    · exact .call rfl rfl (by (simp only [go_sem]) <;> rfl) (by (simp only [go_sem]) <;> rfl) (by (simp only [go_sem]) <;> rfl) (by (simp only [go_sem]) <;> rfl) (by (simp only [go_sem]) <;> rfl) (behind_is x y)
    apply Tr.done
    · (simp only [go_sem]) <;> rfl
    · simp
  apply EvC.seq
  apply EvC.tr
  · apply Tr.run
    · (simp only [go_sem]) <;> rfl
    · simp
    apply Tr.cons
    · exact .call rfl rfl (by (simp only [go_sem]) <;> rfl) (by (simp only [go_sem]) <;> rfl) (by (simp only [go_sem]) <;> rfl) (by (simp only [go_sem]) <;> rfl) (by (simp only [go_sem]) <;> rfl) (behind_is { y with ins := x.outs } z)
    apply Tr.done
    · (simp only [go_sem]) <;> rfl
    · simp

  refine EvC.frzB 0 (by (simp only [go_sem]) <;> rfl) ?_
  refine EvC.frzB 1 (by (simp only [go_sem]) <;> rfl) ?_
  refine EvC.frzB 2 (by (simp only [go_sem]) <;> rfl) ?_
  apply EvC.seq
  apply EvC.drw mixed
  · apply Tr.run
    · (simp only [go_sem]) <;> rfl
    · simp
    apply Tr.cons
    · exact .call rfl rfl (by (simp only [go_sem]) <;> rfl) (by (simp only [go_sem]) <;> rfl) (by (simp only [go_sem]) <;> rfl) (by (simp only [go_sem]) <;> rfl) (by (simp only [go_sem]) <;> rfl) (hA)
    apply Tr.run
    · (simp only [go_sem]) <;> rfl
    · simp
    apply Tr.cons
    · exact .call rfl rfl (by (simp only [go_sem]) <;> rfl) (by (simp only [go_sem]) <;> rfl) (by (simp only [go_sem]) <;> rfl) (by (simp only [go_sem]) <;> rfl) (by (simp only [go_sem]) <;> rfl) (hB)
    apply Tr.run
    · (simp only [go_sem]) <;> rfl
    · simp
    apply Tr.cons
    · exact .call rfl rfl (by (simp only [go_sem]) <;> rfl) (by (simp only [go_sem]) <;> rfl) (by (simp only [go_sem]) <;> rfl) (by (simp only [go_sem]) <;> rfl) (by (simp only [go_sem]) <;> rfl) (hD)
    apply Tr.done
    · (simp only [go_sem]) <;> rfl
    · simp
  · kernel_rfl
  refine EvC.frzB 21 (by (simp only [go_sem]) <;> rfl) ?_
  refine EvC.frzB 22 (by (simp only [go_sem]) <;> rfl) ?_
  refine EvC.frzB 23 (by (simp only [go_sem]) <;> rfl) ?_
  apply EvC.seq
  apply EvC.tr
  · apply Tr.run
    · (simp only [go_sem]) <;> rfl
    · simp
    apply Tr.cons
    · exact .call rfl rfl (by (simp only [go_sem]) <;> rfl) (by (simp only [go_sem]) <;> rfl) (by (simp only [go_sem]) <;> rfl) (by (simp only [go_sem]) <;> rfl) (by (simp only [go_sem]) <;> rfl) (hWC)
    apply Tr.done
    · (simp only [go_sem]) <;> rfl
    · simp
  apply EvC.seq
  apply EvC.tr
  · apply Tr.run
    · (simp only [go_sem]) <;> rfl
    · simp
    apply Tr.cons
    · exact .call rfl rfl (by (simp only [go_sem]) <;> rfl) (by (simp only [go_sem]) <;> rfl) (by (simp only [go_sem]) <;> rfl) (by (simp only [go_sem]) <;> rfl) (by (simp only [go_sem]) <;> rfl) (hS1)
    apply Tr.done
    · (simp only [go_sem]) <;> rfl
    · simp
  refine EvC.frzB 39 (by (simp only [go_sem]) <;> rfl) ?_
  refine EvC.seq ?_
  apply EvC.seq
  apply EvC.tr
  · apply Tr.run
    · (simp only [go_sem, hm0]) <;> rfl
    · simp
    apply Tr.cons
    · exact .callG rfl rfl (by (simp only [go_sem]) <;> rfl) rfl (by (simp only [go_sem]) <;> rfl) (by (simp only [go_sem]) <;> rfl) (by (simp only [go_sem]) <;> rfl) (by (simp only [go_sem]) <;> rfl) (by (simp only [go_sem]) <;> rfl) (pJ1)
    apply Tr.run
    · (simp only [go_sem, hm0]) <;> rfl
    · simp
    apply Tr.cons
    · exact .callG rfl rfl (by (simp only [go_sem]) <;> rfl) rfl (by (simp only [go_sem]) <;> rfl) (by (simp only [go_sem]) <;> rfl) (by (simp only [go_sem]) <;> rfl) (by (simp only [go_sem]) <;> rfl) (by (simp only [go_sem]) <;> rfl) (hcl)
    apply Tr.done
    · (simp only [go_sem]) <;> rfl
    · simp
  refine EvC.cond_false (by (simp only [go_sem]) <;> rfl) ?_
  refine EvC.skip ?_
  apply EvC.seq
  apply EvC.tr
  · apply Tr.run
    · (simp only [go_sem]) <;> rfl
    · simp
    apply Tr.cons
    · exact .call rfl rfl (by (simp only [go_sem]) <;> rfl) (by (simp only [go_sem]) <;> rfl) (by (simp only [go_sem]) <;> rfl) (by (simp only [go_sem]) <;> rfl) (by (simp only [go_sem]) <;> rfl) (hRa)
    apply Tr.done
    · (simp only [go_sem]) <;> rfl
    · simp
  refine EvC.seq (EvC.rg (by (simp only [go_sem]) <;> rfl) (by simp) ?_)
  refine EvC.seq ?_
  refine EvC.block ?_  -- 0
  refine EvC.loopS (σ := Nat) (fun k => ⟨[(7, .ia a.cells), (8, .ia b.cells), (9, .ia d.cells), (10, .sl W.isEmpty (W.map intC) .unk), (11, .ia m.cellsF), (13, .sl p.isEmpty (p.map intC) .unk), (14, .sc (.int .i64 k))], [], [], 0⟩) (fun k => T.length - k) (fun k => k ≤ T.length) [7, 8, 9, 10, 11, 13, 14] 0 ?_ ?_
  · exact ⟨[], 0, rfl, (by (simp only [go_sem, Mach.cells, Mach.cellsF, Int.natCast_zero]) <;> rfl), Nat.zero_le _⟩
  intro k hk
  refine EvC.seq ?_
  by_cases hkT : k < T.length
  · obtain ⟨x, hpx, hx0⟩ := hTg k hkT
    have d1 : decide ((k : Int) < p.length) = true := decide_eq_true (by omega)
    have d2 : decide (0 ≤ x) = true := decide_eq_true hx0
    apply EvC.seq
    apply EvC.trd
    · (simp only [go_sem, List.length_map, hpx, intC, d1, d2]) <;> rfl
    · simp; try omega
    refine EvC.cond_true (by (simp only [go_sem]) <;> rfl) ?_
    refine EvC.skip ?_
    refine EvC.block ?_  -- 1
    refine EvC.rg (by (simp only [go_sem]) <;> rfl) (by exact inI64_of (by omega) (by omega)) ?_
    exact ⟨[], k + 1, rfl, (by (simp only [go_sem, Mach.cells, Mach.cellsF, Int.natCast_add, Int.natCast_one]) <;> rfl), hkT, by omega⟩
  obtain rfl : T.length = k := by omega
  have hex : ∃ (v : Option Int) (d : Bool), p[T.length]? = v ∧ decide ((T.length : Int) < p.length) = d ∧ ((d = true ∧ ∃ x, v = some x ∧ decide (0 ≤ x) = false) ∨ (d = false ∧ v = none)) := by
    by_cases h : T.length < p.length
    · exact ⟨_, _, List.getElem?_eq_getElem h, decide_eq_true (by omega), .inl ⟨rfl, _, rfl, decide_eq_false (by have := hTe _ (List.getElem?_eq_getElem h); omega)⟩⟩
    · exact ⟨_, _, List.getElem?_eq_none (by omega), decide_eq_false (by omega), .inr ⟨rfl, rfl⟩⟩
  obtain ⟨v, dd, hpx, d1, hv⟩ := hex
  have hnp : T.length ≤ p.length := hTl
  rcases hv with ⟨rfl, x, rfl, d2⟩ | ⟨rfl, rfl⟩
  apply EvC.seq
  apply EvC.trd
  · (simp only [go_sem, List.length_map, hpx, intC, d1, d2]) <;> rfl
  · simp; try omega
  refine EvC.cond_false (by (simp only [go_sem]) <;> rfl) ?_
  refine EvC.exit ?_  -- 0
  rotate_left
  apply EvC.seq
  apply EvC.tr
  · apply Tr.run
    · (simp only [go_sem, List.length_map, d1, hpx]) <;> rfl
    · simp; try omega
    apply Tr.cons
    · exact .skipv (.ia [.sc (.int .i64 0)]) rfl rfl (by (simp only [go_sem]) <;> rfl) (by (simp only [go_sem]) <;> rfl)
    apply Tr.done
    · (simp only [go_sem]) <;> rfl
    · simp
  refine EvC.cond_false (by (simp only [go_sem]) <;> rfl) ?_
  refine EvC.exit ?_  -- 0
  all_goals
    apply EvC.seq
    apply EvC.drw mixed
    · apply Tr.run
      · (simp only [go_sem, Mach.cells, List.length_map, hTt, ← List.map_take]) <;> rfl
      · simp [intC]; try omega
      apply Tr.cons
      · exact .call rfl rfl (by (simp only [go_sem]) <;> rfl) (by (simp only [go_sem]) <;> rfl) (by (simp only [go_sem]) <;> rfl) (by (simp only [go_sem]) <;> rfl) (by (simp only [go_sem]) <;> rfl) (hRb _)
      apply Tr.done
      · (simp only [go_sem, hTt]) <;> rfl
      · simp
    · kernel_rfl
    apply EvC.seq
    apply EvC.tr
    · apply Tr.run
      · (simp only [go_sem, Mach.cells, Mach.cellsF]) <;> rfl
      · simp [Mach.cells, Mach.cellsF, acell, AV.noref, AV.norefs]
      apply Tr.cons
      · exact .call rfl rfl (by (simp only [go_sem]) <;> rfl) (by (simp only [go_sem]) <;> rfl) (by (simp only [go_sem]) <;> rfl) (by (simp only [go_sem]) <;> rfl) (by (simp only [go_sem]) <;> rfl) (hRm)
      apply Tr.done
      · (simp only [go_sem, Mach.cells, Mach.cellsF]) <;> rfl
      · simp [Mach.cells, Mach.cellsF, acell, AV.noref, AV.norefs]
    refine EvC.seq ?_
    refine EvC.seq (EvC.rg (by (simp only [go_sem]) <;> rfl) (by simp) ?_)
    refine EvC.block ?_  -- 2
    refine EvC.loopS (σ := Nat) (fun k => ⟨[(7, .ia a.cells), (8, .ia b.cells), (9, .ia d.cells), (10, .sl W.isEmpty (W.map intC) .unk), (11, .ia m.cellsF), (14, .sc (.int .i64 T.length)), (15, .sl l2.isEmpty (l2.map intC) .unk), (16, .sl r.isEmpty (r.map intC) .unk), (17, .sc (.int .i64 k))], [], [], 0⟩) (fun k => W.length - k) (fun k => k ≤ W.length) [7, 8, 9, 10, 11, 14, 15, 16, 17] 0 ?_ ?_
    · exact ⟨[], 0, rfl, (by (simp only [go_sem, Mach.cells, Mach.cellsF, Int.natCast_zero]) <;> rfl), Nat.zero_le _⟩
    intro k hk
    refine EvC.seq ?_
    refine EvC.seq (EvC.rg (by (simp only [go_sem, List.length_map]) <;> rfl) (by simp) ?_)
    refine EvC.cond (by (simp only [go_sem]) <;> rfl) (fun hc => ?_) (fun hc => ?_)
    rotate_left
    · -- else
      refine EvC.exit ?_  -- 2
      clear hc
      rcases hres with ⟨hreach, e1, e2⟩ | ⟨u, v, e1, e2, e3⟩
      · simp only [errA, zeroM] at e1 e2
        apply EvC.seq
        apply EvC.tr
        · apply Tr.run
          · (simp only [go_sem, Mach.cells, Mach.cellsF]) <;> rfl
          · simp [Mach.cells, Mach.cellsF, acell, AV.noref, AV.norefs]
          apply Tr.cons
          · exact .call rfl rfl (by (simp only [go_sem]) <;> rfl) (by (simp only [go_sem]) <;> rfl) (by (simp only [go_sem]) <;> rfl) (by (simp only [go_sem]) <;> rfl) (by (simp only [go_sem]) <;> rfl) (e1)
          apply Tr.done
          · (simp only [go_sem, Mach.cells, Mach.cellsF]) <;> rfl
          · simp [Mach.cells, Mach.cellsF, acell, AV.noref, AV.norefs]
        refine EvC.frzB 10 (by (simp only [go_sem]) <;> rfl) ?_
        apply EvC.seq
        apply EvC.tr
        · apply Tr.run
          · (simp only [go_sem, Mach.cells, Mach.cellsF]) <;> rfl
          · simp [Mach.cells, Mach.cellsF, acell, AV.noref, AV.norefs]
          apply Tr.cons
          · exact .call rfl rfl (by (simp only [go_sem]) <;> rfl) (by (simp only [go_sem]) <;> rfl) (by (simp only [go_sem]) <;> rfl) (by (simp only [go_sem]) <;> rfl) (by (simp only [go_sem]) <;> rfl) (hS2)
          apply Tr.done
          · (simp only [go_sem, Mach.cells, Mach.cellsF]) <;> rfl
          · simp [Mach.cells, Mach.cellsF, acell, AV.noref, AV.norefs]
        refine EvC.frzB 19 (by (simp only [go_sem]) <;> rfl) ?_
        apply EvC.seq
        apply EvC.tr
        · apply Tr.run
          · (simp only [go_sem, Mach.cells, Mach.cellsF]) <;> rfl
          · simp [Mach.cells, Mach.cellsF, acell, AV.noref, AV.norefs]
          apply Tr.cons
          · exact .call rfl rfl (by (simp only [go_sem]) <;> rfl) (by (simp only [go_sem]) <;> rfl) (by (simp only [go_sem]) <;> rfl) (by (simp only [go_sem]) <;> rfl) (by (simp only [go_sem]) <;> rfl) (e2)
          apply Tr.done
          · (simp only [go_sem, Mach.cells, Mach.cellsF]) <;> rfl
          · simp [Mach.cells, Mach.cellsF, acell, AV.noref, AV.norefs]
        refine EvC.frzB 28 (by (simp only [go_sem]) <;> rfl) ?_
        refine EvC.seq ?_
        apply EvC.seq
        apply EvC.trd
        · (simp only [go_sem]) <;> rfl
        · simp
        refine EvC.cond_false (by (simp only [go_sem]) <;> rfl) ?_
        refine EvC.skip ?_
        refine EvC.seq ?_
        refine EvC.seq (EvC.rg (by (simp only [go_sem]) <;> rfl) (by simp) ?_)
        refine EvC.cond_true (by (simp only [go_sem]) <;> rfl) ?_
        have kn := nothing_is 3 .zer
        have kr := reachedF_is hF1
        have dr : decide ((64 : Int) < (reachN m d 0 : Int)) = true := decide_eq_true (by omega)
        apply EvC.seq
        apply EvC.tr
        · apply Tr.run
          · (simp only [go_sem, dr, Mach.cells, Mach.cellsF]) <;> rfl
          · simp [Mach.cells, Mach.cellsF]
          apply Tr.cons
          · exact .call rfl rfl (by (simp only [go_sem]) <;> rfl) (by (simp only [go_sem]) <;> rfl) (by (simp only [go_sem]) <;> rfl) (by (simp only [go_sem]) <;> rfl) (by (simp only [go_sem]) <;> rfl) (kn)
          apply Tr.run
          · (simp only [go_sem, dr, Mach.cells, Mach.cellsF]) <;> rfl
          · simp [Mach.cells, Mach.cellsF]
          apply Tr.cons
          · exact .callG rfl rfl (by (simp only [go_sem]) <;> rfl) rfl (by (simp only [go_sem]) <;> rfl) (by (simp only [go_sem]) <;> rfl) (by (simp only [go_sem]) <;> rfl) (by (simp only [go_sem]) <;> rfl) (by (simp only [go_sem]) <;> rfl) (kr)
          apply Tr.run
          · (simp only [go_sem, dr, Mach.cells, Mach.cellsF]) <;> rfl
          · simp [Mach.cells, Mach.cellsF]
          apply Tr.cons
          · exact .callG rfl rfl (by (simp only [go_sem]) <;> rfl) rfl (by (simp only [go_sem]) <;> rfl) (by (simp only [go_sem]) <;> rfl) (by (simp only [go_sem]) <;> rfl) (by (simp only [go_sem]) <;> rfl) (by (simp only [go_sem]) <;> rfl) (lives_is)
          apply Tr.done
          · (simp only [go_sem, dr]) <;> rfl
          · simp
        refine EvC.ret ⟨.inl rfl, _, (by (simp only [go_sem]) <;> rfl), ?_, rfl⟩
        simp only [go_sem]
      · apply EvC.seq
        apply EvC.tr
        · apply Tr.run
          · (simp only [go_sem, Mach.cells, Mach.cellsF]) <;> rfl
          · simp [Mach.cells, Mach.cellsF, acell, AV.noref, AV.norefs]
          apply Tr.cons
          · exact .call rfl rfl (by (simp only [go_sem]) <;> rfl) (by (simp only [go_sem]) <;> rfl) (by (simp only [go_sem]) <;> rfl) (by (simp only [go_sem]) <;> rfl) (by (simp only [go_sem]) <;> rfl) (e1)
          apply Tr.done
          · (simp only [go_sem, Mach.cells, Mach.cellsF]) <;> rfl
          · simp [Mach.cells, Mach.cellsF, acell, AV.noref, AV.norefs]
        refine EvC.frzB 10 (by (simp only [go_sem]) <;> rfl) ?_
        apply EvC.seq
        apply EvC.tr
        · apply Tr.run
          · (simp only [go_sem, Mach.cells, Mach.cellsF]) <;> rfl
          · simp [Mach.cells, Mach.cellsF, acell, AV.noref, AV.norefs]
          apply Tr.cons
          · exact .call rfl rfl (by (simp only [go_sem]) <;> rfl) (by (simp only [go_sem]) <;> rfl) (by (simp only [go_sem]) <;> rfl) (by (simp only [go_sem]) <;> rfl) (by (simp only [go_sem]) <;> rfl) (hS2)
          apply Tr.done
          · (simp only [go_sem, Mach.cells, Mach.cellsF]) <;> rfl
          · simp [Mach.cells, Mach.cellsF, acell, AV.noref, AV.norefs]
        refine EvC.frzB 19 (by (simp only [go_sem]) <;> rfl) ?_
        apply EvC.seq
        apply EvC.tr
        · apply Tr.run
          · (simp only [go_sem, Mach.cells, Mach.cellsF]) <;> rfl
          · simp [Mach.cells, Mach.cellsF, acell, AV.noref, AV.norefs]
          apply Tr.cons
          · exact .call rfl rfl (by (simp only [go_sem]) <;> rfl) (by (simp only [go_sem]) <;> rfl) (by (simp only [go_sem]) <;> rfl) (by (simp only [go_sem]) <;> rfl) (by (simp only [go_sem]) <;> rfl) (e2)
          apply Tr.done
          · (simp only [go_sem, Mach.cells, Mach.cellsF]) <;> rfl
          · simp [Mach.cells, Mach.cellsF, acell, AV.noref, AV.norefs]
        refine EvC.frzB 28 (by (simp only [go_sem]) <;> rfl) ?_
        refine EvC.seq ?_
        apply EvC.seq
        apply EvC.trd
        · (simp only [go_sem]) <;> rfl
        · simp
        refine EvC.cond_false (by (simp only [go_sem]) <;> rfl) ?_
        refine EvC.skip ?_
        refine EvC.seq ?_
        refine EvC.seq (EvC.rg (by (simp only [go_sem]) <;> rfl) (by simp) ?_)
        refine EvC.cond_false (by (simp only [go_sem]) <;> rfl) ?_
        refine EvC.skip ?_
        apply EvC.seq
        apply EvC.tr
        · apply Tr.run
          · (simp only [go_sem, Mach.cells, Mach.cellsF]) <;> rfl
          · simp [Mach.cells, Mach.cellsF, acell, AV.noref, AV.norefs]
          apply Tr.cons
          · exact .call rfl rfl (by (simp only [go_sem]) <;> rfl) (by (simp only [go_sem]) <;> rfl) (by (simp only [go_sem]) <;> rfl) (by (simp only [go_sem]) <;> rfl) (by (simp only [go_sem]) <;> rfl) (e3)
          apply Tr.run
          · (simp only [go_sem, Mach.cells, Mach.cellsF]) <;> rfl
          · simp [Mach.cells, Mach.cellsF, acell, AV.noref, AV.norefs]
          apply Tr.cons
          · exact .callG rfl rfl (by (simp only [go_sem]) <;> rfl) rfl (by (simp only [go_sem]) <;> rfl) (by (simp only [go_sem]) <;> rfl) (by (simp only [go_sem]) <;> rfl) (by (simp only [go_sem]) <;> rfl) (by (simp only [go_sem]) <;> rfl) (lives_is)
          apply Tr.done
          · (simp only [go_sem, Mach.cells, Mach.cellsF]) <;> rfl
          · simp [Mach.cells, Mach.cellsF, acell, AV.noref, AV.norefs]
        refine EvC.ret ⟨.inl rfl, _, (by (simp only [go_sem]) <;> rfl), ?_, rfl⟩
        simp only [go_sem]
    have hkl : k < W.length := by simpa using hc
    clear hc
    refine EvC.skip ?_
    refine EvC.seq ?_
    refine EvC.block ?_  -- 3
    refine EvC.seq (EvC.rg (by (simp only [go_sem]) <;> rfl) (by simp) ?_)
    refine EvC.seq ?_
    refine EvC.seq (EvC.rg (by (simp only [go_sem]) <;> rfl) (by simp) ?_)
    by_cases h1 : k < T.length
    · have d3 : decide ((k : Int) < T.length) = true := decide_eq_true (by omega)
      have hlk : l2[k]? = some (l2[k]'(by omega)) := List.getElem?_eq_getElem (by omega)
      have hrk : r[k]? = some (l2[k]'(by omega)) := by rw [hrun, List.getElem?_append_left (by omega)]; exact hlk
      generalize l2[k]'(by omega) = y at hlk hrk
      refine EvC.cond_true (by (simp only [go_sem, d3]) <;> rfl) ?_
      refine EvC.rg (by (simp only [go_sem, hlk, intC]) <;> rfl) (by simp; try omega) ?_
      refine EvC.seq (EvC.rg (by (simp only [go_sem, hrk, intC]) <;> rfl) (by simp; try omega) ?_)
      refine EvC.cond_false (by (simp only [go_sem, decide_true]) <;> rfl) ?_
      refine EvC.skip ?_
      refine EvC.rg (by (simp only [go_sem]) <;> rfl) (by exact inI64_of (by omega) (by omega)) ?_
      exact ⟨[], k + 1, rfl, (by (simp only [go_sem, Mach.cells, Mach.cellsF, Int.natCast_add, Int.natCast_one]) <;> rfl), hkl, by omega⟩
    have d3 : decide ((k : Int) < T.length) = false := decide_eq_false (by omega)
    have hrk : r[k]? = some (-1) := by rw [hrun, List.getElem?_append_right (by omega), List.getElem?_replicate, if_pos (by omega)]
    refine EvC.cond_false (by (simp only [go_sem, d3]) <;> rfl) ?_
    refine EvC.skip ?_
    refine EvC.seq (EvC.rg (by (simp only [go_sem, hrk, intC]) <;> rfl) (by simp; try omega) ?_)
    refine EvC.cond_false (by (simp only [go_sem, decide_true]) <;> rfl) ?_
    refine EvC.skip ?_
    refine EvC.rg (by (simp only [go_sem]) <;> rfl) (by exact inI64_of (by omega) (by omega)) ?_
    exact ⟨[], k + 1, rfl, (by (simp only [go_sem, Mach.cells, Mach.cellsF, Int.natCast_add, Int.natCast_one]) <;> rfl), hkl, by omega⟩
end Go.Avl
namespace Go.Proofs.Ytbiifplfohnpeaa
open Go Go.Avl Go.Proofs Go.ChangeShapes Go.RowKit
section
variable {H : Type} {enc : TypeId × Value → H} {w : World}
/-- A machine and a word. -/
abbrev ZW := LM × WB
def ZW.cells (x : ZW) : List AV := [.sc (.int .u8 x.1.st), .sc (.int .u8 x.1.ins), .sc (.int .u8 x.1.outs), .sc (.bool x.1.part), .sl x.1.nl (x.1.es.map u16C) x.1.cap, .sl x.2.1 (x.2.2.map u8C) .unk]
theorem rd_Z : Reads enc Try.prog w 29 ZW.cells (fun x => x.1.Ok ∧ x.2.Ok) := by
  have := (Reads.struct (enc := enc) (w := w) (tot := 6) Try.underlying29 (by kernel_rfl) (.cons (sz := 5) rfl (by kernel_rfl) rfl rd_LM (.cons (sz := 1) rfl (by kernel_rfl) rfl rd_W .nil)))
  exact this.mono fun a h => ⟨(a.1, a.2.1), ⟨h.1, h.2.1⟩, rfl⟩
end
end Go.Proofs.Ytbiifplfohnpeaa
namespace Go.Proofs.Ytbiifplfohnpeaa
open Go Go.Avl Go.Proofs Go.ChangeShapes Go.RowKit

set_option maxRecDepth 100000 in
theorem joinsSeries_lifted (os : Os) (started : os.Started) (H : Type) (enc : TypeId × Value → H) :
    ReturnsInHanded {} Try.checked os 3 .any (Rows.joinsSeriesSpec.pre6 enc Try.prog Try.f3 Rows.joinsSeriesRow.domain false) (Rows.joinsSeriesSpec.post enc Try.prog Try.f3 false true false false) := by
  refine returnsInHanded_of_change_sized (C := Try.checked) Try.own started (by kernel_rfl) Try.func3
    (ChangeSpec.witness6 (enc := enc) (C := Try.checked) false ⟨#[], #[.agg #[.int .u8 0, .int .u8 0, .int .u8 0, .bool false, .slice none 0 0], .agg #[.int .u8 0, .int .u8 0, .int .u8 0, .bool false, .slice none 0 0], .agg #[.int .u8 0, .int .u8 0, .int .u8 0, .bool false, .slice none 0 0, .slice none 0 0]], []⟩ 8 (by kernel_rfl) (by kernel_rfl) (by kernel_rfl) (by kernel_rfl)) ?_
  intro W base args ds gs before hval hW _ hz _
  have hW' := hW
  obtain ⟨p, q, hA, hV, rfl, _, _⟩ := hW'
  obtain ⟨rfl, rfl⟩ := trodVars_none hV
  have hA' : DataW.TrodAll enc Try.prog W 0 (fun _ => true) true [24, 24, 29] args.toList ds p := by rw [← show Try.f3.params.toList = [24, 24, 29] from rfl]; exact hA
  obtain ⟨v0, v1, v2, d0, d1, d2, p0, p1, p2, rfl, rfl, rfl, h0, h1, h2⟩ := trodAll_three hA'
  have hz' : (DataW.weightsEach Try.prog [24, 24, 29] [d0, d1, d2]).all (· ≤ reachBytes) = true := hz
  have hf := fits_each (P := Try.prog) (ts := [24, 24, 29]) (l := [d0, d1, d2]) fun n hn => by simpa using List.all_eq_true.1 hz' n hn
  obtain ⟨x, hx, i0⟩ := rd_LM.imm_struct Try.underlying24 (hval 0 24 v0 rfl rfl) (hf 0 24 d0 rfl rfl) h0
  obtain ⟨y, hy, i1⟩ := rd_LM.imm_struct Try.underlying24 (hval 1 24 v1 rfl rfl) (hf 1 24 d1 rfl rfl) h1
  obtain ⟨z, hz, i2⟩ := rd_Z.imm_struct Try.underlying29 (hval 2 29 v2 rfl rfl) (hf 2 29 d2 rfl rfl) h2
  exact law_calls Try.laidOut (by kernel_rfl) rfl (by kernel_rfl) rfl rfl (joinsSeries_is hx hy hz.1 z.2.1 z.2.2 .unk hz.2) (Imms.append (.one i0) (Imms.append (.one i1) (.one i2))) hW

theorem joinsSeries_holds : Rows.JoinsSeriesSaid :=
  OpenClaim.holds_of_wide 3 Try.f3 rfl rfl rfl rfl rfl rfl rfl ⟨rfl, rfl, rfl, rfl, rfl⟩ rfl rfl rfl rfl rfl (by kernel_rfl) Try.func3 (by kernel_rfl)
    (of_decide_eq_true (by kernel_rfl)) (by unfold Func.isWrapper; first | (rw [if_pos (by decide +kernel)]; kernel_rfl) | (rw [if_neg (by decide +kernel)]; exact ⟨rfl, rfl⟩))
    (fun os started H enc _ => joinsSeries_lifted os started H enc)
#print axioms joinsSeries_holds
end Go.Proofs.Ytbiifplfohnpeaa
