/-
  Lemmas.
  Lemmas.
  Lemmas.
  JoinsRestrict returns true at every input, and each argument reads behind the call as it read before.
  Conditions: those of the given row alone (no others).
-/
import Derived.Test.YtbiifplfohnpeaaPart10
set_option linter.unusedSimpArgs false
set_option linter.unusedVariables false
set_option linter.unnecessarySimpa false
set_option linter.deprecated false
namespace Go.Avl
open Go Go.Proofs.Try
set_option maxRecDepth 10000
set_option linter.unusedSimpArgs false

theorem Valid.check {m : Mach} (h : Valid m) : checkM m = 0 := by
  have h1 := h.ins
  have h2 := h.outs
  have h3 := h.rows
  unfold checkM
  rw [if_neg (by omega), if_neg (by omega), if_pos]
  rw [List.all_eq_true]
  intro r hr
  obtain ⟨k1, k2⟩ := h.row r hr
  simp only [rowOk, Bool.and_eq_true, decide_eq_true_eq, Bool.not_eq_true', List.any_eq_false]
  exact ⟨k1, fun e he => by simpa using k2 e he⟩
theorem ints_unk (l : List Int) : AV.unkss (l.map intC) = l.map intC := unkss_map intC (fun _ => rfl) l
theorem Valid.small {q : Mach} (hq : Valid q) : ∀ r ∈ q.rows, r.2.length < 1000000 := by
  intro r hr
  have h1 := (hq.row r hr).1
  have h2 := hq.ins
  omega
theorem runF_is {m : Mach} (hv : Valid m) (nl : Bool) (w : List Int) (c : Cp) (hw : ∀ a ∈ w, 0 ≤ a ∧ a < m.ins) (hl : w.length < 1000000) (s : Int) (hs : s < m.rows.length) :
    PureIs prog 17 [.ag m.cellsF, .sc (.int .i64 s), .sl nl (w.map intC) c] (.sl (runR m s w).isEmpty ((runR m s w).map intC) .unk) := by
  refine PureIs.weak ?_
  simp only [List.map_cons, List.map_nil, AV.unk, Mach.cellsF_unk, ints_unk]
  exact run04_is hv s hs nl w .unk hw hl
theorem LM.valid {x : LM} (h : x.Ok) : Valid x.mach := by
  obtain ⟨b1, b2, b3, b4, b5, b6, -, -⟩ := LM.bounds h
  have hl : x.mach.rows.length = x.n := by simp [LM.mach]
  refine ⟨⟨by show (1 : Int) ≤ x.i; omega, by show (x.i : Int) ≤ 16; omega⟩, ⟨b5, by show x.o ≤ 16; omega⟩, by rw [hl]; omega, fun r hr => ?_⟩
  rw [hl]
  simp only [LM.mach, List.mem_map, List.mem_range] at hr ⊢
  obtain ⟨s, hs, rfl⟩ := hr
  refine ⟨by simp [LM.row], fun e he => ?_⟩
  simp only [LM.row, List.mem_map, List.mem_range] at he
  obtain ⟨i, hi, rfl⟩ := he
  obtain ⟨v1, v2⟩ := LM.v_ok h s i
  unfold LM.edge
  split
  · simp [fitsR]
  · have h1 := Int.emod_nonneg (x.v s i / 4) (b := x.n) (by omega)
    have h2 := Int.emod_lt_of_pos (x.v s i / 4) (b := x.n) (by omega)
    have h3 := Int.emod_nonneg (x.v s i / 4 / x.n) (b := x.o) (by omega)
    have h4 := Int.emod_lt_of_pos (x.v s i / 4 / x.n) (b := x.o) (by omega)
    simp [fitsR, h1, h2, h3, h4]
theorem wOf_ok {l : List Int} {n : Int} (hn : 1 ≤ n) : ∀ a ∈ wOf l n, 0 ≤ a ∧ a < n := by
  intro a ha
  simp only [wOf, List.mem_map] at ha
  obtain ⟨y, -, rfl⟩ := ha
  exact ⟨Int.emod_nonneg _ (by omega), Int.emod_lt_of_pos _ (by omega)⟩
theorem wOf_len (l : List Int) (n : Int) : (wOf l n).length ≤ 12 := by simp [wOf]; omega
theorem runR_len (m : Mach) : ∀ (s : Int) (w : List Int), (runR m s w).length = w.length
  | _, [] => rfl
  | s, a :: w => by simp only [runR, List.length_cons]; rw [runR_len m _ w]
/-! ### Machines, edge by edge -/
theorem eAt_fit {m : Mach} (hv : Valid m) {s i : Nat} (hs : s < m.rows.length) (hi : (i : Int) < m.ins) : ∃ r, m.rows[s]? = some r ∧ r.2[i]? = some (eAt m s i) ∧ (isNone (eAt m s i) = true ∨ (0 ≤ (eAt m s i).1 ∧ (eAt m s i).1 < m.rows.length ∧ 0 ≤ (eAt m s i).2 ∧ (eAt m s i).2 < m.outs)) := by
  have h1 : m.rows[s]? = some m.rows[s] := List.getElem?_eq_getElem hs
  obtain ⟨h2, h3⟩ := hv.row _ (List.getElem_mem hs)
  have h4 : (m.rows[s]).2[i]? = some ((m.rows[s]).2[i]'(by omega)) := List.getElem?_eq_getElem _
  have he := eAt_get h1 h4
  refine ⟨_, h1, by rw [he]; exact h4, ?_⟩
  have hf := fits_edge (h3 _ (List.getElem_mem (show i < (m.rows[s]).2.length by omega)))
  rw [he]
  rcases hf with h | h
  · left; simp [isNone, h]
  · exact .inr h
/-- A machine given by a table is valid. -/
theorem valid_tab {ins outs : Int} {nl : Bool} {n N : Nat} {f : Nat → Nat → Int × Int} (hN : ins = (N : Int)) (h1 : 1 ≤ N ∧ N ≤ 16) (h2 : 1 ≤ outs ∧ outs ≤ 16) (h3 : 1 ≤ n ∧ n ≤ 64)
    (hf : ∀ s i, s < n → i < N → isNone (f s i) = true ∨ (0 ≤ (f s i).1 ∧ (f s i).1 < n ∧ 0 ≤ (f s i).2 ∧ (f s i).2 < outs)) : Valid ⟨ins, outs, nl, (List.range n).map fun s => (false, (List.range N).map (f s))⟩ := by
  refine ⟨by simp only; omega, h2, by simpa using h3, fun r hr => ?_⟩
  obtain ⟨s, hs, rfl⟩ := List.mem_map.1 hr
  refine ⟨by simp [hN], fun e he => ?_⟩
  obtain ⟨i, hi, rfl⟩ := List.mem_map.1 he
  simp only [List.length_map, List.length_range]
  have := hf s i (List.mem_range.1 hs) (List.mem_range.1 hi)
  unfold fitsR
  rcases this with h | h
  · unfold isNone at h; simp only [Bool.and_eq_true, decide_eq_true_eq] at h; simp [h.1, h.2]
  · simp [h.1, h.2.1, h.2.2.1, h.2.2.2]
theorem eAt_tab {ins outs : Int} {nl : Bool} {n N : Nat} {f : Nat → Nat → Int × Int} {s i : Nat} (hs : s < n) (hi : i < N) : eAt ⟨ins, outs, nl, (List.range n).map fun s => (false, (List.range N).map (f s))⟩ s i = f s i := by
  refine eAt_get (r := (false, (List.range N).map (f s))) ?_ ?_
  · simp only; rw [List.getElem?_map, List.getElem?_range hs]; rfl
  · simp only; rw [List.getElem?_map, List.getElem?_range hi]; rfl
/-- A valid machine is its table. -/
theorem rows_tab {m : Mach} (hv : Valid m) {N : Nat} (hN : m.ins = (N : Int)) : m.rows.map (·.2) = (List.range m.rows.length).map fun s => (List.range N).map (eAt m s) := by
  refine List.ext_getElem (by simp) fun s h1 h2 => ?_
  simp only [List.getElem_map, List.getElem_range]
  have hs : s < m.rows.length := by simpa using h1
  have hr := (hv.row _ (List.getElem_mem hs)).1
  refine List.ext_getElem (by simp; omega) fun i k1 k2 => ?_
  simp only [List.getElem_map, List.getElem_range]
  exact (eAt_get (List.getElem?_eq_getElem hs) (List.getElem?_eq_getElem k1)).symm
theorem stepR_eAt {m : Mach} {s : Nat} {a : Int} (ha : 0 ≤ a) : stepR m (s : Int) a = eAt m s a.toNat := by
  rw [eAt_stepR, Int.toNat_of_nonneg ha]
theorem stepR_neg {m : Mach} {s a : Int} (hs : s < 0) : stepR m s a = (-1, -1) := by rw [stepR, if_pos hs]
/-- Responses, one step after the other, along a relation of states. -/
theorem runR_rel {m m' : Mach} {R : Int → Int → Prop} {g : Int → Int} {h : Int → Int} (hs : ∀ s s' a, R s s' → 0 ≤ a → a < m.ins → R (stepR m s a).1 (stepR m' s' (h a)).1 ∧ (stepR m' s' (h a)).2 = g (stepR m s a).2) :
    ∀ (w : List Int) (s s' : Int), R s s' → (∀ a ∈ w, 0 ≤ a ∧ a < m.ins) → runR m' s' (w.map h) = (runR m s w).map g
  | [], _, _, _, _ => rfl
  | a :: w, s, s', hR, hw => by
    obtain ⟨h0, h1⟩ := hw a List.mem_cons_self
    obtain ⟨k1, k2⟩ := hs s s' a hR h0 h1
    simp only [List.map_cons, runR]
    rw [k2, runR_rel hs w _ _ k1 fun b hb => hw b (List.mem_cons_of_mem _ hb)]

end Go.Avl
namespace Go.Avl
open Go Go.Proofs.Try
set_option maxRecDepth 10000
set_option linter.unusedSimpArgs false

/-! ### Restricted machines -/
def gAt (l : List Int) (i : Int) : Int := (l[i.toNat]?).getD 0
def resF (m : Mach) (l : List Int) (s k : Nat) : Int × Int := eAt m s (gAt l k).toNat
theorem map_gAt {α : Type} (f : Int → α) (l : List Int) : l.map f = (List.range l.length).map fun k : Nat => f (gAt l k) := by
  refine List.ext_getElem (by simp) fun k h1 h2 => ?_
  have : k < l.length := by simpa using h1
  simp [gAt, this]
theorem resM_tab (m : Mach) (l : List Int) : resM m l = ⟨l.length, m.outs, false, (List.range m.rows.length).map fun s => (false, (List.range l.length).map (resF m l s))⟩ := by
  unfold resM resRow
  congr 1
  refine List.map_congr_left fun s _ => ?_
  rw [map_gAt]; rfl
theorem gAt_mem {l : List Int} {k : Nat} (h : k < l.length) : gAt l k ∈ l := by
  simp [gAt, h]
theorem gAt_get {l : List Int} {k : Nat} {x : Int} (h : l[k]? = some x) : gAt l k = x := by simp [gAt, h]
theorem resM_valid {m : Mach} (hv : Valid m) {l : List Int} (hl : l.length ≤ 16) (ho : okIns m l = true) : Valid (resM m l) := by
  obtain ⟨h1, -, h3⟩ := okIns_true.1 ho
  have h4 : 1 ≤ l.length := by
    cases l with
    | nil => exact absurd rfl h3
    | cons a b => simp
  rw [resM_tab]
  refine valid_tab rfl ⟨h4, hl⟩ hv.outs hv.rows fun s k hs hk => ?_
  have hg := h1 _ (gAt_mem hk)
  obtain ⟨_, _, _, h⟩ := eAt_fit hv hs (show (((gAt l k).toNat : Nat) : Int) < m.ins by omega)
  exact h
theorem resM_len (m : Mach) (l : List Int) : (resM m l).rows.length = m.rows.length := by simp [resM]
theorem resM_step {m : Mach} {l : List Int} (ho : okIns m l = true) {s k : Int} (hs : s < m.rows.length) (hk : 0 ≤ k ∧ k < l.length) : stepR (resM m l) s k = stepR m s (gAt l k) := by
  by_cases hn : s < 0
  · rw [stepR_neg hn, stepR_neg hn]
  obtain ⟨s, rfl⟩ : ∃ t : Nat, s = t := ⟨s.toNat, by omega⟩
  obtain ⟨k, rfl⟩ : ∃ t : Nat, k = t := ⟨k.toNat, by omega⟩
  have hg := (okIns_true.1 ho).1 _ (gAt_mem (l := l) (k := k) (by omega))
  rw [stepR_eAt (by omega), stepR_eAt hg.1, resM_tab, eAt_tab (by omega) (by omega)]
  rfl
theorem afterR_rel {m m' : Mach} {R : Int → Int → Prop} {h : Int → Int} (hs : ∀ s s' a, R s s' → 0 ≤ a → a < m.ins → R (stepR m s a).1 (stepR m' s' (h a)).1) :
    ∀ (w : List Int) (s s' : Int), R s s' → (∀ a ∈ w, 0 ≤ a ∧ a < m.ins) → R (afterR m s w) (afterR m' s' (w.map h))
  | [], _, _, hR, _ => hR
  | a :: w, s, s', hR, hw => by
    obtain ⟨h0, h1⟩ := hw a List.mem_cons_self
    exact afterR_rel hs w _ _ (hs s s' a hR h0 h1) fun b hb => hw b (List.mem_cons_of_mem _ hb)
theorem resM_rel {m : Mach} (hv : Valid m) {l : List Int} (ho : okIns m l = true) (s s' a : Int) (hR : s' = s ∧ s < m.rows.length) (h0 : 0 ≤ a) (h1 : a < (resM m l).ins) :
    ((stepR m s' (gAt l a)).1 = (stepR (resM m l) s a).1 ∧ (stepR (resM m l) s a).1 < m.rows.length) ∧ (stepR m s' (gAt l a)).2 = (stepR (resM m l) s a).2 := by
  obtain ⟨rfl, hs⟩ := hR
  have h1 : a < l.length := h1
  rw [resM_step ho hs ⟨h0, h1⟩]
  obtain ⟨k, rfl⟩ : ∃ t : Nat, a = t := ⟨a.toNat, by omega⟩
  exact ⟨⟨rfl, stepR_lt hv hs ((okIns_true.1 ho).1 _ (gAt_mem (by omega)))⟩, rfl⟩
theorem resM_run {m : Mach} (hv : Valid m) {l : List Int} (ho : okIns m l = true) {w : List Int} (hw : ∀ a ∈ w, 0 ≤ a ∧ a < (l.length : Int)) {s : Int} (hs : s < m.rows.length) : runR m s (w.map (gAt l)) = runR (resM m l) s w := by
  have := runR_rel (m := resM m l) (m' := m) (R := fun s s' => s' = s ∧ s < m.rows.length) (g := id) (h := gAt l) (fun s s' a hR h0 h1 => resM_rel hv ho s s' a hR h0 h1) w s s ⟨rfl, hs⟩ hw
  simpa using this
theorem resM_after {m : Mach} (hv : Valid m) {l : List Int} (ho : okIns m l = true) {w : List Int} (hw : ∀ a ∈ w, 0 ≤ a ∧ a < (l.length : Int)) {s : Int} (hs : s < m.rows.length) : afterR m s (w.map (gAt l)) = afterR (resM m l) s w :=
  (afterR_rel (m := resM m l) (m' := m) (R := fun s s' => s' = s ∧ s < m.rows.length) (h := gAt l) (fun s s' a hR h0 h1 => (resM_rel hv ho s s' a hR h0 h1).1) w s s ⟨rfl, hs⟩ hw).1
theorem afterF_is {m : Mach} (hv : Valid m) (nl : Bool) (w : List Int) (c : Cp) (hw : ∀ a ∈ w, 0 ≤ a ∧ a < m.ins) (hl : w.length < 1000000) (s : Int) (hs : s < m.rows.length) :
    PureIs prog 31 [.ag m.cellsF, .sc (.int .i64 s), .sl nl (w.map intC) c] (.sc (.int .i64 (afterR m s w))) := by
  refine PureIs.weak ?_
  simp only [List.map_cons, List.map_nil, AV.unk, Mach.cellsF_unk, ints_unk]
  exact after22_is hv w s nl .unk hs hw hl

/-! ### Lists of inputs, as far as they are read -/
def goodB (m : Mach) (l : List Int) : Bool := (l.all fun x => decide (0 ≤ x) && decide (x < m.ins)) && decide l.Nodup
def errO (b : Bool) : Int := if b = true then 0 else 1
theorem okIns_good (m : Mach) (l : List Int) : okIns m l = (goodB m l && !l.isEmpty) := rfl
theorem goodB_snoc (m : Mach) (l : List Int) (x : Int) : goodB m (l ++ [x]) = ((goodB m l && decide (x ∉ l)) && (decide (0 ≤ x) && decide (x < m.ins))) := by
  rw [Bool.eq_iff_iff]
  simp only [goodB, List.all_append, List.all_cons, List.all_nil, Bool.and_true, Bool.and_eq_true, List.all_eq_true, decide_eq_true_eq, List.nodup_append, List.nodup_cons, List.not_mem_nil, not_false_eq_true, List.nodup_nil, and_self, true_and, List.mem_cons, or_false, forall_eq, ne_eq]
  constructor
  · rintro ⟨⟨h1, h2⟩, h3, h4⟩
    exact ⟨⟨⟨h1, h3⟩, fun h => h4 x h rfl⟩, h2⟩
  · rintro ⟨⟨⟨h1, h3⟩, h4⟩, h2⟩
    exact ⟨⟨h1, h2⟩, h3, fun a ha hx => h4 (hx ▸ ha)⟩
theorem errO_false {b : Bool} (h : b = false) : errO b = 1 := by rw [h]; rfl
theorem restrictA_tu (a : Mach) (ha : checkM a = 0) (l : List Int) : ∃ (M : Mach) (cp : Cp) (e : Int), restrictA a l = .tu [.ag [.sc (.int .i64 M.ins), .sc (.int .i64 M.outs), .sl M.nl (M.rows.map rowG) cp], .sc (.int .i64 e)] ∧ ((16 < l.length ∧ M = ⟨0, 0, true, []⟩ ∧ cp = .zer ∧ e = 3) ∨ (l.length ≤ 16 ∧ okIns a l = false ∧ M = ⟨0, 0, true, []⟩ ∧ cp = .zer ∧ e = 1) ∨ (l.length ≤ 16 ∧ okIns a l = true ∧ M = resM a l ∧ cp = .full ∧ e = 0)) := by
  unfold restrictA
  rw [if_neg (by simp [ha])]
  by_cases h : 16 < l.length
  · rw [if_pos h]
    exact ⟨⟨0, 0, true, []⟩, .zer, 3, rfl, .inl ⟨h, rfl, rfl, rfl⟩⟩
  rw [if_neg h]
  by_cases ho : okIns a l = true
  · rw [if_pos ho]
    exact ⟨resM a l, .full, 0, rfl, .inr (.inr ⟨by omega, ho, rfl, rfl, rfl⟩)⟩
  · rw [if_neg ho]
    exact ⟨⟨0, 0, true, []⟩, .zer, 1, rfl, .inr (.inl ⟨by omega, by simpa using ho, rfl, rfl, rfl⟩)⟩
end Go.Avl
namespace Go.Avl
open Go Go.Proofs.Try
set_option maxRecDepth 10000
set_option linter.unusedSimpArgs false

theorem joinsRestrict_is {x : LM} (hx : x.Ok) (nl : Bool) (l : List Int) (c : Cp) (wn : Bool) (w : List Int) (wc : Cp) (hw : ∀ a ∈ w, 0 ≤ a ∧ a < 256) : PureIs prog 7 [.ag x.cells, .sl nl (l.map intC) c, .ag [.sl wn (w.map u8C) wc]] (.sc (.bool true)) := by
  have va := LM.valid hx
  obtain ⟨a, ha⟩ : ∃ a, a = x.mach := ⟨_, rfl⟩
  rw [← ha] at va
  have hA : PureIs prog 12 [.ag [.sc (.int .u8 x.st), .sc (.int .u8 x.ins), .sc (.int .u8 x.outs), .sc (.bool x.part), .sl x.nl (x.es.map u16C) x.cap]] (.ag [.sc (.int .i64 a.ins), .sc (.int .i64 a.outs), .sl a.nl (a.rows.map rowC) .unk]) := by
    have := mOf_is hx; rw [← ha] at this; exact this
  have hra := va.rows
  have hai := va.ins
  refine PureIs.of (nv := 4) (hid := [5, 6, 7, 8, 9, 10, 11, 12, 13, 14, 15, 16, 19, 31, 36, 47, 61, 64, 67, 69, 106, 114, 131, 154]) func7 rfl (by kernel_rfl) (by simp [ntmps7]) fun _ => ?_
  rw [ntmps7, results7]
  refine EvC.seq (EvC.rg (by (simp only [go_sem, Nat.reduceLT, Nat.reduceLeDiff, Nat.reduceEqDiff, Nat.reduceAdd, Nat.reduceSub, Nat.reduceMul, Nat.reduceBEq, Int.reduceToNat, Int.reduceEq, Int.reduceLT, Int.reduceLE, Int.reduceAdd, ↓reduceIte, reduceCtorEq, LM.cells]) <;> rfl) (by simp) ?_)
  refine EvC.seq ?_
  refine EvC.seq (EvC.rg (by (simp only [go_sem, Nat.reduceLT, Nat.reduceLeDiff, Nat.reduceEqDiff, Nat.reduceAdd, Nat.reduceSub, Nat.reduceMul, Nat.reduceBEq, Int.reduceToNat, Int.reduceEq, Int.reduceLT, Int.reduceLE, Int.reduceAdd, ↓reduceIte, reduceCtorEq]) <;> rfl) (by simp) ?_)
  refine EvC.cond (by (simp only [go_sem, Nat.reduceLT, Nat.reduceLeDiff, Nat.reduceEqDiff, Nat.reduceAdd, Nat.reduceSub, Nat.reduceMul, Nat.reduceBEq, Int.reduceToNat, Int.reduceEq, Int.reduceLT, Int.reduceLE, Int.reduceAdd, ↓reduceIte, reduceCtorEq, List.length_map]) <;> rfl) (fun hc => ?_) (fun hc => ?_)
  · -- then
    refine EvC.seq (EvC.rg (by (simp only [go_sem, Nat.reduceLT, Nat.reduceLeDiff, Nat.reduceEqDiff, Nat.reduceAdd, Nat.reduceSub, Nat.reduceMul, Nat.reduceBEq, Int.reduceToNat, Int.reduceEq, Int.reduceLT, Int.reduceLE, Int.reduceAdd, ↓reduceIte, reduceCtorEq]) <;> rfl) (by simp) ?_)
    refine EvC.ret ⟨.inl rfl, _, (by (simp only [go_sem, Nat.reduceLT, Nat.reduceLeDiff, Nat.reduceEqDiff, Nat.reduceAdd, Nat.reduceSub, Nat.reduceMul, Nat.reduceBEq, Int.reduceToNat, Int.reduceEq, Int.reduceLT, Int.reduceLE, Int.reduceAdd, ↓reduceIte, reduceCtorEq]) <;> rfl), ?_, rfl⟩
    simp only [go_sem, Nat.reduceLT, Nat.reduceLeDiff, Nat.reduceEqDiff, Nat.reduceAdd, Nat.reduceSub, Nat.reduceMul, Nat.reduceBEq, Int.reduceToNat, Int.reduceEq, Int.reduceLT, Int.reduceLE, Int.reduceAdd, ↓reduceIte, reduceCtorEq]
  have hl40 : l.length ≤ 40 := by have : ¬ (40 : Int) < l.length := by simpa using hc
                                  omega
  clear hc
  have hRs := restrict_is a va.small nl l c (by omega)
  obtain ⟨M, cp, e, hM, hcs⟩ := restrictA_tu a va.check l
  rw [hM] at hRs
  refine EvC.skip ?_
  apply EvC.seq
  apply EvC.tr
  · apply Tr.run
    · (simp only [go_sem, Nat.reduceLT, Nat.reduceLeDiff, Nat.reduceEqDiff, Nat.reduceAdd, Nat.reduceSub, Nat.reduceMul, Nat.reduceBEq, Int.reduceToNat, Int.reduceEq, Int.reduceLT, Int.reduceLE, Int.reduceAdd, ↓reduceIte, reduceCtorEq]) <;> rfl
    · simp
    apply Tr.cons
    · exact .call rfl rfl (by (simp only [go_sem, Nat.reduceLT, Nat.reduceLeDiff, Nat.reduceEqDiff, Nat.reduceAdd, Nat.reduceSub, Nat.reduceMul, Nat.reduceBEq, Int.reduceToNat, Int.reduceEq, Int.reduceLT, Int.reduceLE, Int.reduceAdd, ↓reduceIte, reduceCtorEq]) <;> rfl) (by (simp only [go_sem, Nat.reduceLT, Nat.reduceLeDiff, Nat.reduceEqDiff, Nat.reduceAdd, Nat.reduceSub, Nat.reduceMul, Nat.reduceBEq, Int.reduceToNat, Int.reduceEq, Int.reduceLT, Int.reduceLE, Int.reduceAdd, ↓reduceIte, reduceCtorEq]) <;> rfl) (by (simp only [go_sem, Nat.reduceLT, Nat.reduceLeDiff, Nat.reduceEqDiff, Nat.reduceAdd, Nat.reduceSub, Nat.reduceMul, Nat.reduceBEq, Int.reduceToNat, Int.reduceEq, Int.reduceLT, Int.reduceLE, Int.reduceAdd, ↓reduceIte, reduceCtorEq]) <;> rfl) (by (simp only [go_sem, Nat.reduceLT, Nat.reduceLeDiff, Nat.reduceEqDiff, Nat.reduceAdd, Nat.reduceSub, Nat.reduceMul, Nat.reduceBEq, Int.reduceToNat, Int.reduceEq, Int.reduceLT, Int.reduceLE, Int.reduceAdd, ↓reduceIte, reduceCtorEq]) <;> rfl) (by (simp only [go_sem, Nat.reduceLT, Nat.reduceLeDiff, Nat.reduceEqDiff, Nat.reduceAdd, Nat.reduceSub, Nat.reduceMul, Nat.reduceBEq, Int.reduceToNat, Int.reduceEq, Int.reduceLT, Int.reduceLE, Int.reduceAdd, ↓reduceIte, reduceCtorEq]) <;> rfl) (hA)
    apply Tr.done
    · (simp only [go_sem, Nat.reduceLT, Nat.reduceLeDiff, Nat.reduceEqDiff, Nat.reduceAdd, Nat.reduceSub, Nat.reduceMul, Nat.reduceBEq, Int.reduceToNat, Int.reduceEq, Int.reduceLT, Int.reduceLE, Int.reduceAdd, ↓reduceIte, reduceCtorEq]) <;> rfl
    · simp
  apply EvC.seq
  apply EvC.tr
  · apply Tr.run
    · (simp only [go_sem, Nat.reduceLT, Nat.reduceLeDiff, Nat.reduceEqDiff, Nat.reduceAdd, Nat.reduceSub, Nat.reduceMul, Nat.reduceBEq, Int.reduceToNat, Int.reduceEq, Int.reduceLT, Int.reduceLE, Int.reduceAdd, ↓reduceIte, reduceCtorEq]) <;> rfl
    · simp
    apply Tr.cons
    · exact .call rfl rfl (by (simp only [go_sem, Nat.reduceLT, Nat.reduceLeDiff, Nat.reduceEqDiff, Nat.reduceAdd, Nat.reduceSub, Nat.reduceMul, Nat.reduceBEq, Int.reduceToNat, Int.reduceEq, Int.reduceLT, Int.reduceLE, Int.reduceAdd, ↓reduceIte, reduceCtorEq]) <;> rfl) (by (simp only [go_sem, Nat.reduceLT, Nat.reduceLeDiff, Nat.reduceEqDiff, Nat.reduceAdd, Nat.reduceSub, Nat.reduceMul, Nat.reduceBEq, Int.reduceToNat, Int.reduceEq, Int.reduceLT, Int.reduceLE, Int.reduceAdd, ↓reduceIte, reduceCtorEq]) <;> rfl) (by (simp only [go_sem, Nat.reduceLT, Nat.reduceLeDiff, Nat.reduceEqDiff, Nat.reduceAdd, Nat.reduceSub, Nat.reduceMul, Nat.reduceBEq, Int.reduceToNat, Int.reduceEq, Int.reduceLT, Int.reduceLE, Int.reduceAdd, ↓reduceIte, reduceCtorEq]) <;> rfl) (by (simp only [go_sem, Nat.reduceLT, Nat.reduceLeDiff, Nat.reduceEqDiff, Nat.reduceAdd, Nat.reduceSub, Nat.reduceMul, Nat.reduceBEq, Int.reduceToNat, Int.reduceEq, Int.reduceLT, Int.reduceLE, Int.reduceAdd, ↓reduceIte, reduceCtorEq]) <;> rfl) (by (simp only [go_sem, Nat.reduceLT, Nat.reduceLeDiff, Nat.reduceEqDiff, Nat.reduceAdd, Nat.reduceSub, Nat.reduceMul, Nat.reduceBEq, Int.reduceToNat, Int.reduceEq, Int.reduceLT, Int.reduceLE, Int.reduceAdd, ↓reduceIte, reduceCtorEq]) <;> rfl) (hRs)
    apply Tr.done
    · (simp only [go_sem, Nat.reduceLT, Nat.reduceLeDiff, Nat.reduceEqDiff, Nat.reduceAdd, Nat.reduceSub, Nat.reduceMul, Nat.reduceBEq, Int.reduceToNat, Int.reduceEq, Int.reduceLT, Int.reduceLE, Int.reduceAdd, ↓reduceIte, reduceCtorEq]) <;> rfl
    · simp
  refine EvC.frzB 1 (by (simp only [go_sem, Nat.reduceLT, Nat.reduceLeDiff, Nat.reduceEqDiff, Nat.reduceAdd, Nat.reduceSub, Nat.reduceMul, Nat.reduceBEq, Int.reduceToNat, Int.reduceEq, Int.reduceLT, Int.reduceLE, Int.reduceAdd, ↓reduceIte, reduceCtorEq]) <;> rfl) ?_
  refine EvC.frzB 8 (by (simp only [go_sem, Nat.reduceLT, Nat.reduceLeDiff, Nat.reduceEqDiff, Nat.reduceAdd, Nat.reduceSub, Nat.reduceMul, Nat.reduceBEq, Int.reduceToNat, Int.reduceEq, Int.reduceLT, Int.reduceLE, Int.reduceAdd, ↓reduceIte, reduceCtorEq]) <;> rfl) ?_
  refine EvC.frzB 16 (by (simp only [go_sem, Nat.reduceLT, Nat.reduceLeDiff, Nat.reduceEqDiff, Nat.reduceAdd, Nat.reduceSub, Nat.reduceMul, Nat.reduceBEq, Int.reduceToNat, Int.reduceEq, Int.reduceLT, Int.reduceLE, Int.reduceAdd, ↓reduceIte, reduceCtorEq]) <;> rfl) ?_
  obtain ⟨Mc, hMc⟩ : ∃ Mc : List AV, Mc = [.sc (.int .i64 M.ins), .sc (.int .i64 M.outs), .sl M.nl (M.rows.map rowG) cp] := ⟨_, rfl⟩
  have hMn : AV.norefs Mc = true := by rw [hMc]; simp [AV.norefs, AV.noref]
  rw [← hMc]
  refine EvC.seq (EvC.rg (by (simp only [go_sem, Nat.reduceLT, Nat.reduceLeDiff, Nat.reduceEqDiff, Nat.reduceAdd, Nat.reduceSub, Nat.reduceMul, Nat.reduceBEq, Int.reduceToNat, Int.reduceEq, Int.reduceLT, Int.reduceLE, Int.reduceAdd, ↓reduceIte, reduceCtorEq]) <;> rfl) (by simp) ?_)
  refine EvC.seq ?_
  refine EvC.seq (EvC.rg (by (simp only [go_sem, Nat.reduceLT, Nat.reduceLeDiff, Nat.reduceEqDiff, Nat.reduceAdd, Nat.reduceSub, Nat.reduceMul, Nat.reduceBEq, Int.reduceToNat, Int.reduceEq, Int.reduceLT, Int.reduceLE, Int.reduceAdd, ↓reduceIte, reduceCtorEq]) <;> rfl) (by simp) ?_)
  refine EvC.block ?_  -- 0
  refine EvC.loopS (σ := Nat) (fun k => ⟨[(1, .sl nl (l.map intC) c), (5, .ia [.sl wn (w.map u8C) wc]), (7, .ia a.cells), (8, .ia Mc), (9, .sc (.int .i64 e)), (10, .sc (.int .i64 (errO (goodB a (l.take k))))), (11, .sc (.int .i64 k))], [], [], 0⟩) (fun k => l.length - k) (fun k => k ≤ l.length) [1, 5, 7, 8, 9, 10, 11] 0 ?_ ?_
  · exact ⟨[], 0, rfl, (by (simp only [go_sem, Nat.reduceLT, Nat.reduceLeDiff, Nat.reduceEqDiff, Nat.reduceAdd, Nat.reduceSub, Nat.reduceMul, Nat.reduceBEq, Int.reduceToNat, Int.reduceEq, Int.reduceLT, Int.reduceLE, Int.reduceAdd, ↓reduceIte, reduceCtorEq, Mach.cells, Int.natCast_zero, List.take_zero, errO, goodB, List.all_nil, List.nodup_nil, decide_true, Bool.and_true]) <;> rfl), Nat.zero_le _⟩
  intro k hk
  refine EvC.seq ?_
  refine EvC.seq (EvC.rg (by (simp only [go_sem, Nat.reduceLT, Nat.reduceLeDiff, Nat.reduceEqDiff, Nat.reduceAdd, Nat.reduceSub, Nat.reduceMul, Nat.reduceBEq, Int.reduceToNat, Int.reduceEq, Int.reduceLT, Int.reduceLE, Int.reduceAdd, ↓reduceIte, reduceCtorEq, List.length_map]) <;> rfl) (by simp) ?_)
  refine EvC.cond (by (simp only [go_sem, Nat.reduceLT, Nat.reduceLeDiff, Nat.reduceEqDiff, Nat.reduceAdd, Nat.reduceSub, Nat.reduceMul, Nat.reduceBEq, Int.reduceToNat, Int.reduceEq, Int.reduceLT, Int.reduceLE, Int.reduceAdd, ↓reduceIte, reduceCtorEq]) <;> rfl) (fun hc => ?_) (fun hc => ?_)
  rotate_left
  · -- else
    refine EvC.exit ?_  -- 0
    obtain rfl : l.length = k := by have : ¬ k < l.length := by simpa using hc
                                    omega
    clear hc
    rw [List.take_length]
    rcases hcs with ⟨h16, rfl, rfl, rfl⟩ | ⟨h16, ho, rfl, rfl, rfl⟩ | ⟨h16, ho, hMm, rfl, rfl⟩
    · -- too many
      have d0 : decide ((l.length : Int) = 0) = false := decide_eq_false (by omega)
      have d1 : decide ((16 : Int) < l.length) = true := decide_eq_true (by omega)
      subst hMc
      refine EvC.seq ?_
      refine EvC.seq (EvC.rg (by (simp only [go_sem, Nat.reduceLT, Nat.reduceLeDiff, Nat.reduceEqDiff, Nat.reduceAdd, Nat.reduceSub, Nat.reduceMul, Nat.reduceBEq, Int.reduceToNat, Int.reduceEq, Int.reduceLT, Int.reduceLE, Int.reduceAdd, ↓reduceIte, reduceCtorEq, List.length_map]) <;> rfl) (by simp) ?_)
      refine EvC.cond_false (by (simp only [go_sem, Nat.reduceLT, Nat.reduceLeDiff, Nat.reduceEqDiff, Nat.reduceAdd, Nat.reduceSub, Nat.reduceMul, Nat.reduceBEq, Int.reduceToNat, Int.reduceEq, Int.reduceLT, Int.reduceLE, Int.reduceAdd, ↓reduceIte, reduceCtorEq, d0]) <;> rfl) ?_
      refine EvC.skip ?_
      refine EvC.seq ?_
      refine EvC.seq (EvC.rg (by (simp only [go_sem, Nat.reduceLT, Nat.reduceLeDiff, Nat.reduceEqDiff, Nat.reduceAdd, Nat.reduceSub, Nat.reduceMul, Nat.reduceBEq, Int.reduceToNat, Int.reduceEq, Int.reduceLT, Int.reduceLE, Int.reduceAdd, ↓reduceIte, reduceCtorEq, List.length_map]) <;> rfl) (by simp) ?_)
      refine EvC.cond_true (by (simp only [go_sem, Nat.reduceLT, Nat.reduceLeDiff, Nat.reduceEqDiff, Nat.reduceAdd, Nat.reduceSub, Nat.reduceMul, Nat.reduceBEq, Int.reduceToNat, Int.reduceEq, Int.reduceLT, Int.reduceLE, Int.reduceAdd, ↓reduceIte, reduceCtorEq, d1]) <;> rfl) ?_
      refine EvC.rg (by (simp only [go_sem, Nat.reduceLT, Nat.reduceLeDiff, Nat.reduceEqDiff, Nat.reduceAdd, Nat.reduceSub, Nat.reduceMul, Nat.reduceBEq, Int.reduceToNat, Int.reduceEq, Int.reduceLT, Int.reduceLE, Int.reduceAdd, ↓reduceIte, reduceCtorEq]) <;> rfl) (by simp) ?_
      refine EvC.seq ?_
      refine EvC.seq (EvC.rg (by (simp only [go_sem, Nat.reduceLT, Nat.reduceLeDiff, Nat.reduceEqDiff, Nat.reduceAdd, Nat.reduceSub, Nat.reduceMul, Nat.reduceBEq, Int.reduceToNat, Int.reduceEq, Int.reduceLT, Int.reduceLE, Int.reduceAdd, ↓reduceIte, reduceCtorEq]) <;> rfl) (by simp) ?_)
      refine EvC.cond_true (by (simp only [go_sem, Nat.reduceLT, Nat.reduceLeDiff, Nat.reduceEqDiff, Nat.reduceAdd, Nat.reduceSub, Nat.reduceMul, Nat.reduceBEq, Int.reduceToNat, Int.reduceEq, Int.reduceLT, Int.reduceLE, Int.reduceAdd, ↓reduceIte, reduceCtorEq]) <;> rfl) ?_
      apply EvC.seq
      apply EvC.tr
      · apply Tr.run
        · (simp only [go_sem, Nat.reduceLT, Nat.reduceLeDiff, Nat.reduceEqDiff, Nat.reduceAdd, Nat.reduceSub, Nat.reduceMul, Nat.reduceBEq, Int.reduceToNat, Int.reduceEq, Int.reduceLT, Int.reduceLE, Int.reduceAdd, ↓reduceIte, reduceCtorEq]) <;> rfl
        · simp
        apply Tr.cons
        · exact .call rfl rfl (by (simp only [go_sem, Nat.reduceLT, Nat.reduceLeDiff, Nat.reduceEqDiff, Nat.reduceAdd, Nat.reduceSub, Nat.reduceMul, Nat.reduceBEq, Int.reduceToNat, Int.reduceEq, Int.reduceLT, Int.reduceLE, Int.reduceAdd, ↓reduceIte, reduceCtorEq]) <;> rfl) (by (simp only [go_sem, Nat.reduceLT, Nat.reduceLeDiff, Nat.reduceEqDiff, Nat.reduceAdd, Nat.reduceSub, Nat.reduceMul, Nat.reduceBEq, Int.reduceToNat, Int.reduceEq, Int.reduceLT, Int.reduceLE, Int.reduceAdd, ↓reduceIte, reduceCtorEq]) <;> rfl) (by (simp only [go_sem, Nat.reduceLT, Nat.reduceLeDiff, Nat.reduceEqDiff, Nat.reduceAdd, Nat.reduceSub, Nat.reduceMul, Nat.reduceBEq, Int.reduceToNat, Int.reduceEq, Int.reduceLT, Int.reduceLE, Int.reduceAdd, ↓reduceIte, reduceCtorEq]) <;> rfl) (by (simp only [go_sem, Nat.reduceLT, Nat.reduceLeDiff, Nat.reduceEqDiff, Nat.reduceAdd, Nat.reduceSub, Nat.reduceMul, Nat.reduceBEq, Int.reduceToNat, Int.reduceEq, Int.reduceLT, Int.reduceLE, Int.reduceAdd, ↓reduceIte, reduceCtorEq]) <;> rfl) (by (simp only [go_sem, Nat.reduceLT, Nat.reduceLeDiff, Nat.reduceEqDiff, Nat.reduceAdd, Nat.reduceSub, Nat.reduceMul, Nat.reduceBEq, Int.reduceToNat, Int.reduceEq, Int.reduceLT, Int.reduceLE, Int.reduceAdd, ↓reduceIte, reduceCtorEq]) <;> rfl) (nothing_is 3 .zer)
        apply Tr.run
        · (simp only [go_sem, Nat.reduceLT, Nat.reduceLeDiff, Nat.reduceEqDiff, Nat.reduceAdd, Nat.reduceSub, Nat.reduceMul, Nat.reduceBEq, Int.reduceToNat, Int.reduceEq, Int.reduceLT, Int.reduceLE, Int.reduceAdd, ↓reduceIte, reduceCtorEq]) <;> rfl
        · simp
        apply Tr.cons
        · exact .callG rfl rfl (by (simp only [go_sem, Nat.reduceLT, Nat.reduceLeDiff, Nat.reduceEqDiff, Nat.reduceAdd, Nat.reduceSub, Nat.reduceMul, Nat.reduceBEq, Int.reduceToNat, Int.reduceEq, Int.reduceLT, Int.reduceLE, Int.reduceAdd, ↓reduceIte, reduceCtorEq]) <;> rfl) rfl (by (simp only [go_sem, Nat.reduceLT, Nat.reduceLeDiff, Nat.reduceEqDiff, Nat.reduceAdd, Nat.reduceSub, Nat.reduceMul, Nat.reduceBEq, Int.reduceToNat, Int.reduceEq, Int.reduceLT, Int.reduceLE, Int.reduceAdd, ↓reduceIte, reduceCtorEq]) <;> rfl) (by (simp only [go_sem, Nat.reduceLT, Nat.reduceLeDiff, Nat.reduceEqDiff, Nat.reduceAdd, Nat.reduceSub, Nat.reduceMul, Nat.reduceBEq, Int.reduceToNat, Int.reduceEq, Int.reduceLT, Int.reduceLE, Int.reduceAdd, ↓reduceIte, reduceCtorEq]) <;> rfl) (by (simp only [go_sem, Nat.reduceLT, Nat.reduceLeDiff, Nat.reduceEqDiff, Nat.reduceAdd, Nat.reduceSub, Nat.reduceMul, Nat.reduceBEq, Int.reduceToNat, Int.reduceEq, Int.reduceLT, Int.reduceLE, Int.reduceAdd, ↓reduceIte, reduceCtorEq]) <;> rfl) (by (simp only [go_sem, Nat.reduceLT, Nat.reduceLeDiff, Nat.reduceEqDiff, Nat.reduceAdd, Nat.reduceSub, Nat.reduceMul, Nat.reduceBEq, Int.reduceToNat, Int.reduceEq, Int.reduceLT, Int.reduceLE, Int.reduceAdd, ↓reduceIte, reduceCtorEq]) <;> rfl) (by (simp only [go_sem, Nat.reduceLT, Nat.reduceLeDiff, Nat.reduceEqDiff, Nat.reduceAdd, Nat.reduceSub, Nat.reduceMul, Nat.reduceBEq, Int.reduceToNat, Int.reduceEq, Int.reduceLT, Int.reduceLE, Int.reduceAdd, ↓reduceIte, reduceCtorEq]) <;> rfl) (lives_is)
        apply Tr.done
        · (simp only [go_sem, Nat.reduceLT, Nat.reduceLeDiff, Nat.reduceEqDiff, Nat.reduceAdd, Nat.reduceSub, Nat.reduceMul, Nat.reduceBEq, Int.reduceToNat, Int.reduceEq, Int.reduceLT, Int.reduceLE, Int.reduceAdd, ↓reduceIte, reduceCtorEq]) <;> rfl
        · simp
      refine EvC.ret ⟨.inl rfl, _, (by (simp only [go_sem, Nat.reduceLT, Nat.reduceLeDiff, Nat.reduceEqDiff, Nat.reduceAdd, Nat.reduceSub, Nat.reduceMul, Nat.reduceBEq, Int.reduceToNat, Int.reduceEq, Int.reduceLT, Int.reduceLE, Int.reduceAdd, ↓reduceIte, reduceCtorEq]) <;> rfl), ?_, rfl⟩
      simp only [go_sem, Nat.reduceLT, Nat.reduceLeDiff, Nat.reduceEqDiff, Nat.reduceAdd, Nat.reduceSub, Nat.reduceMul, Nat.reduceBEq, Int.reduceToNat, Int.reduceEq, Int.reduceLT, Int.reduceLE, Int.reduceAdd, ↓reduceIte, reduceCtorEq]
    · -- no list of inputs
      have d1 : decide ((16 : Int) < l.length) = false := decide_eq_false (by omega)
      subst hMc
      refine EvC.seq ?_
      refine EvC.seq (EvC.rg (by (simp only [go_sem, Nat.reduceLT, Nat.reduceLeDiff, Nat.reduceEqDiff, Nat.reduceAdd, Nat.reduceSub, Nat.reduceMul, Nat.reduceBEq, Int.reduceToNat, Int.reduceEq, Int.reduceLT, Int.reduceLE, Int.reduceAdd, ↓reduceIte, reduceCtorEq, List.length_map]) <;> rfl) (by simp) ?_)
      by_cases h0 : l.length = 0
      · have d0 : decide ((l.length : Int) = 0) = true := decide_eq_true (by omega)
        refine EvC.cond_true (by (simp only [go_sem, Nat.reduceLT, Nat.reduceLeDiff, Nat.reduceEqDiff, Nat.reduceAdd, Nat.reduceSub, Nat.reduceMul, Nat.reduceBEq, Int.reduceToNat, Int.reduceEq, Int.reduceLT, Int.reduceLE, Int.reduceAdd, ↓reduceIte, reduceCtorEq, d0]) <;> rfl) ?_
        refine EvC.rg (by (simp only [go_sem, Nat.reduceLT, Nat.reduceLeDiff, Nat.reduceEqDiff, Nat.reduceAdd, Nat.reduceSub, Nat.reduceMul, Nat.reduceBEq, Int.reduceToNat, Int.reduceEq, Int.reduceLT, Int.reduceLE, Int.reduceAdd, ↓reduceIte, reduceCtorEq]) <;> rfl) (by simp) ?_
        refine EvC.seq ?_
        refine EvC.seq (EvC.rg (by (simp only [go_sem, Nat.reduceLT, Nat.reduceLeDiff, Nat.reduceEqDiff, Nat.reduceAdd, Nat.reduceSub, Nat.reduceMul, Nat.reduceBEq, Int.reduceToNat, Int.reduceEq, Int.reduceLT, Int.reduceLE, Int.reduceAdd, ↓reduceIte, reduceCtorEq, List.length_map]) <;> rfl) (by simp) ?_)
        refine EvC.cond_false (by (simp only [go_sem, Nat.reduceLT, Nat.reduceLeDiff, Nat.reduceEqDiff, Nat.reduceAdd, Nat.reduceSub, Nat.reduceMul, Nat.reduceBEq, Int.reduceToNat, Int.reduceEq, Int.reduceLT, Int.reduceLE, Int.reduceAdd, ↓reduceIte, reduceCtorEq, d1]) <;> rfl) ?_
        refine EvC.skip ?_
        refine EvC.seq ?_
        refine EvC.seq (EvC.rg (by (simp only [go_sem, Nat.reduceLT, Nat.reduceLeDiff, Nat.reduceEqDiff, Nat.reduceAdd, Nat.reduceSub, Nat.reduceMul, Nat.reduceBEq, Int.reduceToNat, Int.reduceEq, Int.reduceLT, Int.reduceLE, Int.reduceAdd, ↓reduceIte, reduceCtorEq]) <;> rfl) (by simp) ?_)
        refine EvC.cond_true (by (simp only [go_sem, Nat.reduceLT, Nat.reduceLeDiff, Nat.reduceEqDiff, Nat.reduceAdd, Nat.reduceSub, Nat.reduceMul, Nat.reduceBEq, Int.reduceToNat, Int.reduceEq, Int.reduceLT, Int.reduceLE, Int.reduceAdd, ↓reduceIte, reduceCtorEq]) <;> rfl) ?_
        apply EvC.seq
        apply EvC.tr
        · apply Tr.run
          · (simp only [go_sem, Nat.reduceLT, Nat.reduceLeDiff, Nat.reduceEqDiff, Nat.reduceAdd, Nat.reduceSub, Nat.reduceMul, Nat.reduceBEq, Int.reduceToNat, Int.reduceEq, Int.reduceLT, Int.reduceLE, Int.reduceAdd, ↓reduceIte, reduceCtorEq]) <;> rfl
          · simp
          apply Tr.cons
          · exact .call rfl rfl (by (simp only [go_sem, Nat.reduceLT, Nat.reduceLeDiff, Nat.reduceEqDiff, Nat.reduceAdd, Nat.reduceSub, Nat.reduceMul, Nat.reduceBEq, Int.reduceToNat, Int.reduceEq, Int.reduceLT, Int.reduceLE, Int.reduceAdd, ↓reduceIte, reduceCtorEq]) <;> rfl) (by (simp only [go_sem, Nat.reduceLT, Nat.reduceLeDiff, Nat.reduceEqDiff, Nat.reduceAdd, Nat.reduceSub, Nat.reduceMul, Nat.reduceBEq, Int.reduceToNat, Int.reduceEq, Int.reduceLT, Int.reduceLE, Int.reduceAdd, ↓reduceIte, reduceCtorEq]) <;> rfl) (by (simp only [go_sem, Nat.reduceLT, Nat.reduceLeDiff, Nat.reduceEqDiff, Nat.reduceAdd, Nat.reduceSub, Nat.reduceMul, Nat.reduceBEq, Int.reduceToNat, Int.reduceEq, Int.reduceLT, Int.reduceLE, Int.reduceAdd, ↓reduceIte, reduceCtorEq]) <;> rfl) (by (simp only [go_sem, Nat.reduceLT, Nat.reduceLeDiff, Nat.reduceEqDiff, Nat.reduceAdd, Nat.reduceSub, Nat.reduceMul, Nat.reduceBEq, Int.reduceToNat, Int.reduceEq, Int.reduceLT, Int.reduceLE, Int.reduceAdd, ↓reduceIte, reduceCtorEq]) <;> rfl) (by (simp only [go_sem, Nat.reduceLT, Nat.reduceLeDiff, Nat.reduceEqDiff, Nat.reduceAdd, Nat.reduceSub, Nat.reduceMul, Nat.reduceBEq, Int.reduceToNat, Int.reduceEq, Int.reduceLT, Int.reduceLE, Int.reduceAdd, ↓reduceIte, reduceCtorEq]) <;> rfl) (nothing_is 1 .zer)
          apply Tr.run
          · (simp only [go_sem, Nat.reduceLT, Nat.reduceLeDiff, Nat.reduceEqDiff, Nat.reduceAdd, Nat.reduceSub, Nat.reduceMul, Nat.reduceBEq, Int.reduceToNat, Int.reduceEq, Int.reduceLT, Int.reduceLE, Int.reduceAdd, ↓reduceIte, reduceCtorEq]) <;> rfl
          · simp
          apply Tr.cons
          · exact .callG rfl rfl (by (simp only [go_sem, Nat.reduceLT, Nat.reduceLeDiff, Nat.reduceEqDiff, Nat.reduceAdd, Nat.reduceSub, Nat.reduceMul, Nat.reduceBEq, Int.reduceToNat, Int.reduceEq, Int.reduceLT, Int.reduceLE, Int.reduceAdd, ↓reduceIte, reduceCtorEq]) <;> rfl) rfl (by (simp only [go_sem, Nat.reduceLT, Nat.reduceLeDiff, Nat.reduceEqDiff, Nat.reduceAdd, Nat.reduceSub, Nat.reduceMul, Nat.reduceBEq, Int.reduceToNat, Int.reduceEq, Int.reduceLT, Int.reduceLE, Int.reduceAdd, ↓reduceIte, reduceCtorEq]) <;> rfl) (by (simp only [go_sem, Nat.reduceLT, Nat.reduceLeDiff, Nat.reduceEqDiff, Nat.reduceAdd, Nat.reduceSub, Nat.reduceMul, Nat.reduceBEq, Int.reduceToNat, Int.reduceEq, Int.reduceLT, Int.reduceLE, Int.reduceAdd, ↓reduceIte, reduceCtorEq]) <;> rfl) (by (simp only [go_sem, Nat.reduceLT, Nat.reduceLeDiff, Nat.reduceEqDiff, Nat.reduceAdd, Nat.reduceSub, Nat.reduceMul, Nat.reduceBEq, Int.reduceToNat, Int.reduceEq, Int.reduceLT, Int.reduceLE, Int.reduceAdd, ↓reduceIte, reduceCtorEq]) <;> rfl) (by (simp only [go_sem, Nat.reduceLT, Nat.reduceLeDiff, Nat.reduceEqDiff, Nat.reduceAdd, Nat.reduceSub, Nat.reduceMul, Nat.reduceBEq, Int.reduceToNat, Int.reduceEq, Int.reduceLT, Int.reduceLE, Int.reduceAdd, ↓reduceIte, reduceCtorEq]) <;> rfl) (by (simp only [go_sem, Nat.reduceLT, Nat.reduceLeDiff, Nat.reduceEqDiff, Nat.reduceAdd, Nat.reduceSub, Nat.reduceMul, Nat.reduceBEq, Int.reduceToNat, Int.reduceEq, Int.reduceLT, Int.reduceLE, Int.reduceAdd, ↓reduceIte, reduceCtorEq]) <;> rfl) (lives_is)
          apply Tr.done
          · (simp only [go_sem, Nat.reduceLT, Nat.reduceLeDiff, Nat.reduceEqDiff, Nat.reduceAdd, Nat.reduceSub, Nat.reduceMul, Nat.reduceBEq, Int.reduceToNat, Int.reduceEq, Int.reduceLT, Int.reduceLE, Int.reduceAdd, ↓reduceIte, reduceCtorEq]) <;> rfl
          · simp
        refine EvC.ret ⟨.inl rfl, _, (by (simp only [go_sem, Nat.reduceLT, Nat.reduceLeDiff, Nat.reduceEqDiff, Nat.reduceAdd, Nat.reduceSub, Nat.reduceMul, Nat.reduceBEq, Int.reduceToNat, Int.reduceEq, Int.reduceLT, Int.reduceLE, Int.reduceAdd, ↓reduceIte, reduceCtorEq]) <;> rfl), ?_, rfl⟩
        simp only [go_sem, Nat.reduceLT, Nat.reduceLeDiff, Nat.reduceEqDiff, Nat.reduceAdd, Nat.reduceSub, Nat.reduceMul, Nat.reduceBEq, Int.reduceToNat, Int.reduceEq, Int.reduceLT, Int.reduceLE, Int.reduceAdd, ↓reduceIte, reduceCtorEq]
      have d0 : decide ((l.length : Int) = 0) = false := decide_eq_false (by omega)
      have hg : errO (goodB a l) = 1 := by
        apply errO_false
        rw [okIns_good] at ho
        cases l with
        | nil => simp at h0
        | cons b t => simpa using ho
      refine EvC.cond_false (by (simp only [go_sem, Nat.reduceLT, Nat.reduceLeDiff, Nat.reduceEqDiff, Nat.reduceAdd, Nat.reduceSub, Nat.reduceMul, Nat.reduceBEq, Int.reduceToNat, Int.reduceEq, Int.reduceLT, Int.reduceLE, Int.reduceAdd, ↓reduceIte, reduceCtorEq, d0]) <;> rfl) ?_
      refine EvC.skip ?_
      refine EvC.seq ?_
      refine EvC.seq (EvC.rg (by (simp only [go_sem, Nat.reduceLT, Nat.reduceLeDiff, Nat.reduceEqDiff, Nat.reduceAdd, Nat.reduceSub, Nat.reduceMul, Nat.reduceBEq, Int.reduceToNat, Int.reduceEq, Int.reduceLT, Int.reduceLE, Int.reduceAdd, ↓reduceIte, reduceCtorEq, List.length_map]) <;> rfl) (by simp) ?_)
      refine EvC.cond_false (by (simp only [go_sem, Nat.reduceLT, Nat.reduceLeDiff, Nat.reduceEqDiff, Nat.reduceAdd, Nat.reduceSub, Nat.reduceMul, Nat.reduceBEq, Int.reduceToNat, Int.reduceEq, Int.reduceLT, Int.reduceLE, Int.reduceAdd, ↓reduceIte, reduceCtorEq, d1]) <;> rfl) ?_
      refine EvC.skip ?_
      refine EvC.seq ?_
      refine EvC.seq (EvC.rg (by (simp only [go_sem, Nat.reduceLT, Nat.reduceLeDiff, Nat.reduceEqDiff, Nat.reduceAdd, Nat.reduceSub, Nat.reduceMul, Nat.reduceBEq, Int.reduceToNat, Int.reduceEq, Int.reduceLT, Int.reduceLE, Int.reduceAdd, ↓reduceIte, reduceCtorEq, hg]) <;> rfl) (by simp) ?_)
      refine EvC.cond_true (by (simp only [go_sem, Nat.reduceLT, Nat.reduceLeDiff, Nat.reduceEqDiff, Nat.reduceAdd, Nat.reduceSub, Nat.reduceMul, Nat.reduceBEq, Int.reduceToNat, Int.reduceEq, Int.reduceLT, Int.reduceLE, Int.reduceAdd, ↓reduceIte, reduceCtorEq]) <;> rfl) ?_
      apply EvC.seq
      apply EvC.tr
      · apply Tr.run
        · (simp only [go_sem, Nat.reduceLT, Nat.reduceLeDiff, Nat.reduceEqDiff, Nat.reduceAdd, Nat.reduceSub, Nat.reduceMul, Nat.reduceBEq, Int.reduceToNat, Int.reduceEq, Int.reduceLT, Int.reduceLE, Int.reduceAdd, ↓reduceIte, reduceCtorEq]) <;> rfl
        · simp
        apply Tr.cons
        · exact .call rfl rfl (by (simp only [go_sem, Nat.reduceLT, Nat.reduceLeDiff, Nat.reduceEqDiff, Nat.reduceAdd, Nat.reduceSub, Nat.reduceMul, Nat.reduceBEq, Int.reduceToNat, Int.reduceEq, Int.reduceLT, Int.reduceLE, Int.reduceAdd, ↓reduceIte, reduceCtorEq]) <;> rfl) (by (simp only [go_sem, Nat.reduceLT, Nat.reduceLeDiff, Nat.reduceEqDiff, Nat.reduceAdd, Nat.reduceSub, Nat.reduceMul, Nat.reduceBEq, Int.reduceToNat, Int.reduceEq, Int.reduceLT, Int.reduceLE, Int.reduceAdd, ↓reduceIte, reduceCtorEq]) <;> rfl) (by (simp only [go_sem, Nat.reduceLT, Nat.reduceLeDiff, Nat.reduceEqDiff, Nat.reduceAdd, Nat.reduceSub, Nat.reduceMul, Nat.reduceBEq, Int.reduceToNat, Int.reduceEq, Int.reduceLT, Int.reduceLE, Int.reduceAdd, ↓reduceIte, reduceCtorEq]) <;> rfl) (by (simp only [go_sem, Nat.reduceLT, Nat.reduceLeDiff, Nat.reduceEqDiff, Nat.reduceAdd, Nat.reduceSub, Nat.reduceMul, Nat.reduceBEq, Int.reduceToNat, Int.reduceEq, Int.reduceLT, Int.reduceLE, Int.reduceAdd, ↓reduceIte, reduceCtorEq]) <;> rfl) (by (simp only [go_sem, Nat.reduceLT, Nat.reduceLeDiff, Nat.reduceEqDiff, Nat.reduceAdd, Nat.reduceSub, Nat.reduceMul, Nat.reduceBEq, Int.reduceToNat, Int.reduceEq, Int.reduceLT, Int.reduceLE, Int.reduceAdd, ↓reduceIte, reduceCtorEq]) <;> rfl) (nothing_is 1 .zer)
        apply Tr.run
        · (simp only [go_sem, Nat.reduceLT, Nat.reduceLeDiff, Nat.reduceEqDiff, Nat.reduceAdd, Nat.reduceSub, Nat.reduceMul, Nat.reduceBEq, Int.reduceToNat, Int.reduceEq, Int.reduceLT, Int.reduceLE, Int.reduceAdd, ↓reduceIte, reduceCtorEq]) <;> rfl
        · simp
        apply Tr.cons
        · exact .callG rfl rfl (by (simp only [go_sem, Nat.reduceLT, Nat.reduceLeDiff, Nat.reduceEqDiff, Nat.reduceAdd, Nat.reduceSub, Nat.reduceMul, Nat.reduceBEq, Int.reduceToNat, Int.reduceEq, Int.reduceLT, Int.reduceLE, Int.reduceAdd, ↓reduceIte, reduceCtorEq]) <;> rfl) rfl (by (simp only [go_sem, Nat.reduceLT, Nat.reduceLeDiff, Nat.reduceEqDiff, Nat.reduceAdd, Nat.reduceSub, Nat.reduceMul, Nat.reduceBEq, Int.reduceToNat, Int.reduceEq, Int.reduceLT, Int.reduceLE, Int.reduceAdd, ↓reduceIte, reduceCtorEq]) <;> rfl) (by (simp only [go_sem, Nat.reduceLT, Nat.reduceLeDiff, Nat.reduceEqDiff, Nat.reduceAdd, Nat.reduceSub, Nat.reduceMul, Nat.reduceBEq, Int.reduceToNat, Int.reduceEq, Int.reduceLT, Int.reduceLE, Int.reduceAdd, ↓reduceIte, reduceCtorEq]) <;> rfl) (by (simp only [go_sem, Nat.reduceLT, Nat.reduceLeDiff, Nat.reduceEqDiff, Nat.reduceAdd, Nat.reduceSub, Nat.reduceMul, Nat.reduceBEq, Int.reduceToNat, Int.reduceEq, Int.reduceLT, Int.reduceLE, Int.reduceAdd, ↓reduceIte, reduceCtorEq]) <;> rfl) (by (simp only [go_sem, Nat.reduceLT, Nat.reduceLeDiff, Nat.reduceEqDiff, Nat.reduceAdd, Nat.reduceSub, Nat.reduceMul, Nat.reduceBEq, Int.reduceToNat, Int.reduceEq, Int.reduceLT, Int.reduceLE, Int.reduceAdd, ↓reduceIte, reduceCtorEq]) <;> rfl) (by (simp only [go_sem, Nat.reduceLT, Nat.reduceLeDiff, Nat.reduceEqDiff, Nat.reduceAdd, Nat.reduceSub, Nat.reduceMul, Nat.reduceBEq, Int.reduceToNat, Int.reduceEq, Int.reduceLT, Int.reduceLE, Int.reduceAdd, ↓reduceIte, reduceCtorEq]) <;> rfl) (lives_is)
        apply Tr.done
        · (simp only [go_sem, Nat.reduceLT, Nat.reduceLeDiff, Nat.reduceEqDiff, Nat.reduceAdd, Nat.reduceSub, Nat.reduceMul, Nat.reduceBEq, Int.reduceToNat, Int.reduceEq, Int.reduceLT, Int.reduceLE, Int.reduceAdd, ↓reduceIte, reduceCtorEq]) <;> rfl
        · simp
      refine EvC.ret ⟨.inl rfl, _, (by (simp only [go_sem, Nat.reduceLT, Nat.reduceLeDiff, Nat.reduceEqDiff, Nat.reduceAdd, Nat.reduceSub, Nat.reduceMul, Nat.reduceBEq, Int.reduceToNat, Int.reduceEq, Int.reduceLT, Int.reduceLE, Int.reduceAdd, ↓reduceIte, reduceCtorEq]) <;> rfl), ?_, rfl⟩
      simp only [go_sem, Nat.reduceLT, Nat.reduceLeDiff, Nat.reduceEqDiff, Nat.reduceAdd, Nat.reduceSub, Nat.reduceMul, Nat.reduceBEq, Int.reduceToNat, Int.reduceEq, Int.reduceLT, Int.reduceLE, Int.reduceAdd, ↓reduceIte, reduceCtorEq]
    -- a list of inputs
    have h0 : l.length ≠ 0 := by
      intro h
      exact (okIns_true.1 ho).2.2 (List.eq_nil_of_length_eq_zero h)
    have d0 : decide ((l.length : Int) = 0) = false := decide_eq_false (by omega)
    have d1 : decide ((16 : Int) < l.length) = false := decide_eq_false (by omega)
    have hg : errO (goodB a l) = 0 := by
      rw [okIns_good, Bool.and_eq_true] at ho
      rw [ho.1]; rfl
    obtain ⟨m, hm⟩ : ∃ m, m = resM a l := ⟨_, rfl⟩
    have hMc' : Mc = m.cellsF := by rw [hMc, hMm, hm]; rfl
    have vm : Valid m := by rw [hm]; exact resM_valid va h16 ho
    have hmi : m.ins = (l.length : Int) := by rw [hm]; rfl
    have hmo : m.outs = a.outs := by rw [hm]; rfl
    have hml : m.rows.length = a.rows.length := by rw [hm]; exact resM_len a l
    clear hMc hMn
    subst hMc'
    obtain ⟨W, hW⟩ : ∃ W, W = wOf w l.length := ⟨_, rfl⟩
    have hWl : W.length ≤ 12 := by rw [hW]; exact wOf_len _ _
    have hWo : ∀ v ∈ W, 0 ≤ v ∧ v < (l.length : Int) := by rw [hW]; exact wOf_ok (by omega)
    have hWC : PureIs prog 13 [.ag [.sl wn (w.map u8C) wc], .sc (.int .i64 l.length)] (.sl W.isEmpty (W.map intC) .unk) := by
      rw [hW]; exact wOf_is wn w wc l.length (by omega) hw
    refine EvC.seq ?_
    refine EvC.seq (EvC.rg (by (simp only [go_sem, Nat.reduceLT, Nat.reduceLeDiff, Nat.reduceEqDiff, Nat.reduceAdd, Nat.reduceSub, Nat.reduceMul, Nat.reduceBEq, Int.reduceToNat, Int.reduceEq, Int.reduceLT, Int.reduceLE, Int.reduceAdd, ↓reduceIte, reduceCtorEq, List.length_map]) <;> rfl) (by simp) ?_)
    refine EvC.cond_false (by (simp only [go_sem, Nat.reduceLT, Nat.reduceLeDiff, Nat.reduceEqDiff, Nat.reduceAdd, Nat.reduceSub, Nat.reduceMul, Nat.reduceBEq, Int.reduceToNat, Int.reduceEq, Int.reduceLT, Int.reduceLE, Int.reduceAdd, ↓reduceIte, reduceCtorEq, d0]) <;> rfl) ?_
    refine EvC.skip ?_
    refine EvC.seq ?_
    refine EvC.seq (EvC.rg (by (simp only [go_sem, Nat.reduceLT, Nat.reduceLeDiff, Nat.reduceEqDiff, Nat.reduceAdd, Nat.reduceSub, Nat.reduceMul, Nat.reduceBEq, Int.reduceToNat, Int.reduceEq, Int.reduceLT, Int.reduceLE, Int.reduceAdd, ↓reduceIte, reduceCtorEq, List.length_map]) <;> rfl) (by simp) ?_)
    refine EvC.cond_false (by (simp only [go_sem, Nat.reduceLT, Nat.reduceLeDiff, Nat.reduceEqDiff, Nat.reduceAdd, Nat.reduceSub, Nat.reduceMul, Nat.reduceBEq, Int.reduceToNat, Int.reduceEq, Int.reduceLT, Int.reduceLE, Int.reduceAdd, ↓reduceIte, reduceCtorEq, d1]) <;> rfl) ?_
    refine EvC.skip ?_
    refine EvC.seq ?_
    refine EvC.seq (EvC.rg (by (simp only [go_sem, Nat.reduceLT, Nat.reduceLeDiff, Nat.reduceEqDiff, Nat.reduceAdd, Nat.reduceSub, Nat.reduceMul, Nat.reduceBEq, Int.reduceToNat, Int.reduceEq, Int.reduceLT, Int.reduceLE, Int.reduceAdd, ↓reduceIte, reduceCtorEq, hg]) <;> rfl) (by simp) ?_)
    refine EvC.cond_false (by (simp only [go_sem, Nat.reduceLT, Nat.reduceLeDiff, Nat.reduceEqDiff, Nat.reduceAdd, Nat.reduceSub, Nat.reduceMul, Nat.reduceBEq, Int.reduceToNat, Int.reduceEq, Int.reduceLT, Int.reduceLE, Int.reduceAdd, ↓reduceIte, reduceCtorEq]) <;> rfl) ?_
    refine EvC.skip ?_
    refine EvC.seq ?_
    have hCl : PureIs prog 16 [.ag [.sc (.int .i64 l.length), .sc (.int .i64 a.outs), .sl m.nl (m.rows.map rowG) .full]] (.sc (.bool true)) := by
      have := clipped_is m (by omega)
      rwa [Mach.cellsF, hmi, hmo] at this
    apply EvC.seq
    apply EvC.tr
    · apply Tr.run
      · (simp only [go_sem, Nat.reduceLT, Nat.reduceLeDiff, Nat.reduceEqDiff, Nat.reduceAdd, Nat.reduceSub, Nat.reduceMul, Nat.reduceBEq, Int.reduceToNat, Int.reduceEq, Int.reduceLT, Int.reduceLE, Int.reduceAdd, ↓reduceIte, reduceCtorEq, Mach.cells, Mach.cellsF, List.length_map, hmi, hmo, hml, decide_true]) <;> rfl
      · simp
      apply Tr.cons
      · exact .callG rfl rfl (by (simp only [go_sem, Nat.reduceLT, Nat.reduceLeDiff, Nat.reduceEqDiff, Nat.reduceAdd, Nat.reduceSub, Nat.reduceMul, Nat.reduceBEq, Int.reduceToNat, Int.reduceEq, Int.reduceLT, Int.reduceLE, Int.reduceAdd, ↓reduceIte, reduceCtorEq]) <;> rfl) rfl (by (simp only [go_sem, Nat.reduceLT, Nat.reduceLeDiff, Nat.reduceEqDiff, Nat.reduceAdd, Nat.reduceSub, Nat.reduceMul, Nat.reduceBEq, Int.reduceToNat, Int.reduceEq, Int.reduceLT, Int.reduceLE, Int.reduceAdd, ↓reduceIte, reduceCtorEq]) <;> rfl) (by (simp only [go_sem, Nat.reduceLT, Nat.reduceLeDiff, Nat.reduceEqDiff, Nat.reduceAdd, Nat.reduceSub, Nat.reduceMul, Nat.reduceBEq, Int.reduceToNat, Int.reduceEq, Int.reduceLT, Int.reduceLE, Int.reduceAdd, ↓reduceIte, reduceCtorEq]) <;> rfl) (by (simp only [go_sem, Nat.reduceLT, Nat.reduceLeDiff, Nat.reduceEqDiff, Nat.reduceAdd, Nat.reduceSub, Nat.reduceMul, Nat.reduceBEq, Int.reduceToNat, Int.reduceEq, Int.reduceLT, Int.reduceLE, Int.reduceAdd, ↓reduceIte, reduceCtorEq]) <;> rfl) (by (simp only [go_sem, Nat.reduceLT, Nat.reduceLeDiff, Nat.reduceEqDiff, Nat.reduceAdd, Nat.reduceSub, Nat.reduceMul, Nat.reduceBEq, Int.reduceToNat, Int.reduceEq, Int.reduceLT, Int.reduceLE, Int.reduceAdd, ↓reduceIte, reduceCtorEq]) <;> rfl) (by (simp only [go_sem, Nat.reduceLT, Nat.reduceLeDiff, Nat.reduceEqDiff, Nat.reduceAdd, Nat.reduceSub, Nat.reduceMul, Nat.reduceBEq, Int.reduceToNat, Int.reduceEq, Int.reduceLT, Int.reduceLE, Int.reduceAdd, ↓reduceIte, reduceCtorEq]) <;> rfl) (hCl)
      apply Tr.done
      · (simp only [go_sem, Nat.reduceLT, Nat.reduceLeDiff, Nat.reduceEqDiff, Nat.reduceAdd, Nat.reduceSub, Nat.reduceMul, Nat.reduceBEq, Int.reduceToNat, Int.reduceEq, Int.reduceLT, Int.reduceLE, Int.reduceAdd, ↓reduceIte, reduceCtorEq, Mach.cells, Mach.cellsF, List.length_map, hmi, hmo, hml, decide_true]) <;> rfl
      · simp
    refine EvC.cond_false (by (simp only [go_sem, Nat.reduceLT, Nat.reduceLeDiff, Nat.reduceEqDiff, Nat.reduceAdd, Nat.reduceSub, Nat.reduceMul, Nat.reduceBEq, Int.reduceToNat, Int.reduceEq, Int.reduceLT, Int.reduceLE, Int.reduceAdd, ↓reduceIte, reduceCtorEq]) <;> rfl) ?_
    refine EvC.skip ?_
    apply EvC.seq
    apply EvC.tr
    · apply Tr.run
      · (simp only [go_sem, Nat.reduceLT, Nat.reduceLeDiff, Nat.reduceEqDiff, Nat.reduceAdd, Nat.reduceSub, Nat.reduceMul, Nat.reduceBEq, Int.reduceToNat, Int.reduceEq, Int.reduceLT, Int.reduceLE, Int.reduceAdd, ↓reduceIte, reduceCtorEq, List.length_map]) <;> rfl
      · simp
      apply Tr.cons
      · exact .call rfl rfl (by (simp only [go_sem, Nat.reduceLT, Nat.reduceLeDiff, Nat.reduceEqDiff, Nat.reduceAdd, Nat.reduceSub, Nat.reduceMul, Nat.reduceBEq, Int.reduceToNat, Int.reduceEq, Int.reduceLT, Int.reduceLE, Int.reduceAdd, ↓reduceIte, reduceCtorEq]) <;> rfl) (by (simp only [go_sem, Nat.reduceLT, Nat.reduceLeDiff, Nat.reduceEqDiff, Nat.reduceAdd, Nat.reduceSub, Nat.reduceMul, Nat.reduceBEq, Int.reduceToNat, Int.reduceEq, Int.reduceLT, Int.reduceLE, Int.reduceAdd, ↓reduceIte, reduceCtorEq]) <;> rfl) (by (simp only [go_sem, Nat.reduceLT, Nat.reduceLeDiff, Nat.reduceEqDiff, Nat.reduceAdd, Nat.reduceSub, Nat.reduceMul, Nat.reduceBEq, Int.reduceToNat, Int.reduceEq, Int.reduceLT, Int.reduceLE, Int.reduceAdd, ↓reduceIte, reduceCtorEq]) <;> rfl) (by (simp only [go_sem, Nat.reduceLT, Nat.reduceLeDiff, Nat.reduceEqDiff, Nat.reduceAdd, Nat.reduceSub, Nat.reduceMul, Nat.reduceBEq, Int.reduceToNat, Int.reduceEq, Int.reduceLT, Int.reduceLE, Int.reduceAdd, ↓reduceIte, reduceCtorEq]) <;> rfl) (by (simp only [go_sem, Nat.reduceLT, Nat.reduceLeDiff, Nat.reduceEqDiff, Nat.reduceAdd, Nat.reduceSub, Nat.reduceMul, Nat.reduceBEq, Int.reduceToNat, Int.reduceEq, Int.reduceLT, Int.reduceLE, Int.reduceAdd, ↓reduceIte, reduceCtorEq]) <;> rfl) (hWC)
      apply Tr.done
      · (simp only [go_sem, Nat.reduceLT, Nat.reduceLeDiff, Nat.reduceEqDiff, Nat.reduceAdd, Nat.reduceSub, Nat.reduceMul, Nat.reduceBEq, Int.reduceToNat, Int.reduceEq, Int.reduceLT, Int.reduceLE, Int.reduceAdd, ↓reduceIte, reduceCtorEq]) <;> rfl
      · simp
    refine EvC.seq (EvC.rg (by (simp only [go_sem, Nat.reduceLT, Nat.reduceLeDiff, Nat.reduceEqDiff, Nat.reduceAdd, Nat.reduceSub, Nat.reduceMul, Nat.reduceBEq, Int.reduceToNat, Int.reduceEq, Int.reduceLT, Int.reduceLE, Int.reduceAdd, ↓reduceIte, reduceCtorEq]) <;> rfl) (by simp) ?_)
    refine EvC.seq ?_
    refine EvC.seq (EvC.rg (by (simp only [go_sem, Nat.reduceLT, Nat.reduceLeDiff, Nat.reduceEqDiff, Nat.reduceAdd, Nat.reduceSub, Nat.reduceMul, Nat.reduceBEq, Int.reduceToNat, Int.reduceEq, Int.reduceLT, Int.reduceLE, Int.reduceAdd, ↓reduceIte, reduceCtorEq]) <;> rfl) (by simp) ?_)
    refine EvC.block ?_  -- 4
    refine EvC.loopS (σ := Nat) (fun k => ⟨[(1, .sl nl (l.map intC) c), (7, .ia a.cells), (8, .ia m.cellsF), (13, .sl W.isEmpty (W.map intC) .unk), (14, .tl 0 k (k == 0)), (15, .sc (.int .i64 k))], [], [(0, .arr 1 (((W.take k).map (gAt l)).map intC) true)], 1⟩) (fun k => W.length - k) (fun k => k ≤ W.length) [1, 7, 8, 13, 14, 15] 1 ?_ ?_
    · exact ⟨[(47, 0)], 0, rfl, (by (simp only [go_sem, Nat.reduceLT, Nat.reduceLeDiff, Nat.reduceEqDiff, Nat.reduceAdd, Nat.reduceSub, Nat.reduceMul, Nat.reduceBEq, Int.reduceToNat, Int.reduceEq, Int.reduceLT, Int.reduceLE, Int.reduceAdd, ↓reduceIte, reduceCtorEq, Mach.cells, Mach.cellsF, hmi, hmo, List.take_zero, List.map_nil, Int.natCast_zero]) <;> rfl), Nat.zero_le _⟩
    intro k hk
    have htl : (((W.take k).map (gAt l)).map intC).length = k := by simp; omega
    have htl2 : (W.take k).length = k := by simp; omega
    refine EvC.seq ?_
    refine EvC.seq (EvC.rg (by (simp only [go_sem, Nat.reduceLT, Nat.reduceLeDiff, Nat.reduceEqDiff, Nat.reduceAdd, Nat.reduceSub, Nat.reduceMul, Nat.reduceBEq, Int.reduceToNat, Int.reduceEq, Int.reduceLT, Int.reduceLE, Int.reduceAdd, ↓reduceIte, reduceCtorEq, List.length_map]) <;> rfl) (by simp) ?_)
    refine EvC.cond (by (simp only [go_sem, Nat.reduceLT, Nat.reduceLeDiff, Nat.reduceEqDiff, Nat.reduceAdd, Nat.reduceSub, Nat.reduceMul, Nat.reduceBEq, Int.reduceToNat, Int.reduceEq, Int.reduceLT, Int.reduceLE, Int.reduceAdd, ↓reduceIte, reduceCtorEq]) <;> rfl) (fun hc => ?_) (fun hc => ?_)
    rotate_left
    · -- else
      refine EvC.exit ?_  -- 4
      obtain rfl : W.length = k := by have : ¬ k < W.length := by simpa using hc
                                      omega
      clear hc
      rw [List.take_length] at htl
      obtain ⟨V, hV⟩ : ∃ V, V = W.map (gAt l) := ⟨_, rfl⟩
      have hVl : V.length = W.length := by rw [hV]; simp
      have hVo : ∀ v ∈ V, 0 ≤ v ∧ v < a.ins := by
        intro v hv
        rw [hV] at hv
        obtain ⟨k, hk, rfl⟩ := List.mem_map.1 hv
        obtain ⟨k1, k2⟩ := hWo k hk
        obtain ⟨t, rfl⟩ : ∃ t : Nat, k = t := ⟨k.toNat, by omega⟩
        exact (okIns_true.1 ho).1 _ (gAt_mem (by omega))
      rw [List.take_length, ← hV]
      rw [← hV] at htl
      refine EvC.frz 0 (by (simp only [go_sem, Nat.reduceLT, Nat.reduceLeDiff, Nat.reduceEqDiff, Nat.reduceAdd, Nat.reduceSub, Nat.reduceMul, Nat.reduceBEq, Int.reduceToNat, Int.reduceEq, Int.reduceLT, Int.reduceLE, Int.reduceAdd, ↓reduceIte, reduceCtorEq, htl, List.length_map, hVl]) <;> rfl) ?_
      refine EvC.seq ?_
      refine EvC.seq (EvC.rg (by (simp only [go_sem, Nat.reduceLT, Nat.reduceLeDiff, Nat.reduceEqDiff, Nat.reduceAdd, Nat.reduceSub, Nat.reduceMul, Nat.reduceBEq, Int.reduceToNat, Int.reduceEq, Int.reduceLT, Int.reduceLE, Int.reduceAdd, ↓reduceIte, reduceCtorEq]) <;> rfl) (by simp) ?_)
      refine EvC.block ?_  -- 6
      have hRm := runF_is vm W.isEmpty W .unk (by rw [hmi]; exact hWo) (by omega)
      have hAm := afterF_is vm W.isEmpty W .unk (by rw [hmi]; exact hWo) (by omega)
      have hRa := fun nl c s hs => run04_is va s hs nl V c hVo (by omega)
      have hAa := fun nl c s hs => after22_is va V s nl c hs hVo (by omega)
      refine EvC.loopS (σ := Nat) (fun s => ⟨[(7, .ia a.cells), (8, .ia m.cellsF), (13, .sl W.isEmpty (W.map intC) .unk), (14, .sl (W.length == 0) (V.map intC) .unk), (16, .sc (.int .i64 s))], [], [], 0⟩) (fun s => a.rows.length - s) (fun s => s ≤ a.rows.length) [7, 8, 13, 14, 16] 0 ?_ ?_
      · exact ⟨[], 0, rfl, (by (simp only [go_sem, Nat.reduceLT, Nat.reduceLeDiff, Nat.reduceEqDiff, Nat.reduceAdd, Nat.reduceSub, Nat.reduceMul, Nat.reduceBEq, Int.reduceToNat, Int.reduceEq, Int.reduceLT, Int.reduceLE, Int.reduceAdd, ↓reduceIte, reduceCtorEq, Mach.cells, Mach.cellsF, hmi, hmo, Int.natCast_zero]) <;> rfl), Nat.zero_le _⟩
      intro s hs
      refine EvC.seq ?_
      refine EvC.seq (EvC.rg (by (simp only [go_sem, Nat.reduceLT, Nat.reduceLeDiff, Nat.reduceEqDiff, Nat.reduceAdd, Nat.reduceSub, Nat.reduceMul, Nat.reduceBEq, Int.reduceToNat, Int.reduceEq, Int.reduceLT, Int.reduceLE, Int.reduceAdd, ↓reduceIte, reduceCtorEq, Mach.cells, List.length_map]) <;> rfl) (by simp) ?_)
      refine EvC.cond (by (simp only [go_sem, Nat.reduceLT, Nat.reduceLeDiff, Nat.reduceEqDiff, Nat.reduceAdd, Nat.reduceSub, Nat.reduceMul, Nat.reduceBEq, Int.reduceToNat, Int.reduceEq, Int.reduceLT, Int.reduceLE, Int.reduceAdd, ↓reduceIte, reduceCtorEq]) <;> rfl) (fun hc => ?_) (fun hc => ?_)
      rotate_left
      · -- else
        refine EvC.exit ?_  -- 6
        apply EvC.seq
        apply EvC.tr
        · apply Tr.run
          · (simp only [go_sem, Nat.reduceLT, Nat.reduceLeDiff, Nat.reduceEqDiff, Nat.reduceAdd, Nat.reduceSub, Nat.reduceMul, Nat.reduceBEq, Int.reduceToNat, Int.reduceEq, Int.reduceLT, Int.reduceLE, Int.reduceAdd, ↓reduceIte, reduceCtorEq]) <;> rfl
          · simp
          apply Tr.cons
          · exact .call rfl rfl (by (simp only [go_sem, Nat.reduceLT, Nat.reduceLeDiff, Nat.reduceEqDiff, Nat.reduceAdd, Nat.reduceSub, Nat.reduceMul, Nat.reduceBEq, Int.reduceToNat, Int.reduceEq, Int.reduceLT, Int.reduceLE, Int.reduceAdd, ↓reduceIte, reduceCtorEq]) <;> rfl) (by (simp only [go_sem, Nat.reduceLT, Nat.reduceLeDiff, Nat.reduceEqDiff, Nat.reduceAdd, Nat.reduceSub, Nat.reduceMul, Nat.reduceBEq, Int.reduceToNat, Int.reduceEq, Int.reduceLT, Int.reduceLE, Int.reduceAdd, ↓reduceIte, reduceCtorEq]) <;> rfl) (by (simp only [go_sem, Nat.reduceLT, Nat.reduceLeDiff, Nat.reduceEqDiff, Nat.reduceAdd, Nat.reduceSub, Nat.reduceMul, Nat.reduceBEq, Int.reduceToNat, Int.reduceEq, Int.reduceLT, Int.reduceLE, Int.reduceAdd, ↓reduceIte, reduceCtorEq]) <;> rfl) (by (simp only [go_sem, Nat.reduceLT, Nat.reduceLeDiff, Nat.reduceEqDiff, Nat.reduceAdd, Nat.reduceSub, Nat.reduceMul, Nat.reduceBEq, Int.reduceToNat, Int.reduceEq, Int.reduceLT, Int.reduceLE, Int.reduceAdd, ↓reduceIte, reduceCtorEq]) <;> rfl) (by (simp only [go_sem, Nat.reduceLT, Nat.reduceLeDiff, Nat.reduceEqDiff, Nat.reduceAdd, Nat.reduceSub, Nat.reduceMul, Nat.reduceBEq, Int.reduceToNat, Int.reduceEq, Int.reduceLT, Int.reduceLE, Int.reduceAdd, ↓reduceIte, reduceCtorEq]) <;> rfl) (lives_is)
          apply Tr.done
          · (simp only [go_sem, Nat.reduceLT, Nat.reduceLeDiff, Nat.reduceEqDiff, Nat.reduceAdd, Nat.reduceSub, Nat.reduceMul, Nat.reduceBEq, Int.reduceToNat, Int.reduceEq, Int.reduceLT, Int.reduceLE, Int.reduceAdd, ↓reduceIte, reduceCtorEq]) <;> rfl
          · simp
        refine EvC.ret ⟨.inl rfl, _, (by (simp only [go_sem, Nat.reduceLT, Nat.reduceLeDiff, Nat.reduceEqDiff, Nat.reduceAdd, Nat.reduceSub, Nat.reduceMul, Nat.reduceBEq, Int.reduceToNat, Int.reduceEq, Int.reduceLT, Int.reduceLE, Int.reduceAdd, ↓reduceIte, reduceCtorEq]) <;> rfl), ?_, rfl⟩
        simp only [go_sem, Nat.reduceLT, Nat.reduceLeDiff, Nat.reduceEqDiff, Nat.reduceAdd, Nat.reduceSub, Nat.reduceMul, Nat.reduceBEq, Int.reduceToNat, Int.reduceEq, Int.reduceLT, Int.reduceLE, Int.reduceAdd, ↓reduceIte, reduceCtorEq]
      have hsl : s < a.rows.length := by simpa using hc
      clear hc
      have e1 : runR m s W = runR a s V := by rw [hV, hm, resM_run va ho hWo (by omega)]
      have e2 : afterR m s W = afterR a s V := by rw [hV, hm, resM_after va ho hWo (by omega)]
      have hS : PureIs prog 30 [.sl (runR m s W).isEmpty ((runR m s W).map intC) .unk, .sl (runR a s V).isEmpty ((runR a s V).map intC) .unk] (.sc (.bool true)) := by
        have := same_is (runR m s W).isEmpty (runR m s W) .unk (runR a s V).isEmpty (runR a s V) .unk (by rw [runR_len]; omega)
        rwa [decide_eq_true e1] at this
      refine EvC.skip ?_
      refine EvC.seq ?_
      refine EvC.block ?_  -- 7
      apply EvC.seq
      apply EvC.drw mixed
      · apply Tr.run
        · (simp only [go_sem, Nat.reduceLT, Nat.reduceLeDiff, Nat.reduceEqDiff, Nat.reduceAdd, Nat.reduceSub, Nat.reduceMul, Nat.reduceBEq, Int.reduceToNat, Int.reduceEq, Int.reduceLT, Int.reduceLE, Int.reduceAdd, ↓reduceIte, reduceCtorEq, Mach.cells, Mach.cellsF]) <;> rfl
        · simp
        apply Tr.cons
        · exact .call rfl rfl (by (simp only [go_sem, Nat.reduceLT, Nat.reduceLeDiff, Nat.reduceEqDiff, Nat.reduceAdd, Nat.reduceSub, Nat.reduceMul, Nat.reduceBEq, Int.reduceToNat, Int.reduceEq, Int.reduceLT, Int.reduceLE, Int.reduceAdd, ↓reduceIte, reduceCtorEq]) <;> rfl) (by (simp only [go_sem, Nat.reduceLT, Nat.reduceLeDiff, Nat.reduceEqDiff, Nat.reduceAdd, Nat.reduceSub, Nat.reduceMul, Nat.reduceBEq, Int.reduceToNat, Int.reduceEq, Int.reduceLT, Int.reduceLE, Int.reduceAdd, ↓reduceIte, reduceCtorEq]) <;> rfl) (by (simp only [go_sem, Nat.reduceLT, Nat.reduceLeDiff, Nat.reduceEqDiff, Nat.reduceAdd, Nat.reduceSub, Nat.reduceMul, Nat.reduceBEq, Int.reduceToNat, Int.reduceEq, Int.reduceLT, Int.reduceLE, Int.reduceAdd, ↓reduceIte, reduceCtorEq]) <;> rfl) (by (simp only [go_sem, Nat.reduceLT, Nat.reduceLeDiff, Nat.reduceEqDiff, Nat.reduceAdd, Nat.reduceSub, Nat.reduceMul, Nat.reduceBEq, Int.reduceToNat, Int.reduceEq, Int.reduceLT, Int.reduceLE, Int.reduceAdd, ↓reduceIte, reduceCtorEq]) <;> rfl) (by (simp only [go_sem, Nat.reduceLT, Nat.reduceLeDiff, Nat.reduceEqDiff, Nat.reduceAdd, Nat.reduceSub, Nat.reduceMul, Nat.reduceBEq, Int.reduceToNat, Int.reduceEq, Int.reduceLT, Int.reduceLE, Int.reduceAdd, ↓reduceIte, reduceCtorEq]) <;> rfl) (hRm s (by omega))
        apply Tr.run
        · (simp only [go_sem, Nat.reduceLT, Nat.reduceLeDiff, Nat.reduceEqDiff, Nat.reduceAdd, Nat.reduceSub, Nat.reduceMul, Nat.reduceBEq, Int.reduceToNat, Int.reduceEq, Int.reduceLT, Int.reduceLE, Int.reduceAdd, ↓reduceIte, reduceCtorEq, Mach.cells, Mach.cellsF]) <;> rfl
        · simp
        apply Tr.cons
        · exact .call rfl rfl (by (simp only [go_sem, Nat.reduceLT, Nat.reduceLeDiff, Nat.reduceEqDiff, Nat.reduceAdd, Nat.reduceSub, Nat.reduceMul, Nat.reduceBEq, Int.reduceToNat, Int.reduceEq, Int.reduceLT, Int.reduceLE, Int.reduceAdd, ↓reduceIte, reduceCtorEq]) <;> rfl) (by (simp only [go_sem, Nat.reduceLT, Nat.reduceLeDiff, Nat.reduceEqDiff, Nat.reduceAdd, Nat.reduceSub, Nat.reduceMul, Nat.reduceBEq, Int.reduceToNat, Int.reduceEq, Int.reduceLT, Int.reduceLE, Int.reduceAdd, ↓reduceIte, reduceCtorEq]) <;> rfl) (by (simp only [go_sem, Nat.reduceLT, Nat.reduceLeDiff, Nat.reduceEqDiff, Nat.reduceAdd, Nat.reduceSub, Nat.reduceMul, Nat.reduceBEq, Int.reduceToNat, Int.reduceEq, Int.reduceLT, Int.reduceLE, Int.reduceAdd, ↓reduceIte, reduceCtorEq]) <;> rfl) (by (simp only [go_sem, Nat.reduceLT, Nat.reduceLeDiff, Nat.reduceEqDiff, Nat.reduceAdd, Nat.reduceSub, Nat.reduceMul, Nat.reduceBEq, Int.reduceToNat, Int.reduceEq, Int.reduceLT, Int.reduceLE, Int.reduceAdd, ↓reduceIte, reduceCtorEq]) <;> rfl) (by (simp only [go_sem, Nat.reduceLT, Nat.reduceLeDiff, Nat.reduceEqDiff, Nat.reduceAdd, Nat.reduceSub, Nat.reduceMul, Nat.reduceBEq, Int.reduceToNat, Int.reduceEq, Int.reduceLT, Int.reduceLE, Int.reduceAdd, ↓reduceIte, reduceCtorEq]) <;> rfl) (hRa _ _ s (by omega))
        apply Tr.run
        · (simp only [go_sem, Nat.reduceLT, Nat.reduceLeDiff, Nat.reduceEqDiff, Nat.reduceAdd, Nat.reduceSub, Nat.reduceMul, Nat.reduceBEq, Int.reduceToNat, Int.reduceEq, Int.reduceLT, Int.reduceLE, Int.reduceAdd, ↓reduceIte, reduceCtorEq, Mach.cells, Mach.cellsF]) <;> rfl
        · simp
        apply Tr.cons
        · exact .call rfl rfl (by (simp only [go_sem, Nat.reduceLT, Nat.reduceLeDiff, Nat.reduceEqDiff, Nat.reduceAdd, Nat.reduceSub, Nat.reduceMul, Nat.reduceBEq, Int.reduceToNat, Int.reduceEq, Int.reduceLT, Int.reduceLE, Int.reduceAdd, ↓reduceIte, reduceCtorEq]) <;> rfl) (by (simp only [go_sem, Nat.reduceLT, Nat.reduceLeDiff, Nat.reduceEqDiff, Nat.reduceAdd, Nat.reduceSub, Nat.reduceMul, Nat.reduceBEq, Int.reduceToNat, Int.reduceEq, Int.reduceLT, Int.reduceLE, Int.reduceAdd, ↓reduceIte, reduceCtorEq]) <;> rfl) (by (simp only [go_sem, Nat.reduceLT, Nat.reduceLeDiff, Nat.reduceEqDiff, Nat.reduceAdd, Nat.reduceSub, Nat.reduceMul, Nat.reduceBEq, Int.reduceToNat, Int.reduceEq, Int.reduceLT, Int.reduceLE, Int.reduceAdd, ↓reduceIte, reduceCtorEq]) <;> rfl) (by (simp only [go_sem, Nat.reduceLT, Nat.reduceLeDiff, Nat.reduceEqDiff, Nat.reduceAdd, Nat.reduceSub, Nat.reduceMul, Nat.reduceBEq, Int.reduceToNat, Int.reduceEq, Int.reduceLT, Int.reduceLE, Int.reduceAdd, ↓reduceIte, reduceCtorEq]) <;> rfl) (by (simp only [go_sem, Nat.reduceLT, Nat.reduceLeDiff, Nat.reduceEqDiff, Nat.reduceAdd, Nat.reduceSub, Nat.reduceMul, Nat.reduceBEq, Int.reduceToNat, Int.reduceEq, Int.reduceLT, Int.reduceLE, Int.reduceAdd, ↓reduceIte, reduceCtorEq]) <;> rfl) (hS)
        apply Tr.run
        · (simp only [go_sem, Nat.reduceLT, Nat.reduceLeDiff, Nat.reduceEqDiff, Nat.reduceAdd, Nat.reduceSub, Nat.reduceMul, Nat.reduceBEq, Int.reduceToNat, Int.reduceEq, Int.reduceLT, Int.reduceLE, Int.reduceAdd, ↓reduceIte, reduceCtorEq, Mach.cells, Mach.cellsF]) <;> rfl
        · simp
        apply Tr.cons
        · exact .callG rfl rfl (by (simp only [go_sem, Nat.reduceLT, Nat.reduceLeDiff, Nat.reduceEqDiff, Nat.reduceAdd, Nat.reduceSub, Nat.reduceMul, Nat.reduceBEq, Int.reduceToNat, Int.reduceEq, Int.reduceLT, Int.reduceLE, Int.reduceAdd, ↓reduceIte, reduceCtorEq]) <;> rfl) rfl (by (simp only [go_sem, Nat.reduceLT, Nat.reduceLeDiff, Nat.reduceEqDiff, Nat.reduceAdd, Nat.reduceSub, Nat.reduceMul, Nat.reduceBEq, Int.reduceToNat, Int.reduceEq, Int.reduceLT, Int.reduceLE, Int.reduceAdd, ↓reduceIte, reduceCtorEq]) <;> rfl) (by (simp only [go_sem, Nat.reduceLT, Nat.reduceLeDiff, Nat.reduceEqDiff, Nat.reduceAdd, Nat.reduceSub, Nat.reduceMul, Nat.reduceBEq, Int.reduceToNat, Int.reduceEq, Int.reduceLT, Int.reduceLE, Int.reduceAdd, ↓reduceIte, reduceCtorEq]) <;> rfl) (by (simp only [go_sem, Nat.reduceLT, Nat.reduceLeDiff, Nat.reduceEqDiff, Nat.reduceAdd, Nat.reduceSub, Nat.reduceMul, Nat.reduceBEq, Int.reduceToNat, Int.reduceEq, Int.reduceLT, Int.reduceLE, Int.reduceAdd, ↓reduceIte, reduceCtorEq]) <;> rfl) (by (simp only [go_sem, Nat.reduceLT, Nat.reduceLeDiff, Nat.reduceEqDiff, Nat.reduceAdd, Nat.reduceSub, Nat.reduceMul, Nat.reduceBEq, Int.reduceToNat, Int.reduceEq, Int.reduceLT, Int.reduceLE, Int.reduceAdd, ↓reduceIte, reduceCtorEq]) <;> rfl) (by (simp only [go_sem, Nat.reduceLT, Nat.reduceLeDiff, Nat.reduceEqDiff, Nat.reduceAdd, Nat.reduceSub, Nat.reduceMul, Nat.reduceBEq, Int.reduceToNat, Int.reduceEq, Int.reduceLT, Int.reduceLE, Int.reduceAdd, ↓reduceIte, reduceCtorEq]) <;> rfl) (hAm s (by omega))
        apply Tr.run
        · (simp only [go_sem, Nat.reduceLT, Nat.reduceLeDiff, Nat.reduceEqDiff, Nat.reduceAdd, Nat.reduceSub, Nat.reduceMul, Nat.reduceBEq, Int.reduceToNat, Int.reduceEq, Int.reduceLT, Int.reduceLE, Int.reduceAdd, ↓reduceIte, reduceCtorEq, Mach.cells, Mach.cellsF]) <;> rfl
        · simp
        apply Tr.cons
        · exact .callG rfl rfl (by (simp only [go_sem, Nat.reduceLT, Nat.reduceLeDiff, Nat.reduceEqDiff, Nat.reduceAdd, Nat.reduceSub, Nat.reduceMul, Nat.reduceBEq, Int.reduceToNat, Int.reduceEq, Int.reduceLT, Int.reduceLE, Int.reduceAdd, ↓reduceIte, reduceCtorEq]) <;> rfl) rfl (by (simp only [go_sem, Nat.reduceLT, Nat.reduceLeDiff, Nat.reduceEqDiff, Nat.reduceAdd, Nat.reduceSub, Nat.reduceMul, Nat.reduceBEq, Int.reduceToNat, Int.reduceEq, Int.reduceLT, Int.reduceLE, Int.reduceAdd, ↓reduceIte, reduceCtorEq]) <;> rfl) (by (simp only [go_sem, Nat.reduceLT, Nat.reduceLeDiff, Nat.reduceEqDiff, Nat.reduceAdd, Nat.reduceSub, Nat.reduceMul, Nat.reduceBEq, Int.reduceToNat, Int.reduceEq, Int.reduceLT, Int.reduceLE, Int.reduceAdd, ↓reduceIte, reduceCtorEq]) <;> rfl) (by (simp only [go_sem, Nat.reduceLT, Nat.reduceLeDiff, Nat.reduceEqDiff, Nat.reduceAdd, Nat.reduceSub, Nat.reduceMul, Nat.reduceBEq, Int.reduceToNat, Int.reduceEq, Int.reduceLT, Int.reduceLE, Int.reduceAdd, ↓reduceIte, reduceCtorEq]) <;> rfl) (by (simp only [go_sem, Nat.reduceLT, Nat.reduceLeDiff, Nat.reduceEqDiff, Nat.reduceAdd, Nat.reduceSub, Nat.reduceMul, Nat.reduceBEq, Int.reduceToNat, Int.reduceEq, Int.reduceLT, Int.reduceLE, Int.reduceAdd, ↓reduceIte, reduceCtorEq]) <;> rfl) (by (simp only [go_sem, Nat.reduceLT, Nat.reduceLeDiff, Nat.reduceEqDiff, Nat.reduceAdd, Nat.reduceSub, Nat.reduceMul, Nat.reduceBEq, Int.reduceToNat, Int.reduceEq, Int.reduceLT, Int.reduceLE, Int.reduceAdd, ↓reduceIte, reduceCtorEq]) <;> rfl) (hAa _ _ s (by omega))
        apply Tr.done
        · (simp only [go_sem, Nat.reduceLT, Nat.reduceLeDiff, Nat.reduceEqDiff, Nat.reduceAdd, Nat.reduceSub, Nat.reduceMul, Nat.reduceBEq, Int.reduceToNat, Int.reduceEq, Int.reduceLT, Int.reduceLE, Int.reduceAdd, ↓reduceIte, reduceCtorEq, e2, decide_true]) <;> rfl
        · simp
      · kernel_rfl
      refine EvC.cond_false (by (simp only [go_sem, Nat.reduceLT, Nat.reduceLeDiff, Nat.reduceEqDiff, Nat.reduceAdd, Nat.reduceSub, Nat.reduceMul, Nat.reduceBEq, Int.reduceToNat, Int.reduceEq, Int.reduceLT, Int.reduceLE, Int.reduceAdd, ↓reduceIte, reduceCtorEq]) <;> rfl) ?_
      refine EvC.skip ?_
      refine EvC.rg (by (simp only [go_sem, Nat.reduceLT, Nat.reduceLeDiff, Nat.reduceEqDiff, Nat.reduceAdd, Nat.reduceSub, Nat.reduceMul, Nat.reduceBEq, Int.reduceToNat, Int.reduceEq, Int.reduceLT, Int.reduceLE, Int.reduceAdd, ↓reduceIte, reduceCtorEq]) <;> rfl) (by exact inI64_of (by omega) (by omega)) ?_
      exact ⟨[], s + 1, rfl, (by (simp only [go_sem, Nat.reduceLT, Nat.reduceLeDiff, Nat.reduceEqDiff, Nat.reduceAdd, Nat.reduceSub, Nat.reduceMul, Nat.reduceBEq, Int.reduceToNat, Int.reduceEq, Int.reduceLT, Int.reduceLE, Int.reduceAdd, ↓reduceIte, reduceCtorEq, Mach.cells, Mach.cellsF, Int.natCast_add, Int.natCast_one]) <;> rfl), hsl, by omega⟩
    have hkl : k < W.length := by simpa using hc
    clear hc
    have hek : W[k]? = some W[k] := List.getElem?_eq_getElem hkl
    have htk : W.take (k + 1) = W.take k ++ [W[k]] := by rw [List.take_add_one, hek]; rfl
    obtain ⟨v1, v2⟩ := hWo _ (List.getElem_mem hkl)
    generalize W[k] = v at hek htk v1 v2
    obtain ⟨t, rfl⟩ : ∃ t : Nat, v = t := ⟨v.toNat, by omega⟩
    have het : l[t]? = some (gAt l t) := by
      have : t < l.length := by omega
      simp [gAt, this]
    refine EvC.skip ?_
    refine EvC.seq ?_
    refine EvC.block ?_  -- 5
    refine EvC.rg (by (simp only [go_sem, Nat.reduceLT, Nat.reduceLeDiff, Nat.reduceEqDiff, Nat.reduceAdd, Nat.reduceSub, Nat.reduceMul, Nat.reduceBEq, Int.reduceToNat, Int.reduceEq, Int.reduceLT, Int.reduceLE, Int.reduceAdd, ↓reduceIte, reduceCtorEq, hek, het, intC, Int.toNat_natCast]) <;> rfl) (by simp [room_eq, AV.norefs, AV.noref, htl]; try omega) ?_
    refine EvC.rg (by (simp only [go_sem, Nat.reduceLT, Nat.reduceLeDiff, Nat.reduceEqDiff, Nat.reduceAdd, Nat.reduceSub, Nat.reduceMul, Nat.reduceBEq, Int.reduceToNat, Int.reduceEq, Int.reduceLT, Int.reduceLE, Int.reduceAdd, ↓reduceIte, reduceCtorEq]) <;> rfl) (by exact inI64_of (by omega) (by omega)) ?_
    refine ⟨[(0, 0)], k + 1, rfl, ?_, hkl, by omega⟩
    have h0 : (k + 1 == 0) = false := rfl
    rw [htk]
    (simp only [go_sem, Nat.reduceLT, Nat.reduceLeDiff, Nat.reduceEqDiff, Nat.reduceAdd, Nat.reduceSub, Nat.reduceMul, Nat.reduceBEq, Int.reduceToNat, Int.reduceEq, Int.reduceLT, Int.reduceLE, Int.reduceAdd, ↓reduceIte, reduceCtorEq, h0, Mach.cells, Mach.cellsF, hmi, hmo, htl, htl2, intC, List.map_append, List.map_cons, List.map_nil, Int.natCast_add, Int.natCast_one, List.length_map]) <;> rfl
  have hkl : k < l.length := by simpa using hc
  clear hc
  have hek : l[k]? = some l[k] := List.getElem?_eq_getElem hkl
  have htk : l.take (k + 1) = l.take k ++ [l[k]] := by rw [List.take_add_one, hek]; rfl
  generalize l[k] = v at hek htk
  refine EvC.skip ?_
  refine EvC.seq ?_
  refine EvC.block ?_  -- 1
  refine EvC.seq ?_
  refine EvC.seq (EvC.rg (by (simp only [go_sem, Nat.reduceLT, Nat.reduceLeDiff, Nat.reduceEqDiff, Nat.reduceAdd, Nat.reduceSub, Nat.reduceMul, Nat.reduceBEq, Int.reduceToNat, Int.reduceEq, Int.reduceLT, Int.reduceLE, Int.reduceAdd, ↓reduceIte, reduceCtorEq]) <;> rfl) (by simp) ?_)
  refine EvC.block ?_  -- 2
  refine EvC.loopS (σ := Nat) (fun n => ⟨[(1, .sl nl (l.map intC) c), (5, .ia [.sl wn (w.map u8C) wc]), (7, .ia a.cells), (8, .ia Mc), (9, .sc (.int .i64 e)), (10, .sc (.int .i64 (errO (goodB a (l.take k) && decide (v ∉ l.take n))))), (11, .sc (.int .i64 k)), (12, .sc (.int .i64 n))], [], [], 0⟩) (fun n => k - n) (fun n => n ≤ k) [1, 5, 7, 8, 9, 10, 11, 12] 0 ?_ ?_
  · exact ⟨[], 0, rfl, (by (simp only [go_sem, Nat.reduceLT, Nat.reduceLeDiff, Nat.reduceEqDiff, Nat.reduceAdd, Nat.reduceSub, Nat.reduceMul, Nat.reduceBEq, Int.reduceToNat, Int.reduceEq, Int.reduceLT, Int.reduceLE, Int.reduceAdd, ↓reduceIte, reduceCtorEq, Int.natCast_zero, List.take_zero, List.not_mem_nil, not_false_eq_true, decide_true, Bool.and_true]) <;> rfl), Nat.zero_le _⟩
  intro n hn
  refine EvC.seq ?_
  refine EvC.seq (EvC.rg (by (simp only [go_sem, Nat.reduceLT, Nat.reduceLeDiff, Nat.reduceEqDiff, Nat.reduceAdd, Nat.reduceSub, Nat.reduceMul, Nat.reduceBEq, Int.reduceToNat, Int.reduceEq, Int.reduceLT, Int.reduceLE, Int.reduceAdd, ↓reduceIte, reduceCtorEq]) <;> rfl) (by simp) ?_)
  refine EvC.cond (by (simp only [go_sem, Nat.reduceLT, Nat.reduceLeDiff, Nat.reduceEqDiff, Nat.reduceAdd, Nat.reduceSub, Nat.reduceMul, Nat.reduceBEq, Int.reduceToNat, Int.reduceEq, Int.reduceLT, Int.reduceLE, Int.reduceAdd, ↓reduceIte, reduceCtorEq]) <;> rfl) (fun hc => ?_) (fun hc => ?_)
  rotate_left
  · -- else
    refine EvC.exit ?_  -- 2
    obtain rfl : k = n := by have : ¬ n < k := by simpa using hc
                             omega
    clear hc
    have hsn := goodB_snoc a (l.take k) v
    rw [← htk] at hsn
    by_cases hv0 : v < 0
    · have d1 : decide (v < 0) = true := decide_eq_true hv0
      have hg : errO (goodB a (l.take (k + 1))) = 1 := errO_false (by rw [hsn]; simp; omega)
      apply EvC.seq
      apply EvC.drd mixed
      · (simp only [go_sem, Nat.reduceLT, Nat.reduceLeDiff, Nat.reduceEqDiff, Nat.reduceAdd, Nat.reduceSub, Nat.reduceMul, Nat.reduceBEq, Int.reduceToNat, Int.reduceEq, Int.reduceLT, Int.reduceLE, Int.reduceAdd, ↓reduceIte, reduceCtorEq, hek, intC, d1]) <;> rfl
      · simp
      · kernel_rfl
      refine EvC.cond_true (by (simp only [go_sem, Nat.reduceLT, Nat.reduceLeDiff, Nat.reduceEqDiff, Nat.reduceAdd, Nat.reduceSub, Nat.reduceMul, Nat.reduceBEq, Int.reduceToNat, Int.reduceEq, Int.reduceLT, Int.reduceLE, Int.reduceAdd, ↓reduceIte, reduceCtorEq]) <;> rfl) ?_
      refine EvC.rg (by (simp only [go_sem, Nat.reduceLT, Nat.reduceLeDiff, Nat.reduceEqDiff, Nat.reduceAdd, Nat.reduceSub, Nat.reduceMul, Nat.reduceBEq, Int.reduceToNat, Int.reduceEq, Int.reduceLT, Int.reduceLE, Int.reduceAdd, ↓reduceIte, reduceCtorEq]) <;> rfl) (by simp) ?_
      refine EvC.rg (by (simp only [go_sem, Nat.reduceLT, Nat.reduceLeDiff, Nat.reduceEqDiff, Nat.reduceAdd, Nat.reduceSub, Nat.reduceMul, Nat.reduceBEq, Int.reduceToNat, Int.reduceEq, Int.reduceLT, Int.reduceLE, Int.reduceAdd, ↓reduceIte, reduceCtorEq]) <;> rfl) (by exact inI64_of (by omega) (by omega)) ?_
      exact ⟨[], k + 1, rfl, (by (simp only [go_sem, Nat.reduceLT, Nat.reduceLeDiff, Nat.reduceEqDiff, Nat.reduceAdd, Nat.reduceSub, Nat.reduceMul, Nat.reduceBEq, Int.reduceToNat, Int.reduceEq, Int.reduceLT, Int.reduceLE, Int.reduceAdd, ↓reduceIte, reduceCtorEq, hg, Int.natCast_add, Int.natCast_one]) <;> rfl), hkl, by omega⟩
    have d1 : decide (v < 0) = false := decide_eq_false hv0
    apply EvC.seq
    apply EvC.drd mixed
    · (simp only [go_sem, Nat.reduceLT, Nat.reduceLeDiff, Nat.reduceEqDiff, Nat.reduceAdd, Nat.reduceSub, Nat.reduceMul, Nat.reduceBEq, Int.reduceToNat, Int.reduceEq, Int.reduceLT, Int.reduceLE, Int.reduceAdd, ↓reduceIte, reduceCtorEq, hek, intC, d1, Mach.cells]) <;> rfl
    · simp
    · kernel_rfl
    refine EvC.cond (by (simp only [go_sem, Nat.reduceLT, Nat.reduceLeDiff, Nat.reduceEqDiff, Nat.reduceAdd, Nat.reduceSub, Nat.reduceMul, Nat.reduceBEq, Int.reduceToNat, Int.reduceEq, Int.reduceLT, Int.reduceLE, Int.reduceAdd, ↓reduceIte, reduceCtorEq]) <;> rfl) (fun hc => ?_) (fun hc => ?_)
    · have hv1 : a.ins ≤ v := by simpa using hc
      have hg : errO (goodB a (l.take (k + 1))) = 1 := errO_false (by rw [hsn]; simp; omega)
      refine EvC.rg (by (simp only [go_sem, Nat.reduceLT, Nat.reduceLeDiff, Nat.reduceEqDiff, Nat.reduceAdd, Nat.reduceSub, Nat.reduceMul, Nat.reduceBEq, Int.reduceToNat, Int.reduceEq, Int.reduceLT, Int.reduceLE, Int.reduceAdd, ↓reduceIte, reduceCtorEq]) <;> rfl) (by simp) ?_
      refine EvC.rg (by (simp only [go_sem, Nat.reduceLT, Nat.reduceLeDiff, Nat.reduceEqDiff, Nat.reduceAdd, Nat.reduceSub, Nat.reduceMul, Nat.reduceBEq, Int.reduceToNat, Int.reduceEq, Int.reduceLT, Int.reduceLE, Int.reduceAdd, ↓reduceIte, reduceCtorEq]) <;> rfl) (by exact inI64_of (by omega) (by omega)) ?_
      exact ⟨[], k + 1, rfl, (by (simp only [go_sem, Nat.reduceLT, Nat.reduceLeDiff, Nat.reduceEqDiff, Nat.reduceAdd, Nat.reduceSub, Nat.reduceMul, Nat.reduceBEq, Int.reduceToNat, Int.reduceEq, Int.reduceLT, Int.reduceLE, Int.reduceAdd, ↓reduceIte, reduceCtorEq, hg, Mach.cells, Int.natCast_add, Int.natCast_one]) <;> rfl), hkl, by omega⟩
    have hv1 : ¬ a.ins ≤ v := by simpa using hc
    have hg : goodB a (l.take (k + 1)) = (goodB a (l.take k) && decide (v ∉ l.take k)) := by
      rw [hsn, decide_eq_true (show 0 ≤ v by omega), decide_eq_true (show v < a.ins by omega)]; simp
    refine EvC.skip ?_
    refine EvC.rg (by (simp only [go_sem, Nat.reduceLT, Nat.reduceLeDiff, Nat.reduceEqDiff, Nat.reduceAdd, Nat.reduceSub, Nat.reduceMul, Nat.reduceBEq, Int.reduceToNat, Int.reduceEq, Int.reduceLT, Int.reduceLE, Int.reduceAdd, ↓reduceIte, reduceCtorEq]) <;> rfl) (by exact inI64_of (by omega) (by omega)) ?_
    exact ⟨[], k + 1, rfl, (by (simp only [go_sem, Nat.reduceLT, Nat.reduceLeDiff, Nat.reduceEqDiff, Nat.reduceAdd, Nat.reduceSub, Nat.reduceMul, Nat.reduceBEq, Int.reduceToNat, Int.reduceEq, Int.reduceLT, Int.reduceLE, Int.reduceAdd, ↓reduceIte, reduceCtorEq, hg, Mach.cells, Int.natCast_add, Int.natCast_one]) <;> rfl), hkl, by omega⟩
  have hnk : n < k := by simpa using hc
  clear hc
  have hen : l[n]? = some (l[n]'(by omega)) := List.getElem?_eq_getElem (by omega)
  have htn : l.take (n + 1) = l.take n ++ [l[n]'(by omega)] := by rw [List.take_add_one, hen]; rfl
  generalize l[n]'(by omega) = u at hen htn
  refine EvC.skip ?_
  refine EvC.seq ?_
  refine EvC.block ?_  -- 3
  apply EvC.seq
  apply EvC.drd mixed
  · (simp only [go_sem, Nat.reduceLT, Nat.reduceLeDiff, Nat.reduceEqDiff, Nat.reduceAdd, Nat.reduceSub, Nat.reduceMul, Nat.reduceBEq, Int.reduceToNat, Int.reduceEq, Int.reduceLT, Int.reduceLE, Int.reduceAdd, ↓reduceIte, reduceCtorEq, hek, hen, intC]) <;> rfl
  · simp
  · kernel_rfl
  refine EvC.cond (by (simp only [go_sem, Nat.reduceLT, Nat.reduceLeDiff, Nat.reduceEqDiff, Nat.reduceAdd, Nat.reduceSub, Nat.reduceMul, Nat.reduceBEq, Int.reduceToNat, Int.reduceEq, Int.reduceLT, Int.reduceLE, Int.reduceAdd, ↓reduceIte, reduceCtorEq]) <;> rfl) (fun hc => ?_) (fun hc => ?_)
  · -- then
    have huv : u = v := by simpa using hc
    have hg : errO (goodB a (l.take k) && decide (v ∉ l.take (n + 1))) = 1 := errO_false (by rw [htn, huv]; simp)
    refine EvC.rg (by (simp only [go_sem, Nat.reduceLT, Nat.reduceLeDiff, Nat.reduceEqDiff, Nat.reduceAdd, Nat.reduceSub, Nat.reduceMul, Nat.reduceBEq, Int.reduceToNat, Int.reduceEq, Int.reduceLT, Int.reduceLE, Int.reduceAdd, ↓reduceIte, reduceCtorEq]) <;> rfl) (by simp) ?_
    refine EvC.rg (by (simp only [go_sem, Nat.reduceLT, Nat.reduceLeDiff, Nat.reduceEqDiff, Nat.reduceAdd, Nat.reduceSub, Nat.reduceMul, Nat.reduceBEq, Int.reduceToNat, Int.reduceEq, Int.reduceLT, Int.reduceLE, Int.reduceAdd, ↓reduceIte, reduceCtorEq]) <;> rfl) (by exact inI64_of (by omega) (by omega)) ?_
    exact ⟨[], n + 1, rfl, (by (simp only [go_sem, Nat.reduceLT, Nat.reduceLeDiff, Nat.reduceEqDiff, Nat.reduceAdd, Nat.reduceSub, Nat.reduceMul, Nat.reduceBEq, Int.reduceToNat, Int.reduceEq, Int.reduceLT, Int.reduceLE, Int.reduceAdd, ↓reduceIte, reduceCtorEq, hg, Int.natCast_add, Int.natCast_one]) <;> rfl), hnk, by omega⟩
  have huv : ¬ u = v := by simpa using hc
  have hg : decide (v ∉ l.take (n + 1)) = decide (v ∉ l.take n) := by
    rw [decide_eq_decide, htn]; simp only [List.mem_append, List.mem_cons, List.not_mem_nil, or_false, not_or]
    exact ⟨fun h => h.1, fun h => ⟨h, fun h' => huv h'.symm⟩⟩
  refine EvC.skip ?_
  refine EvC.rg (by (simp only [go_sem, Nat.reduceLT, Nat.reduceLeDiff, Nat.reduceEqDiff, Nat.reduceAdd, Nat.reduceSub, Nat.reduceMul, Nat.reduceBEq, Int.reduceToNat, Int.reduceEq, Int.reduceLT, Int.reduceLE, Int.reduceAdd, ↓reduceIte, reduceCtorEq]) <;> rfl) (by exact inI64_of (by omega) (by omega)) ?_
  exact ⟨[], n + 1, rfl, (by (simp only [go_sem, Nat.reduceLT, Nat.reduceLeDiff, Nat.reduceEqDiff, Nat.reduceAdd, Nat.reduceSub, Nat.reduceMul, Nat.reduceBEq, Int.reduceToNat, Int.reduceEq, Int.reduceLT, Int.reduceLE, Int.reduceAdd, ↓reduceIte, reduceCtorEq, hg, Int.natCast_add, Int.natCast_one]) <;> rfl), hnk, by omega⟩
end Go.Avl
namespace Go.Proofs.Ytbiifplfohnpeaa
open Go Go.Avl Go.Proofs Go.ChangeShapes Go.RowKit

set_option maxRecDepth 100000 in
theorem joinsRestrict_lifted (os : Os) (started : os.Started) (H : Type) (enc : TypeId × Value → H) :
    ReturnsInHanded {} Try.checked os 7 .any (Rows.joinsRestrictSpec.pre6 enc Try.prog Try.f7 Rows.joinsRestrictRow.domain false) (Rows.joinsRestrictSpec.post enc Try.prog Try.f7 false true false false) := by
  refine returnsInHanded_of_change_sized (C := Try.checked) Try.own started (by kernel_rfl) Try.func7
    (ChangeSpec.witness6 (enc := enc) (C := Try.checked) false ⟨#[], #[.agg #[.int .u8 0, .int .u8 0, .int .u8 0, .bool false, .slice none 0 0], .slice none 0 0, .agg #[.slice none 0 0]], []⟩ 8 (by kernel_rfl) (by kernel_rfl) (by kernel_rfl) (by kernel_rfl)) ?_
  intro W base args ds gs before hval hW _ hz _
  have hW' := hW
  obtain ⟨p, q, hA, hV, rfl, _, _⟩ := hW'
  obtain ⟨rfl, rfl⟩ := trodVars_none hV
  have hA' : DataW.TrodAll enc Try.prog W 0 (fun _ => true) true [24, 35, 27] args.toList ds p := by rw [← show Try.f7.params.toList = [24, 35, 27] from rfl]; exact hA
  obtain ⟨v0, v1, v2, d0, d1, d2, p0, p1, p2, rfl, rfl, rfl, h0, h1, h2⟩ := trodAll_three hA'
  have hz' : (DataW.weightsEach Try.prog [24, 35, 27] [d0, d1, d2]).all (· ≤ reachBytes) = true := hz
  have hf := fits_each (P := Try.prog) (ts := [24, 35, 27]) (l := [d0, d1, d2]) fun n hn => by simpa using List.all_eq_true.1 hz' n hn
  obtain ⟨x, hx, i0⟩ := rd_LM.imm_struct Try.underlying24 (hval 0 24 v0 rfl rfl) (hf 0 24 d0 rfl rfl) h0
  obtain ⟨b, hb, i1⟩ := rd_ints.imm_slice Try.underlying35 (hval 1 35 v1 rfl rfl) (hf 1 35 d1 rfl rfl) h1
  obtain ⟨a, ha, i2⟩ := rd_W.imm_struct Try.underlying27 (hval 2 27 v2 rfl rfl) (hf 2 27 d2 rfl rfl) h2
  exact law_calls Try.laidOut (by kernel_rfl) rfl (by kernel_rfl) rfl rfl (joinsRestrict_is hx b.1 b.2 .unk a.1 a.2 .unk ha) (Imms.append (.one i0) (Imms.append (.one i1) (.one i2))) hW

theorem joinsRestrict_holds : Rows.JoinsRestrictSaid :=
  OpenClaim.holds_of_wide 7 Try.f7 rfl rfl rfl rfl rfl rfl rfl ⟨rfl, rfl, rfl, rfl, rfl⟩ rfl rfl rfl rfl rfl (by kernel_rfl) Try.func7 (by kernel_rfl)
    (of_decide_eq_true (by kernel_rfl)) (by unfold Func.isWrapper; first | (rw [if_pos (by decide +kernel)]; kernel_rfl) | (rw [if_neg (by decide +kernel)]; exact ⟨rfl, rfl⟩))
    (fun os started H enc _ => joinsRestrict_lifted os started H enc)
#print axioms joinsRestrict_holds
end Go.Proofs.Ytbiifplfohnpeaa
