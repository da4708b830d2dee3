/-
  Lemmas.
  Lemmas.
  Lemmas.
  Lemmas.
  Lemmas.
  Lemmas.
  JoinsRename returns true at every input, and each argument reads behind the call as it read before.
  Conditions: those of the given row alone (no others).
-/
import Derived.Test.YtbiifplfohnpeaaPart9
set_option linter.unusedSimpArgs false
set_option linter.unusedVariables false
set_option linter.unnecessarySimpa false
set_option linter.deprecated false
namespace Go.Avl
open Go Go.Proofs.Try
set_option maxRecDepth 10000
set_option linter.unusedSimpArgs false

theorem Valid.check {m : Mach} (h : Valid m) : checkM m = 0 := by
  have h1 := h.ins
  have h2 := h.outs
  have h3 := h.rows
  unfold checkM
  rw [if_neg (by omega), if_neg (by omega), if_pos]
  rw [List.all_eq_true]
  intro r hr
  obtain ⟨k1, k2⟩ := h.row r hr
  simp only [rowOk, Bool.and_eq_true, decide_eq_true_eq, Bool.not_eq_true', List.any_eq_false]
  exact ⟨k1, fun e he => by simpa using k2 e he⟩
theorem ints_unk (l : List Int) : AV.unkss (l.map intC) = l.map intC := unkss_map intC (fun _ => rfl) l
theorem Valid.small {q : Mach} (hq : Valid q) : ∀ r ∈ q.rows, r.2.length < 1000000 := by
  intro r hr
  have h1 := (hq.row r hr).1
  have h2 := hq.ins
  omega
theorem runF_is {m : Mach} (hv : Valid m) (nl : Bool) (w : List Int) (c : Cp) (hw : ∀ a ∈ w, 0 ≤ a ∧ a < m.ins) (hl : w.length < 1000000) (s : Int) (hs : s < m.rows.length) :
    PureIs prog 17 [.ag m.cellsF, .sc (.int .i64 s), .sl nl (w.map intC) c] (.sl (runR m s w).isEmpty ((runR m s w).map intC) .unk) := by
  refine PureIs.weak ?_
  simp only [List.map_cons, List.map_nil, AV.unk, Mach.cellsF_unk, ints_unk]
  exact run04_is hv s hs nl w .unk hw hl
theorem LM.valid {x : LM} (h : x.Ok) : Valid x.mach := by
  obtain ⟨b1, b2, b3, b4, b5, b6, -, -⟩ := LM.bounds h
  have hl : x.mach.rows.length = x.n := by simp [LM.mach]
  refine ⟨⟨by show (1 : Int) ≤ x.i; omega, by show (x.i : Int) ≤ 16; omega⟩, ⟨b5, by show x.o ≤ 16; omega⟩, by rw [hl]; omega, fun r hr => ?_⟩
  rw [hl]
  simp only [LM.mach, List.mem_map, List.mem_range] at hr ⊢
  obtain ⟨s, hs, rfl⟩ := hr
  refine ⟨by simp [LM.row], fun e he => ?_⟩
  simp only [LM.row, List.mem_map, List.mem_range] at he
  obtain ⟨i, hi, rfl⟩ := he
  obtain ⟨v1, v2⟩ := LM.v_ok h s i
  unfold LM.edge
  split
  · simp [fitsR]
  · have h1 := Int.emod_nonneg (x.v s i / 4) (b := x.n) (by omega)
    have h2 := Int.emod_lt_of_pos (x.v s i / 4) (b := x.n) (by omega)
    have h3 := Int.emod_nonneg (x.v s i / 4 / x.n) (b := x.o) (by omega)
    have h4 := Int.emod_lt_of_pos (x.v s i / 4 / x.n) (b := x.o) (by omega)
    simp [fitsR, h1, h2, h3, h4]
theorem wOf_ok {l : List Int} {n : Int} (hn : 1 ≤ n) : ∀ a ∈ wOf l n, 0 ≤ a ∧ a < n := by
  intro a ha
  simp only [wOf, List.mem_map] at ha
  obtain ⟨y, -, rfl⟩ := ha
  exact ⟨Int.emod_nonneg _ (by omega), Int.emod_lt_of_pos _ (by omega)⟩
theorem wOf_len (l : List Int) (n : Int) : (wOf l n).length ≤ 12 := by simp [wOf]; omega
theorem runR_len (m : Mach) : ∀ (s : Int) (w : List Int), (runR m s w).length = w.length
  | _, [] => rfl
  | s, a :: w => by simp only [runR, List.length_cons]; rw [runR_len m _ w]
/-! ### Machines, edge by edge -/
theorem eAt_fit {m : Mach} (hv : Valid m) {s i : Nat} (hs : s < m.rows.length) (hi : (i : Int) < m.ins) : ∃ r, m.rows[s]? = some r ∧ r.2[i]? = some (eAt m s i) ∧ (isNone (eAt m s i) = true ∨ (0 ≤ (eAt m s i).1 ∧ (eAt m s i).1 < m.rows.length ∧ 0 ≤ (eAt m s i).2 ∧ (eAt m s i).2 < m.outs)) := by
  have h1 : m.rows[s]? = some m.rows[s] := List.getElem?_eq_getElem hs
  obtain ⟨h2, h3⟩ := hv.row _ (List.getElem_mem hs)
  have h4 : (m.rows[s]).2[i]? = some ((m.rows[s]).2[i]'(by omega)) := List.getElem?_eq_getElem _
  have he := eAt_get h1 h4
  refine ⟨_, h1, by rw [he]; exact h4, ?_⟩
  have hf := fits_edge (h3 _ (List.getElem_mem (show i < (m.rows[s]).2.length by omega)))
  rw [he]
  rcases hf with h | h
  · left; simp [isNone, h]
  · exact .inr h
/-- A machine given by a table is valid. -/
theorem valid_tab {ins outs : Int} {nl : Bool} {n N : Nat} {f : Nat → Nat → Int × Int} (hN : ins = (N : Int)) (h1 : 1 ≤ N ∧ N ≤ 16) (h2 : 1 ≤ outs ∧ outs ≤ 16) (h3 : 1 ≤ n ∧ n ≤ 64)
    (hf : ∀ s i, s < n → i < N → isNone (f s i) = true ∨ (0 ≤ (f s i).1 ∧ (f s i).1 < n ∧ 0 ≤ (f s i).2 ∧ (f s i).2 < outs)) : Valid ⟨ins, outs, nl, (List.range n).map fun s => (false, (List.range N).map (f s))⟩ := by
  refine ⟨by simp only; omega, h2, by simpa using h3, fun r hr => ?_⟩
  obtain ⟨s, hs, rfl⟩ := List.mem_map.1 hr
  refine ⟨by simp [hN], fun e he => ?_⟩
  obtain ⟨i, hi, rfl⟩ := List.mem_map.1 he
  simp only [List.length_map, List.length_range]
  have := hf s i (List.mem_range.1 hs) (List.mem_range.1 hi)
  unfold fitsR
  rcases this with h | h
  · unfold isNone at h; simp only [Bool.and_eq_true, decide_eq_true_eq] at h; simp [h.1, h.2]
  · simp [h.1, h.2.1, h.2.2.1, h.2.2.2]
theorem eAt_tab {ins outs : Int} {nl : Bool} {n N : Nat} {f : Nat → Nat → Int × Int} {s i : Nat} (hs : s < n) (hi : i < N) : eAt ⟨ins, outs, nl, (List.range n).map fun s => (false, (List.range N).map (f s))⟩ s i = f s i := by
  refine eAt_get (r := (false, (List.range N).map (f s))) ?_ ?_
  · simp only; rw [List.getElem?_map, List.getElem?_range hs]; rfl
  · simp only; rw [List.getElem?_map, List.getElem?_range hi]; rfl
/-- A valid machine is its table. -/
theorem rows_tab {m : Mach} (hv : Valid m) {N : Nat} (hN : m.ins = (N : Int)) : m.rows.map (·.2) = (List.range m.rows.length).map fun s => (List.range N).map (eAt m s) := by
  refine List.ext_getElem (by simp) fun s h1 h2 => ?_
  simp only [List.getElem_map, List.getElem_range]
  have hs : s < m.rows.length := by simpa using h1
  have hr := (hv.row _ (List.getElem_mem hs)).1
  refine List.ext_getElem (by simp; omega) fun i k1 k2 => ?_
  simp only [List.getElem_map, List.getElem_range]
  exact (eAt_get (List.getElem?_eq_getElem hs) (List.getElem?_eq_getElem k1)).symm
theorem stepR_eAt {m : Mach} {s : Nat} {a : Int} (ha : 0 ≤ a) : stepR m (s : Int) a = eAt m s a.toNat := by
  rw [eAt_stepR, Int.toNat_of_nonneg ha]
theorem stepR_neg {m : Mach} {s a : Int} (hs : s < 0) : stepR m s a = (-1, -1) := by rw [stepR, if_pos hs]
/-- Responses, one step after the other, along a relation of states. -/
theorem runR_rel {m m' : Mach} {R : Int → Int → Prop} {g : Int → Int} {h : Int → Int} (hs : ∀ s s' a, R s s' → 0 ≤ a → a < m.ins → R (stepR m s a).1 (stepR m' s' (h a)).1 ∧ (stepR m' s' (h a)).2 = g (stepR m s a).2) :
    ∀ (w : List Int) (s s' : Int), R s s' → (∀ a ∈ w, 0 ≤ a ∧ a < m.ins) → runR m' s' (w.map h) = (runR m s w).map g
  | [], _, _, _, _ => rfl
  | a :: w, s, s', hR, hw => by
    obtain ⟨h0, h1⟩ := hw a List.mem_cons_self
    obtain ⟨k1, k2⟩ := hs s s' a hR h0 h1
    simp only [List.map_cons, runR]
    rw [k2, runR_rel hs w _ _ k1 fun b hb => hw b (List.mem_cons_of_mem _ hb)]

end Go.Avl
namespace Go.Avl
open Go Go.Proofs.Try
set_option maxRecDepth 10000
set_option linter.unusedSimpArgs false

/-! ### Permutations, counted -/
def permR (l : List Int) : Int := if permB l = true then 1 else 0
theorem perm_count {l : List Int} : permB l = true ↔ ∀ i : Nat, i < l.length → l.count (i : Int) = 1 := by
  rw [permB_true]
  obtain ⟨R, hR⟩ : ∃ R : List Int, R = (List.range l.length).map fun i : Nat => (i : Int) := ⟨_, rfl⟩
  have hRl : R.length = l.length := by rw [hR]; simp
  have hRm : ∀ x, x ∈ R ↔ 0 ≤ x ∧ x < (l.length : Int) := by
    intro x
    rw [hR]
    simp only [List.mem_map, List.mem_range]
    constructor
    · rintro ⟨i, hi, rfl⟩; omega
    · rintro ⟨h1, h2⟩; exact ⟨x.toNat, by omega, by omega⟩
  have hRn : R.Nodup := by
    rw [hR, List.nodup_iff_pairwise_ne, List.pairwise_map]
    exact (List.nodup_iff_pairwise_ne.1 List.nodup_range).imp fun h e => h (by omega)
  constructor
  · rintro ⟨h1, h2⟩ i hi
    have hm : (i : Int) ∈ l := by
      refine Classical.byContradiction fun hn => ?_
      have hs : l ⊆ R.erase (i : Int) := fun x hx => (List.mem_erase_of_ne (fun e => hn (by rw [← e]; exact hx))).2 ((hRm x).2 (h1 x hx))
      have := h2.length_le_of_subset hs
      rw [List.length_erase_of_mem ((hRm _).2 (by omega))] at this
      omega
    have h3 := List.nodup_iff_count.1 h2 (i : Int)
    have h4 := List.count_pos_iff.2 hm
    omega
  · intro h
    have hs : R ⊆ l := fun x hx => by
      obtain ⟨h1, h2⟩ := (hRm x).1 hx
      have := h x.toNat (by omega)
      rw [show ((x.toNat : Nat) : Int) = x by omega] at this
      exact List.count_pos_iff.1 (by omega)
    have hx : ∀ x ∈ l, 0 ≤ x ∧ x < (l.length : Int) := by
      intro x hx
      refine Classical.byContradiction fun hn => ?_
      have hs2 : R ⊆ l.erase x := fun y hy => (List.mem_erase_of_ne (fun e => hn (by rw [← e]; exact (hRm y).1 hy))).2 (hs hy)
      have := hRn.length_le_of_subset hs2
      rw [List.length_erase_of_mem hx] at this
      have := List.length_pos_of_mem hx
      omega
    refine ⟨hx, List.nodup_iff_count.2 fun x => ?_⟩
    by_cases hm : x ∈ l
    · have := hx x hm
      have h5 := h x.toNat (by omega)
      rw [show ((x.toNat : Nat) : Int) = x by omega] at h5
      omega
    · rw [List.count_eq_zero.2 hm]; omega
theorem count_take {l : List Int} {i : Nat} {x y : Int} (h : l[i]? = some x) : (l.take (i + 1)).count y = (l.take i).count y + if x = y then 1 else 0 := by
  rw [List.take_add_one, h]
  simp only [Option.toList_some, List.count_append, List.count_cons, List.count_nil, Nat.zero_add, beq_iff_eq]

theorem refPermutes_is (nl : Bool) (l : List Int) (c : Cp) (hl : l.length < 1000000) : PureIs prog 24 [.sl nl (l.map intC) c] (.sc (.int .i64 (permR l))) := by
  refine PureIs.of (nv := 1) (hid := [2, 3, 4, 5, 9, 15, 23, 27]) func24 rfl (by kernel_rfl) (by simp [ntmps24]) fun _ => ?_
  rw [ntmps24, results24]
  refine EvC.seq (EvC.rg (by (simp only [go_sem]) <;> rfl) (by simp) ?_)
  refine EvC.seq ?_
  refine EvC.seq (EvC.rg (by (simp only [go_sem]) <;> rfl) (by simp) ?_)
  refine EvC.block ?_  -- 0
  refine EvC.loopS (σ := Nat) (fun k => ⟨[(0, .sl nl (l.map intC) c), (3, .sc (.int .i64 k))], [], [], 0⟩) (fun k => l.length - k) (fun k => k ≤ l.length ∧ ∀ i : Nat, i < k → l.count (i : Int) = 1) [0, 3] 0 ?_ ?_
  · exact ⟨[], 0, rfl, (by (simp only [go_sem, Int.natCast_zero]) <;> rfl), Nat.zero_le _, fun i h => absurd h (by omega)⟩
  rintro k ⟨hk, hall⟩
  refine EvC.seq ?_
  refine EvC.seq (EvC.rg (by (simp only [go_sem, List.length_map]) <;> rfl) (by simp) ?_)
  refine EvC.cond (by (simp only [go_sem]) <;> rfl) (fun hc => ?_) (fun hc => ?_)
  rotate_left
  · refine EvC.exit ?_  -- 0
    have hk : l.length = k := by have : ¬ k < l.length := by simpa using hc
                                 omega
    refine EvC.seq (EvC.rg (by (simp only [go_sem]) <;> rfl) (by simp) ?_)
    refine EvC.ret ⟨.inl rfl, _, (by (simp only [go_sem]) <;> rfl), ?_, rfl⟩
    simp only [go_sem]
    rw [permR, if_pos (perm_count.2 fun i hi => hall i (by omega))]
  have hkl : k < l.length := by simpa using hc
  clear hc
  refine EvC.skip ?_
  refine EvC.seq ?_
  refine EvC.block ?_  -- 1
  refine EvC.seq (EvC.rg (by (simp only [go_sem]) <;> rfl) (by simp) ?_)
  refine EvC.seq ?_
  refine EvC.seq (EvC.rg (by (simp only [go_sem]) <;> rfl) (by simp) ?_)
  refine EvC.block ?_  -- 2
  refine EvC.loopS (σ := Nat) (fun i => ⟨[(0, .sl nl (l.map intC) c), (3, .sc (.int .i64 k)), (4, .sc (.int .i64 ((l.take i).count (k : Int) : Nat))), (5, .sc (.int .i64 i))], [], [], 0⟩) (fun i => l.length - i) (fun i => i ≤ l.length) [0, 3, 4, 5] 0 ?_ ?_
  · exact ⟨[], 0, rfl, (by (simp only [go_sem, Int.natCast_zero, List.take_zero, List.count_nil]) <;> rfl), Nat.zero_le _⟩
  intro i hi
  have hct : (l.take i).count (k : Int) ≤ i := Nat.le_trans List.count_le_length (by simp; omega)
  refine EvC.seq ?_
  refine EvC.seq (EvC.rg (by (simp only [go_sem, List.length_map]) <;> rfl) (by simp) ?_)
  refine EvC.cond (by (simp only [go_sem]) <;> rfl) (fun hc => ?_) (fun hc => ?_)
  rotate_left
  · refine EvC.exit ?_  -- 2
    obtain rfl : l.length = i := by have : ¬ i < l.length := by simpa using hc
                                    omega
    clear hc
    rw [List.take_length] at hct ⊢
    refine EvC.seq (EvC.rg (by (simp only [go_sem]) <;> rfl) (by simp) ?_)
    by_cases h1 : l.count (k : Int) = 1
    · have d1 : decide (((l.count (k : Int) : Nat) : Int) = 1) = true := decide_eq_true (by omega)
      refine EvC.cond_false (by (simp only [go_sem, d1]) <;> rfl) ?_
      refine EvC.skip ?_
      refine EvC.rg (by (simp only [go_sem]) <;> rfl) (by exact inI64_of (by omega) (by omega)) ?_
      refine ⟨[], k + 1, rfl, (by (simp only [go_sem, Int.natCast_add, Int.natCast_one]) <;> rfl), ⟨hkl, fun j hj => ?_⟩, by omega⟩
      by_cases e : j = k
      · rw [e]; exact h1
      · exact hall j (by omega)
    · have d1 : decide (((l.count (k : Int) : Nat) : Int) = 1) = false := decide_eq_false (by omega)
      refine EvC.cond_true (by (simp only [go_sem, d1]) <;> rfl) ?_
      refine EvC.seq (EvC.rg (by (simp only [go_sem]) <;> rfl) (by simp) ?_)
      refine EvC.ret ⟨.inl rfl, _, (by (simp only [go_sem]) <;> rfl), ?_, rfl⟩
      simp only [go_sem]
      rw [permR, if_neg (fun h => h1 (perm_count.1 h k hkl))]
  have hil : i < l.length := by simpa using hc
  clear hc
  have hei : l[i]? = some (l[i]'hil) := List.getElem?_eq_getElem hil
  generalize l[i]'hil = x at hei
  have hcs := count_take (y := (k : Int)) hei
  refine EvC.skip ?_
  refine EvC.seq ?_
  refine EvC.block ?_  -- 3
  refine EvC.seq (EvC.rg (by (simp only [go_sem, hei, intC]) <;> rfl) (by simp) ?_)
  refine EvC.cond (by (simp only [go_sem]) <;> rfl) (fun hc => ?_) (fun hc => ?_)
  · have e : x = (k : Int) := by simpa using hc
    rw [if_pos e] at hcs
    refine EvC.rg (by (simp only [go_sem]) <;> rfl) (by exact inI64_of (by omega) (by omega)) ?_
    refine EvC.rg (by (simp only [go_sem]) <;> rfl) (by exact inI64_of (by omega) (by omega)) ?_
    exact ⟨[], i + 1, rfl, (by rw [hcs]; (simp only [go_sem, Int.natCast_add, Int.natCast_one]) <;> rfl), hil, by omega⟩
  have e : ¬ x = (k : Int) := by simpa using hc
  rw [if_neg e, Nat.add_zero] at hcs
  refine EvC.skip ?_
  refine EvC.rg (by (simp only [go_sem]) <;> rfl) (by exact inI64_of (by omega) (by omega)) ?_
  exact ⟨[], i + 1, rfl, (by rw [hcs]; (simp only [go_sem, Int.natCast_add, Int.natCast_one]) <;> rfl), hil, by omega⟩
end Go.Avl
namespace Go.Avl
open Go Go.Proofs.Try
set_option maxRecDepth 10000
set_option linter.unusedSimpArgs false

/-! ### Permutations and their inverses -/
theorem gI_eq {l : List Int} {i : Nat} (h : i < l.length) : gI l i = l[i] := by simp [gI, h]
theorem gI_bd {l : List Int} (hp : permB l = true) {i : Nat} (h : i < l.length) : 0 ≤ gI l i ∧ gI l i < l.length := by
  rw [gI_eq h]; exact (permB_true.1 hp).1 _ (List.getElem_mem h)
theorem gI_idx {l : List Int} (hp : permB l = true) {i : Nat} (h : i < l.length) : l.idxOf (gI l i) = i := by
  rw [gI_eq h]; exact (permB_true.1 hp).2.idxOf_getElem i h
theorem gI_inj {l : List Int} (hp : permB l = true) {i j : Nat} (hi : i < l.length) (hj : j < l.length) (h : gI l i = gI l j) : i = j := by
  rw [← gI_idx hp hi, h, gI_idx hp hj]
theorem perm_mem {l : List Int} (hp : permB l = true) {t : Nat} (h : t < l.length) : (t : Int) ∈ l := by
  have := perm_count.1 hp t h
  exact List.count_pos_iff.1 (by omega)
theorem gI_of_idx {l : List Int} (hp : permB l = true) {t : Nat} (h : t < l.length) : l.idxOf (t : Int) < l.length ∧ gI l (l.idxOf (t : Int)) = t := by
  have hl := List.idxOf_lt_length_of_mem (perm_mem hp h)
  exact ⟨hl, by rw [gI_eq hl, List.getElem_idxOf hl]⟩
def invL (l : List Int) : List Int := (List.range l.length).map fun t : Nat => ((l.idxOf (t : Int) : Nat) : Int)
theorem invL_len (l : List Int) : (invL l).length = l.length := by simp [invL]
theorem invL_at {l : List Int} {t : Nat} (h : t < l.length) : gI (invL l) t = ((l.idxOf (t : Int) : Nat) : Int) := by
  simp only [gI, invL]; rw [List.getElem?_map, List.getElem?_range h]; rfl
theorem invL_gI {l : List Int} (hp : permB l = true) {i : Nat} (h : i < l.length) : gI (invL l) (gI l i).toNat = i := by
  have hb := gI_bd hp h
  have e : (((gI l i).toNat : Nat) : Int) = gI l i := by omega
  rw [invL_at (by omega), e, gI_idx hp h]
theorem invL_perm {l : List Int} (hp : permB l = true) : permB (invL l) = true := by
  rw [permB_true, invL_len]
  constructor
  · intro x hx
    simp only [invL, List.mem_map, List.mem_range] at hx
    obtain ⟨t, ht, rfl⟩ := hx
    have := (gI_of_idx hp ht).1
    omega
  · rw [invL, List.nodup_iff_pairwise_ne, List.pairwise_map]
    refine List.Pairwise.imp_of_mem (fun {s t} hs ht hne e => hne ?_) (List.nodup_iff_pairwise_ne.1 List.nodup_range)
    have h1 := (gI_of_idx hp (List.mem_range.1 hs)).2
    have h2 := (gI_of_idx hp (List.mem_range.1 ht)).2
    have e' : l.idxOf (s : Int) = l.idxOf (t : Int) := by omega
    rw [e'] at h1
    omega

/-! ### Renamed machines -/
theorem renM_len (m : Mach) (ins outs states : List Int) : (renM m ins outs states).rows.length = m.rows.length := by simp [renM, mapRows]
theorem renM_at {m : Mach} {ins outs states : List Int} (hi : ins.length = m.ins.toNat) (hs : states.length = m.rows.length) (pi : permB ins = true) (ps : permB states = true) {s i : Nat} (hs' : s < m.rows.length) (hi' : i < m.ins.toNat) :
    eAt (renM m ins outs states) (gI states s).toNat (gI ins i).toNat = renE outs states (eAt m s i) := by
  have b1 := gI_bd ps (show s < states.length by omega)
  have b2 := gI_bd pi (show i < ins.length by omega)
  have h1 : (gI states s).toNat < m.rows.length := by omega
  have h2 : (gI ins i).toNat < m.ins.toNat := by omega
  have := mapP_get (F := renF m ins outs states) hs' hi' fun s' i' hs'' hi'' h => by
    simp only [renF, Prod.mk.injEq] at h
    have c1 := gI_bd ps (show s' < states.length by omega)
    have c2 := gI_bd pi (show i' < ins.length by omega)
    exact ⟨(gI_inj ps (by omega) (by omega) (by omega)).symm, (gI_inj pi (by omega) (by omega) (by omega)).symm⟩
  refine eAt_get (r := (false, (List.range m.ins.toNat).map (mapP (renF m ins outs states) m.ins.toNat m.rows.length 0 (gI states s).toNat))) ?_ ?_
  · simp only [renM, mapRows]; rw [List.getElem?_map, List.getElem?_range h1]; rfl
  · simp only; rw [List.getElem?_map, List.getElem?_range h2]; exact congrArg some this
end Go.Avl
namespace Go.Avl
open Go Go.Proofs.Try
set_option maxRecDepth 10000
set_option linter.unusedSimpArgs false

/-- The three lists fit a machine. -/
structure RenOk (m : Mach) (ins outs states : List Int) : Prop where
  v : Valid m
  li : ins.length = m.ins.toNat
  lo : outs.length = m.outs.toNat
  ls : states.length = m.rows.length
  pi : permB ins = true
  po : permB outs = true
  ps : permB states = true
theorem isNone_neg {e : Int × Int} (h : isNone e = true) : e = (-1, -1) := by
  unfold isNone at h; simp only [Bool.and_eq_true, decide_eq_true_eq] at h; exact Prod.ext h.1 h.2
theorem isNone_pos {e : Int × Int} (h : 0 ≤ e.1) : ¬ isNone e = true := fun h' => by rw [isNone_neg h'] at h; simp at h
theorem renE_fit {m : Mach} {ins outs states : List Int} (h : RenOk m ins outs states) {e : Int × Int} (he : isNone e = true ∨ (0 ≤ e.1 ∧ e.1 < m.rows.length ∧ 0 ≤ e.2 ∧ e.2 < m.outs)) :
    isNone (renE outs states e) = true ∨ (0 ≤ (renE outs states e).1 ∧ (renE outs states e).1 < m.rows.length ∧ 0 ≤ (renE outs states e).2 ∧ (renE outs states e).2 < m.outs) := by
  have := h.v.outs
  have := h.ls
  have := h.lo
  unfold renE
  by_cases hn : isNone e = true
  · rw [if_pos hn]; exact .inl hn
  · rw [if_neg hn]
    have he := he.resolve_left hn
    have b1 := gI_bd h.ps (show e.1.toNat < states.length by omega)
    have b2 := gI_bd h.po (show e.2.toNat < outs.length by omega)
    refine .inr ⟨b1.1, ?_, b2.1, ?_⟩ <;> simp only <;> omega
theorem renM_valid {m : Mach} {ins outs states : List Int} (h : RenOk m ins outs states) : Valid (renM m ins outs states) := by
  have hai := h.v.ins
  refine valid_tab (N := m.ins.toNat) (by omega) (by omega) h.v.outs h.v.rows fun u v hu hv => ?_
  obtain ⟨s1, s2⟩ := gI_of_idx h.ps (show u < states.length by have := h.ls; omega)
  obtain ⟨i1, i2⟩ := gI_of_idx h.pi (show v < ins.length by have := h.li; omega)
  have hs : states.idxOf (u : Int) < m.rows.length := by have := h.ls; omega
  have hi : ins.idxOf (v : Int) < m.ins.toNat := by have := h.li; omega
  have ha := renM_at (outs := outs) h.li h.ls h.pi h.ps hs hi
  rw [s2, i2, Int.toNat_natCast, Int.toNat_natCast] at ha
  have hb : eAt (renM m ins outs states) u v = mapP (renF m ins outs states) m.ins.toNat m.rows.length 0 u v := eAt_tab hu hv
  rw [← hb, ha]
  obtain ⟨_, _, _, hf⟩ := eAt_fit h.v hs (show ((ins.idxOf (v : Int) : Nat) : Int) < m.ins by omega)
  exact renE_fit h hf
def outG (outs : List Int) (y : Int) : Int := if 0 ≤ y then gI outs y.toNat else -1
theorem renM_step {m : Mach} {ins outs states : List Int} (h : RenOk m ins outs states) (s s' a : Int) (hR : (s < 0 ∧ s' < 0) ∨ (0 ≤ s ∧ s < m.rows.length ∧ s' = gI states s.toNat)) (h0 : 0 ≤ a) (h1 : a < m.ins) :
    (((stepR m s a).1 < 0 ∧ (stepR (renM m ins outs states) s' (gI ins a.toNat)).1 < 0) ∨ (0 ≤ (stepR m s a).1 ∧ (stepR m s a).1 < m.rows.length ∧ (stepR (renM m ins outs states) s' (gI ins a.toNat)).1 = gI states (stepR m s a).1.toNat)) ∧
    (stepR (renM m ins outs states) s' (gI ins a.toNat)).2 = outG outs (stepR m s a).2 := by
  rcases hR with ⟨k1, k2⟩ | ⟨k1, k2, rfl⟩
  · rw [stepR_neg k1, stepR_neg k2]; exact ⟨.inl ⟨by decide, by decide⟩, rfl⟩
  · obtain ⟨k, rfl⟩ : ∃ k : Nat, s = k := ⟨s.toNat, by omega⟩
    have b1 := gI_bd h.ps (show k < states.length by have := h.ls; omega)
    have b2 := gI_bd h.pi (show a.toNat < ins.length by have := h.li; omega)
    have e1 : gI states (k : Int).toNat = (((gI states k).toNat : Nat) : Int) := by rw [Int.toNat_natCast]; omega
    rw [e1, stepR_eAt b2.1, stepR_eAt h0, renM_at h.li h.ls h.pi h.ps (by omega) (by omega)]
    obtain ⟨_, _, _, hf⟩ := eAt_fit h.v (show k < m.rows.length by omega) (show ((a.toNat : Nat) : Int) < m.ins by omega)
    unfold renE
    by_cases hn : isNone (eAt m k a.toNat) = true
    · rw [if_pos hn, isNone_neg hn]; exact ⟨.inl ⟨by decide, by decide⟩, rfl⟩
    · rw [if_neg hn]
      have hf := hf.resolve_left hn
      exact ⟨.inr ⟨hf.1, hf.2.1, rfl⟩, by unfold outG; rw [if_pos hf.2.2.1]⟩
theorem renM_run {m : Mach} {ins outs states : List Int} (h : RenOk m ins outs states) {s : Nat} (hs : s < m.rows.length) {w : List Int} (hw : ∀ a ∈ w, 0 ≤ a ∧ a < m.ins) :
    runR (renM m ins outs states) (gI states s) (w.map fun a => gI ins a.toNat) = (runR m s w).map (outG outs) :=
  runR_rel (m := m) (m' := renM m ins outs states) (g := outG outs) (h := fun a => gI ins a.toNat) (R := fun s s' => (s < 0 ∧ s' < 0) ∨ (0 ≤ s ∧ s < m.rows.length ∧ s' = gI states s.toNat))
    (fun s s' a hR h0 h1 => renM_step h s s' a hR h0 h1) w s (gI states s) (.inr ⟨by omega, by omega, by rw [Int.toNat_natCast]⟩) hw
/-- Renaming back leads back. -/
theorem renE_back {m : Mach} {ins outs states : List Int} (h : RenOk m ins outs states) {e : Int × Int} (he : isNone e = true ∨ (0 ≤ e.1 ∧ e.1 < m.rows.length ∧ 0 ≤ e.2 ∧ e.2 < m.outs)) : renE (invL outs) (invL states) (renE outs states e) = e := by
  have := h.ls
  have := h.lo
  unfold renE
  by_cases hn : isNone e = true
  · rw [if_pos hn, if_pos hn]
  · have he := he.resolve_left hn
    have b1 := gI_bd h.ps (show e.1.toNat < states.length by omega)
    rw [if_neg hn, if_neg (isNone_pos b1.1)]
    simp only
    rw [invL_gI h.ps (by omega), invL_gI h.po (by omega)]
    exact Prod.ext (by simp only; omega) (by simp only; omega)
theorem renOk_back {m : Mach} {ins outs states : List Int} (h : RenOk m ins outs states) : RenOk (renM m ins outs states) (invL ins) (invL outs) (invL states) :=
  ⟨renM_valid h, by rw [invL_len]; exact h.li, by rw [invL_len]; exact h.lo, by rw [invL_len, renM_len]; exact h.ls, invL_perm h.pi, invL_perm h.po, invL_perm h.ps⟩
theorem renM_back {m : Mach} {ins outs states : List Int} (h : RenOk m ins outs states) : (renM (renM m ins outs states) (invL ins) (invL outs) (invL states)).rows.map (·.2) = m.rows.map (·.2) := by
  have hb := renOk_back h
  have hai := h.v.ins
  have v2 := renM_valid hb
  rw [rows_tab v2 (N := m.ins.toNat) (by show m.ins = _; omega), rows_tab h.v (N := m.ins.toNat) (by omega), renM_len, renM_len]
  refine List.map_congr_left fun s hs => List.map_congr_left fun i hi => ?_
  have hs := List.mem_range.1 hs
  have hi := List.mem_range.1 hi
  have b1 := gI_bd h.ps (show s < states.length by have := h.ls; omega)
  have b2 := gI_bd h.pi (show i < ins.length by have := h.li; omega)
  have ha := renM_at (m := renM m ins outs states) (outs := invL outs) hb.li hb.ls hb.pi hb.ps (s := (gI states s).toNat) (i := (gI ins i).toNat) (by rw [renM_len]; have := h.ls; omega) (by show _ < m.ins.toNat; have := h.li; omega)
  rw [invL_gI h.ps (by have := h.ls; omega), invL_gI h.pi (by have := h.li; omega), Int.toNat_natCast, Int.toNat_natCast, renM_at h.li h.ls h.pi h.ps hs hi] at ha
  rw [ha]
  obtain ⟨_, _, _, hf⟩ := eAt_fit h.v hs (show (i : Int) < m.ins by omega)
  exact renE_back h hf
end Go.Avl
namespace Go.Avl
open Go Go.Proofs.Try
set_option maxRecDepth 10000
set_option linter.unusedSimpArgs false

/-- The inverse list, written down one number at a time. -/
def backL (l : List Int) : Nat → List Int
  | 0 => List.replicate l.length 0
  | k + 1 => (backL l k).set (gI l k).toNat (k : Int)
theorem backL_len (l : List Int) (k : Nat) : (backL l k).length = l.length := by
  induction k with
  | zero => simp [backL]
  | succ k ih => simp [backL, ih]
theorem backL_get {l : List Int} (hp : permB l = true) {k : Nat} (hk : k ≤ l.length) {t : Nat} (ht : t < l.length) : (backL l k)[t]? = some (if l.idxOf (t : Int) < k then ((l.idxOf (t : Int) : Nat) : Int) else 0) := by
  induction k with
  | zero => simp [backL, ht]
  | succ k ih =>
    have b := gI_bd hp (show k < l.length by omega)
    have hi := gI_idx hp (show k < l.length by omega)
    have hs : (backL l (k + 1))[t]? = ((backL l k).set (gI l k).toNat (k : Int))[t]? := rfl
    rw [hs]
    by_cases e : (gI l k).toNat = t
    · have : ((t : Nat) : Int) = gI l k := by omega
      rw [this, hi, e, List.getElem?_set_self (by rw [backL_len]; exact ht), if_pos (by omega)]
    · rw [List.getElem?_set_ne e, ih (by omega)]
      obtain ⟨g1, g2⟩ := gI_of_idx hp ht
      have : l.idxOf (t : Int) ≠ k := by
        intro h; rw [h] at g2; omega
      by_cases h : l.idxOf (t : Int) < k
      · rw [if_pos h, if_pos (by omega)]
      · rw [if_neg h, if_neg (by omega)]
theorem backL_done {l : List Int} (hp : permB l = true) : backL l l.length = invL l := by
  apply List.ext_getElem?
  intro t
  by_cases ht : t < l.length
  · rw [backL_get hp (Nat.le_refl _) ht, if_pos (gI_of_idx hp ht).1]
    simp [invL, ht]
  · rw [List.getElem?_eq_none (by rw [backL_len]; omega), List.getElem?_eq_none (by rw [invL_len]; omega)]
theorem backL_map (l : List Int) (k : Nat) : ((backL l k).map intC).set (gI l k).toNat [.sc (.int .i64 (k : Int))] = (backL l (k + 1)).map intC := by
  rw [backL, List.map_set]; rfl
theorem backL_zero (l : List Int) : (backL l 0).map intC = List.replicate l.length [.sc (.int .i64 0)] := by
  simp [backL, intC]
theorem runR_out {m : Mach} (hv : Valid m) : ∀ (w : List Int) (s : Int), s < m.rows.length → (∀ x ∈ w, 0 ≤ x ∧ x < m.ins) → ∀ y ∈ runR m s w, -1 ≤ y ∧ y < m.outs
  | [], _, _, _, _, h => by cases h
  | x :: w, s, hs, hw, y, h => by
    have hx := hw x List.mem_cons_self
    simp only [runR, List.mem_cons] at h
    rcases h with rfl | h
    · have := hv.outs
      by_cases hn : s < 0
      · rw [stepR_neg hn]; simp only; omega
      · obtain ⟨r, e, k1, k2, k3, k4⟩ := stepR_get hv (by omega) hs hx
        have := fits_edge k4
        rw [k3]; omega
    · exact runR_out hv w _ (stepR_lt hv hs hx) (fun z hz => hw z (List.mem_cons_of_mem _ hz)) y h
end Go.Avl
namespace Go.Avl
open Go Go.Proofs.Try
set_option maxRecDepth 10000
set_option linter.unusedSimpArgs false

theorem renameA_tu (a : Mach) (ha : checkM a = 0) (ins outs states : List Int) : ∃ (M : Mach) (cp : Cp) (e : Int), renameA a ins outs states = .tu [.ag [.sc (.int .i64 M.ins), .sc (.int .i64 M.outs), .sl M.nl (M.rows.map rowG) cp], .sc (.int .i64 e)] ∧ ((renBad a ins outs states ∧ M = ⟨0, 0, true, []⟩ ∧ cp = .zer ∧ e = 16) ∨ (¬ renBad a ins outs states ∧ ¬ renPerm ins outs states ∧ M = ⟨0, 0, true, []⟩ ∧ cp = .zer ∧ e = 1) ∨ (¬ renBad a ins outs states ∧ renPerm ins outs states ∧ M = renM a ins outs states ∧ cp = .full ∧ e = 0)) := by
  unfold renameA
  rw [if_neg (by simp [ha])]
  by_cases h : renBad a ins outs states
  · rw [if_pos h]
    exact ⟨⟨0, 0, true, []⟩, .zer, 16, rfl, .inl ⟨h, rfl, rfl, rfl⟩⟩
  rw [if_neg h]
  by_cases ho : renPerm ins outs states
  · rw [if_pos ho]
    exact ⟨_, .full, 0, rfl, .inr (.inr ⟨h, ho, rfl, rfl, rfl⟩)⟩
  · rw [if_neg ho]
    exact ⟨⟨0, 0, true, []⟩, .zer, 1, rfl, .inr (.inl ⟨h, ho, rfl, rfl, rfl⟩)⟩
theorem permR_bd (l : List Int) : permR l = 0 ∧ permB l = false ∨ permR l = 1 ∧ permB l = true := by
  unfold permR
  cases permB l
  · exact .inl ⟨rfl, rfl⟩
  · exact .inr ⟨rfl, rfl⟩
theorem permR_zero {l1 l2 l3 : List Int} : permR l1 * permR l2 * permR l3 = 0 ↔ ¬ (permB l1 = true ∧ permB l2 = true ∧ permB l3 = true) := by
  rcases permR_bd l1 with ⟨h1, k1⟩ | ⟨h1, k1⟩ <;> rcases permR_bd l2 with ⟨h2, k2⟩ | ⟨h2, k2⟩ <;> rcases permR_bd l3 with ⟨h3, k3⟩ | ⟨h3, k3⟩ <;> simp [h1, h2, h3, k1, k2, k3]
theorem permR_I (l1 l2 l3 : List Int) : inI64 (permR l1 * permR l2) = true ∧ inI64 (permR l1 * permR l2 * permR l3) = true := by
  rcases permR_bd l1 with ⟨h1, -⟩ | ⟨h1, -⟩ <;> rcases permR_bd l2 with ⟨h2, -⟩ | ⟨h2, -⟩ <;> rcases permR_bd l3 with ⟨h3, -⟩ | ⟨h3, -⟩ <;> rw [h1, h2, h3] <;> exact ⟨inI64_of (by decide) (by decide), inI64_of (by decide) (by decide)⟩

set_option maxHeartbeats 4000000 in
theorem joinsRename_is {x : LM} (hx : x.Ok) (n1 n2 n3 : Bool) (ins outs states : List Int) (c1 c2 c3 : Cp) (wn : Bool) (w : List Int) (wc : Cp) (hw : ∀ a ∈ w, 0 ≤ a ∧ a < 256) :
    PureIs prog 5 [.ag x.cells, .ag [.sl n1 (ins.map intC) c1, .sl n2 (outs.map intC) c2, .sl n3 (states.map intC) c3], .ag [.sl wn (w.map u8C) wc]] (.sc (.bool true)) := by
  have va := LM.valid hx
  obtain ⟨a, ha⟩ : ∃ a, a = x.mach := ⟨_, rfl⟩
  rw [← ha] at va
  have hA : PureIs prog 12 [.ag [.sc (.int .u8 x.st), .sc (.int .u8 x.ins), .sc (.int .u8 x.outs), .sc (.bool x.part), .sl x.nl (x.es.map u16C) x.cap]] (.ag [.sc (.int .i64 a.ins), .sc (.int .i64 a.outs), .sl a.nl (a.rows.map rowC) .unk]) := by
    have := mOf_is hx; rw [← ha] at this; exact this
  have hra := va.rows
  have hai := va.ins
  have hao := va.outs
  refine PureIs.of (nv := 24) (hid := [39, 75, 100, 136, 144, 162, 180, 187, 201, 205, 209, 213, 219, 235, 251]) func5 rfl (by kernel_rfl) (by simp [ntmps5]) fun _ => ?_
  rw [ntmps5, results5]
  refine EvC.seq (EvC.rg (by (simp only [go_sem, LM.cells]) <;> rfl) (by simp) ?_)
  refine EvC.seq ?_
  apply EvC.seq
  apply EvC.trd
  · (simp only [go_sem, List.length_map]) <;> rfl
  · simp
  refine EvC.cond (by (simp only [go_sem]) <;> rfl) (fun hc => ?_) (fun hc => ?_)
  · -- then
    refine EvC.seq (EvC.rg (by (simp only [go_sem]) <;> rfl) (by simp) ?_)
    refine EvC.ret ⟨.inl rfl, _, (by (simp only [go_sem]) <;> rfl), ?_, rfl⟩
    simp only [go_sem]
  have h70 : ¬ ((70 : Int) < ins.length ∨ (70 : Int) < outs.length ∨ (70 : Int) < states.length) := by
    by_cases h1 : (70 : Int) < ins.length <;> by_cases h2 : (70 : Int) < outs.length <;> simp_all
  clear hc
  have hRs := rename_is a va.small n1 n2 n3 ins outs states c1 c2 c3 (by omega) (by omega) (by omega)
  obtain ⟨M, cp, e, hM, hcs⟩ := renameA_tu a va.check ins outs states
  rw [hM] at hRs
  refine EvC.skip ?_
  apply EvC.seq
  apply EvC.tr
  · apply Tr.run
    · (simp only [go_sem]) <;> rfl
    · simp
    apply Tr.cons
    · exact .call rfl rfl (by (simp only [go_sem]) <;> rfl) (by (simp only [go_sem]) <;> rfl) (by (simp only [go_sem]) <;> rfl) (by (simp only [go_sem]) <;> rfl) (by (simp only [go_sem]) <;> rfl) (hA)
    apply Tr.done
    · (simp only [go_sem]) <;> rfl
    · simp
  apply EvC.seq
  apply EvC.tr
  · apply Tr.run
    · (simp only [go_sem]) <;> rfl
    · simp
    apply Tr.cons
    · exact .call rfl rfl (by (simp only [go_sem]) <;> rfl) (by (simp only [go_sem]) <;> rfl) (by (simp only [go_sem]) <;> rfl) (by (simp only [go_sem]) <;> rfl) (by (simp only [go_sem]) <;> rfl) (hRs)
    apply Tr.done
    · (simp only [go_sem]) <;> rfl
    · simp
  refine EvC.frzB 1 (by (simp only [go_sem]) <;> rfl) ?_
  refine EvC.frzB 2 (by (simp only [go_sem]) <;> rfl) ?_
  refine EvC.frzB 22 (by (simp only [go_sem]) <;> rfl) ?_
  refine EvC.frzB 35 (by (simp only [go_sem]) <;> rfl) ?_
  refine EvC.seq ?_
  apply EvC.seq
  apply EvC.trd
  · (simp only [go_sem, List.length_map]) <;> rfl
  · simp
  refine EvC.cond (by (simp only [go_sem]) <;> rfl) (fun hc => ?_) (fun hc => ?_)
  · -- then
    have hb : renBad a ins outs states := by
      unfold renBad
      by_cases h1 : (ins.length : Int) = a.ins <;> by_cases h2 : (outs.length : Int) = a.outs <;> by_cases h3 : (states.length : Int) = a.rows.length <;> simp_all <;> omega
    rcases hcs with ⟨-, rfl, rfl, rfl⟩ | ⟨h, -⟩ | ⟨h, -⟩
    · apply EvC.seq
      apply EvC.tr
      · apply Tr.run
        · (simp only [go_sem]) <;> rfl
        · simp
        apply Tr.cons
        · exact .call rfl rfl (by (simp only [go_sem]) <;> rfl) (by (simp only [go_sem]) <;> rfl) (by (simp only [go_sem]) <;> rfl) (by (simp only [go_sem]) <;> rfl) (by (simp only [go_sem]) <;> rfl) (nothing_is 16 .zer)
        apply Tr.run
        · (simp only [go_sem]) <;> rfl
        · simp
        apply Tr.cons
        · exact .callG rfl rfl (by (simp only [go_sem]) <;> rfl) rfl (by (simp only [go_sem]) <;> rfl) (by (simp only [go_sem]) <;> rfl) (by (simp only [go_sem]) <;> rfl) (by (simp only [go_sem]) <;> rfl) (by (simp only [go_sem]) <;> rfl) (lives_is)
        apply Tr.done
        · (simp only [go_sem]) <;> rfl
        · simp
      refine EvC.ret ⟨.inl rfl, _, (by (simp only [go_sem]) <;> rfl), ?_, rfl⟩
      simp only [go_sem]
    · exact absurd hb h
    · exact absurd hb h
  have hb : ¬ renBad a ins outs states := by
    unfold renBad
    by_cases h1 : (ins.length : Int) = a.ins <;> by_cases h2 : (outs.length : Int) = a.outs <;> by_cases h3 : (states.length : Int) = a.rows.length <;> simp_all <;> omega
  clear hc
  refine EvC.skip ?_
  refine EvC.seq ?_
  obtain ⟨I1, I2⟩ := permR_I ins outs states
  have hls : states.length = a.rows.length := by unfold renBad at hb; omega
  have hs0 : states[0]? = some (gI states 0) := by rw [gI_eq (by omega)]; exact List.getElem?_eq_getElem (by omega)
  have hz := permR_zero (l1 := ins) (l2 := outs) (l3 := states)
  have hP1 := refPermutes_is n1 ins c1 (by omega)
  have hP2 := refPermutes_is n2 outs c2 (by omega)
  have hP3 := refPermutes_is n3 states c3 (by omega)
  rcases hcs with ⟨h, -⟩ | ⟨-, hnp, rfl, rfl, rfl⟩ | ⟨-, hp, hMm, rfl, rfl⟩
  · exact absurd h hb
  · by_cases hz' : permR ins * permR outs * permR states = 0
    · have d1 : decide (permR ins * permR outs * permR states = 0) = true := decide_eq_true hz'
      apply EvC.seq
      apply EvC.drw mixed
      · apply Tr.run
        · (simp only [go_sem, hs0, intC, d1]) <;> rfl
        · simp [I1, I2]; try omega
        apply Tr.cons
        · exact .call rfl rfl (by (simp only [go_sem]) <;> rfl) (by (simp only [go_sem]) <;> rfl) (by (simp only [go_sem]) <;> rfl) (by (simp only [go_sem]) <;> rfl) (by (simp only [go_sem]) <;> rfl) (hP1)
        apply Tr.run
        · (simp only [go_sem, hs0, intC, d1]) <;> rfl
        · simp [I1, I2]; try omega
        apply Tr.cons
        · exact .call rfl rfl (by (simp only [go_sem]) <;> rfl) (by (simp only [go_sem]) <;> rfl) (by (simp only [go_sem]) <;> rfl) (by (simp only [go_sem]) <;> rfl) (by (simp only [go_sem]) <;> rfl) (hP2)
        apply Tr.run
        · (simp only [go_sem, hs0, intC, d1]) <;> rfl
        · simp [I1, I2]; try omega
        apply Tr.cons
        · exact .call rfl rfl (by (simp only [go_sem]) <;> rfl) (by (simp only [go_sem]) <;> rfl) (by (simp only [go_sem]) <;> rfl) (by (simp only [go_sem]) <;> rfl) (by (simp only [go_sem]) <;> rfl) (hP3)
        apply Tr.done
        · (simp only [go_sem, hs0, intC, d1]) <;> rfl
        · simp [I1, I2]; try omega
      · kernel_rfl
      refine EvC.cond_true (by (simp only [go_sem]) <;> rfl) ?_
      apply EvC.seq
      apply EvC.tr
      · apply Tr.run
        · (simp only [go_sem]) <;> rfl
        · simp
        apply Tr.cons
        · exact .call rfl rfl (by (simp only [go_sem]) <;> rfl) (by (simp only [go_sem]) <;> rfl) (by (simp only [go_sem]) <;> rfl) (by (simp only [go_sem]) <;> rfl) (by (simp only [go_sem]) <;> rfl) (nothing_is 1 .zer)
        apply Tr.run
        · (simp only [go_sem]) <;> rfl
        · simp
        apply Tr.cons
        · exact .callG rfl rfl (by (simp only [go_sem]) <;> rfl) rfl (by (simp only [go_sem]) <;> rfl) (by (simp only [go_sem]) <;> rfl) (by (simp only [go_sem]) <;> rfl) (by (simp only [go_sem]) <;> rfl) (by (simp only [go_sem]) <;> rfl) (lives_is)
        apply Tr.done
        · (simp only [go_sem]) <;> rfl
        · simp
      refine EvC.ret ⟨.inl rfl, _, (by (simp only [go_sem]) <;> rfl), ?_, rfl⟩
      simp only [go_sem]
    · have d1 : decide (permR ins * permR outs * permR states = 0) = false := decide_eq_false hz'
      have hperm := Classical.not_not.1 (fun h => hz' (hz.2 h))
      have d2 : decide (gI states 0 = 0) = false := decide_eq_false fun h => hnp ⟨hperm.1, hperm.2.1, hperm.2.2, h⟩
      apply EvC.seq
      apply EvC.drw mixed
      · apply Tr.run
        · (simp only [go_sem, hs0, intC, d1, d2]) <;> rfl
        · simp [I1, I2]; try omega
        apply Tr.cons
        · exact .call rfl rfl (by (simp only [go_sem]) <;> rfl) (by (simp only [go_sem]) <;> rfl) (by (simp only [go_sem]) <;> rfl) (by (simp only [go_sem]) <;> rfl) (by (simp only [go_sem]) <;> rfl) (hP1)
        apply Tr.run
        · (simp only [go_sem, hs0, intC, d1, d2]) <;> rfl
        · simp [I1, I2]; try omega
        apply Tr.cons
        · exact .call rfl rfl (by (simp only [go_sem]) <;> rfl) (by (simp only [go_sem]) <;> rfl) (by (simp only [go_sem]) <;> rfl) (by (simp only [go_sem]) <;> rfl) (by (simp only [go_sem]) <;> rfl) (hP2)
        apply Tr.run
        · (simp only [go_sem, hs0, intC, d1, d2]) <;> rfl
        · simp [I1, I2]; try omega
        apply Tr.cons
        · exact .call rfl rfl (by (simp only [go_sem]) <;> rfl) (by (simp only [go_sem]) <;> rfl) (by (simp only [go_sem]) <;> rfl) (by (simp only [go_sem]) <;> rfl) (by (simp only [go_sem]) <;> rfl) (hP3)
        apply Tr.done
        · (simp only [go_sem, hs0, intC, d1, d2]) <;> rfl
        · simp [I1, I2]; try omega
      · kernel_rfl
      refine EvC.cond_true (by (simp only [go_sem]) <;> rfl) ?_
      apply EvC.seq
      apply EvC.tr
      · apply Tr.run
        · (simp only [go_sem]) <;> rfl
        · simp
        apply Tr.cons
        · exact .call rfl rfl (by (simp only [go_sem]) <;> rfl) (by (simp only [go_sem]) <;> rfl) (by (simp only [go_sem]) <;> rfl) (by (simp only [go_sem]) <;> rfl) (by (simp only [go_sem]) <;> rfl) (nothing_is 1 .zer)
        apply Tr.run
        · (simp only [go_sem]) <;> rfl
        · simp
        apply Tr.cons
        · exact .callG rfl rfl (by (simp only [go_sem]) <;> rfl) rfl (by (simp only [go_sem]) <;> rfl) (by (simp only [go_sem]) <;> rfl) (by (simp only [go_sem]) <;> rfl) (by (simp only [go_sem]) <;> rfl) (by (simp only [go_sem]) <;> rfl) (lives_is)
        apply Tr.done
        · (simp only [go_sem]) <;> rfl
        · simp
      refine EvC.ret ⟨.inl rfl, _, (by (simp only [go_sem]) <;> rfl), ?_, rfl⟩
      simp only [go_sem]
  have hz' : ¬ permR ins * permR outs * permR states = 0 := fun h => hz.1 h ⟨hp.1, hp.2.1, hp.2.2.1⟩
  have d1 : decide (permR ins * permR outs * permR states = 0) = false := decide_eq_false hz'
  have d2 : decide (gI states 0 = 0) = true := decide_eq_true hp.2.2.2
  apply EvC.seq
  apply EvC.drw mixed
  · apply Tr.run
    · (simp only [go_sem, hs0, intC, d1, d2]) <;> rfl
    · simp [I1, I2]; try omega
    apply Tr.cons
    · exact .call rfl rfl (by (simp only [go_sem]) <;> rfl) (by (simp only [go_sem]) <;> rfl) (by (simp only [go_sem]) <;> rfl) (by (simp only [go_sem]) <;> rfl) (by (simp only [go_sem]) <;> rfl) (hP1)
    apply Tr.run
    · (simp only [go_sem, hs0, intC, d1, d2]) <;> rfl
    · simp [I1, I2]; try omega
    apply Tr.cons
    · exact .call rfl rfl (by (simp only [go_sem]) <;> rfl) (by (simp only [go_sem]) <;> rfl) (by (simp only [go_sem]) <;> rfl) (by (simp only [go_sem]) <;> rfl) (by (simp only [go_sem]) <;> rfl) (hP2)
    apply Tr.run
    · (simp only [go_sem, hs0, intC, d1, d2]) <;> rfl
    · simp [I1, I2]; try omega
    apply Tr.cons
    · exact .call rfl rfl (by (simp only [go_sem]) <;> rfl) (by (simp only [go_sem]) <;> rfl) (by (simp only [go_sem]) <;> rfl) (by (simp only [go_sem]) <;> rfl) (by (simp only [go_sem]) <;> rfl) (hP3)
    apply Tr.done
    · (simp only [go_sem, hs0, intC, d1, d2]) <;> rfl
    · simp [I1, I2]; try omega
  · kernel_rfl
  refine EvC.cond_false (by (simp only [go_sem]) <;> rfl) ?_
  refine EvC.skip ?_
  refine EvC.seq ?_
  have hli : (ins.length : Int) = a.ins := by unfold renBad at hb; omega
  have hlo : (outs.length : Int) = a.outs := by unfold renBad at hb; omega
  have hR : RenOk a ins outs states := ⟨va, by omega, by omega, hls, hp.1, hp.2.1, hp.2.2.1⟩
  have vm := renM_valid hR
  have hml := renM_len a ins outs states
  have hmi : M.ins = a.ins := by rw [hMm]; rfl
  have hmo : M.outs = a.outs := by rw [hMm]; rfl
  rw [← hMm] at vm hml
  have hCl : PureIs prog 16 [.ag [.sc (.int .i64 a.ins), .sc (.int .i64 a.outs), .sl M.nl (M.rows.map rowG) .full]] (.sc (.bool true)) := by
    have := clipped_is M (by omega)
    rwa [Mach.cellsF, hmi, hmo] at this
  obtain ⟨M2, hM2⟩ : ∃ M2, M2 = renM M (invL ins) (invL outs) (invL states) := ⟨_, rfl⟩
  have h2i : M2.ins = a.ins := by rw [hM2]; exact hmi
  have h2o : M2.outs = a.outs := by rw [hM2]; exact hmo
  have h2n : M2.nl = false := by rw [hM2]; rfl
  have hR2 : RenOk M (invL ins) (invL outs) (invL states) := by rw [hMm]; exact renOk_back hR
  have h2b : M2.rows.map (·.2) = a.rows.map (·.2) := by rw [hM2, hMm]; exact renM_back hR
  have v2 : Valid M2 := by rw [hM2]; exact renM_valid hR2
  have hRb : ∀ m1 m2 m3 d1 d2 d3, PureIs prog 23 [.ag [.sc (.int .i64 a.ins), .sc (.int .i64 a.outs), .sl M.nl (M.rows.map rowG) .full], .sl m1 ((invL ins).map intC) d1, .sl m2 ((invL outs).map intC) d2, .sl m3 ((invL states).map intC) d3] (.tu [.ag [.sc (.int .i64 a.ins), .sc (.int .i64 a.outs), .sl false (M2.rows.map rowG) .full], .sc (.int .i64 0)]) := by
    intro m1 m2 m3 d1 d2 d3
    have hr := rename_is M vm.small m1 m2 m3 (invL ins) (invL outs) (invL states) .unk .unk .unk (by rw [invL_len]; omega) (by rw [invL_len]; omega) (by rw [invL_len]; omega)
    rw [renameA, if_neg (by simp [vm.check]), if_neg (by unfold renBad; have := hR2.li; have := hR2.lo; have := hR2.ls; have := vm.ins; have := vm.outs; omega), if_pos ⟨hR2.pi, hR2.po, hR2.ps, by
      have := invL_gI hp.2.2.1 (show 0 < states.length by omega)
      rw [hp.2.2.2] at this; exact this⟩, ← hM2, Mach.cellsF, h2i, h2o, h2n] at hr
    have h := PureIs.weak (args := [.ag M.cellsF, .sl m1 ((invL ins).map intC) d1, .sl m2 ((invL outs).map intC) d2, .sl m3 ((invL states).map intC) d3]) (by
      simp only [List.map_cons, List.map_nil, AV.unk, Mach.cellsF_unk, ints_unk]
      exact hr)
    rwa [Mach.cellsF, hmi, hmo] at h
  have hMac : PureIs prog 21 [.ag [.sc (.int .i64 a.ins), .sc (.int .i64 a.outs), .sl false (M2.rows.map rowG) .full], .sc (.int .i64 0), .ag a.cells] (.sc (.bool true)) := by
    have hr := machine_is (a := M2) (b := a) h2i h2o h2b (by have := v2.rows; omega) v2.small
    rwa [Mach.cellsF, h2i, h2o, h2n] at hr
  obtain ⟨W, hW⟩ : ∃ W, W = wOf w a.ins := ⟨_, rfl⟩
  have hWl : W.length ≤ 12 := by rw [hW]; exact wOf_len _ _
  have hWo : ∀ v ∈ W, 0 ≤ v ∧ v < a.ins := by rw [hW]; exact wOf_ok (by omega)
  have hWC : PureIs prog 13 [.ag [.sl wn (w.map u8C) wc], .sc (.int .i64 a.ins)] (.sl W.isEmpty (W.map intC) .unk) := by
    rw [hW]; exact wOf_is wn w wc a.ins (by omega) hw
  apply EvC.seq
  apply EvC.tr
  · apply Tr.run
    · (simp only [go_sem, List.length_map, hmi, hmo, hml, decide_true]) <;> rfl
    · simp
    apply Tr.cons
    · exact .callG rfl rfl (by (simp only [go_sem]) <;> rfl) rfl (by (simp only [go_sem]) <;> rfl) (by (simp only [go_sem]) <;> rfl) (by (simp only [go_sem]) <;> rfl) (by (simp only [go_sem]) <;> rfl) (by (simp only [go_sem]) <;> rfl) (hCl)
    apply Tr.done
    · (simp only [go_sem, List.length_map, hmi, hmo, hml, decide_true]) <;> rfl
    · simp
  refine EvC.cond_false (by (simp only [go_sem]) <;> rfl) ?_
  refine EvC.skip ?_
  apply EvC.seq
  apply EvC.tr
  · apply Tr.run
    · (simp only [go_sem]) <;> rfl
    · simp
    apply Tr.cons
    · exact .call rfl rfl (by (simp only [go_sem]) <;> rfl) (by (simp only [go_sem]) <;> rfl) (by (simp only [go_sem]) <;> rfl) (by (simp only [go_sem]) <;> rfl) (by (simp only [go_sem]) <;> rfl) (hWC)
    apply Tr.done
    · (simp only [go_sem]) <;> rfl
    · simp
  refine EvC.seq (EvC.rg (by (simp only [go_sem]) <;> rfl) (by simp) ?_)
  refine EvC.seq ?_
  refine EvC.seq (EvC.rg (by (simp only [go_sem]) <;> rfl) (by simp) ?_)
  refine EvC.block ?_  -- 0
  refine EvC.loopS (σ := Nat) (fun k => ⟨[(4, .ia [.sl n1 (ins.map intC) c1, .sl n2 (outs.map intC) c2, .sl n3 (states.map intC) c3]), (7, .ia a.cells), (8, .ia M.cellsF), (10, .sl W.isEmpty (W.map intC) .unk), (11, .tl 0 k (k == 0)), (12, .sc (.int .i64 k))], [], [(0, .arr 1 (((W.take k).map fun v => gI ins v.toNat).map intC) true)], 1⟩) (fun k => W.length - k) (fun k => k ≤ W.length) [4, 7, 8, 10, 11, 12] 1 ?_ ?_
  · skip
    exact ⟨[(115, 0)], 0, rfl, (by (simp only [go_sem, Mach.cells, Mach.cellsF, hmi, hmo, List.take_zero, List.map_nil, Int.natCast_zero]) <;> rfl), Nat.zero_le _⟩
  intro k hk
  have htl : (((W.take k).map fun v => gI ins v.toNat).map intC).length = k := by simp; omega
  have htl2 : (W.take k).length = k := by simp; omega
  refine EvC.seq ?_
  refine EvC.seq (EvC.rg (by (simp only [go_sem, List.length_map]) <;> rfl) (by simp) ?_)
  refine EvC.cond (by (simp only [go_sem]) <;> rfl) (fun hc => ?_) (fun hc => ?_)
  rotate_left
  · -- else
    refine EvC.exit ?_  -- 0
    obtain rfl : W.length = k := by have : ¬ k < W.length := by simpa using hc
                                    omega
    clear hc
    rw [List.take_length] at htl
    obtain ⟨V, hV⟩ : ∃ V, V = W.map (fun v => gI ins v.toNat) := ⟨_, rfl⟩
    have hVl : V.length = W.length := by rw [hV]; simp
    have hVo : ∀ v ∈ V, 0 ≤ v ∧ v < M.ins := by
      intro v hv
      rw [hV] at hv
      obtain ⟨k, hk, rfl⟩ := List.mem_map.1 hv
      obtain ⟨k1, k2⟩ := hWo k hk
      have := gI_bd hp.1 (show k.toNat < ins.length by omega)
      rw [hmi]; omega
    rw [List.take_length, ← hV]
    rw [← hV] at htl
    refine EvC.frz 0 (by (simp only [go_sem, htl, List.length_map, hVl]) <;> rfl) ?_
    refine EvC.seq ?_
    refine EvC.seq (EvC.rg (by (simp only [go_sem]) <;> rfl) (by simp) ?_)
    refine EvC.block ?_  -- 2
    have hRM : ∀ nl c (s : Int), s < M.rows.length → PureIs prog 17 [.ag [.sc (.int .i64 a.ins), .sc (.int .i64 a.outs), .sl M.nl (M.rows.map rowG) .full], .sc (.int .i64 s), .sl nl (V.map intC) c] (.sl (runR M s V).isEmpty ((runR M s V).map intC) .unk) := by
      intro nl c s hs
      have := runF_is vm nl V c hVo (by omega) s hs
      rwa [Mach.cellsF, hmi, hmo] at this
    have hRa := fun (s : Int) hs => run04_is va s hs W.isEmpty W .unk hWo (by omega)
    refine EvC.loopS (σ := Nat) (fun s => ⟨[(4, .ia [.sl n1 (ins.map intC) c1, .sl n2 (outs.map intC) c2, .sl n3 (states.map intC) c3]), (7, .ia a.cells), (8, .ia M.cellsF), (10, .sl W.isEmpty (W.map intC) .unk), (11, .sl (W.length == 0) (V.map intC) .unk), (13, .sc (.int .i64 s))], [], [], 0⟩) (fun s => a.rows.length - s) (fun s => s ≤ a.rows.length) [4, 7, 8, 10, 11, 13] 0 ?_ ?_
    · exact ⟨[], 0, rfl, (by (simp only [go_sem, Mach.cells, Mach.cellsF, hmi, hmo, Int.natCast_zero]) <;> rfl), Nat.zero_le _⟩
    intro s hs
    refine EvC.seq ?_
    refine EvC.seq (EvC.rg (by (simp only [go_sem, Mach.cells, List.length_map]) <;> rfl) (by simp) ?_)
    refine EvC.cond (by (simp only [go_sem]) <;> rfl) (fun hc => ?_) (fun hc => ?_)
    rotate_left
    · -- else
      refine EvC.exit ?_  -- 2
      clear hc hk hRM hRa
      have hrn : ∀ n : Nat, (List.replicate n [AV.sc (.int .i64 0)]).all AV.norefs = true := fun n => by simp [List.all_replicate, AV.norefs, AV.noref]
      have hi0 : 0 < ins.length := by omega
      have ho0 : 0 < outs.length := by omega
      have hs0' : 0 < states.length := by omega
      apply EvC.seq
      apply EvC.drd mixed
      · (simp only [go_sem, List.length_map, List.length_replicate, hi0, ho0, hs0']) <;> rfl
      · simp [room_eq]; omega
      · kernel_rfl
      refine EvC.seq ?_
      refine EvC.seq (EvC.rg (by (simp only [go_sem]) <;> rfl) (by simp) ?_)
      refine EvC.block ?_  -- 6
      refine EvC.loopS (σ := Nat) (fun k => ⟨[(4, .ia [.sl n1 (ins.map intC) c1, .sl n2 (outs.map intC) c2, .sl n3 (states.map intC) c3]), (7, .ia a.cells), (8, .ia M.cellsF), (18, .rf 3 0), (19, .sc (.int .i64 k))], [], [(0, .arr 1 ((backL ins k).map intC) false), (1, .arr 1 ((backL outs 0).map intC) false), (2, .arr 1 ((backL states 0).map intC) false), (3, .cells [.tv 0 ins.length 0 ins.length (.val ins.length), .tv 1 outs.length 0 outs.length (.val outs.length), .tv 2 states.length 0 states.length (.val states.length)])], 4⟩) (fun k => ins.length - k) (fun k => k ≤ ins.length) [4, 7, 8, 18, 19] 4 ?_ ?_
      · exact ⟨[(8, 0), (12, 1), (16, 2), (18, 3)], 0, rfl, (by (simp only [go_sem, Mach.cells, Mach.cellsF, hmi, hmo, Int.natCast_zero, backL_zero, hrn]) <;> rfl), Nat.zero_le _⟩
      intro k hk
      refine EvC.seq ?_
      refine EvC.seq (EvC.rg (by (simp only [go_sem, List.length_map]) <;> rfl) (by simp) ?_)
      refine EvC.cond (by (simp only [go_sem]) <;> rfl) (fun hc => ?_) (fun hc => ?_)
      rotate_left
      · -- else
        refine EvC.exit ?_  -- 6
        obtain rfl : ins.length = k := Nat.le_antisymm (by simpa using hc) hk
        clear hc
        clear hk
        refine EvC.seq ?_
        refine EvC.seq (EvC.rg (by (simp only [go_sem]) <;> rfl) (by simp) ?_)
        refine EvC.block ?_  -- 8
        refine EvC.loopS (σ := Nat) (fun k => ⟨[(4, .ia [.sl n1 (ins.map intC) c1, .sl n2 (outs.map intC) c2, .sl n3 (states.map intC) c3]), (7, .ia a.cells), (8, .ia M.cellsF), (18, .rf 3 0), (20, .sc (.int .i64 k))], [], [(0, .arr 1 ((backL ins ins.length).map intC) false), (1, .arr 1 ((backL outs k).map intC) false), (2, .arr 1 ((backL states 0).map intC) false), (3, .cells [.tv 0 ins.length 0 ins.length (.val ins.length), .tv 1 outs.length 0 outs.length (.val outs.length), .tv 2 states.length 0 states.length (.val states.length)])], 4⟩) (fun k => outs.length - k) (fun k => k ≤ outs.length) [4, 7, 8, 18, 20] 4 ?_ ?_
        · exact ⟨[(0, 0), (1, 1), (2, 2), (3, 3)], 0, rfl, (by (simp only [go_sem, Mach.cells, Mach.cellsF, hmi, hmo, Int.natCast_zero, backL_zero, hrn]) <;> rfl), Nat.zero_le _⟩
        intro k hk
        refine EvC.seq ?_
        refine EvC.seq (EvC.rg (by (simp only [go_sem, List.length_map]) <;> rfl) (by simp) ?_)
        refine EvC.cond (by (simp only [go_sem]) <;> rfl) (fun hc => ?_) (fun hc => ?_)
        rotate_left
        · -- else
          refine EvC.exit ?_  -- 8
          obtain rfl : outs.length = k := Nat.le_antisymm (by simpa using hc) hk
          clear hc
          clear hk
          refine EvC.seq ?_
          refine EvC.seq (EvC.rg (by (simp only [go_sem]) <;> rfl) (by simp) ?_)
          refine EvC.block ?_  -- 10
          refine EvC.loopS (σ := Nat) (fun k => ⟨[(4, .ia [.sl n1 (ins.map intC) c1, .sl n2 (outs.map intC) c2, .sl n3 (states.map intC) c3]), (7, .ia a.cells), (8, .ia M.cellsF), (18, .rf 3 0), (21, .sc (.int .i64 k))], [], [(0, .arr 1 ((backL ins ins.length).map intC) false), (1, .arr 1 ((backL outs outs.length).map intC) false), (2, .arr 1 ((backL states k).map intC) false), (3, .cells [.tv 0 ins.length 0 ins.length (.val ins.length), .tv 1 outs.length 0 outs.length (.val outs.length), .tv 2 states.length 0 states.length (.val states.length)])], 4⟩) (fun k => states.length - k) (fun k => k ≤ states.length) [4, 7, 8, 18, 21] 4 ?_ ?_
          · exact ⟨[(0, 0), (1, 1), (2, 2), (3, 3)], 0, rfl, (by (simp only [go_sem, Mach.cells, Mach.cellsF, hmi, hmo, Int.natCast_zero, backL_zero, hrn]) <;> rfl), Nat.zero_le _⟩
          intro k hk
          refine EvC.seq ?_
          refine EvC.seq (EvC.rg (by (simp only [go_sem, List.length_map]) <;> rfl) (by simp) ?_)
          refine EvC.cond (by (simp only [go_sem]) <;> rfl) (fun hc => ?_) (fun hc => ?_)
          rotate_left
          · -- else
            refine EvC.exit ?_  -- 10
            obtain rfl : states.length = k := Nat.le_antisymm (by simpa using hc) hk
            clear hc
            clear hk
            clear hRs
            rw [backL_done hp.1, backL_done hp.2.1, backL_done hp.2.2.1]
            have li := invL_len ins
            have lo := invL_len outs
            have ls := invL_len states
            refine EvC.frz 0 (by (simp only [go_sem, List.length_map, li, lo, ls]) <;> rfl) ?_
            refine EvC.frz 1 (by (simp only [go_sem, List.length_map, li, lo, ls]) <;> rfl) ?_
            refine EvC.frz 2 (by (simp only [go_sem, List.length_map, li, lo, ls]) <;> rfl) ?_
            apply EvC.seq
            apply EvC.tr
            · apply Tr.run
              · (simp only [go_sem, Mach.cellsF, hmi, hmo]) <;> rfl
              · simp
              apply Tr.cons
              · exact .call rfl rfl (by (simp only [go_sem]) <;> rfl) (by (simp only [go_sem]) <;> rfl) (by (simp only [go_sem, li, lo, ls]) <;> rfl) (by (simp only [go_sem, List.length_map]) <;> rfl) (by (simp only [go_sem]) <;> rfl) (hRb _ _ _ _ _ _)
              apply Tr.done
              · (simp only [go_sem, Mach.cellsF]) <;> rfl
              · simp
            apply EvC.seq
            apply EvC.tr
            · apply Tr.run
              · (simp only [go_sem, Mach.cells, hmi, hmo]) <;> rfl
              · simp
              apply Tr.cons
              · exact .call rfl rfl (by (simp only [go_sem]) <;> rfl) (by (simp only [go_sem]) <;> rfl) (by (simp only [go_sem]) <;> rfl) (by (simp only [go_sem]) <;> rfl) (by (simp only [go_sem]) <;> rfl) (hMac)
              apply Tr.run
              · (simp only [go_sem, Mach.cells, hmi, hmo]) <;> rfl
              · simp
              apply Tr.cons
              · exact .callG rfl rfl (by (simp only [go_sem]) <;> rfl) rfl (by (simp only [go_sem]) <;> rfl) (by (simp only [go_sem]) <;> rfl) (by (simp only [go_sem]) <;> rfl) (by (simp only [go_sem]) <;> rfl) (by (simp only [go_sem]) <;> rfl) (lives_is)
              apply Tr.done
              · (simp only [go_sem, Mach.cells, hmi, hmo]) <;> rfl
              · simp
            refine EvC.ret ⟨.inl rfl, _, (by (simp only [go_sem]) <;> rfl), ?_, rfl⟩
            simp only [go_sem]
          have hkl : k < states.length := by simpa using hc
          clear hc
          have hek : states[k]? = some (gI states k) := by rw [gI_eq (by omega)]; exact List.getElem?_eq_getElem (by omega)
          have hbd := gI_bd hp.2.2.1 hkl
          have hget := backL_get hp.2.2.1 hk (t := (gI states k).toNat) (by omega)
          have hgl : (((backL states k).map intC)).length = states.length := by rw [List.length_map, backL_len]
          have hget' : ((backL states k).map intC)[(gI states k).toNat]? = some (intC (if states.idxOf (((gI states k).toNat : Nat) : Int) < k then ((states.idxOf (((gI states k).toNat : Nat) : Int) : Nat) : Int) else 0)) := by rw [List.getElem?_map, hget]; rfl
          rw [intC] at hget'
          have hset := backL_map states k
          refine EvC.skip ?_
          refine EvC.seq ?_
          refine EvC.block ?_  -- 11
          apply EvC.drd mixed
          · (simp only [go_sem, hek, intC, hget', hgl, hset, List.length_map]) <;> rfl
          · simp; try omega
          · kernel_rfl
          refine EvC.rg (by (simp only [go_sem]) <;> rfl) (by exact inI64_of (by omega) (by omega)) ?_
          exact ⟨[(0, 0), (1, 1), (2, 2), (3, 3)], k + 1, rfl, (by (simp only [go_sem, Mach.cells, Mach.cellsF, hmi, hmo, Int.natCast_add, Int.natCast_one]) <;> rfl), hkl, by omega⟩
        have hkl : k < outs.length := by simpa using hc
        clear hc
        have hek : outs[k]? = some (gI outs k) := by rw [gI_eq (by omega)]; exact List.getElem?_eq_getElem (by omega)
        have hbd := gI_bd hp.2.1 hkl
        have hget := backL_get hp.2.1 hk (t := (gI outs k).toNat) (by omega)
        have hgl : (((backL outs k).map intC)).length = outs.length := by rw [List.length_map, backL_len]
        have hget' : ((backL outs k).map intC)[(gI outs k).toNat]? = some (intC (if outs.idxOf (((gI outs k).toNat : Nat) : Int) < k then ((outs.idxOf (((gI outs k).toNat : Nat) : Int) : Nat) : Int) else 0)) := by rw [List.getElem?_map, hget]; rfl
        rw [intC] at hget'
        have hset := backL_map outs k
        refine EvC.skip ?_
        refine EvC.seq ?_
        refine EvC.block ?_  -- 9
        apply EvC.drd mixed
        · (simp only [go_sem, hek, intC, hget', hgl, hset, List.length_map]) <;> rfl
        · simp; try omega
        · kernel_rfl
        refine EvC.rg (by (simp only [go_sem]) <;> rfl) (by exact inI64_of (by omega) (by omega)) ?_
        exact ⟨[(0, 0), (1, 1), (2, 2), (3, 3)], k + 1, rfl, (by (simp only [go_sem, Mach.cells, Mach.cellsF, hmi, hmo, Int.natCast_add, Int.natCast_one]) <;> rfl), hkl, by omega⟩
      have hkl : k < ins.length := by simpa using hc
      clear hc
      have hek : ins[k]? = some (gI ins k) := by rw [gI_eq (by omega)]; exact List.getElem?_eq_getElem (by omega)
      have hbd := gI_bd hp.1 hkl
      have hget := backL_get hp.1 hk (t := (gI ins k).toNat) (by omega)
      have hgl : (((backL ins k).map intC)).length = ins.length := by rw [List.length_map, backL_len]
      have hget' : ((backL ins k).map intC)[(gI ins k).toNat]? = some (intC (if ins.idxOf (((gI ins k).toNat : Nat) : Int) < k then ((ins.idxOf (((gI ins k).toNat : Nat) : Int) : Nat) : Int) else 0)) := by rw [List.getElem?_map, hget]; rfl
      rw [intC] at hget'
      have hset := backL_map ins k
      refine EvC.skip ?_
      refine EvC.seq ?_
      refine EvC.block ?_  -- 7
      apply EvC.drd mixed
      · (simp only [go_sem, hek, intC, hget', hgl, hset, List.length_map]) <;> rfl
      · simp; try omega
      · kernel_rfl
      refine EvC.rg (by (simp only [go_sem]) <;> rfl) (by exact inI64_of (by omega) (by omega)) ?_
      exact ⟨[(0, 0), (1, 1), (2, 2), (3, 3)], k + 1, rfl, (by (simp only [go_sem, Mach.cells, Mach.cellsF, hmi, hmo, Int.natCast_add, Int.natCast_one]) <;> rfl), hkl, by omega⟩
    have hsl : s < a.rows.length := by simpa using hc
    clear hc
    have hes : states[s]? = some (gI states s) := by rw [gI_eq (by omega)]; exact List.getElem?_eq_getElem (by omega)
    have bS := gI_bd hp.2.2.1 (show s < states.length by omega)
    have hrun : runR M (gI states s) V = (runR a s W).map (outG outs) := by rw [hMm, hV]; exact renM_run hR hsl hWo
    have hpb := runR_out va W s (by omega) hWo
    have hpl := runR_len a s W
    have hP := hRa s (by omega)
    have hql := runR_len M (gI states s) V
    have hQ := hRM (W.length == 0) .unk (gI states s) (by omega)
    generalize runR a s W = p at hrun hP hpb hpl
    generalize runR M (gI states s) V = q at hrun hQ hql
    refine EvC.skip ?_
    refine EvC.seq ?_
    refine EvC.block ?_  -- 3
    apply EvC.seq
    apply EvC.drw mixed
    · apply Tr.run
      · (simp only [go_sem, hes, intC, Mach.cells, Mach.cellsF, hmi, hmo]) <;> rfl
      · simp; try omega
      apply Tr.cons
      · exact .call rfl rfl (by (simp only [go_sem]) <;> rfl) (by (simp only [go_sem]) <;> rfl) (by (simp only [go_sem]) <;> rfl) (by (simp only [go_sem]) <;> rfl) (by (simp only [go_sem]) <;> rfl) (hP)
      apply Tr.run
      · (simp only [go_sem, hes, intC, Mach.cells, Mach.cellsF, hmi, hmo]) <;> rfl
      · simp; try omega
      apply Tr.cons
      · exact .call rfl rfl (by (simp only [go_sem]) <;> rfl) (by (simp only [go_sem]) <;> rfl) (by (simp only [go_sem]) <;> rfl) (by (simp only [go_sem]) <;> rfl) (by (simp only [go_sem]) <;> rfl) (hQ)
      apply Tr.done
      · (simp only [go_sem, hes, intC, Mach.cells, Mach.cellsF, hmi, hmo]) <;> rfl
      · simp
    · kernel_rfl
    refine EvC.seq (EvC.rg (by (simp only [go_sem]) <;> rfl) (by simp) ?_)
    refine EvC.block ?_  -- 4
    refine EvC.loopS (σ := Nat) (fun k => ⟨[(4, .ia [.sl n1 (ins.map intC) c1, .sl n2 (outs.map intC) c2, .sl n3 (states.map intC) c3]), (7, .ia a.cells), (8, .ia M.cellsF), (10, .sl W.isEmpty (W.map intC) .unk), (11, .sl (W.length == 0) (V.map intC) .unk), (13, .sc (.int .i64 s)), (14, .sl p.isEmpty (p.map intC) .unk), (15, .sl q.isEmpty (q.map intC) .unk), (16, .sc (.int .i64 k))], [], [], 0⟩) (fun k => W.length - k) (fun k => k ≤ W.length) [4, 7, 8, 10, 11, 13, 14, 15, 16] 0 ?_ ?_
    · exact ⟨[], 0, rfl, (by (simp only [go_sem, Mach.cells, Mach.cellsF, hmi, hmo, Int.natCast_zero]) <;> rfl), Nat.zero_le _⟩
    intro k hk'
    refine EvC.seq ?_
    refine EvC.seq (EvC.rg (by (simp only [go_sem, List.length_map]) <;> rfl) (by simp) ?_)
    refine EvC.cond (by (simp only [go_sem]) <;> rfl) (fun hc => ?_) (fun hc => ?_)
    rotate_left
    · -- else
      refine EvC.exit ?_  -- 4
      refine EvC.rg (by (simp only [go_sem]) <;> rfl) (by exact inI64_of (by omega) (by omega)) ?_
      exact ⟨[], s + 1, rfl, (by (simp only [go_sem, Mach.cells, Mach.cellsF, hmi, hmo, Int.natCast_add, Int.natCast_one]) <;> rfl), hsl, by omega⟩
    have hkl : k < W.length := by simpa using hc
    clear hc
    have hkp : k < p.length := by omega
    have hpk : p[k]? = some (p[k]'hkp) := List.getElem?_eq_getElem hkp
    have hu := hpb _ (List.getElem_mem hkp)
    have hqk : q[k]? = some (outG outs (p[k]'hkp)) := by
      rw [hrun, List.getElem?_map, hpk]; rfl
    generalize p[k]'hkp = u at hpk hqk hu
    refine EvC.skip ?_
    refine EvC.seq ?_
    refine EvC.block ?_  -- 5
    refine EvC.seq (EvC.rg (by (simp only [go_sem]) <;> rfl) (by simp) ?_)
    refine EvC.seq ?_
    refine EvC.seq (EvC.rg (by (simp only [go_sem, hpk, intC]) <;> rfl) (by simp; try omega) ?_)
    by_cases h1 : 0 ≤ u
    · have d1 : decide (0 ≤ u) = true := decide_eq_true h1
      have hou : outs[u.toNat]? = some (gI outs u.toNat) := by rw [gI_eq (by omega)]; exact List.getElem?_eq_getElem (by omega)
      have hog : outG outs u = gI outs u.toNat := if_pos h1
      rw [hog] at hqk
      refine EvC.cond_true (by (simp only [go_sem, d1]) <;> rfl) ?_
      apply EvC.drd mixed
      · (simp only [go_sem, hpk, hou, intC]) <;> rfl
      · simp; try omega
      · kernel_rfl
      refine EvC.seq (EvC.rg (by (simp only [go_sem, hqk, intC]) <;> rfl) (by simp; try omega) ?_)
      refine EvC.cond_false (by (simp only [go_sem, decide_true]) <;> rfl) ?_
      refine EvC.skip ?_
      refine EvC.rg (by (simp only [go_sem]) <;> rfl) (by exact inI64_of (by omega) (by omega)) ?_
      exact ⟨[], k + 1, rfl, (by (simp only [go_sem, Mach.cells, Mach.cellsF, hmi, hmo, Int.natCast_add, Int.natCast_one]) <;> rfl), hkl, by omega⟩
    · have d1 : decide (0 ≤ u) = false := decide_eq_false h1
      have hog : outG outs u = -1 := if_neg h1
      rw [hog] at hqk
      refine EvC.cond_false (by (simp only [go_sem, d1]) <;> rfl) ?_
      refine EvC.skip ?_
      refine EvC.seq (EvC.rg (by (simp only [go_sem, hqk, intC]) <;> rfl) (by simp; try omega) ?_)
      refine EvC.cond_false (by (simp only [go_sem, decide_true]) <;> rfl) ?_
      refine EvC.skip ?_
      refine EvC.rg (by (simp only [go_sem]) <;> rfl) (by exact inI64_of (by omega) (by omega)) ?_
      exact ⟨[], k + 1, rfl, (by (simp only [go_sem, Mach.cells, Mach.cellsF, hmi, hmo, Int.natCast_add, Int.natCast_one]) <;> rfl), hkl, by omega⟩
  have hkl : k < W.length := by simpa using hc
  clear hc
  have hek : W[k]? = some W[k] := List.getElem?_eq_getElem hkl
  have htk : W.take (k + 1) = W.take k ++ [W[k]] := by rw [List.take_add_one, hek]; rfl
  obtain ⟨v1, v2⟩ := hWo _ (List.getElem_mem hkl)
  generalize W[k] = v at hek htk v1 v2
  have het : ins[v.toNat]? = some (gI ins v.toNat) := by rw [gI_eq (by omega)]; exact List.getElem?_eq_getElem (by omega)
  refine EvC.skip ?_
  refine EvC.seq ?_
  refine EvC.block ?_  -- 1
  apply EvC.drd mixed
  · (simp only [go_sem, hek, het, intC]) <;> rfl
  · simp [room_eq, AV.norefs, AV.noref, htl]; try omega
  · kernel_rfl
  refine EvC.rg (by (simp only [go_sem]) <;> rfl) (by exact inI64_of (by omega) (by omega)) ?_
  refine ⟨[(0, 0)], k + 1, rfl, ?_, hkl, by omega⟩
  have h0 : (k + 1 == 0) = false := rfl
  rw [htk]
  (simp only [go_sem, h0, Mach.cells, Mach.cellsF, hmi, hmo, htl, htl2, intC, List.map_append, List.map_cons, List.map_nil, Int.natCast_add, Int.natCast_one, List.length_map]) <;> rfl
end Go.Avl
namespace Go.Proofs.Ytbiifplfohnpeaa
open Go Go.Avl Go.Proofs Go.ChangeShapes Go.RowKit

set_option maxRecDepth 100000 in
theorem joinsRename_lifted (os : Os) (started : os.Started) (H : Type) (enc : TypeId × Value → H) :
    ReturnsInHanded {} Try.checked os 5 .any (Rows.joinsRenameSpec.pre6 enc Try.prog Try.f5 Rows.joinsRenameRow.domain false) (Rows.joinsRenameSpec.post enc Try.prog Try.f5 false true false false) := by
  refine returnsInHanded_of_change_sized (C := Try.checked) Try.own started (by kernel_rfl) Try.func5
    (ChangeSpec.witness6 (enc := enc) (C := Try.checked) false ⟨#[], #[.agg #[.int .u8 0, .int .u8 0, .int .u8 0, .bool false, .slice none 0 0], .agg #[.slice none 0 0, .slice none 0 0, .slice none 0 0], .agg #[.slice none 0 0]], []⟩ 8 (by kernel_rfl) (by kernel_rfl) (by kernel_rfl) (by kernel_rfl)) ?_
  intro W base args ds gs before hval hW _ hz _
  have hW' := hW
  obtain ⟨p, q, hA, hV, rfl, _, _⟩ := hW'
  obtain ⟨rfl, rfl⟩ := trodVars_none hV
  have hA' : DataW.TrodAll enc Try.prog W 0 (fun _ => true) true [24, 50, 27] args.toList ds p := by rw [← show Try.f5.params.toList = [24, 50, 27] from rfl]; exact hA
  obtain ⟨v0, v1, v2, d0, d1, d2, p0, p1, p2, rfl, rfl, rfl, h0, h1, h2⟩ := trodAll_three hA'
  have hz' : (DataW.weightsEach Try.prog [24, 50, 27] [d0, d1, d2]).all (· ≤ reachBytes) = true := hz
  have hf := fits_each (P := Try.prog) (ts := [24, 50, 27]) (l := [d0, d1, d2]) fun n hn => by simpa using List.all_eq_true.1 hz' n hn
  obtain ⟨x, hx, i0⟩ := rd_LM.imm_struct Try.underlying24 (hval 0 24 v0 rfl rfl) (hf 0 24 d0 rfl rfl) h0
  obtain ⟨y, hy, i1⟩ := rd_N.imm_struct Try.underlying50 (hval 1 50 v1 rfl rfl) (hf 1 50 d1 rfl rfl) h1
  obtain ⟨a, ha, i2⟩ := rd_W.imm_struct Try.underlying27 (hval 2 27 v2 rfl rfl) (hf 2 27 d2 rfl rfl) h2
  exact law_calls Try.laidOut (by kernel_rfl) rfl (by kernel_rfl) rfl rfl (joinsRename_is hx y.1.1 y.2.1.1 y.2.2.1 y.1.2 y.2.1.2 y.2.2.2 .unk .unk .unk a.1 a.2 .unk ha) (Imms.append (.one i0) (Imms.append (.one i1) (.one i2))) hW

theorem joinsRename_holds : Rows.JoinsRenameSaid :=
  OpenClaim.holds_of_wide 5 Try.f5 rfl rfl rfl rfl rfl rfl rfl ⟨rfl, rfl, rfl, rfl, rfl⟩ rfl rfl rfl rfl rfl (by kernel_rfl) Try.func5 (by kernel_rfl)
    (of_decide_eq_true (by kernel_rfl)) (by unfold Func.isWrapper; first | (rw [if_pos (by decide +kernel)]; kernel_rfl) | (rw [if_neg (by decide +kernel)]; exact ⟨rfl, rfl⟩))
    (fun os started H enc _ => joinsRename_lifted os started H enc)
#print axioms joinsRename_holds
end Go.Proofs.Ytbiifplfohnpeaa
