/-
  Lemmas.
  Lemmas.
  Lemmas.
  Lemmas.
  Lemmas.
  Lemmas.
  Lemmas.
  Lemmas.
  Lemmas.
  Lemmas.
  Lemmas.
  Lemmas.
-/
import Derived.Test.YtbiifplfohnpeaaPart5
set_option linter.unusedSimpArgs false
set_option linter.unusedVariables false
set_option linter.unnecessarySimpa false
set_option linter.deprecated false
namespace Go.Avl
open Go Go.Proofs.Try
set_option maxRecDepth 10000
set_option linter.unusedSimpArgs false

/-! ### Tables of bools, row by row -/
def prs (n m : Nat) : List (Nat × Nat) := (List.range n).flatMap fun s => (List.range m).map fun t => (s, t)
theorem mem_prs {n m : Nat} {p : Nat × Nat} : p ∈ prs n m ↔ p.1 < n ∧ p.2 < m := by
  obtain ⟨s, t⟩ := p
  simp only [prs, List.mem_flatMap, List.mem_range, List.mem_map, Prod.mk.injEq]
  constructor
  · rintro ⟨a, h1, b, h2, rfl, rfl⟩; exact ⟨h1, h2⟩
  · rintro ⟨h1, h2⟩; exact ⟨s, h1, t, h2, rfl, rfl⟩
theorem prs_succ (n m : Nat) : prs (n + 1) m = prs n m ++ (List.range m).map fun t => (n, t) := by simp [prs, List.range_succ]
theorem prs_len (n m : Nat) : (prs n m).length = n * m := by
  induction n with
  | zero => simp [prs]
  | succ n ih => rw [prs_succ, List.length_append, ih]; simp [Nat.succ_mul]
theorem nodup_prs (n m : Nat) : (prs n m).Nodup := by
  induction n with
  | zero => simp [prs]
  | succ n ih =>
    rw [prs_succ, List.nodup_append]
    refine ⟨ih, ?_, ?_⟩
    · rw [List.nodup_iff_pairwise_ne, List.pairwise_map]
      exact (List.nodup_iff_pairwise_ne.1 List.nodup_range).imp fun h e => h (by simpa using e)
    · intro a ha b hb e
      subst e
      have := (mem_prs.1 ha).1
      obtain ⟨t, _, rfl⟩ := List.mem_map.1 hb
      simp at this
abbrev Mtx := Nat → Nat → Bool
def updM (M : Mtx) (s t : Nat) : Mtx := fun a b => M a b || (decide (a = s) && decide (b = t))
theorem updM_true {M : Mtx} {s t a b : Nat} : updM M s t a b = true ↔ M a b = true ∨ (a = s ∧ b = t) := by simp [updM]
def cntM (n m : Nat) (M : Mtx) : Nat := (prs n m).countP fun p => M p.1 p.2
theorem countP_one {α : Type} [DecidableEq α] {p q : α → Bool} {x : α} (hp : p x = false) (hq : q x = true) (he : ∀ y, y ≠ x → q y = p y) : ∀ {l : List α}, l.Nodup → x ∈ l → l.countP q = l.countP p + 1
  | [], _, h => by cases h
  | y :: l, hn, h => by
    rw [List.nodup_cons] at hn
    by_cases hy : y = x
    · subst hy
      have : l.countP q = l.countP p := List.countP_congr fun z hz => by rw [he z (fun e => hn.1 (e ▸ hz))]
      rw [List.countP_cons_of_pos hq, List.countP_cons_of_neg (by simp [hp]), this]
    · have h2 : x ∈ l := by
        rcases List.mem_cons.1 h with h | h
        · exact absurd h.symm hy
        · exact h
      have := countP_one hp hq he hn.2 h2
      simp only [List.countP_cons, he y hy, this]
      omega
theorem cntM_upd {n m s t : Nat} {M : Mtx} (hs : s < n) (ht : t < m) (h : M s t = false) : cntM n m (updM M s t) = cntM n m M + 1 := by
  refine countP_one (x := (s, t)) h (by simp [updM]) (fun y hy => ?_) (nodup_prs n m) (mem_prs.2 ⟨hs, ht⟩)
  obtain ⟨a, b⟩ := y
  simp only [updM, ne_eq, Prod.mk.injEq] at hy ⊢
  by_cases h1 : a = s <;> by_cases h2 : b = t <;> simp [h1, h2] at hy ⊢
theorem cntM_le (n m : Nat) (M : Mtx) : cntM n m M ≤ n * m := by rw [← prs_len]; exact List.countP_le_length
theorem cntM_congr {n m : Nat} {M M' : Mtx} (h : ∀ s t, s < n → t < m → M s t = M' s t) : cntM n m M = cntM n m M' :=
  List.countP_congr fun p hp => by rw [h _ _ (mem_prs.1 hp).1 (mem_prs.1 hp).2]

/-! ### Which pairs are reached -/
inductive ReachJ (a b : Mach) (par : Int) : Nat → Nat → Prop
  | start : ReachJ a b par 0 0
  | step (s t i : Nat) (h : ReachJ a b par s t) (hi : (i : Int) < a.ins) (hd : 0 ≤ (stepJ a b par (s, t) i).2) : ReachJ a b par (stepJ a b par (s, t) i).1.1.toNat (stepJ a b par (s, t) i).1.2.toNat
open Classical in
/-- How many pairs are reached. -/
noncomputable def reachN (a b : Mach) (par : Int) : Nat := cntM a.rows.length b.rows.length fun s t => decide (ReachJ a b par s t)

theorem stepJ_ok {a b : Mach} {par : Int} (h : Fit a b par) {s t i : Int} (hs : 0 ≤ s ∧ s < a.rows.length) (ht : 0 ≤ t ∧ t < b.rows.length) (hi : 0 ≤ i ∧ i < a.ins) :
    stepJ a b par (s, t) i = ((0, 0), -1) ∨ (0 ≤ (stepJ a b par (s, t) i).2 ∧ 0 ≤ (stepJ a b par (s, t) i).1.1 ∧ (stepJ a b par (s, t) i).1.1 < a.rows.length ∧ 0 ≤ (stepJ a b par (s, t) i).1.2 ∧ (stepJ a b par (s, t) i).1.2 < b.rows.length) := by
  obtain ⟨r1, x, k1, k2, k3, k4⟩ := stepR_get h.va hs.1 hs.2 hi
  have hx := fits_edge k4
  by_cases hx0 : x.1 < 0
  · left; simp [stepJ, k3, hx0]
  by_cases hp : par = 1
  · obtain ⟨r2, y, l1, l2, l3, l4⟩ := stepR_get h.vb ht.1 ht.2 (show 0 ≤ i ∧ i < b.ins by rw [← h.par hp]; exact hi)
    have hy := fits_edge l4
    by_cases hy0 : y.1 < 0
    · left; simp [stepJ, k3, l3, hp, hx0, hy0]
    · right
      have hm1 : 0 ≤ x.2 * b.outs := Int.mul_nonneg (by omega) (by have := h.vb.outs; omega)
      simp only [stepJ, k3, l3, if_neg hx0, if_pos hp, if_neg hy0]
      omega
  · have hp0 : par = 0 := by rcases h.p with h | h; exact h; exact absurd h hp
    obtain ⟨r2, y, l1, l2, l3, l4⟩ := stepR_get h.vb ht.1 ht.2 (show 0 ≤ x.2 ∧ x.2 < b.ins by rw [← h.ser hp0]; omega)
    have hy := fits_edge l4
    by_cases hy0 : y.1 < 0
    · left; simp [stepJ, k3, l3, hp, hx0, hy0]
    · right
      simp only [stepJ, k3, l3, if_neg hx0, if_neg hp, if_neg hy0]
      omega
theorem reachJ_lt {a b : Mach} {par : Int} (h : Fit a b par) {s t : Nat} (hr : ReachJ a b par s t) : s < a.rows.length ∧ t < b.rows.length := by
  induction hr with
  | start => exact ⟨h.va.rows.1, h.vb.rows.1⟩
  | step s t i _ hi hd ih =>
    rcases stepJ_ok h (s := (s : Int)) (t := (t : Int)) (i := (i : Int)) (by omega) (by omega) (by omega) with e | e
    · rw [e] at hd; simp at hd
    · omega
/-- What is known of a table of pairs that are reached. -/
structure RInv (a b : Mach) (par : Int) (M : Mtx) (n : Nat) : Prop where
  zero : M 0 0 = true
  sub : ∀ s t, M s t = true → ReachJ a b par s t
  cnt : n = cntM a.rows.length b.rows.length M
/-- Closed under the steps of what comes before. -/
def Clo (a b : Mach) (par : Int) (M : Mtx) (s t i : Nat) : Prop := ∀ s' t' i' : Nat, M s' t' = true → (i' : Int) < a.ins → (s' < s ∨ (s' = s ∧ (t' < t ∨ (t' = t ∧ i' < i)))) → 0 ≤ (stepJ a b par (s', t') i').2 → M (stepJ a b par (s', t') i').1.1.toNat (stepJ a b par (s', t') i').1.2.toNat = true
open Classical in
theorem RInv.done {a b : Mach} {par : Int} {M : Mtx} {n : Nat} (hf : Fit a b par) (h : RInv a b par M n) (hc : Clo a b par M a.rows.length 0 0) : n = reachN a b par := by
  rw [h.cnt, reachN]
  refine cntM_congr fun s t _ _ => ?_
  rw [Bool.eq_iff_iff, decide_eq_true_eq]
  refine ⟨h.sub s t, fun hr => ?_⟩
  induction hr with
  | start => exact h.zero
  | step s t i hr hi hd ih => 
    have hl := reachJ_lt hf hr
    exact hc s t i (ih hl.1 hl.2) hi (.inl hl.1) hd
theorem RInv.le {a b : Mach} {par : Int} {M : Mtx} {n : Nat} (h : RInv a b par M n) : n ≤ a.rows.length * b.rows.length := by rw [h.cnt]; exact cntM_le _ _ _

/-! ### The table in memory -/
def bcells (f : Nat → Bool) (m : Nat) : List (List AV) := (List.range m).map fun t => [.sc (.bool (f t))]
theorem bcells_len (f : Nat → Bool) (m : Nat) : (bcells f m).length = m := by simp [bcells]
theorem bcells_get {f : Nat → Bool} {m t : Nat} (h : t < m) : (bcells f m)[t]? = some [.sc (.bool (f t))] := by rw [bcells, List.getElem?_map, List.getElem?_range h]; rfl
@[go_sem] theorem norefs_bcells (f : Nat → Bool) (m : Nat) : (bcells f m).all AV.norefs = true := by simp [List.all_eq_true, bcells, AV.norefs, AV.noref]
theorem zeros_row (m : Nat) : List.replicate m [AV.sc (.bool false)] = bcells (fun _ => false) m := by
  refine List.ext_getElem (by simp [bcells]) fun i h1 h2 => by simp [bcells]
def brow (M : Mtx) (m s : Nat) : RObj := .arr 1 (bcells (M s) m) false
theorem brow_ren (M : Mtx) (m n : Nat) (K : List (Nat × Nat)) : ((List.range n).map (brow M m)).map (RObj.ren K) = (List.range n).map (brow M m) := by
  rw [List.map_map]
  refine List.map_congr_left fun s _ => ?_
  simp only [Function.comp, brow, RObj.ren, norefs_bcells, if_true]
theorem brow_get {M : Mtx} {m n s : Nat} (h : s < n) : ((List.range n).map (brow M m))[s]? = some (brow M m s) := by rw [List.getElem?_map, List.getElem?_range h]; rfl
theorem bcells_set {M : Mtx} {m s t : Nat} (ht : t < m) : (bcells (M s) m).set t [.sc (.bool true)] = bcells (updM M s t s) m := by
  rw [bcells, range_set _ _ ht, bcells]
  refine List.map_congr_left fun k _ => ?_
  by_cases e2 : k = t
  · subst e2; simp [updM]
  · simp [updM, e2]
theorem brow_set {M : Mtx} {m n s t : Nat} (hs : s < n) (ht : t < m) : ((List.range n).map (brow M m)).set s (.arr 1 ((bcells (M s) m).set t [.sc (.bool true)]) false) = (List.range n).map (brow (updM M s t) m) := by
  rw [range_set _ _ hs, bcells_set ht]
  refine List.map_congr_left fun i _ => ?_
  by_cases e : i = s
  · subst e; rw [if_pos rfl, brow]
  · rw [if_neg e, brow, brow]
    congr 2
    funext k
    simp [updM, e]
/-- The rows, as objects. -/
def mtabM (M : Mtx) (n m : Nat) : Mem := mseg ((List.range n).map (brow M m))
theorem mtabM_zero (M : Mtx) (m : Nat) : mtabM M 0 m = [] := rfl
theorem mtabM_look (M : Mtx) {n m s : Nat} (h : s < n) : mlook (mtabM M n m) s = some (.arr 1 (bcells (M s) m) false) := by rw [mtabM, mlook_mseg, brow_get h]; rfl
theorem mtabM_set (M : Mtx) {n m s t : Nat} (hs : s < n) (ht : t < m) : mset (mtabM M n m) s (.arr 1 ((bcells (M s) m).set t [.sc (.bool true)]) false) = mtabM (updM M s t) n m := by
  rw [mtabM, mset_mseg _ (by simpa using hs), brow_set hs ht]; rfl
theorem mtabM_ren (M : Mtx) (n m : Nat) (K : List (Nat × Nat)) : renMem (mtabM M n m) K (idK n) = mtabM M n m := by
  rw [mtabM, renMem_seg K (by simp), brow_ren]
theorem mtabM_snoc (M : Mtx) (n m : Nat) : mtabM M n m ++ [(n, .arr 1 (bcells (M n) m) false)] = mtabM M (n + 1) m := by
  rw [mtabM, mseg_snoc _ _ (n := n) (by simp), mtabM, List.range_succ, List.map_append]; rfl
theorem mtabF_snoc (n m : Nat) : mtabM (fun _ _ => false) n m ++ [(n, .arr 1 (bcells (fun _ => false) m) false)] = mtabM (fun _ _ => false) (n + 1) m := mtabM_snoc (fun _ _ => false) n m
theorem mtabM_set_hi (M : Mtx) {n m s t k : Nat} (hn : n ≤ 1000000) (hs : s < n) (ht : t < m) (hk : 1000000 ≤ k) (o : RObj) : mset (mset (mtabM M n m) k o) s (.arr 1 ((bcells (M s) m).set t [.sc (.bool true)]) false) = mset (mtabM (updM M s t) n m) k o := by
  rw [mset_comm (by rw [mtabM_look M hs]; rfl) (by omega), mtabM_set M hs ht]
end Go.Avl
namespace Go.Avl
open Go Go.Proofs.Try
set_option maxRecDepth 10000
set_option linter.unusedSimpArgs false

theorem reached_is {a b : Mach} {par : Int} (hf : Fit a b par) : PureIs prog 19 [.ag a.cells, .ag b.cells, .sc (.int .i64 par)] (.sc (.int .i64 (reachN a b par))) := by
  have hra := hf.va.rows
  have hrb := hf.vb.rows
  have hia := hf.va.ins
  obtain ⟨na, hna⟩ : ∃ na, na = a.rows.length := ⟨_, rfl⟩
  obtain ⟨nb, hnb⟩ : ∃ nb, nb = b.rows.length := ⟨_, rfl⟩
  rw [← hna] at hra
  rw [← hnb] at hrb
  have htn : ((nb : Nat) : Int).toNat = nb := Int.toNat_natCast nb
  refine PureIs.of (nv := 5) (hid := [6, 7, 8, 9, 10, 11, 12, 13, 14, 15, 20, 34, 39, 46, 61, 88, 27, 28]) func19 rfl (by kernel_rfl) (by simp [ntmps19]) fun _ => ?_
  rw [ntmps19, results19]
  refine EvC.seq (EvC.rg (by (simp only [go_sem, Mach.cells]) <;> rfl) (by simp) ?_)
  refine EvC.frzB 0 (by (simp only [go_sem]) <;> rfl) ?_
  refine EvC.frzB 1 (by (simp only [go_sem]) <;> rfl) ?_
  refine EvC.seq (EvC.rg (by (simp only [go_sem]) <;> rfl) (by simp) ?_)
  refine EvC.seq ?_
  refine EvC.seq (EvC.rg (by (simp only [go_sem]) <;> rfl) (by simp) ?_)
  refine EvC.block ?_  -- 0
  refine EvC.thaw 3 (by (simp only [go_sem]) <;> rfl) ?_
  refine EvC.loopS (σ := Nat) (fun s => ⟨[(2, .sc (.int .i64 par)), (3, .ia a.cells), (4, .ia b.cells), (7, .tl 1000000 s (s == 0)), (8, .sc (.int .i64 s))], [], (1000000, .arr 1 (mcell nb s) false) :: mtabM (fun _ _ => false) s nb, 1000002⟩) (fun s => na - s) (fun s => s ≤ na) [2, 3, 4, 7, 8] 1000002 ?_ ?_
  · exact ⟨[(3, 1000000)], 0, rfl, (by (simp only [go_sem, Mach.cells, mcell, mtabM_zero, List.range_zero, List.map_nil]) <;> rfl), Nat.zero_le _⟩
  intro s hs
  have hml := mcell_len nb s
  refine EvC.seq ?_
  refine EvC.seq (EvC.rg (by (simp only [go_sem, Mach.cells, ← hna]) <;> rfl) (by simp) ?_)
  refine EvC.cond (by (simp only [go_sem]) <;> rfl) (fun hc => ?_) (fun hc => ?_)
  rotate_left
  · refine EvC.exit ?_  -- 0
    obtain rfl : na = s := by have : ¬ s < na := by simpa using hc
                              omega
    clear hc hs
    have hn1 : na ≤ 1000000 := by omega
    have hs00 : (na == 0) = false := by simp; omega
    have hml := mcell_len nb na
    have hlo : ∀ k, k < na → rlook (segK [(1000000, 1000000)] na []) k = some k := fun k hk => rlook_segK_lo hk hn1 (A := [(1000000, 1000000)]) rfl
    have hcg : ∀ {k}, k < na → (mcell nb na)[k]? = some [.tv k nb 0 nb (.val nb)] := fun h => mcell_get h
    have hz1 : mlook (mtabM (fun _ _ => false) na nb) 0 = some (.arr 1 (bcells (fun _ => false) nb) false) := mtabM_look _ (by omega)
    have hz2 := mtabM_set (fun _ _ => false) (show 0 < na by omega) (show 0 < nb by omega)
    have hz3 : (bcells (fun _ => false) nb)[0]? = some [.sc (.bool false)] := bcells_get (f := fun _ => false) (show 0 < nb by omega)
    refine EvC.seq (EvC.rg (by (simp only [go_sem, hcg (show 0 < na by omega), hz1, hml, hs00, hz2, hz3, bcells_len]) <;> rfl) (by simp; omega) ?_)
    refine EvC.seq (EvC.rg (by (simp only [go_sem]) <;> rfl) (by simp) ?_)
    refine EvC.seq ?_
    refine EvC.seq (EvC.rg (by (simp only [go_sem]) <;> rfl) (by simp) ?_)
    refine EvC.block ?_  -- 2
    have hnm : na * nb ≤ 64 * 64 := Nat.mul_le_mul hra.2 hrb.2
    refine EvC.loopS (σ := Mtx × Nat × Bool) (fun g => ⟨[(2, .sc (.int .i64 par)), (3, .ia a.cells), (4, .ia b.cells), (7, .tl 1000000 na false), (9, .sc (.int .i64 g.2.1)), (10, .sc (.bool g.2.2))], [], (1000000, .arr 1 (mcell nb na) false) :: mtabM g.1 na nb, 1000002⟩) (fun g => 2 * (na * nb - g.2.1) + g.2.2.toNat)
      (fun g => RInv a b par g.1 g.2.1 ∧ (g.2.2 = false → Clo a b par g.1 na 0 0)) [2, 3, 4, 7, 9, 10] 1000002 ?_ ?_
    · refine ⟨segK [(1000000, 1000000)] na [], (updM (fun _ _ => false) 0 0, 1, true), segK_ok (A := [(1000000, 1000000)]) rfl rfl rfl hn1 (by omega), by (simp only [go_sem, Mach.cells, rlook_segK_hi hn1, List.cons_append, List.nil_append, List.append_nil, renMem_idK_cons hn1, renMem_idK_mset hn1, mtabM_ren, mcell_ren hlo, ite_self, Int.natCast_add, Int.natCast_one, Int.natCast_zero]) <;> rfl, ⟨by simp [updM], fun s t h => ?_, ?_⟩, fun h => by cases h⟩
      · simp only [updM_true, Bool.false_eq_true, false_or] at h
        rw [h.1, h.2]; exact .start
      · have h0 : cntM a.rows.length b.rows.length (fun _ _ => false) = 0 := by simp [cntM]
        rw [cntM_upd (by omega) (by omega) rfl, h0]
    rintro ⟨M, n0, ag⟩ ⟨hI0, hc0⟩
    simp only at hI0 hc0
    refine EvC.seq ?_
    refine EvC.seq (EvC.rg (by (simp only [go_sem]) <;> rfl) (by simp) ?_)
    refine EvC.cond (by (simp only [go_sem]) <;> rfl) (fun hc => ?_) (fun hc => ?_)
    rotate_left
    · refine EvC.exit ?_  -- 2
      have hd := hI0.done hf (by rw [← hna]; exact hc0 hc)
      refine EvC.seq (EvC.rg (by (simp only [go_sem]) <;> rfl) (by simp) ?_)
      refine EvC.ret ⟨.inl rfl, _, (by (simp only [go_sem]) <;> rfl), ?_, rfl⟩
      simp only [go_sem]
      rw [hd]
    subst hc
    clear hc0
    refine EvC.skip ?_
    refine EvC.block ?_  -- 3
    refine EvC.seq (EvC.rg (by (simp only [go_sem]) <;> rfl) (by simp) ?_)
    refine EvC.seq (EvC.rg (by (simp only [go_sem]) <;> rfl) (by simp) ?_)
    refine EvC.block ?_  -- 4
    refine EvC.loopS (σ := Mtx × Nat × Bool × Nat) (fun g => ⟨[(2, .sc (.int .i64 par)), (3, .ia a.cells), (4, .ia b.cells), (7, .tl 1000000 na false), (9, .sc (.int .i64 g.2.1)), (10, .sc (.bool g.2.2.1)), (11, .sc (.int .i64 g.2.2.2))], [], (1000000, .arr 1 (mcell nb na) false) :: mtabM g.1 na nb, 1000002⟩) (fun g => na - g.2.2.2)
      (fun g => RInv a b par g.1 g.2.1 ∧ g.2.2.2 ≤ na ∧ n0 ≤ g.2.1 ∧ (g.2.2.1 = true → n0 < g.2.1) ∧ (g.2.2.1 = false → Clo a b par g.1 g.2.2.2 0 0)) [2, 3, 4, 7, 9, 10, 11] 1000002 ?_ ?_
    · exact ⟨segK [(1000000, 1000000)] na [], (M, n0, false, 0), segK_ok (A := [(1000000, 1000000)]) rfl rfl rfl hn1 (by omega), by (simp only [go_sem, Mach.cells, rlook_segK_hi hn1, List.cons_append, List.nil_append, List.append_nil, renMem_idK_cons hn1, renMem_idK_mset hn1, mtabM_ren, mcell_ren hlo, ite_self, Int.natCast_add, Int.natCast_one, Int.natCast_zero]) <;> rfl, hI0, Nat.zero_le _, Nat.le_refl _, fun h => by (cases h), fun _ s' t' i' _ _ h => by simp only at h; omega⟩
    clear hI0
    rintro ⟨M, n, ag, s⟩ ⟨hI, hs, hn0, hag, hcl⟩
    simp only at hI hs hn0 hag hcl
    refine EvC.seq ?_
    refine EvC.seq (EvC.rg (by (simp only [go_sem, Mach.cells, ← hna]) <;> rfl) (by simp) ?_)
    refine EvC.cond (by (simp only [go_sem]) <;> rfl) (fun hc => ?_) (fun hc => ?_)
    rotate_left
    · refine EvC.exit ?_  -- 4
      obtain rfl : na = s := by have : ¬ s < na := by simpa using hc
                                omega
      have hle := hI.le
      rw [← hna, ← hnb] at hle
      refine ⟨segK [(1000000, 1000000)] na [], (M, n, ag), segK_ok (A := [(1000000, 1000000)]) rfl rfl rfl hn1 (by omega), by (simp only [go_sem, Mach.cells, rlook_segK_hi hn1, List.cons_append, List.nil_append, List.append_nil, renMem_idK_cons hn1, renMem_idK_mset hn1, mtabM_ren, mcell_ren hlo, ite_self, Int.natCast_add, Int.natCast_one, Int.natCast_zero]) <;> rfl, ⟨hI, hcl⟩, ?_⟩
      simp only
      cases ag with
      | true => have := hag rfl; simp; omega
      | false => simp; omega
    have hsl : s < na := by simpa using hc
    clear hc
    refine EvC.skip ?_
    refine EvC.seq ?_
    refine EvC.block ?_  -- 5
    refine EvC.seq (EvC.rg (by (simp only [go_sem]) <;> rfl) (by simp) ?_)
    refine EvC.block ?_  -- 6
    refine EvC.loopS (σ := Mtx × Nat × Bool × Nat) (fun g => ⟨[(2, .sc (.int .i64 par)), (3, .ia a.cells), (4, .ia b.cells), (7, .tl 1000000 na false), (9, .sc (.int .i64 g.2.1)), (10, .sc (.bool g.2.2.1)), (11, .sc (.int .i64 s)), (12, .sc (.int .i64 g.2.2.2))], [], (1000000, .arr 1 (mcell nb na) false) :: mtabM g.1 na nb, 1000002⟩) (fun g => nb - g.2.2.2)
      (fun g => RInv a b par g.1 g.2.1 ∧ g.2.2.2 ≤ nb ∧ n0 ≤ g.2.1 ∧ (g.2.2.1 = true → n0 < g.2.1) ∧ (g.2.2.1 = false → Clo a b par g.1 s g.2.2.2 0)) [2, 3, 4, 7, 9, 10, 11, 12] 1000002 ?_ ?_
    · exact ⟨segK [(1000000, 1000000)] na [], (M, n, ag, 0), segK_ok (A := [(1000000, 1000000)]) rfl rfl rfl hn1 (by omega), by (simp only [go_sem, Mach.cells, rlook_segK_hi hn1, List.cons_append, List.nil_append, List.append_nil, renMem_idK_cons hn1, renMem_idK_mset hn1, mtabM_ren, mcell_ren hlo, ite_self, Int.natCast_add, Int.natCast_one, Int.natCast_zero]) <;> rfl, hI, Nat.zero_le _, hn0, hag, hcl⟩
    clear hI hn0 hag hcl
    rintro ⟨M, n, ag, t⟩ ⟨hI, ht, hn0, hag, hcl⟩
    simp only at hI ht hn0 hag hcl
    refine EvC.seq ?_
    refine EvC.seq (EvC.rg (by (simp only [go_sem, Mach.cells, ← hnb]) <;> rfl) (by simp) ?_)
    refine EvC.cond (by (simp only [go_sem]) <;> rfl) (fun hc => ?_) (fun hc => ?_)
    rotate_left
    · refine EvC.exit ?_  -- 6
      obtain rfl : nb = t := by have : ¬ t < nb := by simpa using hc
                                omega
      refine EvC.rg (by (simp only [go_sem]) <;> rfl) (by exact inI64_of (by omega) (by omega)) ?_
      refine ⟨segK [(1000000, 1000000)] na [], (M, n, ag, s + 1), segK_ok (A := [(1000000, 1000000)]) rfl rfl rfl hn1 (by omega), by (simp only [go_sem, Mach.cells, rlook_segK_hi hn1, List.cons_append, List.nil_append, List.append_nil, renMem_idK_cons hn1, renMem_idK_mset hn1, mtabM_ren, mcell_ren hlo, ite_self, Int.natCast_add, Int.natCast_one, Int.natCast_zero]) <;> rfl, ⟨hI, hsl, hn0, hag, fun h s' t' i' h1 h2 h3 h4 => hcl h s' t' i' h1 h2 ?_ h4⟩, by simp only; omega⟩
      have := reachJ_lt hf (hI.sub _ _ h1)
      simp only at h3
      omega
    have htl : t < nb := by simpa using hc
    clear hc
    refine EvC.skip ?_
    refine EvC.seq ?_
    refine EvC.block ?_  -- 7
    refine EvC.seq (EvC.rg (by (simp only [go_sem]) <;> rfl) (by simp) ?_)
    refine EvC.block ?_  -- 8
    refine EvC.loopS (σ := Mtx × Nat × Bool × Nat) (fun g => ⟨[(2, .sc (.int .i64 par)), (3, .ia a.cells), (4, .ia b.cells), (7, .tl 1000000 na false), (9, .sc (.int .i64 g.2.1)), (10, .sc (.bool g.2.2.1)), (11, .sc (.int .i64 s)), (12, .sc (.int .i64 t)), (13, .sc (.int .i64 g.2.2.2))], [], (1000000, .arr 1 (mcell nb na) false) :: mtabM g.1 na nb, 1000002⟩) (fun g => a.ins.toNat - g.2.2.2)
      (fun g => RInv a b par g.1 g.2.1 ∧ (g.2.2.2 : Int) ≤ a.ins ∧ n0 ≤ g.2.1 ∧ (g.2.2.1 = true → n0 < g.2.1) ∧ (g.2.2.1 = false → Clo a b par g.1 s t g.2.2.2)) [2, 3, 4, 7, 9, 10, 11, 12, 13] 1000002 ?_ ?_
    · exact ⟨segK [(1000000, 1000000)] na [], (M, n, ag, 0), segK_ok (A := [(1000000, 1000000)]) rfl rfl rfl hn1 (by omega), by (simp only [go_sem, Mach.cells, rlook_segK_hi hn1, List.cons_append, List.nil_append, List.append_nil, renMem_idK_cons hn1, renMem_idK_mset hn1, mtabM_ren, mcell_ren hlo, ite_self, Int.natCast_add, Int.natCast_one, Int.natCast_zero]) <;> rfl, hI, by have := hf.va.ins; simp only; omega, hn0, hag, hcl⟩
    clear hI hn0 hag hcl
    rintro ⟨M, n, ag, i⟩ ⟨hI, hi, hn0, hag, hcl⟩
    simp only at hI hi hn0 hag hcl
    have hs6 : s < 1000000 := by omega
    have hls := mtabM_look M (m := nb) hsl
    refine EvC.seq ?_
    apply EvC.seq
    apply EvC.trd
    · (simp only [go_sem, Mach.cells, hml, hcg hsl, lo_ne hs6, hls, bcells_len, bcells_get (f := M s) htl, Int.toNat_natCast]) <;> rfl
    · simp; omega
    refine EvC.cond (by (simp only [go_sem]) <;> rfl) (fun hc => ?_) (fun hc => ?_)
    rotate_left
    · refine EvC.exit ?_  -- 8
      have hno : M s t = true → ¬ (i : Int) < a.ins := fun h1 h2 => by simp [h1, h2] at hc
      refine EvC.rg (by (simp only [go_sem]) <;> rfl) (by exact inI64_of (by omega) (by omega)) ?_
      refine ⟨segK [(1000000, 1000000)] na [], (M, n, ag, t + 1), segK_ok (A := [(1000000, 1000000)]) rfl rfl rfl hn1 (by omega), by (simp only [go_sem, Mach.cells, rlook_segK_hi hn1, List.cons_append, List.nil_append, List.append_nil, renMem_idK_cons hn1, renMem_idK_mset hn1, mtabM_ren, mcell_ren hlo, ite_self, Int.natCast_add, Int.natCast_one, Int.natCast_zero]) <;> rfl, ⟨hI, htl, hn0, hag, fun h s' t' i' h1 h2 h3 h4 => hcl h s' t' i' h1 h2 ?_ h4⟩, by simp only; omega⟩
      simp only at h3
      by_cases e : s' = s ∧ t' = t
      · obtain ⟨rfl, rfl⟩ := e
        have := hno h1
        omega
      · omega
    have hMst : M s t = true := by revert hc; by_cases h : (i : Int) < a.ins <;> simp [h]
    have hil : (i : Int) < a.ins := by revert hc; by_cases h : (i : Int) < a.ins <;> simp [h]
    clear hc
    refine EvC.skip ?_
    refine EvC.seq ?_
    refine EvC.block ?_  -- 9
    obtain ⟨q, hq⟩ : ∃ q, q = stepJ a b par (s, t) i := ⟨_, rfl⟩
    have hqo := stepJ_ok hf (s := (s : Int)) (t := (t : Int)) (i := (i : Int)) (by omega) (by omega) (by omega)
    have hst := step40_is hf (s : Int) (t : Int) (i : Int) (by omega) (by omega) (by omega)
    rw [← hq] at hqo hst
    obtain ⟨x, y, hx, hy, hxy⟩ : ∃ x y : Nat, x < na ∧ y < nb ∧ q.1 = ((x : Int), (y : Int)) := by
      rcases hqo with e | e
      · exact ⟨0, 0, by omega, by omega, by rw [e]; rfl⟩
      · exact ⟨q.1.1.toNat, q.1.2.toNat, by omega, by omega, by rw [Int.toNat_of_nonneg e.2.1, Int.toNat_of_nonneg e.2.2.2.1]⟩
    rw [hxy] at hst
    have hqb : -1 ≤ q.2 := by
      rcases hqo with e | e
      · rw [e]; simp
      · omega
    apply EvC.seq
    apply EvC.tr
    · apply Tr.run
      · (simp only [go_sem, Mach.cells]) <;> rfl
      · simp
      apply Tr.cons
      · exact .call rfl rfl (by (simp only [go_sem]) <;> rfl) (by (simp only [go_sem]) <;> rfl) (by (simp only [go_sem]) <;> rfl) (by (simp only [go_sem]) <;> rfl) (by (simp only [go_sem]) <;> rfl) (hst)
      apply Tr.done
      · (simp only [go_sem, edgeA, mlook_mset, mset_mset_same]) <;> rfl
      · simp
    have hx6 : x < 1000000 := by omega
    have hlx := mtabM_look M (m := nb) hx
    apply EvC.seq
    apply EvC.drd mixed  -- R21
    · (simp only [go_sem, hml, hcg hx, lo_ne hx6, hlx, bcells_len, bcells_get (f := M x) hy, mlook_mset, Int.toNat_natCast]) <;> rfl
    · simp; omega
    · exact confAll_slots (by simp [rdOk, slotsOf, opSlots, memless, Op.operands]) (by kernel_rfl)
    have hq1 : (stepJ a b par (s, t) i).1.1.toNat = x ∧ (stepJ a b par (s, t) i).1.2.toNat = y := by rw [← hq, hxy]; exact ⟨Int.toNat_natCast x, Int.toNat_natCast y⟩
    refine EvC.cond (by (simp only [go_sem]) <;> rfl) (fun hc => ?_) (fun hc => ?_)
    · have ho : 0 ≤ q.2 := by revert hc; by_cases h : 0 ≤ q.2 <;> simp [h]
      have hMxy : M x y = false := by revert hc; by_cases h : 0 ≤ q.2 <;> simp [h]
      clear hc
      have hrx : ReachJ a b par x y := by
        have := ReachJ.step s t i (hI.sub s t hMst) hil (by rw [← hq]; exact ho)
        rwa [hq1.1, hq1.2] at this
      have hI' : RInv a b par (updM M x y) (n + 1) := by
        refine ⟨updM_true.2 (.inl hI.zero), fun s' t' h => ?_, ?_⟩
        · rcases updM_true.1 h with h | ⟨rfl, rfl⟩
          · exact hI.sub _ _ h
          · exact hrx
        · rw [cntM_upd (by omega) (by omega) hMxy, hI.cnt]
      have hle := hI'.le
      rw [← hna, ← hnb] at hle
      apply EvC.seq
      apply EvC.drd mixed  -- R22
      · (simp only [go_sem, hml, hcg hx, lo_ne hx6, hlx, bcells_len, bcells_get (f := M x) hy, mlook_mset, mtabM_set_hi M hn1 hx hy, mtabM_set M hx hy, Int.toNat_natCast]) <;> rfl
      · simp; omega
      · exact confAll_slots (by simp [rdOk, slotsOf, opSlots, memless, Op.operands]) (by kernel_rfl)
      refine EvC.seq (EvC.rg (by (simp only [go_sem]) <;> rfl) (by exact inI64_of (by omega) (by omega)) ?_)
      refine EvC.rg (by (simp only [go_sem]) <;> rfl) (by simp) ?_
      refine EvC.rg (by (simp only [go_sem]) <;> rfl) (by exact inI64_of (by omega) (by omega)) ?_
      exact ⟨segK [(1000000, 1000000)] na [], (updM M x y, n + 1, true, i + 1), segK_ok (A := [(1000000, 1000000)]) rfl rfl rfl hn1 (by omega), by (simp only [go_sem, Mach.cells, rlook_segK_hi hn1, List.cons_append, List.nil_append, List.append_nil, renMem_idK_cons hn1, renMem_idK_mset hn1, mtabM_ren, mcell_ren hlo, ite_self, Int.natCast_add, Int.natCast_one, Int.natCast_zero]) <;> rfl, ⟨hI', by simp only; omega, by simp only; omega, fun _ => by simp only; omega, fun h => by cases h⟩, by simp only; omega⟩
    have hMq : 0 ≤ q.2 → M x y = true := fun h => by simpa [h] using hc
    clear hc
    refine EvC.skip ?_
    refine EvC.rg (by (simp only [go_sem]) <;> rfl) (by exact inI64_of (by omega) (by omega)) ?_
    refine ⟨segK [(1000000, 1000000)] na [], (M, n, ag, i + 1), segK_ok (A := [(1000000, 1000000)]) rfl rfl rfl hn1 (by omega), by (simp only [go_sem, Mach.cells, rlook_segK_hi hn1, List.cons_append, List.nil_append, List.append_nil, renMem_idK_cons hn1, renMem_idK_mset hn1, mtabM_ren, mcell_ren hlo, ite_self, Int.natCast_add, Int.natCast_one, Int.natCast_zero]) <;> rfl, ⟨hI, by simp only; omega, hn0, hag, fun h s' t' i' h1 h2 h3 h4 => ?_⟩, by simp only; omega⟩
    simp only at h3
    by_cases e : s' = s ∧ t' = t ∧ i' = i
    · obtain ⟨rfl, rfl, rfl⟩ := e
      rw [hq1.1, hq1.2]
      exact hMq (by rw [hq]; exact h4)
    · exact hcl h s' t' i' h1 h2 (by omega) h4
  have hs : s < na := by simpa using hc
  refine EvC.skip ?_
  refine EvC.seq ?_
  refine EvC.block ?_  -- 1
  refine EvC.rg (by (simp only [go_sem, Mach.cells, ← hnb, htn, hml, zeros_row, bcells_len]) <;> rfl) (by simp [room_eq, AV.norefs, AV.noref, hml]; omega) ?_
  refine EvC.rg (by (simp only [go_sem]) <;> rfl) (by exact inI64_of (by omega) (by omega)) ?_
  have hn1 : s ≤ 1000000 := by omega
  have hs0 : (s + 1 == 0) = false := rfl
  refine ⟨segK [(1000000, 1000000)] s [(1000011, s)], s + 1, segK_ok1 (A := [(1000000, 1000000)]) rfl rfl rfl (by omega) (by omega), ?_, by omega, by omega⟩
  (simp only [go_sem, Mach.cells, hs0, hml, rlook_segK_hi hn1, List.cons_append, List.nil_append, renMem_idK_cons hn1, mtabM_ren, mtabF_snoc, Int.natCast_add, Int.natCast_one, mcell_ren (fun k hk => rlook_segK_lo hk hn1 (A := [(1000000, 1000000)]) rfl), mcell_succ]) <;> rfl
end Go.Avl
namespace Go.Avl
open Go Go.Proofs.Try
set_option maxRecDepth 10000
set_option linter.unusedSimpArgs false

theorem check27_is (m : Mach) (hr : ∀ r ∈ m.rows, r.2.length < 1000000) : PureIs prog 34 [.ag m.cells] (.sc (.int .i64 (checkM m))) := by
  refine PureIs.of (nv := 6) (hid := [19, 33, 38, 49, 53, 71, 94]) func34 rfl (by kernel_rfl) (by simp [ntmps34]) fun _ => ?_
  rw [ntmps34, results34]
  refine EvC.seq (EvC.rg (by (simp only [go_sem, Mach.cells]) <;> rfl) (by simp) ?_)
  refine EvC.frzB 0 (by (simp only [go_sem]) <;> rfl) ?_
  refine EvC.seq ?_
  apply EvC.seq
  apply EvC.trd
  · (simp only [go_sem]) <;> rfl
  · simp
  refine EvC.cond (by (simp only [go_sem]) <;> rfl) (fun hc => ?_) (fun hc => ?_)
  · have h : 16 < m.ins ∨ 16 < m.outs ∨ 64 < (m.rows.length : Int) := by
      by_cases h1 : 16 < m.ins <;> by_cases h2 : 16 < m.outs <;> simp_all
    refine EvC.seq (EvC.rg (by (simp only [go_sem]) <;> rfl) (by simp) ?_)
    refine EvC.ret ⟨.inl rfl, _, (by (simp only [go_sem]) <;> rfl), ?_, rfl⟩
    simp only [go_sem]
    rw [checkM, if_pos h]
  have hn : ¬ (16 < m.ins ∨ 16 < m.outs ∨ 64 < (m.rows.length : Int)) := by
    by_cases h1 : 16 < m.ins <;> by_cases h2 : 16 < m.outs <;> simp_all
  clear hc
  refine EvC.skip ?_
  refine EvC.seq ?_
  apply EvC.seq
  apply EvC.trd
  · (simp only [go_sem]) <;> rfl
  · simp
  refine EvC.cond (by (simp only [go_sem]) <;> rfl) (fun hc => ?_) (fun hc => ?_)
  · have h : m.ins < 1 ∨ m.outs < 1 ∨ (m.rows.length : Int) < 1 := by
      by_cases h1 : m.ins < 1 <;> by_cases h2 : m.outs < 1 <;> simp_all
    refine EvC.seq (EvC.rg (by (simp only [go_sem]) <;> rfl) (by simp) ?_)
    refine EvC.ret ⟨.inl rfl, _, (by (simp only [go_sem]) <;> rfl), ?_, rfl⟩
    simp only [go_sem]
    rw [checkM, if_neg hn, if_pos h]
  have hn2 : ¬ (m.ins < 1 ∨ m.outs < 1 ∨ (m.rows.length : Int) < 1) := by
    by_cases h1 : m.ins < 1 <;> by_cases h2 : m.outs < 1 <;> simp_all
    have : m.rows.length ≠ 0 := by simpa using hc
    omega
  clear hc
  have hw : checkM m = if m.rows.all (rowOk m) = true then 0 else 1 := by rw [checkM, if_neg hn, if_neg hn2]
  have hlen : (m.rows.length : Int) ≤ 64 := by omega
  refine EvC.skip ?_
  refine EvC.seq ?_
  refine EvC.seq (EvC.rg (by (simp only [go_sem]) <;> rfl) (by simp) ?_)
  refine EvC.block ?_  -- 0
  refine EvC.loopS (σ := Nat) (fun i => ⟨[(1, .ia m.cells), (3, .sc (.int .i64 i))], [], [], 0⟩) (fun i => m.rows.length - i) (fun i => i ≤ m.rows.length ∧ m.rows.all (rowOk m) = (m.rows.drop i).all (rowOk m)) [1, 3] 0 ?_ ?_
  · refine ⟨[], 0, rfl, (by (simp only [go_sem, Mach.cells]) <;> rfl), Nat.zero_le _, by simp⟩
  rintro i ⟨h1, h2⟩
  refine EvC.seq ?_
  refine EvC.seq (EvC.rg (by (simp only [go_sem, Mach.cells]) <;> rfl) (by simp) ?_)
  refine EvC.cond (by (simp only [go_sem]) <;> rfl) (fun hc => ?_) (fun hc => ?_)
  rotate_left
  · refine EvC.exit ?_  -- 0
    have hi : ¬ i < m.rows.length := by simpa using hc
    refine EvC.seq (EvC.rg (by (simp only [go_sem]) <;> rfl) (by simp) ?_)
    refine EvC.ret ⟨.inl rfl, _, (by (simp only [go_sem]) <;> rfl), ?_, rfl⟩
    simp only [go_sem]
    rw [hw, h2, List.drop_of_length_le (by omega)]; rfl
  have hi : i < m.rows.length := by simpa using hc
  have he : m.rows[i]? = some m.rows[i] := List.getElem?_eq_getElem hi
  have hd : m.rows.drop i = m.rows[i] :: m.rows.drop (i + 1) := List.drop_eq_getElem_cons hi
  generalize m.rows[i] = r at he hd
  rw [hd, List.all_cons] at h2
  refine EvC.skip ?_
  refine EvC.seq ?_
  refine EvC.block ?_  -- 1
  refine EvC.seq ?_
  apply EvC.seq
  apply EvC.drd mixed
  · (simp only [go_sem, Mach.cells, he, rowC]) <;> rfl
  · simp
  · kernel_rfl
  refine EvC.cond (by (simp only [go_sem]) <;> rfl) (fun hc => ?_) (fun hc => ?_)
  · have hl : ¬ (r.2.length : Int) = m.ins := by simpa using hc
    refine EvC.seq (EvC.rg (by (simp only [go_sem]) <;> rfl) (by simp) ?_)
    refine EvC.ret ⟨.inl rfl, _, (by (simp only [go_sem]) <;> rfl), ?_, rfl⟩
    simp only [go_sem]
    have : rowOk m r = false := by simp [rowOk, hl]
    rw [hw, h2, this]; rfl
  have hl : (r.2.length : Int) = m.ins := by simpa using hc
  have hro : rowOk m r = r.2.all fun e => fitsR m.rows.length m.outs e.1 e.2 := by simp [rowOk, hl, List.any_eq_not_all_not]
  refine EvC.skip ?_
  refine EvC.seq (EvC.rg (by (simp only [go_sem]) <;> rfl) (by simp) ?_)
  refine EvC.block ?_  -- 2
  refine EvC.loopS (σ := Nat) (fun k => ⟨[(1, .ia m.cells), (3, .sc (.int .i64 i)), (4, .sc (.int .i64 k))], [], [], 0⟩) (fun k => r.2.length - k) (fun k => k ≤ r.2.length ∧ rowOk m r = (r.2.drop k).all fun e => fitsR m.rows.length m.outs e.1 e.2) [1, 3, 4] 0 ?_ ?_
  · refine ⟨[], 0, rfl, (by (simp only [go_sem, Mach.cells]) <;> rfl), Nat.zero_le _, by simp [hro]⟩
  rintro k ⟨k1, k2⟩
  refine EvC.seq ?_
  refine EvC.seq (EvC.rg (by (simp only [go_sem, Mach.cells]) <;> rfl) (by simp) ?_)
  refine EvC.cond (by (simp only [go_sem]) <;> rfl) (fun hc => ?_) (fun hc => ?_)
  rotate_left
  · refine EvC.exit ?_  -- 2
    have hk : ¬ k < r.2.length := by
      have : ¬ (k : Int) < m.ins := by simpa using hc
      omega
    rw [List.drop_of_length_le (by omega)] at k2
    refine EvC.rg (by (simp only [go_sem]) <;> rfl) (by exact inI64_of (by omega) (by omega)) ?_
    exact ⟨[], i + 1, rfl, (by (simp only [go_sem, Mach.cells]) <;> rfl), ⟨by omega, by rw [h2, k2]; rfl⟩, by omega⟩
  have hk : k < r.2.length := by
    have : (k : Int) < m.ins := by simpa using hc
    omega
  have hke : r.2[k]? = some r.2[k] := List.getElem?_eq_getElem hk
  have hkd : r.2.drop k = r.2[k] :: r.2.drop (k + 1) := List.drop_eq_getElem_cons hk
  generalize r.2[k] = e at hke hkd
  rw [hkd, List.all_cons] at k2
  refine EvC.skip ?_
  refine EvC.seq ?_
  refine EvC.block ?_  -- 3
  refine EvC.seq (EvC.rg (by (simp only [go_sem, Mach.cells, he, rowC, hke, edgeC]) <;> rfl) (by simp) ?_)
  refine EvC.seq ?_
  apply EvC.seq
  apply EvC.trd
  · (simp only [go_sem]) <;> rfl
  · simp
  refine EvC.cond (by (simp only [go_sem]) <;> rfl) (fun hc => ?_) (fun hc => ?_)
  · refine EvC.exit ?_  -- 3
    have hu : e.1 = -1 ∧ e.2 = -1 := by by_cases h : e.1 = -1 <;> simp_all
    have hf : fitsR m.rows.length m.outs e.1 e.2 = true := by simp [fitsR, hu.1, hu.2]
    refine EvC.rg (by (simp only [go_sem]) <;> rfl) (by exact inI64_of (by omega) (by omega)) ?_
    exact ⟨[], k + 1, rfl, (by (simp only [go_sem, Mach.cells]) <;> rfl), ⟨by omega, by rw [k2, hf]; rfl⟩, by omega⟩
  have hu : ¬ (e.1 = -1 ∧ e.2 = -1) := by by_cases h : e.1 = -1 <;> simp_all
  clear hc
  refine EvC.skip ?_
  apply EvC.seq
  apply EvC.trd
  · (simp only [go_sem, Mach.cells]) <;> rfl
  · simp
  have hfe : fitsR m.rows.length m.outs e.1 e.2 = (decide (0 ≤ e.1) && decide (e.1 < m.rows.length) && decide (0 ≤ e.2) && decide (e.2 < m.outs)) := by
    unfold fitsR
    by_cases h : e.1 = -1
    · have : ¬ e.2 = -1 := fun h2 => hu ⟨h, h2⟩
      simp [this]
    · simp [h]
  refine EvC.cond (by (simp only [go_sem]) <;> rfl) (fun hc => ?_) (fun hc => ?_)
  · have hf : fitsR m.rows.length m.outs e.1 e.2 = false := by
      rw [hfe]
      by_cases h1 : e.1 < 0 <;> by_cases h2 : (m.rows.length : Int) ≤ e.1 <;> by_cases h3 : e.2 < 0 <;> by_cases h4 : m.outs ≤ e.2 <;> simp_all <;> omega
    refine EvC.seq (EvC.rg (by (simp only [go_sem]) <;> rfl) (by simp) ?_)
    refine EvC.ret ⟨.inl rfl, _, (by (simp only [go_sem]) <;> rfl), ?_, rfl⟩
    simp only [go_sem]
    rw [hw, h2, k2, hf]; rfl
  have hf : fitsR m.rows.length m.outs e.1 e.2 = true := by
    rw [hfe]
    by_cases h1 : e.1 < 0 <;> by_cases h2 : (m.rows.length : Int) ≤ e.1 <;> by_cases h3 : e.2 < 0 <;> by_cases h4 : m.outs ≤ e.2 <;> simp_all <;> omega
  refine EvC.skip ?_
  refine EvC.rg (by (simp only [go_sem]) <;> rfl) (by exact inI64_of (by omega) (by omega)) ?_
  exact ⟨[], k + 1, rfl, (by (simp only [go_sem, Mach.cells]) <;> rfl), ⟨by omega, by rw [k2, hf]; rfl⟩, by omega⟩
def afterR (m : Mach) : Int → List Int → Int
  | s, [] => s
  | s, a :: w => afterR m (stepR m s a).1 w
theorem after22_is {m : Mach} (hv : Valid m) : ∀ (w : List Int) (s : Int) (nl : Bool) (c : Cp), s < m.rows.length → (∀ a ∈ w, 0 ≤ a ∧ a < m.ins) → w.length < 1000000 →
    PureIs prog 31 [.ag m.cells, .sc (.int .i64 s), .sl nl (w.map intC) c] (.sc (.int .i64 (afterR m s w)))
  | [], s, nl, c, hs, hw, hl => by
    refine PureIs.of (nv := 4) (hid := [6, 9]) func31 rfl (by kernel_rfl) (by simp [ntmps31]) fun _ => ?_
    rw [ntmps31, results31]
    refine EvC.seq (EvC.rg (by (simp only [go_sem, Mach.cells]) <;> rfl) (by simp) ?_)
    refine EvC.frzB 0 (by (simp only [go_sem]) <;> rfl) ?_
    refine EvC.seq ?_
    refine EvC.seq (EvC.rg (by (simp only [go_sem]) <;> rfl) (by simp) ?_)
    refine EvC.cond_true (by (simp only [go_sem]) <;> rfl) ?_
    refine EvC.seq (EvC.rg (by (simp only [go_sem]) <;> rfl) (by simp) ?_)
    refine EvC.ret ⟨.inl rfl, _, (by (simp only [go_sem]) <;> rfl), ?_, rfl⟩
    simp only [go_sem]
    rfl
  | a :: w, s, nl, c, hs, hw, hl => by
    have ha := hw a List.mem_cons_self
    have ih := after22_is hv w (stepR m s a).1 nl (cutTail c) (stepR_lt hv hs ha) (fun b hb => hw b (List.mem_cons_of_mem _ hb)) (by simp at hl; omega)
    refine PureIs.of (nv := 4) (hid := [6, 9]) func31 rfl (by kernel_rfl) (by simp [ntmps31]) fun _ => ?_
    rw [ntmps31, results31]
    refine EvC.seq (EvC.rg (by (simp only [go_sem, Mach.cells]) <;> rfl) (by simp) ?_)
    refine EvC.frzB 0 (by (simp only [go_sem]) <;> rfl) ?_
    refine EvC.seq ?_
    refine EvC.seq (EvC.rg (by (simp only [go_sem]) <;> rfl) (by simp) ?_)
    have h0 : decide (((w.length + 1 : Nat) : Int) = 0) = false := by simp; omega
    refine EvC.cond_false (by (simp only [go_sem, h0]) <;> rfl) ?_
    refine EvC.skip ?_
    apply EvC.seq
    apply EvC.drw mixed
    · apply Tr.run
      · (simp only [go_sem, Mach.cells, intC, edgeA, Option.getD_some]) <;> rfl
      · simp [intC]; try omega
      apply Tr.cons
      · exact .call rfl rfl (by (simp only [go_sem]) <;> rfl) (by (simp only [go_sem]) <;> rfl) (by (simp only [go_sem]) <;> rfl) (by (simp only [go_sem]) <;> rfl) (by (simp only [go_sem]) <;> rfl) (stepR_is hv hs ha)
      apply Tr.run
      · (simp only [go_sem, Mach.cells, intC, edgeA, Option.getD_some]) <;> rfl
      · simp [intC]; try omega
      apply Tr.cons
      · exact .call rfl rfl (by (simp only [go_sem]) <;> rfl) (by (simp only [go_sem]) <;> rfl) (by (simp only [go_sem]) <;> rfl) (by (simp only [go_sem]) <;> rfl) (by (simp only [go_sem]) <;> rfl) (ih)
      apply Tr.done
      · (simp only [go_sem]) <;> rfl
      · simp
    · kernel_rfl
    refine EvC.ret ⟨.inl rfl, _, (by (simp only [go_sem]) <;> rfl), ?_, rfl⟩
    simp only [go_sem]
    rfl
end Go.Avl
namespace Go.Avl
open Go Go.Proofs.Try
set_option maxRecDepth 10000
set_option linter.unusedSimpArgs false

/-! ### What is reached, breadth first -/
abbrev Pr := Int × Int
abbrev StF := Pr → Nat → Option (Pr × Int)
def jput (L : List Pr) (x : Pr) : List Pr := if x ∈ L then L else L ++ [x]
def jadd (st : StF) (p : Pr) (L : List Pr) (i : Nat) : List Pr := match st p i with
  | none => L
  | some q => jput L q.1
def jl (st : StF) (p : Pr) (L : List Pr) : Nat → List Pr
  | 0 => L
  | i + 1 => jadd st p (jl st p L i) i
/-- The list behind the first k of its pairs. -/
def jq (st : StF) (n : Nat) : Nat → List Pr
  | 0 => [(0, 0)]
  | k + 1 => match (jq st n k)[k]? with
    | none => jq st n k
    | some p => jl st p (jq st n k) n
def jed (st : StF) (L : List Pr) (p : Pr) (i : Nat) : Int × Int := match st p i with
  | none => (-1, -1)
  | some q => ((L.idxOf q.1 : Nat), q.2)
def jrow (st : StF) (L : List Pr) (p : Pr) (n : Nat) : List (Int × Int) := (List.range n).map (jed st L p)
def jrows (st : StF) (n : Nat) : Nat → List (List (Int × Int))
  | 0 => []
  | k + 1 => match (jq st n k)[k]? with
    | none => jrows st n k
    | some p => jrows st n k ++ [jrow st (jq st n (k + 1)) p n]

theorem jput_pre (L : List Pr) (x : Pr) : L <+: jput L x := by unfold jput; split; exact List.prefix_refl _; exact List.prefix_append _ _
theorem mem_jput {L : List Pr} {x y : Pr} : y ∈ jput L x ↔ y ∈ L ∨ y = x := by
  unfold jput; split
  · rename_i h; constructor
    · exact .inl
    · rintro (h1 | rfl); exact h1; exact h
  · simp
theorem jadd_pre (st : StF) (p : Pr) (L : List Pr) (i : Nat) : L <+: jadd st p L i := by unfold jadd; split; exact List.prefix_refl _; exact jput_pre _ _
theorem jl_pre (st : StF) (p : Pr) (L : List Pr) : ∀ i, L <+: jl st p L i
  | 0 => List.prefix_refl _
  | i + 1 => (jl_pre st p L i).trans (jadd_pre _ _ _ _)
theorem jl_mono (st : StF) (p : Pr) (L : List Pr) {i j : Nat} (h : i ≤ j) : jl st p L i <+: jl st p L j := by
  induction h with
  | refl => exact List.prefix_refl _
  | step h ih => exact ih.trans (jadd_pre _ _ _ _)
theorem jq_step (st : StF) (n k : Nat) : jq st n k <+: jq st n (k + 1) := by
  simp only [jq]; split; exact List.prefix_refl _; exact jl_pre _ _ _ _
theorem jq_mono (st : StF) (n : Nat) {i j : Nat} (h : i ≤ j) : jq st n i <+: jq st n j := by
  induction h with
  | refl => exact List.prefix_refl _
  | step h ih => exact ih.trans (jq_step _ _ _)
theorem jput_nodup {L : List Pr} {x : Pr} (h : L.Nodup) : (jput L x).Nodup := by
  unfold jput; split
  · exact h
  · rename_i hx
    rw [List.nodup_append]
    exact ⟨h, by simp, fun a ha b hb => by simp at hb; subst hb; exact fun e => hx (e ▸ ha)⟩
theorem jadd_nodup {st : StF} {p : Pr} {L : List Pr} {i : Nat} (h : L.Nodup) : (jadd st p L i).Nodup := by unfold jadd; split; exact h; exact jput_nodup h
theorem jl_nodup {st : StF} {p : Pr} {L : List Pr} (h : L.Nodup) : ∀ i, (jl st p L i).Nodup
  | 0 => h
  | i + 1 => jadd_nodup (jl_nodup h i)
theorem jq_nodup (st : StF) (n : Nat) : ∀ k, (jq st n k).Nodup
  | 0 => by simp [jq]
  | k + 1 => by simp only [jq]; split; exact jq_nodup st n k; exact jl_nodup (jq_nodup st n k) n
theorem jq_pos (st : StF) (n k : Nat) : 1 ≤ (jq st n k).length := by
  have := (jq_mono st n (Nat.zero_le k)).length_le
  simpa [jq] using this
theorem jq_zero (st : StF) (n k : Nat) : (jq st n k)[0]? = some (0, 0) := by
  obtain ⟨t, ht⟩ := jq_mono st n (Nat.zero_le k)
  rw [← ht]; rfl
/-- Nothing more comes, once all are done. -/
theorem jq_fix {st : StF} {n k : Nat} (h : (jq st n k).length ≤ k) : ∀ j, jq st n (k + j) = jq st n k ∧ jrows st n (k + j) = jrows st n k
  | 0 => ⟨rfl, rfl⟩
  | j + 1 => by
    obtain ⟨h1, h2⟩ := jq_fix h j
    have h3 : (jq st n (k + j))[k + j]? = none := by rw [h1]; exact List.getElem?_eq_none (by omega)
    rw [← Nat.add_assoc]
    simp only [jq, jrows, h3]
    exact ⟨h1, h2⟩
theorem jq_fix' {st : StF} {n k j : Nat} (h : (jq st n k).length ≤ k) (hk : k ≤ j) : jq st n j = jq st n k ∧ jrows st n j = jrows st n k := by
  obtain ⟨d, rfl⟩ := Nat.exists_eq_add_of_le hk
  exact jq_fix h d
inductive RS (st : StF) (n : Nat) : Pr → Prop
  | zero : RS st n (0, 0)
  | step {p q : Pr} {o : Int} {i : Nat} (h : RS st n p) (hi : i < n) (hs : st p i = some (q, o)) : RS st n q
theorem jl_reach {st : StF} {n : Nat} {p : Pr} {L : List Pr} (hp : RS st n p) (hL : ∀ q ∈ L, RS st n q) : ∀ i, i ≤ n → ∀ q ∈ jl st p L i, RS st n q
  | 0, _, q, h => hL q h
  | i + 1, hi, q, h => by
    simp only [jl, jadd] at h
    split at h
    · exact jl_reach hp hL i (by omega) q h
    · rename_i r hr
      rcases mem_jput.1 h with h | rfl
      · exact jl_reach hp hL i (by omega) q h
      · exact .step hp hi (o := r.2) hr
theorem jq_reach (st : StF) (n : Nat) : ∀ k, ∀ q ∈ jq st n k, RS st n q
  | 0, q, h => by simp [jq] at h; subst h; exact .zero
  | k + 1, q, h => by
    simp only [jq] at h
    split at h
    · exact jq_reach st n k q h
    · rename_i p hp
      exact jl_reach (jq_reach st n k p (List.mem_of_getElem? hp)) (jq_reach st n k) n (Nat.le_refl _) q h
theorem mem_jl {st : StF} {p : Pr} {L : List Pr} {i j : Nat} {q : Pr × Int} (hs : st p i = some q) (hj : i < j) : q.1 ∈ jl st p L j := by
  refine (jl_mono st p L hj).subset ?_
  simp only [jl, jadd, hs]
  exact mem_jput.2 (.inr rfl)
/-- All steps of the first k pairs lead into the list. -/
theorem jq_closed {st : StF} {n : Nat} : ∀ {k j i : Nat} {p : Pr} {q : Pr × Int}, j < k → (jq st n k)[j]? = some p → i < n → st p i = some q → q.1 ∈ jq st n k
  | 0, _, _, _, _, h, _, _, _ => by omega
  | k + 1, j, i, p, q, h, hp, hi, hs => by
    by_cases hk : k < (jq st n k).length
    · have hg : (jq st n k)[k]? = some (jq st n k)[k] := List.getElem?_eq_getElem hk
      have e : jq st n (k + 1) = jl st (jq st n k)[k] (jq st n k) n := by simp only [jq, hg]
      have hpre : (jq st n (k + 1))[j]? = (jq st n k)[j]? := by
        obtain ⟨t, ht⟩ := jq_step st n k
        rw [← ht, List.getElem?_append_left (by omega)]
      rw [hpre] at hp
      by_cases hj : j = k
      · subst hj
        rw [hg] at hp; cases hp
        rw [e]
        exact mem_jl hs hi
      · exact (jq_step st n k).subset (jq_closed (by omega) hp hi hs)
    · have hg : (jq st n k)[k]? = none := List.getElem?_eq_none (by omega)
      have e : jq st n (k + 1) = jq st n k := by simp only [jq, hg]
      rw [e] at hp ⊢
      by_cases hj : j = k
      · subst hj; rw [hg] at hp; cases hp
      · exact jq_closed (by omega) hp hi hs
theorem jq_all {st : StF} {n k : Nat} (hk : (jq st n k).length ≤ k) {p : Pr} (h : RS st n p) : p ∈ jq st n k := by
  induction h with
  | zero => exact List.mem_of_getElem? (jq_zero st n k)
  | step h hi hs ih =>
    obtain ⟨j, hj, rfl⟩ := List.getElem_of_mem ih
    exact jq_closed (by omega) (List.getElem?_eq_getElem hj) hi hs
/-- Where the list ends. -/
theorem jq_len {st : StF} {n : Nat} : ∀ {k : Nat}, (jq st n k).length ≤ k ∨ k + 1 ≤ (jq st n k).length := fun {k} => by omega
theorem jrows_len {st : StF} {n : Nat} : ∀ {k : Nat}, k ≤ (jq st n k).length → (jrows st n k).length = k
  | 0, _ => rfl
  | k + 1, h => by
    by_cases hk : k < (jq st n k).length
    · simp only [jrows, List.getElem?_eq_getElem hk, List.length_append, List.length_singleton, jrows_len (Nat.le_of_lt hk)]
    · have hg : (jq st n k)[k]? = none := List.getElem?_eq_none (by omega)
      have e : jq st n (k + 1) = jq st n k := by simp only [jq, hg]
      rw [e] at h; omega
theorem idxOf_pre {L L' : List Pr} (h : L <+: L') {x : Pr} (hx : x ∈ L) : L'.idxOf x = L.idxOf x := by
  obtain ⟨t, rfl⟩ := h
  rw [List.idxOf_append, if_pos hx]
theorem jrow_pre {st : StF} {L L' : List Pr} {p : Pr} {n : Nat} (h : L <+: L') (hc : ∀ i q, i < n → st p i = some q → q.1 ∈ L) : jrow st L' p n = jrow st L p n := by
  refine List.map_congr_left fun i hi => ?_
  unfold jed
  split
  · rfl
  · rename_i q hq
    rw [idxOf_pre h (hc i q (List.mem_range.1 hi) hq)]
/-- The rows, in terms of the whole list. -/
theorem jrows_eq {st : StF} {n : Nat} : ∀ {k m : Nat}, k ≤ m → k ≤ (jq st n k).length → jrows st n k = ((jq st n m).take k).map fun p => jrow st (jq st n m) p n
  | 0, _, _, _ => by simp [jrows]
  | k + 1, m, hm, h => by
    by_cases hk : k < (jq st n k).length
    · have hg : (jq st n k)[k]? = some (jq st n k)[k] := List.getElem?_eq_getElem hk
      simp only [jrows, hg]
      have hgm : (jq st n m)[k]? = some (jq st n k)[k] := by
        obtain ⟨t, ht⟩ := jq_mono st n (show k ≤ m by omega)
        rw [← ht, List.getElem?_append_left hk]; exact hg
      rw [List.take_add_one, hgm, List.map_append, jrows_eq (show k ≤ m by omega) (Nat.le_of_lt hk)]
      congr 1
      simp only [Option.toList_some, List.map_singleton]
      rw [jrow_pre (jq_mono st n hm) fun i q hi hs => jq_closed (Nat.lt_succ_self k) (by
        obtain ⟨t, ht⟩ := jq_step st n k
        rw [← ht, List.getElem?_append_left hk]; exact hg) hi hs]
    · have hg : (jq st n k)[k]? = none := List.getElem?_eq_none (by omega)
      have e : jq st n (k + 1) = jq st n k := by simp only [jq, hg]
      rw [e] at h; omega
/-- A row, as far as it is made. -/
def jpre (st : StF) (p : Pr) (L : List Pr) (i : Nat) : List (Int × Int) := (List.range i).map fun x => jed st (jl st p L (x + 1)) p x
theorem jpre_len (st : StF) (p : Pr) (L : List Pr) (i : Nat) : (jpre st p L i).length = i := by simp [jpre]
theorem jpre_succ (st : StF) (p : Pr) (L : List Pr) (i : Nat) : jpre st p L (i + 1) = jpre st p L i ++ [jed st (jl st p L (i + 1)) p i] := by simp [jpre, List.range_succ]
theorem jpre_eq (st : StF) (p : Pr) (L : List Pr) (n : Nat) : jpre st p L n = jrow st (jl st p L n) p n := by
  refine List.map_congr_left fun i hi => ?_
  unfold jed
  split
  · rfl
  · rename_i q hq
    rw [idxOf_pre (jl_mono st p L (show i + 1 ≤ n by have := List.mem_range.1 hi; omega)) (mem_jl hq (Nat.lt_succ_self i))]
theorem jl_len (st : StF) (p : Pr) (L : List Pr) (i : Nat) : L.length ≤ (jl st p L i).length := (jl_pre st p L i).length_le
end Go.Avl
namespace Go.Avl
open Go Go.Proofs.Try
set_option maxRecDepth 10000
set_option linter.unusedSimpArgs false

theorem clip56_is (nl : Bool) (es : List (List AV)) (c : Cp) (h : (es.all fun y => decide (y.length = 1)) = true) : PureIs prog 56 [.sl nl es c] (.sl nl es .full) := by
  refine PureIs.of (nv := 3) (hid := []) func56 rfl (by kernel_rfl) (by simp [ntmps56]) fun _ => ?_
  rw [ntmps56, results56]
  refine EvC.seq (EvC.rg (by (simp only [go_sem]) <;> rfl) (by simp) ?_)
  refine EvC.seq (EvC.rg (by (simp only [go_sem]) <;> rfl) (by simp [h]) ?_)
  refine EvC.ret ⟨.inl rfl, _, (by (simp only [go_sem]) <;> rfl), ?_, rfl⟩
  simp only [go_sem]

def pairV (p : Int × Int) : Value := .agg [Value.int .i64 p.1, .int .i64 p.2].toArray
theorem eqVal_pair (p q : Int × Int) : eqVal (pairV p) (pairV q) = decide (p = q) := by
  obtain ⟨a, b⟩ := p; obtain ⟨c, d⟩ := q
  simp [eqVal, pairV, Value.cells, eqCells, eqCell]
@[go_sem] theorem key73 : isKey prog 73 = keyTest true [.int .i64, .int .i64] := isKey_of (by kernel_rfl) (by kernel_rfl)
def ents : Nat → List Pr → List (Value × AV)
  | _, [] => []
  | i, c :: l => (pairV c, .sc (.int .i64 i)) :: ents (i + 1) l
@[go_sem] theorem norefs_ents : ∀ (l : List Pr) (i : Nat), ((ents i l).all fun p => p.2.noref) = true
  | [], _ => rfl
  | c :: l, i => by simp only [ents, List.all_cons, norefs_ents l, AV.noref, Bool.and_self]
theorem elook_ents (c : Pr) : ∀ (l : List Pr) (i : Nat), elook (ents i l) (pairV c) = if c ∈ l then some (.sc (.int .i64 (i + l.idxOf c : Nat))) else none
  | [], _ => rfl
  | d :: l, i => by
    simp only [ents, elook, eqVal_pair, List.mem_cons, List.idxOf_cons]
    by_cases h : c = d
    · subst h; simp
    · rw [if_neg (by simpa using h), elook_ents c l (i + 1)]
      have h' : (d == c) = false := by simp; exact fun e => h e.symm
      simp only [h, false_or, h', Bool.false_eq_true, if_false, cond_false]
      by_cases hc : c ∈ l
      · rw [if_pos hc, if_pos hc, show i + 1 + l.idxOf c = i + (l.idxOf c + 1) by omega]
      · rw [if_neg hc, if_neg hc]
theorem eset_ents (c : Pr) : ∀ (l : List Pr) (i : Nat), c ∉ l → eset (ents i l) (pairV c) (.sc (.int .i64 (i + l.length : Nat))) = ents i (l ++ [c])
  | [], _, _ => rfl
  | d :: l, i, h => by
    simp only [List.mem_cons, not_or] at h
    simp only [ents, eset, eqVal_pair, List.cons_append]
    rw [if_neg (by simpa using h.1)]
    congr 1
    have := eset_ents c l (i + 1) h.2
    rw [show i + 1 + l.length = i + (d :: l).length by simp; omega] at this
    exact this

/-- A row without spare capacity. -/
def rowH (r : List (Int × Int)) : List AV := rowG (false, r)
@[go_sem] theorem norefs_rowH (l : List (List (Int × Int))) : (l.map rowH).all AV.norefs = true := by simp [List.all_eq_true, rowH, rowG, AV.norefs, AV.noref]
/-- A function value that tells steps. -/
structure StepFn (fid : FuncId) (caps : List AV) (V : Pr → Prop) (n : Nat) (st : StF) : Prop where
  zero : V (0, 0)
  norefs : AV.norefs caps = true
  call : ∀ p i, V p → i < n → ∃ (to : Pr) (out : Int) (is : Bool), PureIs prog fid (edgeA p :: .sc (.int .i64 (i : Int)) :: caps) (.tu [edgeA to, .sc (.int .i64 out), .sc (.bool is)]) ∧ (is = true → st p i = some (to, out) ∧ V to) ∧ (is = false → st p i = none)
theorem StepFn.all {fid : FuncId} {caps : List AV} {V : Pr → Prop} {n : Nat} {st : StF} (h : StepFn fid caps V n st) {p : Pr} (hp : RS st n p) : V p := by
  induction hp with
  | zero => exact h.zero
  | step hp hi hs ih =>
    obtain ⟨to, out, is, _, h2, h3⟩ := h.call _ _ ih hi
    cases is with
    | false => rw [h3 rfl] at hs; cases hs
    | true => rw [(h2 rfl).1] at hs; cases hs; exact (h2 rfl).2
def jointA (ins outs : Int) (n : Nat) (st : StF) : AV :=
  if (jq st n 64).length ≤ 64 then .tu [.ag [.sc (.int .i64 ins), .sc (.int .i64 outs), .sl false ((jrows st n 64).map rowH) .full], .sc (.int .i64 0)]
  else .tu [.ag zeroM, .sc (.int .i64 3)]
theorem jointA_noref (ins outs : Int) (n : Nat) (st : StF) : (jointA ins outs n st).noref = true := by unfold jointA; split <;> rfl

set_option maxHeartbeats 4000000 in
theorem joint_is {fid : FuncId} {A B : List AV} {V : Pr → Prop} {N : Nat} {st : StF} (hS : StepFn fid [.ia A, .ia B] V N st) (outs : Int) (hN : 1 ≤ N ∧ N ≤ 16) :
    PureIs prog 37 [.sc (.int .i64 (N : Int)), .sc (.int .i64 outs), .fn fid [.ia A, .ia B]] (jointA N outs N st) := by
  have hNN : ((N : Nat) : Int).toNat = N := Int.toNat_natCast N
  have hnc := hS.norefs
  refine PureIs.of (nv := 3) (hid := [6, 7, 8, 9, 10, 11, 12, 13, 14, 15, 16, 18, 30, 36, 37, 38, 52, 64, 67, 26, 34]) func37 rfl (by kernel_rfl) (by simp [ntmps37]) fun _ => ?_
  rw [ntmps37, results37]
  refine EvC.seq (EvC.rg (by (simp only [go_sem]) <;> rfl) (by simp) ?_)
  refine EvC.seq (EvC.rg (by (simp only [go_sem]) <;> rfl) (by simp) ?_)
  refine EvC.seq (EvC.rg (by (simp only [go_sem]) <;> rfl) (by simp) ?_)
  refine EvC.seq (EvC.rg (by (simp only [go_sem]) <;> rfl) (by simp) ?_)
  refine EvC.seq ?_
  refine EvC.seq (EvC.rg (by (simp only [go_sem]) <;> rfl) (by simp) ?_)
  refine EvC.block ?_  -- 0
  refine EvC.ownC 5 2 1 (by (simp only [go_sem]) <;> rfl) ?_
  refine EvC.loopS (σ := Nat) (fun k => ⟨[(0, .sc (.int .i64 (N : Int))), (2, .fn fid [.ia A, .ia B]), (6, .rf 0 0), (8, .rf 3 0), (9, .mp 1), (10, .tl 2 (jq st N k).length false), (11, .sc (.int .i64 k))], [], [(0, .cells [.sc (.int .i64 0), .sc (.int .i64 0), .sl true [] .zer]), (1, .map 73 (ents 0 (jq st N k))), (2, .arr 2 ((jq st N k).map edgeC) false), (3, .cells [.sc (.int .i64 (N : Int)), .sc (.int .i64 outs), .tl 4 k (k == 0)]), (4, .arr 1 ((jrows st N k).map rowH) true)], 5⟩) (fun k => 100 - k) (fun k => k ≤ (jq st N k).length ∧ (jq st N k).length ≤ 64) [0, 2, 6, 8, 9, 10, 11] 5 ?_ ?_
  · exact ⟨[(0, 0), (7, 1), (13, 2), (5, 3), (16, 4)], 0, rfl, (by (simp only [go_sem, hnc, jq, jrows, ents, edgeC, pairV, List.map_nil, List.map_cons]) <;> rfl), Nat.zero_le _, by simp [jq]⟩
  rintro k ⟨hk1, hk2⟩
  have hVL : ∀ q ∈ jq st N k, V q := fun q hq => hS.all (jq_reach st N k q hq)
  have hrl := jrows_len hk1
  refine EvC.seq ?_
  refine EvC.seq (EvC.rg (by (simp only [go_sem, List.length_map]) <;> rfl) (by simp) ?_)
  refine EvC.cond (by (simp only [go_sem]) <;> rfl) (fun hc => ?_) (fun hc => ?_)
  rotate_left
  · refine EvC.exit ?_  -- 0
    have hc : ¬ k < (jq st N k).length := by simpa using hc
    obtain ⟨e1, e2⟩ := jq_fix' (show (jq st N k).length ≤ k by omega) (show k ≤ 64 by omega)
    have hk0 : (k == 0) = false := by have := jq_pos st N k; simp; omega
    refine EvC.frzD 4 (by (simp only [go_sem, List.length_map, hrl, hk0]) <;> rfl) ?_
    apply EvC.seq
    apply EvC.tr
    · apply Tr.run
      · (simp only [go_sem]) <;> rfl
      · simp
      apply Tr.cons
      · exact .call rfl rfl (by (simp only [go_sem]) <;> rfl) (by (simp only [go_sem]) <;> rfl) (by (simp only [go_sem]) <;> rfl) (by (simp only [go_sem]) <;> rfl) (by (simp only [go_sem]) <;> rfl) (clip56_is false ((jrows st N k).map rowH) .unk (by simp [rowH, rowG]))
      apply Tr.done
      · (simp only [go_sem]) <;> rfl
      · simp
    refine EvC.seq (EvC.rg (by (simp only [go_sem]) <;> rfl) (by simp) ?_)
    refine EvC.ret ⟨.inl rfl, _, (by (simp only [go_sem]) <;> rfl), ?_, jointA_noref _ _ _ _⟩
    simp only [go_sem]
    rw [jointA, e1, e2, if_pos hk2]
  have hkl : k < (jq st N k).length := by simpa using hc
  clear hc
  have he : (jq st N k)[k]? = some (jq st N k)[k] := List.getElem?_eq_getElem hkl
  have hVp : V (jq st N k)[k] := hVL _ (List.getElem_mem hkl)
  have hq1 : jq st N (k + 1) = jl st (jq st N k)[k] (jq st N k) N := by simp only [jq, he]
  have hr1 : jrows st N (k + 1) = jrows st N k ++ [jrow st (jq st N (k + 1)) (jq st N k)[k] N] := by simp only [jrows, he]
  generalize (jq st N k)[k] = p at he hVp hq1 hr1
  obtain ⟨L, hL⟩ : ∃ L, L = jq st N k := ⟨_, rfl⟩
  rw [← hL] at he hq1 hkl hk1 hk2 hVL
  rw [← hL]
  have h64 := (jq_mono st N (show k + 1 ≤ 64 by omega)).length_le
  refine EvC.skip ?_
  refine EvC.seq ?_
  refine EvC.block ?_  -- 1
  have hrep : List.replicate N [AV.sc (Value.int .i64 0), AV.sc (Value.int .i64 0)] = (List.replicate N ((0, 0) : Int × Int)).map edgeC := by simp [edgeC, List.map_replicate]
  refine EvC.seq (EvC.rg (by (simp only [go_sem, hNN, hrep, List.length_map, List.length_replicate]) <;> rfl) (by simp [room_eq]; omega) ?_)
  refine EvC.seq ?_
  refine EvC.seq (EvC.rg (by (simp only [go_sem, List.length_map, List.length_replicate, List.length_take, Nat.min_self]) <;> rfl) (by simp) ?_)
  refine EvC.block ?_  -- 2
  refine EvC.loopS (σ := Nat) (fun i => ⟨[(0, .sc (.int .i64 (N : Int))), (2, .fn fid [.ia A, .ia B]), (6, .rf 0 0), (8, .rf 3 0), (9, .mp 1), (10, .tl 2 (jl st p L i).length false), (11, .sc (.int .i64 k)), (12, .tv 5 N 0 N (.val N)), (36, .sc (.int .i64 (N : Int))), (37, .sc (.int .i64 i))], [], [(0, .cells [.sc (.int .i64 0), .sc (.int .i64 0), .sl true [] .zer]), (1, .map 73 (ents 0 (jl st p L i))), (2, .arr 2 ((jl st p L i).map edgeC) false), (3, .cells [.sc (.int .i64 (N : Int)), .sc (.int .i64 outs), .tl 4 k (k == 0)]), (4, .arr 1 ((jrows st N k).map rowH) true), (5, .arr 2 ((jpre st p L i ++ List.replicate (N - i) (0, 0)).map edgeC) false)], 6⟩) (fun i => N - i) (fun i => i ≤ N ∧ (jl st p L i).length ≤ 64) [0, 2, 6, 8, 9, 10, 11, 12, 36, 37] 6 ?_ ?_
  · exact ⟨[(0, 0), (1, 1), (2, 2), (3, 3), (4, 4), (10, 5)], 0, rfl, (by simp only [jl, jpre, List.range_zero, List.map_nil, List.nil_append, Nat.sub_zero]; (simp only [go_sem, hnc, Int.natCast_zero]) <;> rfl), Nat.zero_le _, hk2⟩
  rintro i ⟨hi, hl64⟩
  obtain ⟨R, hRR⟩ : ∃ R, R = jpre st p L i ++ List.replicate (N - i) ((0, 0) : Int × Int) := ⟨_, rfl⟩
  have hR : R.length = N := by rw [hRR]; simp [jpre_len]; omega
  rw [← hRR]
  refine EvC.seq (EvC.rg (by (simp only [go_sem]) <;> rfl) (by simp) ?_)
  refine EvC.seq ?_
  refine EvC.cond (by (simp only [go_sem]) <;> rfl) (fun hc => ?_) (fun hc => ?_)
  rotate_left
  · refine EvC.exit ?_  -- 2
    obtain rfl : i = N := by have : ¬ i < N := by simpa using hc
                             omega
    have hrow : R = jrow st (jl st p L i) p i := by rw [hRR, Nat.sub_self, jpre_eq]; simp
    subst hrow
    clear hRR
    refine EvC.frz 5 (by (simp only [go_sem, List.length_map, hR]) <;> rfl) ?_
    refine EvC.rg (by (simp only [go_sem, hrl]) <;> rfl) (by simp [room_eq, AV.norefs, AV.noref, hrl]; omega) ?_
    refine EvC.rg (by (simp only [go_sem]) <;> rfl) (by exact inI64_of (by omega) (by omega)) ?_
    have hk0 : (k + 1 == 0) = false := rfl
    exact ⟨[(0, 0), (1, 1), (2, 2), (3, 3), (4, 4)], k + 1, rfl, (by rw [hr1, hq1]; (simp only [go_sem, hnc, hk0, hrl, rowH, rowG, List.map_append, List.map_cons, List.map_nil, Int.natCast_add, Int.natCast_one, List.length_map, hR]) <;> rfl), ⟨by rw [hq1]; have := jl_len st p L i; omega, by rw [hq1]; exact hl64⟩, by omega⟩
  have hil : i < N := by simpa using hc
  clear hc
  have hIi : inI64 ((i : Int) + 1) = true := inI64_of (by omega) (by omega)
  obtain ⟨m, hm⟩ : ∃ m, N - i = m + 1 := ⟨N - i - 1, by omega⟩
  have hm' : N - (i + 1) = m := by omega
  obtain ⟨L', hL'⟩ : ∃ L', L' = jl st p L i := ⟨_, rfl⟩
  have hl1 : jl st p L (i + 1) = jadd st p L' i := by rw [hL']; rfl
  have hlen := jl_len st p L i
  have heL : L'[k]? = some p := by
    obtain ⟨t, ht⟩ := jl_pre st p L i
    rw [hL', ← ht, List.getElem?_append_left hkl]; exact he
  have hps := jpre_succ st p L i
  rw [hl1] at hps
  have hmono := jl_mono st p L (show i + 1 ≤ N by omega)
  rw [hl1] at hmono
  rw [← hL'] at hlen hl64 ⊢
  have hset : ∀ e : Int × Int, jed st (jadd st p L' i) p i = e → (R.map edgeC).set i [.sc (.int .i64 e.1), .sc (.int .i64 e.2)] = (jpre st p L (i + 1) ++ List.replicate (N - (i + 1)) (0, 0)).map edgeC := fun e h1 => by
    show (R.map edgeC).set i (edgeC e) = _
    have hpl := jpre_len st p L i
    rw [hps, h1, hRR, hm, hm', List.replicate_succ, ← List.map_set, List.set_append_right _ _ (by omega), hpl, Nat.sub_self, List.set_cons_zero]; simp
  have hget : R[i]? = some (0, 0) := by
    rw [hRR, hm, List.replicate_succ, List.getElem?_append_right (by rw [jpre_len]; omega), jpre_len, Nat.sub_self]; rfl
  clear hRR hps
  refine EvC.skip ?_
  refine EvC.seq ?_
  refine EvC.block ?_  -- 3
  refine EvC.seq (EvC.rg (by (simp only [go_sem]) <;> rfl) (by simp) ?_)
  obtain ⟨to, out, is, hcall, hT, hF⟩ := hS.call p i hVp hil
  apply EvC.seq
  apply EvC.tr
  · apply Tr.run
    · (simp only [go_sem, heL, edgeC, hnc]) <;> rfl
    · simp; try omega
    apply Tr.cons
    · exact .call rfl rfl (by (simp only [go_sem]) <;> rfl) (by (simp only [go_sem]) <;> rfl) (by (simp only [go_sem]) <;> rfl) (by (simp only [go_sem]) <;> rfl) (by (simp only [go_sem]) <;> rfl) (hcall)
    apply Tr.done
    · (simp only [go_sem, edgeA]) <;> rfl
    · simp
  refine EvC.seq ?_
  refine EvC.seq (EvC.rg (by (simp only [go_sem]) <;> rfl) (by simp) ?_)
  cases is with
  | false =>
    have hst := hF rfl
    have hja : jadd st p L' i = L' := by simp only [jadd, hst]
    refine EvC.cond_true (by (simp only [go_sem]) <;> rfl) ?_
    apply EvC.seq
    apply EvC.tr
    · apply Tr.run
      · (simp only [go_sem, List.length_map]) <;> rfl
      · simp; try omega
      apply Tr.cons
      · exact .call rfl rfl (by (simp only [go_sem]) <;> rfl) (by (simp only [go_sem]) <;> rfl) (by (simp only [go_sem]) <;> rfl) (by (simp only [go_sem]) <;> rfl) (by (simp only [go_sem]) <;> rfl) (none11_is)
      apply Tr.done
      · (simp only [go_sem, hget, edgeC, hset (-1, -1) (by simp only [jed, hst]), List.length_map, hR]) <;> rfl
      · simp; try omega
    refine EvC.exit ?_  -- 3
    refine EvC.rg (by (simp only [go_sem]) <;> rfl) (by exact hIi) ?_
    exact ⟨[(0, 0), (1, 1), (2, 2), (3, 3), (4, 4), (5, 5)], i + 1, rfl, (by rw [hl1, hja]; (simp only [go_sem, hnc, Int.natCast_add, Int.natCast_one]) <;> rfl), ⟨hil, by rw [hl1, hja]; exact hl64⟩, by omega⟩
  | true =>
    obtain ⟨hst, hVt⟩ := hT rfl
    have hja : jadd st p L' i = jput L' to := by simp only [jadd, hst]
    rw [hja] at hl1 hmono hset
    refine EvC.cond_false (by (simp only [go_sem]) <;> rfl) ?_
    refine EvC.skip ?_
    have helk := elook_ents to L' 0
    by_cases hmem : to ∈ L'
    · have hel : elook (ents 0 L') (.agg [Value.int .i64 to.1, .int .i64 to.2].toArray) = some (.sc (.int .i64 (L'.idxOf to : Nat))) := by
        rw [if_pos hmem, Nat.zero_add] at helk; exact helk
      have hjp : jput L' to = L' := if_pos hmem
      rw [hjp] at hl1 hset
      refine EvC.seq ?_
      refine EvC.seq (EvC.rg (by (simp only [go_sem, hel]) <;> rfl) (by simp) ?_)
      refine EvC.seq (EvC.rg (by (simp only [go_sem]) <;> rfl) (by simp) ?_)
      refine EvC.cond_false (by (simp only [go_sem]) <;> rfl) ?_
      refine EvC.skip ?_
      refine EvC.rg (by (simp only [go_sem, hel, hget, edgeC, hset ((L'.idxOf to : Nat), out) (by simp only [jed, hst]), List.length_map, hR]) <;> rfl) (by simp; try omega) ?_
      refine EvC.rg (by (simp only [go_sem]) <;> rfl) (by exact hIi) ?_
      exact ⟨[(0, 0), (1, 1), (2, 2), (3, 3), (4, 4), (5, 5)], i + 1, rfl, (by rw [hl1]; (simp only [go_sem, hnc, Int.natCast_add, Int.natCast_one]) <;> rfl), ⟨hil, by rw [hl1]; exact hl64⟩, by omega⟩
    · have hel : elook (ents 0 L') (.agg [Value.int .i64 to.1, .int .i64 to.2].toArray) = none := by
        rw [if_neg hmem] at helk; exact helk
      have hes : eset (ents 0 L') (.agg [Value.int .i64 to.1, .int .i64 to.2].toArray) (.sc (.int .i64 L'.length)) = ents 0 (L' ++ [to]) := by
        have := eset_ents to L' 0 hmem
        rw [Nat.zero_add] at this
        exact this
      have hjp : jput L' to = L' ++ [to] := if_neg hmem
      have hel2 : elook (ents 0 (L' ++ [to])) (.agg [Value.int .i64 to.1, .int .i64 to.2].toArray) = some (.sc (.int .i64 ((L' ++ [to]).idxOf to : Nat))) := by
        have := elook_ents to (L' ++ [to]) 0
        rw [if_pos (by simp), Nat.zero_add] at this; exact this
      rw [hjp] at hl1 hset hmono
      refine EvC.seq ?_
      refine EvC.seq (EvC.rg (by (simp only [go_sem, hel]) <;> rfl) (by simp) ?_)
      refine EvC.seq (EvC.rg (by (simp only [go_sem]) <;> rfl) (by simp) ?_)
      refine EvC.cond_true (by (simp only [go_sem]) <;> rfl) ?_
      refine EvC.seq ?_
      refine EvC.seq (EvC.rg (by (simp only [go_sem, List.length_map]) <;> rfl) (by simp) ?_)
      refine EvC.cond (by (simp only [go_sem]) <;> rfl) (fun hc => ?_) (fun hc => ?_)
      · have h64' : L'.length = 64 := by
          have : (L'.length : Int) = 64 := by simpa using hc
          omega
        refine EvC.seq (EvC.rg (by (simp only [go_sem]) <;> rfl) (by simp) ?_)
        refine EvC.ret ⟨.inl rfl, _, (by (simp only [go_sem]) <;> rfl), ?_, jointA_noref _ _ _ _⟩
        simp only [go_sem]
        have h65 := hmono.length_le
        rw [← hq1, List.length_append, List.length_singleton] at h65
        rw [jointA, if_neg (by omega)]; rfl
      have h64' : ¬ L'.length = 64 := by
        have : ¬ (L'.length : Int) = 64 := by simpa using hc
        omega
      refine EvC.skip ?_
      refine EvC.seq (EvC.rg (by (simp only [go_sem, List.length_map, hes]) <;> rfl) (by simp; try omega) ?_)
      refine EvC.rg (by (simp only [go_sem, edgeC, List.length_map]) <;> rfl) (by simp [room_eq, AV.norefs, AV.noref]; omega) ?_
      refine EvC.rg (by (simp only [go_sem, hel2, hget, edgeC, hset (((L' ++ [to]).idxOf to : Nat), out) (by simp only [jed, hst]), List.length_map, hR]) <;> rfl) (by simp; try omega) ?_
      refine EvC.rg (by (simp only [go_sem]) <;> rfl) (by exact hIi) ?_
      exact ⟨[(0, 0), (1, 1), (2, 2), (3, 3), (4, 4), (5, 5)], i + 1, rfl, (by rw [hl1]; (simp only [go_sem, hnc, Int.natCast_add, Int.natCast_one, edgeC, List.map_append, List.map_cons, List.map_nil, List.length_append, List.length_cons, List.length_nil, List.length_map]) <;> rfl), ⟨hil, by rw [hl1]; simp; omega⟩, by omega⟩
end Go.Avl
namespace Go.Avl
open Go Go.Proofs.Try
set_option maxRecDepth 10000
set_option linter.unusedSimpArgs false

/-- The steps of the pairs of two machines. -/
def stOf (a b : Mach) (par : Int) : StF := fun p i => if (stepJ a b par p i).2 < 0 then none else some (stepJ a b par p i)
def inPr (a b : Mach) (p : Pr) : Prop := (0 ≤ p.1 ∧ p.1 < a.rows.length) ∧ (0 ≤ p.2 ∧ p.2 < b.rows.length)
theorem inPr_zero {a b : Mach} {par : Int} (h : Fit a b par) : inPr a b (0, 0) := by
  have := h.va.rows; have := h.vb.rows
  unfold inPr; simp only; omega
theorem stOf_none {a b : Mach} {par : Int} {p : Pr} {i : Nat} (h : stepJ a b par p i = ((0, 0), -1)) : stOf a b par p i = none := by
  unfold stOf; rw [h]; rfl
theorem stOf_some {a b : Mach} {par : Int} {p : Pr} {i : Nat} {q : Pr × Int} (h : stepJ a b par p i = q) (h0 : 0 ≤ q.2) : stOf a b par p i = some q := by
  unfold stOf; rw [h, if_neg (by omega)]

theorem series1_is {a b : Mach} (h : Fit a b 0) (p : Pr) (hp : inPr a b p) (i : Nat) (hi : (i : Int) < a.ins) : ∃ (to : Pr) (out : Int) (is : Bool),
    PureIs prog 38 [edgeA p, .sc (.int .i64 (i : Int)), .ia a.cells, .ia b.cells] (.tu [edgeA to, .sc (.int .i64 out), .sc (.bool is)]) ∧ (is = true → stOf a b 0 p i = some (to, out) ∧ inPr a b to) ∧ (is = false → stOf a b 0 p i = none) := by
  obtain ⟨s, t⟩ := p
  obtain ⟨hs, ht⟩ := hp
  simp only at hs ht
  obtain ⟨r1, x, k1, k2, k3, k4⟩ := stepR_get h.va hs.1 hs.2 (show 0 ≤ (i : Int) ∧ (i : Int) < a.ins by omega)
  have hx := fits_edge k4
  have hti : ((i : Nat) : Int).toNat = i := Int.toNat_natCast i
  rw [hti] at k2
  have start : ∀ {R : AV} {is : Bool}, is = (decide (x.1 = -1) && decide (x.2 = -1)) → R.noref = true →
      (is = true → R = .tu [edgeA (s, t), .sc (.int .i64 0), .sc (.bool false)]) →
      (is = false → ∀ (r2 : Row) (y : Int × Int), b.rows[t.toNat]? = some r2 → r2.2[x.2.toNat]? = some y → R = .tu [edgeA (x.1, y.1), .sc (.int .i64 y.2), .sc (.bool (!(decide (y.1 = -1) && decide (y.2 = -1))))]) →
      PureIs prog 38 [edgeA (s, t), .sc (.int .i64 (i : Int)), .ia a.cells, .ia b.cells] R := by
    intro R is his hR hT hF
    refine PureIs.of (nv := 5) (hid := [6, 7, 8, 9, 10, 22]) func38 rfl (by kernel_rfl) (by simp [ntmps38]) fun _ => ?_
    rw [ntmps38, results38]
    refine EvC.seq (EvC.rg (by (simp only [go_sem, edgeA]) <;> rfl) (by simp) ?_)
    refine EvC.frzB 0 (by (simp only [go_sem]) <;> rfl) ?_
    refine EvC.seq (EvC.rg (by (simp only [go_sem, Mach.cells, k1, rowC, hti, k2, edgeC]) <;> rfl) (by simp [hs.1]) ?_)
    refine EvC.seq ?_
    apply EvC.seq
    apply EvC.drw mixed
    · apply Tr.run
      · (simp only [go_sem]) <;> rfl
      · simp
      apply Tr.cons
      · exact .call rfl rfl (by (simp only [go_sem]) <;> rfl) (by (simp only [go_sem]) <;> rfl) (by (simp only [go_sem]) <;> rfl) (by (simp only [go_sem]) <;> rfl) (by (simp only [go_sem]) <;> rfl) (none11_is)
      apply Tr.done
      · (simp only [go_sem]) <;> rfl
      · simp [descAgg, matchKinds, matchKind]
    · kernel_rfl
    refine EvC.cond (by (simp only [go_sem]) <;> rfl) (fun hc => ?_) (fun hc => ?_)
    · have his1 : is = true := by rw [his]; simpa using hc
      refine EvC.seq (EvC.rg (by (simp only [go_sem]) <;> rfl) (by simp) ?_)
      refine EvC.ret ⟨.inl rfl, _, (by (simp only [go_sem]) <;> rfl), ?_, by rw [hT his1]; simp [edgeA, AV.noref, AV.norefs]⟩
      simp only [go_sem]
      rw [hT his1]; rfl
    have his0 : is = false := by
      rw [his]
      by_cases h1 : x.1 = -1 <;> by_cases h2 : x.2 = -1 <;> simp [h1, h2] at hc ⊢
    have hnx : ¬ (x.1 = -1 ∧ x.2 = -1) := fun hh => by rw [his, hh.1, hh.2] at his0; cases his0
    have hx' : 0 ≤ x.1 ∧ x.1 < a.rows.length ∧ 0 ≤ x.2 ∧ x.2 < a.outs := by omega
    obtain ⟨r2, y, l1, l2, l3, l4⟩ := stepR_get h.vb ht.1 ht.2 (show 0 ≤ x.2 ∧ x.2 < b.ins by rw [← h.ser rfl]; omega)
    refine EvC.skip ?_
    apply EvC.seq
    apply EvC.drd mixed
    · (simp only [go_sem, l1, rowC, l2, edgeC]) <;> rfl
    · simp [ht.1, hx'.2.2.1]
    · kernel_rfl
    apply EvC.seq
    apply EvC.drw mixed
    · apply Tr.run
      · (simp only [go_sem]) <;> rfl
      · simp
      apply Tr.cons
      · exact .call rfl rfl (by (simp only [go_sem]) <;> rfl) (by (simp only [go_sem]) <;> rfl) (by (simp only [go_sem]) <;> rfl) (by (simp only [go_sem]) <;> rfl) (by (simp only [go_sem]) <;> rfl) (none11_is)
      apply Tr.done
      · (simp only [go_sem]) <;> rfl
      · simp [descAgg, matchKinds, matchKind]
    · kernel_rfl
    refine EvC.ret ⟨.inl rfl, _, (by (simp only [go_sem]) <;> rfl), ?_, by rw [hF his0 r2 y l1 l2]; simp [edgeA, AV.noref, AV.norefs]⟩
    simp only [go_sem]
    rw [hF his0 r2 y l1 l2]
    congr 4
  by_cases hx0 : x.1 = -1 ∧ x.2 = -1
  · refine ⟨(s, t), 0, false, start (is := true) (by simp [hx0]) rfl (fun _ => rfl) (fun h => by cases h), (fun h => by cases h), fun _ => stOf_none ?_⟩
    simp [stepJ, k3, hx0.1]
  · have hx' : 0 ≤ x.1 ∧ x.1 < a.rows.length ∧ 0 ≤ x.2 ∧ x.2 < a.outs := by omega
    obtain ⟨r2, y, l1, l2, l3, l4⟩ := stepR_get h.vb ht.1 ht.2 (show 0 ≤ x.2 ∧ x.2 < b.ins by rw [← h.ser rfl]; omega)
    have hy := fits_edge l4
    refine ⟨(x.1, y.1), y.2, !(decide (y.1 = -1) && decide (y.2 = -1)), start (is := false) ?_ rfl (fun h => by cases h) (fun _ r2' y' m1 m2 => ?_), fun h1 => ?_, fun h1 => ?_⟩
    · by_cases h1 : x.1 = -1 <;> by_cases h2 : x.2 = -1 <;> simp [h1, h2] at hx0 ⊢
    · rw [l1] at m1; cases m1
      rw [l2] at m2; cases m2
      rfl
    · have hy' : 0 ≤ y.1 ∧ y.1 < b.rows.length ∧ 0 ≤ y.2 := by
        by_cases e1 : y.1 = -1 <;> by_cases e2 : y.2 = -1 <;> simp [e1, e2] at h1 <;> omega
      refine ⟨stOf_some ?_ (show 0 ≤ y.2 by omega), ?_⟩
      · simp only [stepJ, k3, l3]
        rw [if_neg (by omega), if_neg (by omega), if_neg (by omega)]
      · unfold inPr; simp only; omega
    · have hy1 : y.1 = -1 := by
        by_cases e1 : y.1 = -1
        · exact e1
        · simp [e1] at h1
      refine stOf_none ?_
      simp only [stepJ, k3, l3]
      rw [if_neg (by omega), if_neg (by omega), if_pos (by omega)]

theorem parallel1_is {a b : Mach} (h : Fit a b 1) (p : Pr) (hp : inPr a b p) (i : Nat) (hi : (i : Int) < a.ins) : ∃ (to : Pr) (out : Int) (is : Bool),
    PureIs prog 43 [edgeA p, .sc (.int .i64 (i : Int)), .ia a.cells, .ia b.cells] (.tu [edgeA to, .sc (.int .i64 out), .sc (.bool is)]) ∧ (is = true → stOf a b 1 p i = some (to, out) ∧ inPr a b to) ∧ (is = false → stOf a b 1 p i = none) := by
  obtain ⟨s, t⟩ := p
  obtain ⟨hs, ht⟩ := hp
  simp only at hs ht
  obtain ⟨r1, x, k1, k2, k3, k4⟩ := stepR_get h.va hs.1 hs.2 (show 0 ≤ (i : Int) ∧ (i : Int) < a.ins by omega)
  obtain ⟨r2, y, l1, l2, l3, l4⟩ := stepR_get h.vb ht.1 ht.2 (show 0 ≤ (i : Int) ∧ (i : Int) < b.ins by rw [← h.par rfl]; omega)
  have hx := fits_edge k4
  have hy := fits_edge l4
  have hti : ((i : Nat) : Int).toNat = i := Int.toNat_natCast i
  rw [hti] at k2 l2
  have ho := h.vb.outs
  have hao := h.va.outs
  have hm1 : -16 ≤ x.2 * b.outs ∧ x.2 * b.outs ≤ 16 * 16 := by
    by_cases e : x.2 = -1
    · rw [e]; omega
    · have h1 : 0 ≤ x.2 * b.outs := Int.mul_nonneg (by omega) (by omega)
      have h2 : x.2 * b.outs ≤ 16 * 16 := Int.mul_le_mul (by omega) (by omega) (by omega) (by omega)
      omega
  have hI1 : inI64 (x.2 * b.outs) = true := inI64_of (by omega) (by omega)
  have hI2 : inI64 (x.2 * b.outs + y.2) = true := inI64_of (by omega) (by omega)
  refine ⟨(x.1, y.1), x.2 * b.outs + y.2, !(decide (x.1 = -1) && decide (x.2 = -1)) && !(decide (y.1 = -1) && decide (y.2 = -1)), ?_, fun h1 => ?_, fun h1 => ?_⟩
  · by_cases hx0 : x.1 = -1 ∧ x.2 = -1
    · obtain ⟨e1, e2⟩ := hx0
      refine PureIs.of (nv := 5) (hid := [6, 7, 8, 9, 10]) func43 rfl (by kernel_rfl) (by simp [ntmps43]) fun _ => ?_
      rw [ntmps43, results43]
      refine EvC.seq (EvC.rg (by (simp only [go_sem, edgeA]) <;> rfl) (by simp) ?_)
      refine EvC.frzB 0 (by (simp only [go_sem]) <;> rfl) ?_
      apply EvC.seq
      apply EvC.drd mixed
      · (simp only [go_sem, Mach.cells, k1, rowC, hti, k2, l1, l2, edgeC]) <;> rfl
      · simp [hs.1, ht.1]
      · kernel_rfl
      apply EvC.seq  -- R2
      apply EvC.drw mixed
      · apply Tr.run
        · (simp only [go_sem, e1, e2]) <;> rfl
        · rw [e2] at hI1 hI2; simp only [Int.neg_mul, Int.one_mul] at hI1 hI2; simp [hI1, hI2]
        apply Tr.cons
        · exact .call rfl rfl (by (simp only [go_sem]) <;> rfl) (by (simp only [go_sem]) <;> rfl) (by (simp only [go_sem]) <;> rfl) (by (simp only [go_sem]) <;> rfl) (by (simp only [go_sem]) <;> rfl) none11_is
        apply Tr.run
        · (simp only [go_sem, e1, e2]) <;> rfl
        · simp [descAgg, matchKinds, matchKind]
        apply Tr.cons
        · exact .skipv (.ag [.sc (.int .i64 (-1)), .sc (.int .i64 (-1))]) rfl rfl (by (simp only [go_sem]) <;> rfl) (by (simp only [go_sem]) <;> rfl)
        apply Tr.done
        · (simp only [go_sem, e1, e2]) <;> rfl
        · simp [descAgg, matchKinds, matchKind]
      · kernel_rfl
      refine EvC.ret ⟨.inl rfl, _, (by (simp only [go_sem]) <;> rfl), ?_, by simp [edgeA, AV.noref, AV.norefs]⟩
      simp only [go_sem]
      simp [e1, e2, edgeA]
    · have hxd : (decide (x.1 = -1) && decide (x.2 = -1)) = false := by
        by_cases e1 : x.1 = -1 <;> by_cases e2 : x.2 = -1 <;> simp [e1, e2] at hx0 ⊢
      have hx1 : decide (x.1 = -1) = false := decide_eq_false (by omega)
      refine PureIs.of (nv := 5) (hid := [6, 7, 8, 9, 10]) func43 rfl (by kernel_rfl) (by simp [ntmps43]) fun _ => ?_
      rw [ntmps43, results43]
      refine EvC.seq (EvC.rg (by (simp only [go_sem, edgeA]) <;> rfl) (by simp) ?_)
      refine EvC.frzB 0 (by (simp only [go_sem]) <;> rfl) ?_
      apply EvC.seq
      apply EvC.drd mixed
      · (simp only [go_sem, Mach.cells, k1, rowC, hti, k2, l1, l2, edgeC]) <;> rfl
      · simp [hs.1, ht.1]
      · kernel_rfl
      apply EvC.seq  -- R2
      apply EvC.drw mixed
      · apply Tr.run
        · (simp only [go_sem]) <;> rfl
        · simp [hI1, hI2]
        apply Tr.cons
        · exact .call rfl rfl (by (simp only [go_sem]) <;> rfl) (by (simp only [go_sem]) <;> rfl) (by (simp only [go_sem]) <;> rfl) (by (simp only [go_sem]) <;> rfl) (by (simp only [go_sem]) <;> rfl) none11_is
        apply Tr.run
        · (simp only [go_sem, hx1]) <;> rfl
        · simp [descAgg, matchKinds, matchKind]
        apply Tr.cons
        · exact .callG rfl rfl (by (simp only [go_sem]) <;> rfl) rfl (by (simp only [go_sem, hx1]) <;> rfl) (by (simp only [go_sem]) <;> rfl) (by (simp only [go_sem]) <;> rfl) (by (simp only [go_sem]) <;> rfl) (by (simp only [go_sem]) <;> rfl) none11_is
        apply Tr.done
        · (simp only [go_sem, hx1]) <;> rfl
        · simp [descAgg, matchKinds, matchKind]
      · kernel_rfl
      refine EvC.ret ⟨.inl rfl, _, (by (simp only [go_sem]) <;> rfl), ?_, by simp [edgeA, AV.noref, AV.norefs]⟩
      simp only [go_sem]
      simp [hx1, edgeA]
  · have hd : ¬ x.1 = -1 ∧ ¬ y.1 = -1 := by
      constructor <;> intro e <;> simp [e] at h1 <;> omega
    refine ⟨stOf_some ?_ ?_, ?_⟩
    · simp only [stepJ, k3, l3]
      rw [if_neg (by omega), if_pos True.intro, if_neg (by omega)]
    · have : 0 ≤ x.2 * b.outs := Int.mul_nonneg (by omega) (by omega)
      simp only; omega
    · unfold inPr; simp only; omega
  · refine stOf_none ?_
    simp only [stepJ, k3, l3]
    by_cases e : x.1 = -1
    · rw [if_pos (by omega)]
    · have hy1 : y.1 = -1 := by
        by_cases e1 : y.1 = -1
        · exact e1
        · simp [e, e1] at h1
      rw [if_neg (by omega), if_pos True.intro, if_pos (by omega)]
end Go.Avl
namespace Go.Avl
open Go Go.Proofs.Try
set_option maxRecDepth 10000
set_option linter.unusedSimpArgs false

def orL (l : List Int) : Int := (l.find? fun x => decide (x ≠ 0)).getD 0
theorem or_is (nl : Bool) (l : List Int) (c : Cp) (hl : l.length < 1000000) : PureIs prog 57 [.sl nl (l.map intC) c] (.sc (.int .i64 (orL l))) := by
  refine PureIs.of (nv := 1) (hid := [2, 3, 5, 6, 7, 8, 9, 14]) func57 rfl (by kernel_rfl) (by simp [ntmps57]) fun _ => ?_
  rw [ntmps57, results57]
  refine EvC.seq (EvC.rg (by (simp only [go_sem]) <;> rfl) (by simp) ?_)
  refine EvC.seq (EvC.rg (by (simp only [go_sem]) <;> rfl) (by simp) ?_)
  refine EvC.seq ?_
  refine EvC.seq (EvC.rg (by (simp only [go_sem, List.length_map]) <;> rfl) (by simp) ?_)
  refine EvC.block ?_  -- 0
  refine EvC.loopS (σ := Nat) (fun i => ⟨[(3, .sc (.int .i64 0)), (6, .sl nl (l.map intC) c), (7, .sc (.int .i64 l.length)), (8, .sc (.int .i64 i))], [], [], 0⟩) (fun i => l.length - i) (fun i => i ≤ l.length ∧ orL l = orL (l.drop i)) [3, 6, 7, 8] 0 ?_ ?_
  · exact ⟨[], 0, rfl, (by (simp only [go_sem, Int.natCast_zero]) <;> rfl), Nat.zero_le _, rfl⟩
  rintro i ⟨h1, h2⟩
  refine EvC.seq (EvC.rg (by (simp only [go_sem]) <;> rfl) (by simp) ?_)
  refine EvC.seq ?_
  refine EvC.cond (by (simp only [go_sem]) <;> rfl) (fun hc => ?_) (fun hc => ?_)
  rotate_left
  · refine EvC.exit ?_  -- 0
    refine EvC.seq (EvC.rg (by (simp only [go_sem]) <;> rfl) (by simp) ?_)
    refine EvC.ret ⟨.inl rfl, _, (by (simp only [go_sem]) <;> rfl), ?_, rfl⟩
    simp only [go_sem]
    have : ¬ i < l.length := by simpa using hc
    rw [h2, List.drop_of_length_le (by omega)]; rfl
  have hi : i < l.length := by simpa using hc
  have he : l[i]? = some l[i] := List.getElem?_eq_getElem hi
  have hd : l.drop i = l[i] :: l.drop (i + 1) := List.drop_eq_getElem_cons hi
  generalize l[i] = x at he hd
  clear hc
  refine EvC.skip ?_
  refine EvC.seq ?_
  refine EvC.block ?_  -- 1
  refine EvC.seq (EvC.rg (by (simp only [go_sem, he, intC]) <;> rfl) (by simp) ?_)
  refine EvC.seq (EvC.rg (by (simp only [go_sem]) <;> rfl) (by simp) ?_)
  refine EvC.cond (by (simp only [go_sem]) <;> rfl) (fun hc => ?_) (fun hc => ?_)
  · have hx : x ≠ 0 := by simpa using hc
    refine EvC.seq (EvC.rg (by (simp only [go_sem]) <;> rfl) (by simp) ?_)
    refine EvC.ret ⟨.inl rfl, _, (by (simp only [go_sem]) <;> rfl), ?_, rfl⟩
    simp only [go_sem]
    rw [h2, hd, orL, List.find?_cons_of_pos (by simpa using hx)]; rfl
  have hx : x = 0 := by simpa using hc
  refine EvC.skip ?_
  refine EvC.rg (by (simp only [go_sem]) <;> rfl) (by exact inI64_of (by omega) (by omega)) ?_
  exact ⟨[], i + 1, rfl, (by (simp only [go_sem, Int.natCast_add, Int.natCast_one]) <;> rfl), ⟨by omega, by rw [h2, hd, orL, List.find?_cons_of_neg (by simp [hx])]; rfl⟩, by omega⟩

def bothE (a b : Mach) : Int := if checkM a ≠ 0 then checkM a else checkM b
theorem orL_two (x y : Int) : orL [x, y] = if x ≠ 0 then x else y := by
  unfold orL
  by_cases hx : x = 0
  · rw [List.find?_cons_of_neg (by simp [hx]), if_neg (by simp [hx])]
    by_cases hy : y = 0
    · simp [hy]
    · rw [List.find?_cons_of_pos (by simpa using hy)]; rfl
  · rw [List.find?_cons_of_pos (by simpa using hx), if_pos hx]; rfl
theorem both_is (a b : Mach) (ha : ∀ r ∈ a.rows, r.2.length < 1000000) (hb : ∀ r ∈ b.rows, r.2.length < 1000000) : PureIs prog 36 [.ag a.cells, .ag b.cells] (.sc (.int .i64 (bothE a b))) := by
  refine PureIs.of (nv := 5) (hid := []) func36 rfl (by kernel_rfl) (by simp [ntmps36]) fun _ => ?_
  rw [ntmps36, results36]
  refine EvC.seq (EvC.rg (by (simp only [go_sem, Mach.cells]) <;> rfl) (by simp) ?_)
  apply EvC.seq  -- R1
  apply EvC.drw mixed
  · apply Tr.run
    · (simp only [go_sem]) <;> rfl
    · simp
    apply Tr.cons
    · exact .call rfl rfl (by (simp only [go_sem]) <;> rfl) (by (simp only [go_sem]) <;> rfl) (by (simp only [go_sem]) <;> rfl) (by (simp only [go_sem]) <;> rfl) (by (simp only [go_sem]) <;> rfl) (check_is a ha)
    apply Tr.run
    · (simp only [go_sem]) <;> rfl
    · simp
    apply Tr.cons
    · exact .call rfl rfl (by (simp only [go_sem]) <;> rfl) (by (simp only [go_sem]) <;> rfl) (by (simp only [go_sem]) <;> rfl) (by (simp only [go_sem]) <;> rfl) (by (simp only [go_sem]) <;> rfl) (check_is b hb)
    apply Tr.run
    · (simp only [go_sem]) <;> rfl
    · simp [AV.norefs, AV.noref]
    apply Tr.cons
    · exact .call rfl rfl (by (simp only [go_sem]) <;> rfl) (by (simp only [go_sem]) <;> rfl) (by (simp only [go_sem]) <;> rfl) (by (simp only [go_sem]) <;> rfl) (by (simp only [go_sem]) <;> rfl) (by simpa [intC] using or_is false [checkM a, checkM b] .full (by simp))
    apply Tr.done
    · (simp only [go_sem]) <;> rfl
    · simp
  · kernel_rfl
  refine EvC.ret ⟨.inl rfl, _, (by (simp only [go_sem]) <;> rfl), ?_, rfl⟩
  simp only [go_sem]
  rw [orL_two]; rfl

def errA (e : Int) : AV := .tu [.ag zeroM, .sc (.int .i64 e)]
def seriesA (a b : Mach) : AV := if bothE a b ≠ 0 then errA (bothE a b) else if a.outs ≠ b.ins then errA 5 else jointA a.ins b.outs a.ins.toNat (stOf a b 0)
theorem bothE_zero {a b : Mach} (h : bothE a b = 0) : Valid a ∧ Valid b := by
  unfold bothE at h
  by_cases e : checkM a = 0
  · rw [if_neg (by simpa using e)] at h; exact ⟨.of e, .of h⟩
  · rw [if_pos e] at h; exact absurd h e
theorem bothE_of {a b : Mach} (ha : checkM a = 0) (hb : checkM b = 0) : bothE a b = 0 := by unfold bothE; rw [if_neg (by simpa using ha)]; exact hb
theorem seriesA_noref (a b : Mach) : (seriesA a b).noref = true := by unfold seriesA; split; rfl; split; rfl; exact jointA_noref _ _ _ _
theorem series_is (a b : Mach) (ha : ∀ r ∈ a.rows, r.2.length < 1000000) (hb : ∀ r ∈ b.rows, r.2.length < 1000000) : PureIs prog 14 [.ag a.cells, .ag b.cells] (seriesA a b) := by
  refine PureIs.of (nv := 7) (hid := [11, 18]) func14 rfl (by kernel_rfl) (by simp [ntmps14]) fun _ => ?_
  rw [ntmps14, results14]
  refine EvC.seq (EvC.rg (by (simp only [go_sem, Mach.cells]) <;> rfl) (by simp) ?_)
  refine EvC.frzB 0 (by (simp only [go_sem]) <;> rfl) ?_
  refine EvC.frzB 1 (by (simp only [go_sem]) <;> rfl) ?_
  refine EvC.seq ?_
  apply EvC.seq
  apply EvC.tr
  · apply Tr.run
    · (simp only [go_sem, Mach.cells]) <;> rfl
    · simp
    apply Tr.cons
    · exact .call rfl rfl (by (simp only [go_sem]) <;> rfl) (by (simp only [go_sem]) <;> rfl) (by (simp only [go_sem]) <;> rfl) (by (simp only [go_sem]) <;> rfl) (by (simp only [go_sem]) <;> rfl) (both_is a b ha hb)
    apply Tr.done
    · (simp only [go_sem]) <;> rfl
    · simp
  refine EvC.seq (EvC.rg (by (simp only [go_sem]) <;> rfl) (by simp) ?_)
  refine EvC.cond (by (simp only [go_sem]) <;> rfl) (fun hc => ?_) (fun hc => ?_)
  · refine EvC.seq (EvC.rg (by (simp only [go_sem]) <;> rfl) (by simp) ?_)
    refine EvC.ret ⟨.inl rfl, _, (by (simp only [go_sem]) <;> rfl), ?_, seriesA_noref _ _⟩
    simp only [go_sem]
    rw [seriesA, if_pos (by simpa using hc)]; rfl
  have hbe : bothE a b = 0 := by simpa using hc
  obtain ⟨va, vb⟩ := bothE_zero hbe
  refine EvC.skip ?_
  refine EvC.seq ?_
  refine EvC.seq (EvC.rg (by (simp only [go_sem]) <;> rfl) (by simp) ?_)
  refine EvC.cond (by (simp only [go_sem]) <;> rfl) (fun hc => ?_) (fun hc => ?_)
  · refine EvC.seq (EvC.rg (by (simp only [go_sem]) <;> rfl) (by simp) ?_)
    refine EvC.ret ⟨.inl rfl, _, (by (simp only [go_sem]) <;> rfl), ?_, seriesA_noref _ _⟩
    simp only [go_sem]
    rw [seriesA, if_neg (by simpa using hbe), if_pos (by simpa using hc)]; rfl
  have hio : a.outs = b.ins := by simpa using hc
  have hf : Fit a b 0 := ⟨va, vb, .inl rfl, fun _ => hio, fun h => by cases h⟩
  have hai := va.ins
  have hN : ((a.ins.toNat : Nat) : Int) = a.ins := by omega
  have hS : StepFn 38 [.ia a.cells, .ia b.cells] (inPr a b) a.ins.toNat (stOf a b 0) := ⟨inPr_zero hf, rfl, fun p i hp hi => series1_is hf p hp i (by omega)⟩
  have hj := joint_is hS b.outs (by omega)
  rw [hN] at hj
  have hB : seriesA a b = jointA a.ins b.outs a.ins.toNat (stOf a b 0) := by rw [seriesA, if_neg (by simpa using hbe), if_neg (by simpa using hio)]
  refine EvC.skip ?_
  unfold jointA at hB hj
  by_cases h64 : (jq (stOf a b 0) a.ins.toNat 64).length ≤ 64
  · rw [if_pos h64] at hB hj
    apply EvC.seq
    apply EvC.tr
    · apply Tr.run
      · (simp only [go_sem, Mach.cells]) <;> rfl
      · simp
      apply Tr.cons
      · exact .call rfl rfl (by (simp only [go_sem]) <;> rfl) (by (simp only [go_sem]) <;> rfl) (by (simp only [go_sem]) <;> rfl) (by (simp only [go_sem]) <;> rfl) (by (simp only [go_sem]) <;> rfl) (hj)
      apply Tr.done
      · (simp only [go_sem, List.length_map]) <;> rfl
      · simp
    refine EvC.ret ⟨.inl rfl, _, (by (simp only [go_sem]) <;> rfl), ?_, seriesA_noref _ _⟩
    simp only [go_sem]
    rw [hB]
  · rw [if_neg h64] at hB hj
    apply EvC.seq
    apply EvC.tr
    · apply Tr.run
      · (simp only [go_sem, Mach.cells]) <;> rfl
      · simp
      apply Tr.cons
      · exact .call rfl rfl (by (simp only [go_sem]) <;> rfl) (by (simp only [go_sem]) <;> rfl) (by (simp only [go_sem]) <;> rfl) (by (simp only [go_sem]) <;> rfl) (by (simp only [go_sem]) <;> rfl) (hj)
      apply Tr.done
      · (simp only [go_sem, zeroM]) <;> rfl
      · simp
    refine EvC.ret ⟨.inl rfl, _, (by (simp only [go_sem]) <;> rfl), ?_, seriesA_noref _ _⟩
    simp only [go_sem]
    rw [hB]; rfl

def parallelA (a b : Mach) : AV := if bothE a b ≠ 0 then errA (bothE a b) else if a.ins ≠ b.ins then errA 5 else if 16 < a.outs * b.outs then errA 3 else jointA a.ins (a.outs * b.outs) a.ins.toNat (stOf a b 1)
theorem parallelA_noref (a b : Mach) : (parallelA a b).noref = true := by unfold parallelA; split; rfl; split; rfl; split; rfl; exact jointA_noref _ _ _ _
theorem parallel_is (a b : Mach) (ha : ∀ r ∈ a.rows, r.2.length < 1000000) (hb : ∀ r ∈ b.rows, r.2.length < 1000000) : PureIs prog 22 [.ag a.cells, .ag b.cells] (parallelA a b) := by
  refine PureIs.of (nv := 7) (hid := [11, 18, 25]) func22 rfl (by kernel_rfl) (by simp [ntmps22]) fun _ => ?_
  rw [ntmps22, results22]
  refine EvC.seq (EvC.rg (by (simp only [go_sem, Mach.cells]) <;> rfl) (by simp) ?_)
  refine EvC.frzB 0 (by (simp only [go_sem]) <;> rfl) ?_
  refine EvC.frzB 1 (by (simp only [go_sem]) <;> rfl) ?_
  refine EvC.seq ?_
  apply EvC.seq
  apply EvC.tr
  · apply Tr.run
    · (simp only [go_sem, Mach.cells]) <;> rfl
    · simp
    apply Tr.cons
    · exact .call rfl rfl (by (simp only [go_sem]) <;> rfl) (by (simp only [go_sem]) <;> rfl) (by (simp only [go_sem]) <;> rfl) (by (simp only [go_sem]) <;> rfl) (by (simp only [go_sem]) <;> rfl) (both_is a b ha hb)
    apply Tr.done
    · (simp only [go_sem]) <;> rfl
    · simp
  refine EvC.seq (EvC.rg (by (simp only [go_sem]) <;> rfl) (by simp) ?_)
  refine EvC.cond (by (simp only [go_sem]) <;> rfl) (fun hc => ?_) (fun hc => ?_)
  · refine EvC.seq (EvC.rg (by (simp only [go_sem]) <;> rfl) (by simp) ?_)
    refine EvC.ret ⟨.inl rfl, _, (by (simp only [go_sem]) <;> rfl), ?_, parallelA_noref _ _⟩
    simp only [go_sem]
    rw [parallelA, if_pos (by simpa using hc)]; rfl
  have hbe : bothE a b = 0 := by simpa using hc
  obtain ⟨va, vb⟩ := bothE_zero hbe
  refine EvC.skip ?_
  refine EvC.seq ?_
  refine EvC.seq (EvC.rg (by (simp only [go_sem]) <;> rfl) (by simp) ?_)
  refine EvC.cond (by (simp only [go_sem]) <;> rfl) (fun hc => ?_) (fun hc => ?_)
  · refine EvC.seq (EvC.rg (by (simp only [go_sem]) <;> rfl) (by simp) ?_)
    refine EvC.ret ⟨.inl rfl, _, (by (simp only [go_sem]) <;> rfl), ?_, parallelA_noref _ _⟩
    simp only [go_sem]
    rw [parallelA, if_neg (by simpa using hbe), if_pos (by simpa using hc)]; rfl
  have hio : a.ins = b.ins := by simpa using hc
  have hf : Fit a b 1 := ⟨va, vb, .inr rfl, fun h => absurd h (by decide), fun _ => hio⟩
  have hai := va.ins
  have hao := va.outs
  have hbo := vb.outs
  have hm1 : 0 ≤ a.outs * b.outs := Int.mul_nonneg (by omega) (by omega)
  have hm2 : a.outs * b.outs ≤ 16 * 16 := Int.mul_le_mul (by omega) (by omega) (by omega) (by omega)
  have hI : inI64 (a.outs * b.outs) = true := inI64_of (by omega) (by omega)
  refine EvC.skip ?_
  refine EvC.seq ?_
  refine EvC.seq (EvC.rg (by (simp only [go_sem]) <;> rfl) (by simp [hI]) ?_)
  refine EvC.cond (by (simp only [go_sem]) <;> rfl) (fun hc => ?_) (fun hc => ?_)
  · refine EvC.seq (EvC.rg (by (simp only [go_sem]) <;> rfl) (by simp) ?_)
    refine EvC.ret ⟨.inl rfl, _, (by (simp only [go_sem]) <;> rfl), ?_, parallelA_noref _ _⟩
    simp only [go_sem]
    rw [parallelA, if_neg (by simpa using hbe), if_neg (by simpa using hio), if_pos (by simpa using hc)]; rfl
  have h16 : ¬ 16 < a.outs * b.outs := by simpa using hc
  have hN : ((a.ins.toNat : Nat) : Int) = a.ins := by omega
  have hS : StepFn 43 [.ia a.cells, .ia b.cells] (inPr a b) a.ins.toNat (stOf a b 1) := ⟨inPr_zero hf, rfl, fun p i hp hi => parallel1_is hf p hp i (by omega)⟩
  have hj := joint_is hS (a.outs * b.outs) (by omega)
  rw [hN] at hj
  have hB : parallelA a b = jointA a.ins (a.outs * b.outs) a.ins.toNat (stOf a b 1) := by rw [parallelA, if_neg (by simpa using hbe), if_neg (by simpa using hio), if_neg h16]
  refine EvC.skip ?_
  unfold jointA at hB hj
  by_cases h64 : (jq (stOf a b 1) a.ins.toNat 64).length ≤ 64
  · rw [if_pos h64] at hB hj
    apply EvC.seq
    apply EvC.tr
    · apply Tr.run
      · (simp only [go_sem, Mach.cells]) <;> rfl
      · simp [hI]
      apply Tr.cons
      · exact .call rfl rfl (by (simp only [go_sem]) <;> rfl) (by (simp only [go_sem]) <;> rfl) (by (simp only [go_sem]) <;> rfl) (by (simp only [go_sem]) <;> rfl) (by (simp only [go_sem]) <;> rfl) (hj)
      apply Tr.done
      · (simp only [go_sem, List.length_map]) <;> rfl
      · simp
    refine EvC.ret ⟨.inl rfl, _, (by (simp only [go_sem]) <;> rfl), ?_, parallelA_noref _ _⟩
    simp only [go_sem]
    rw [hB]
  · rw [if_neg h64] at hB hj
    apply EvC.seq
    apply EvC.tr
    · apply Tr.run
      · (simp only [go_sem, Mach.cells]) <;> rfl
      · simp [hI]
      apply Tr.cons
      · exact .call rfl rfl (by (simp only [go_sem]) <;> rfl) (by (simp only [go_sem]) <;> rfl) (by (simp only [go_sem]) <;> rfl) (by (simp only [go_sem]) <;> rfl) (by (simp only [go_sem]) <;> rfl) (hj)
      apply Tr.done
      · (simp only [go_sem, zeroM]) <;> rfl
      · simp
    refine EvC.ret ⟨.inl rfl, _, (by (simp only [go_sem]) <;> rfl), ?_, parallelA_noref _ _⟩
    simp only [go_sem]
    rw [hB]; rfl
end Go.Avl
namespace Go.Avl
open Go Go.Proofs.Try
set_option maxRecDepth 10000
set_option linter.unusedSimpArgs false

/-! ### A machine made by telling where each edge goes -/
abbrev MapF := Nat → Nat → (Nat × Nat) × (Int × Int)
def mapT (F : MapF) (l : List (Nat × Nat)) : Nat → Nat → Int × Int := l.foldl (fun W p => upd2 W (F p.1 p.2).1.1 (F p.1 p.2).1.2 (F p.1 p.2).2) fun _ _ => (0, 0)
/-- Behind so many places. -/
def mapP (F : MapF) (N s i : Nat) : Nat → Nat → Int × Int := mapT F (prs s N ++ (List.range i).map fun k => (s, k))
theorem mapP_zero (F : MapF) (N : Nat) : mapP F N 0 0 = fun _ _ => (0, 0) := rfl
theorem mapP_step (F : MapF) (N s i : Nat) : mapP F N s (i + 1) = upd2 (mapP F N s i) (F s i).1.1 (F s i).1.2 (F s i).2 := by
  rw [mapP, List.range_succ, List.map_append, ← List.append_assoc, mapT, List.foldl_append]; rfl
theorem mapP_row (F : MapF) (N s : Nat) : mapP F N s N = mapP F N (s + 1) 0 := by
  rw [mapP, mapP, prs_succ]; simp
/-- The machine's rows. -/
def mapRows (F : MapF) (n N : Nat) : List Row := (List.range n).map fun s => (false, (List.range N).map (mapP F N n 0 s))
theorem hEn : ∀ x, AV.norefs (edgeC x) = true := fun _ => rfl
theorem gcells_edge (f : Nat → Int × Int) (N : Nat) : gcells edgeC f N = ((List.range N).map f).map edgeC := by rw [gcells, List.map_map]; rfl

set_option maxHeartbeats 4000000 in
theorem mapped_is {m : Mach} {n N : Nat} {fid : FuncId} {caps : List AV} {F : MapF} (hn : m.rows.length = n) (hn2 : 1 ≤ n ∧ n ≤ 64) (hN : m.ins = (N : Int)) (hN2 : 1 ≤ N ∧ N ≤ 16) (hr : ∀ r ∈ m.rows, r.2.length = N) (hnc : AV.norefs caps = true)
    (hF : ∀ (s i : Nat) (r : Row) (e : Int × Int), m.rows[s]? = some r → r.2[i]? = some e → (F s i).1.1 < n ∧ (F s i).1.2 < N ∧
      PureIs prog fid (.sc (.int .i64 (s : Int)) :: .sc (.int .i64 (i : Int)) :: edgeA e :: caps) (.tu [.sc (.int .i64 ((F s i).1.1 : Int)), .sc (.int .i64 ((F s i).1.2 : Int)), edgeA (F s i).2])) :
    PureIs prog 46 [.ag m.cells, .fn fid caps] (.ag [.sc (.int .i64 m.ins), .sc (.int .i64 m.outs), .sl false ((mapRows F n N).map rowG) .full]) := by
  have hnn : ((n : Nat) : Int).toNat = n := Int.toNat_natCast n
  have hNN : ((N : Nat) : Int).toNat = N := Int.toNat_natCast N
  have hn1 : n ≤ 1000000 := by omega
  have hds := fun M => deeps_snap hnc M
  have hdt := fun i ds => deeps_toIa hnc i ds
  refine PureIs.of (nv := 3) (hid := [4, 5, 6, 7, 8, 9, 10, 11, 12, 13, 25, 26, 27, 38, 39, 40, 41, 45, 46, 47, 48, 21, 34]) func46 rfl (by kernel_rfl) (by simp [ntmps46]) fun _ => ?_
  rw [ntmps46, results46]
  refine EvC.seq (EvC.rg (by (simp only [go_sem, Mach.cells]) <;> rfl) (by simp) ?_)
  refine EvC.frzB 0 (by (simp only [go_sem, hdt]) <;> rfl) ?_
  have hrep : List.replicate n [AV.sl true [] .zer] = mpart N n 0 := (mpart_zero N n).symm
  have hml0 : (mpart N n 0).length = n := mpart_len (Nat.zero_le _)
  apply EvC.seq
  apply EvC.drd mixed
  · (simp only [go_sem, List.length_map, hn, hnn, hrep, hml0]) <;> rfl
  · simp [room_eq, hml0]; omega
  · kernel_rfl
  refine EvC.seq ?_
  refine EvC.seq (EvC.rg (by (simp only [go_sem, hml0, List.length_take, Nat.min_self, List.drop_zero]) <;> rfl) (by simp) ?_)
  refine EvC.block ?_  -- 0
  have hEl := hn
  refine EvC.loopS (σ := Nat) (fun s => ⟨[(1, .fn fid caps), (2, .ia m.cells), (4, .rf 1000000 0), (5, .rf 1000001 0), (25, .sc (.int .i64 n)), (26, .sc (.int .i64 s))], [], (1000000, .cells [.sc (.int .i64 0), .sc (.int .i64 0), .sl true [] .zer]) :: (1000001, .cells [.sc (.int .i64 m.ins), .sc (.int .i64 m.outs), .tv 1000002 n 0 n (.val n)]) :: (1000002, .arr 1 (mpart N n s) false) :: gtab 2 edgeC (fun _ _ => (0, 0)) s N, 1000004⟩) (fun s => n - s) (fun s => s ≤ n) [1, 2, 4, 5, 25, 26] 1000004 ?_ ?_
  · exact ⟨[(1, 1000000), (11, 1000001), (9, 1000002)], 0, rfl, (by (simp only [go_sem, Mach.cells, hnc, gtab_zero, mpart_same (K := [(1, 1000000), (11, 1000001), (9, 1000002)]) (fun j (hj : j < 0) => absurd hj (Nat.not_lt_zero j)), ite_self, Int.natCast_zero]) <;> rfl), Nat.zero_le _⟩
  intro s hs
  have hmls : (mpart N n s).length = n := mpart_len hs
  refine EvC.seq (EvC.rg (by (simp only [go_sem]) <;> rfl) (by simp) ?_)
  refine EvC.seq ?_
  refine EvC.cond (by (simp only [go_sem]) <;> rfl) (fun hc => ?_) (fun hc => ?_)
  rotate_left
  · refine EvC.exit ?_  -- 0
    obtain rfl : n = s := by have : ¬ s < n := by simpa using hc
                             omega
    clear hc hmls hs
    rw [mpart_all]
    have hml := mcell_len N n
    refine EvC.seq ?_
    refine EvC.seq (EvC.rg (by (simp only [go_sem, Mach.cells, List.length_map, hn]) <;> rfl) (by simp) ?_)
    refine EvC.block ?_  -- 2
    have hlo : ∀ k, k < n → rlook (segK [(1000000, 1000000), (1000001, 1000001), (1000002, 1000002)] n []) k = some k := fun k hk => rlook_segK_lo hk hn1 (A := [(1000000, 1000000), (1000001, 1000001), (1000002, 1000002)]) rfl
    have hK : gcOk 0 1000004 (segK [(1000000, 1000000), (1000001, 1000001), (1000002, 1000002)] n []) = true := segK_ok (A := [(1000000, 1000000), (1000001, 1000001), (1000002, 1000002)]) rfl rfl rfl hn1 (by omega)
    refine EvC.loopS (σ := Nat) (fun s => ⟨[(1, .fn fid caps), (4, .rf 1000000 0), (5, .rf 1000001 0), (38, .sl m.nl (m.rows.map rowC) .unk), (39, .sc (.int .i64 n)), (40, .sc (.int .i64 s))], [], (1000000, .cells [.sc (.int .i64 0), .sc (.int .i64 0), .sl true [] .zer]) :: (1000001, .cells [.sc (.int .i64 m.ins), .sc (.int .i64 m.outs), .tv 1000002 n 0 n (.val n)]) :: (1000002, .arr 1 (mcell N n) false) :: gtab 2 edgeC (mapP F N s 0) n N, 1000004⟩) (fun s => n - s) (fun s => s ≤ n) [1, 4, 5, 38, 39, 40] 1000004 ?_ ?_
    · exact ⟨segK [(1000000, 1000000), (1000001, 1000001), (1000002, 1000002)] n [], 0, hK, (by rw [mapP_zero]; (simp only [go_sem, hnc, hEl, rlook_segK_hi hn1, List.cons_append, List.nil_append, List.append_nil, renMem_idK_cons hn1, renMem_idK_mset hn1, gtab_ren 2 hEn, mcell_ren hlo, ite_self, Int.natCast_add, Int.natCast_one, Int.natCast_zero]) <;> rfl), Nat.zero_le _⟩
    intro s hs
    refine EvC.seq (EvC.rg (by (simp only [go_sem]) <;> rfl) (by simp) ?_)
    refine EvC.seq ?_
    refine EvC.cond (by (simp only [go_sem]) <;> rfl) (fun hc => ?_) (fun hc => ?_)
    rotate_left
    · refine EvC.exit ?_  -- 2
      obtain rfl : n = s := by have : ¬ s < n := by simpa using hc
                               omega
      clear hc hs
      have hfzC : ∀ i, i < n → ∃ esz es fz, mlook ((1000000, .cells [.sc (.int .i64 0), .sc (.int .i64 0), .sl true [] .zer]) :: (1000001, .cells [.sc (.int .i64 m.ins), .sc (.int .i64 m.outs), .tv 1000002 n 0 n (.val n)]) :: (1000002, .arr 1 (mcell N n) false) :: gtab 2 edgeC (mapP F N n 0) n N) i = some (.arr esz es fz) ∧ es.all AV.norefs = true := fun i hi => by
        have hi6 : i < 1000000 := by omega
        refine ⟨2, gcells edgeC (mapP F N n 0 i) N, false, ?_, gcells_norefs hEn _ _⟩
        simp only [mlook, lo_ne hi6 1000000 (Nat.le_refl _), lo_ne hi6 1000001 (by decide), lo_ne hi6 1000002 (by decide), if_false, gtab_look _ _ _ hi]
      have hsnap : (mcell N n).map (fun c => c.map (AV.deep (snap ((1000000, .cells [.sc (.int .i64 0), .sc (.int .i64 0), .sl true [] .zer]) :: (1000001, .cells [.sc (.int .i64 m.ins), .sc (.int .i64 m.outs), .tv 1000002 n 0 n (.val n)]) :: (1000002, .arr 1 (mcell N n) false) :: gtabF 2 edgeC (mapP F N n 0) n N)))) = (mapRows F n N).map rowG := by
        rw [mcell_snap (e := 2) (row := fun s => gcells edgeC (mapP F N n 0 s) N)]
        · rw [mapRows, List.map_map]
          refine List.map_congr_left fun s _ => ?_
          rw [gcells_edge]; rfl
        · intro i hi
          have hi6 : i < 1000000 := by omega
          simp only [mlook, lo_ne hi6 1000000 (Nat.le_refl _), lo_ne hi6 1000001 (by decide), lo_ne hi6 1000002 (by decide), if_false, gtabF_look _ _ _ hi]
        · intro i _; exact gcells_len _ _ _
      have hmr : ((mapRows F n N).map rowG).length = n := by simp [mapRows]
      refine EvC.fzAll n hfzC ?_
      refine EvC.snapA 1000002 (by (simp only [go_sem, fzAll_cons hn1, gtab_fz, hsnap]) <;> rfl) ?_
      refine EvC.frzD 1000002 (by (simp only [go_sem, hds, hmr]) <;> rfl) ?_
      refine EvC.seq (EvC.rg (by (simp only [go_sem]) <;> rfl) (by simp) ?_)
      refine EvC.ret ⟨.inl rfl, _, (by (simp only [go_sem]) <;> rfl), ?_, rfl⟩
      simp only [go_sem]
    have hsl : s < n := by simpa using hc
    clear hc
    have hs6 : s < 1000000 := by omega
    have he : m.rows[s]? = some (m.rows[s]'(by omega)) := List.getElem?_eq_getElem (by omega)
    have hrN : (m.rows[s]'(by omega)).2.length = N := hr _ (List.getElem_mem _)
    generalize m.rows[s]'(by omega) = r at he hrN
    refine EvC.skip ?_
    refine EvC.seq ?_
    refine EvC.block ?_  -- 3
    refine EvC.seq (EvC.rg (by (simp only [go_sem, he, rowC]) <;> rfl) (by simp) ?_)
    refine EvC.seq (EvC.rg (by (simp only [go_sem, List.length_map, hrN]) <;> rfl) (by simp) ?_)
    refine EvC.block ?_  -- 4
    refine EvC.loopS (σ := Nat) (fun i => ⟨[(1, .fn fid caps), (4, .rf 1000000 0), (5, .rf 1000001 0), (7, .sc (.int .i64 s)), (38, .sl m.nl (m.rows.map rowC) .unk), (39, .sc (.int .i64 n)), (40, .sc (.int .i64 s)), (45, .sl r.1 (r.2.map edgeC) .unk), (46, .sc (.int .i64 N)), (47, .sc (.int .i64 i))], [], (1000000, .cells [.sc (.int .i64 0), .sc (.int .i64 0), .sl true [] .zer]) :: (1000001, .cells [.sc (.int .i64 m.ins), .sc (.int .i64 m.outs), .tv 1000002 n 0 n (.val n)]) :: (1000002, .arr 1 (mcell N n) false) :: gtab 2 edgeC (mapP F N s i) n N, 1000004⟩) (fun i => N - i) (fun i => i ≤ N) [1, 4, 5, 7, 38, 39, 40, 45, 46, 47] 1000004 ?_ ?_
    · exact ⟨segK [(1000000, 1000000), (1000001, 1000001), (1000002, 1000002)] n [], 0, hK, (by (simp only [go_sem, hnc, hEl, rlook_segK_hi hn1, List.cons_append, List.nil_append, List.append_nil, renMem_idK_cons hn1, renMem_idK_mset hn1, gtab_ren 2 hEn, mcell_ren hlo, ite_self, Int.natCast_add, Int.natCast_one, Int.natCast_zero]) <;> rfl), Nat.zero_le _⟩
    intro i hi
    refine EvC.seq (EvC.rg (by (simp only [go_sem]) <;> rfl) (by simp) ?_)
    refine EvC.seq ?_
    refine EvC.cond (by (simp only [go_sem]) <;> rfl) (fun hc => ?_) (fun hc => ?_)
    rotate_left
    · refine EvC.exit ?_  -- 4
      obtain rfl : N = i := by have : ¬ i < N := by simpa using hc
                               omega
      refine EvC.rg (by (simp only [go_sem]) <;> rfl) (by exact inI64_of (by omega) (by omega)) ?_
      exact ⟨segK [(1000000, 1000000), (1000001, 1000001), (1000002, 1000002)] n [], s + 1, hK, (by rw [← mapP_row]; (simp only [go_sem, hnc, hEl, rlook_segK_hi hn1, List.cons_append, List.nil_append, List.append_nil, renMem_idK_cons hn1, renMem_idK_mset hn1, gtab_ren 2 hEn, mcell_ren hlo, ite_self, Int.natCast_add, Int.natCast_one, Int.natCast_zero]) <;> rfl), hsl, by omega⟩
    have hil : i < N := by simpa using hc
    clear hc
    have hre : r.2[i]? = some (r.2[i]'(by omega)) := List.getElem?_eq_getElem (by omega)
    generalize r.2[i]'(by omega) = e at hre
    obtain ⟨ht, hk, hcall⟩ := hF s i r e he hre
    have hst := mapP_step F N s i
    obtain ⟨t, k, y, hq⟩ : ∃ t k y, F s i = ((t, k), y) := ⟨_, _, _, rfl⟩
    rw [hq] at ht hk hcall hst
    simp only at ht hk hcall hst
    have ht6 : t < 1000000 := by omega
    have hlt := gtab_look 2 edgeC (mapP F N s i) (m := N) ht
    refine EvC.skip ?_
    refine EvC.seq ?_
    refine EvC.block ?_  -- 5
    have hset : ∀ (k0 : Nat) (o : RObj), 1000000 ≤ k0 → mset (mset (gtab 2 edgeC (mapP F N s i) n N) k0 o) t (.arr 2 ((gcells edgeC (mapP F N s i t) N).set k [.sc (.int .i64 y.1), .sc (.int .i64 y.2)]) false) = mset (gtab 2 edgeC (upd2 (mapP F N s i) t k y) n N) k0 o := fun k0 o h0 => gtab_set_hi 2 edgeC _ y ht hk hn1 h0 o
    refine EvC.seq (EvC.rg (by (simp only [go_sem, hre, edgeC]) <;> rfl) (by simp) ?_)
    unfold edgeA at hcall
    apply EvC.seq
    apply EvC.tr
    · apply Tr.run
      · (simp only [go_sem, hnc]) <;> rfl
      · simp
      apply Tr.cons
      · exact .call rfl rfl (by (simp only [go_sem]) <;> rfl) (by (simp only [go_sem]) <;> rfl) (by (simp only [go_sem]) <;> rfl) (by (simp only [go_sem, hnc]) <;> rfl) (by (simp only [go_sem]) <;> rfl) (hcall)
      apply Tr.done
      · (simp only [go_sem, mlook_mset, mset_mset_same]) <;> rfl
      · simp
    apply EvC.drd mixed  -- R14
    · (simp only [go_sem, hml, mcell_get ht, lo_ne ht6, hlt, gcells_len, gcells_get edgeC (mapP F N s i t) hk, mlook_mset, Int.toNat_natCast, edgeC, hset]) <;> rfl
    · simp; try omega
    · exact confAll_slots (by simp [rdOk, slotsOf, opSlots, memless, Op.operands]) (by kernel_rfl)
    refine EvC.rg (by (simp only [go_sem]) <;> rfl) (by exact inI64_of (by omega) (by omega)) ?_
    exact ⟨segK [(1000000, 1000000), (1000001, 1000001), (1000002, 1000002)] n [], i + 1, hK, (by rw [hst]; (simp only [go_sem, hnc, hEl, rlook_segK_hi hn1, List.cons_append, List.nil_append, List.append_nil, renMem_idK_cons hn1, renMem_idK_mset hn1, gtab_ren 2 hEn, mcell_ren hlo, ite_self, Int.natCast_add, Int.natCast_one, Int.natCast_zero]) <;> rfl), hil, by omega⟩
  have hsl : s < n := by simpa using hc
  clear hc
  have hgs : (mpart N n s)[s]? = some [.sl true [] .zer] := mpart_get hsl
  have hrepN : List.replicate N [AV.sc (Value.int .i64 0), AV.sc (Value.int .i64 0)] = gcells edgeC (fun _ => (0, 0)) N := gcells_const edgeC (0, 0) N
  have hs1 : s ≤ 1000000 := by omega
  refine EvC.skip ?_
  refine EvC.seq ?_
  refine EvC.block ?_  -- 1
  refine EvC.seq (EvC.rg (by (simp only [go_sem]) <;> rfl) (by simp) ?_)
  apply EvC.drd mixed
  · (simp only [go_sem, Mach.cells, hN, hNN, hrepN, hmls, hgs, gcells_len, mlook_mset, mset_mset_same]) <;> rfl
  · simp [room_eq, hmls]; omega
  · kernel_rfl
  refine EvC.rg (by (simp only [go_sem]) <;> rfl) (by exact inI64_of (by omega) (by omega)) ?_
  refine ⟨segK [(1000000, 1000000), (1000001, 1000001), (1000002, 1000002)] s [(1000012, s)], s + 1, segK_ok1 (A := [(1000000, 1000000), (1000001, 1000001), (1000002, 1000002)]) rfl rfl rfl (by omega) (by omega), ?_, by omega, by omega⟩
  have hlo : ∀ k, k < s → rlook (segK [(1000000, 1000000), (1000001, 1000001), (1000002, 1000002)] s [(1000012, s)]) k = some k := fun k hk => rlook_segK_lo hk hs1 (A := [(1000000, 1000000), (1000001, 1000001), (1000002, 1000002)]) rfl
  have hnew : rlook (segK [(1000000, 1000000), (1000001, 1000001), (1000002, 1000002)] s [(1000012, s)]) 1000012 = some s := by rw [rlook_segK_hi hs1 _ _ _ (by decide)]; rfl
  have hmr := mpart_ren (m := N) hsl hnew hlo
  have hmn := mpart_norefs (m := N) (k := 1000012) hsl
  (simp only [go_sem, Mach.cells, hN, hnc, hEl, hmr, hmn, rlook_segK_hi hs1, List.cons_append, List.nil_append, List.append_nil, renMem_idK_cons hs1, renMem_idK_mset hs1, gtab_ren 2 hEn, gcells_norefs hEn, gtab_snoc1, mlook_mset, ite_self, Int.natCast_add, Int.natCast_one, Int.natCast_zero]) <;> rfl
end Go.Avl
namespace Go.Avl
open Go Go.Proofs.Try
set_option maxRecDepth 10000
set_option linter.unusedSimpArgs false

/-! ### What a table becomes, whose targets are different ones -/
theorem mapT_keep (F : MapF) {a b : Nat} : ∀ (l : List (Nat × Nat)) (W : Nat → Nat → Int × Int), (∀ q ∈ l, (F q.1 q.2).1 ≠ (a, b)) → l.foldl (fun W p => upd2 W (F p.1 p.2).1.1 (F p.1 p.2).1.2 (F p.1 p.2).2) W a b = W a b
  | [], _, _ => rfl
  | q :: l, W, h => by
    rw [List.foldl_cons, mapT_keep F l _ fun r hr => h r (List.mem_cons_of_mem _ hr)]
    have := h q List.mem_cons_self
    unfold upd2
    rw [if_neg]
    rintro ⟨h1, h2⟩
    exact this (by rw [h1, h2])
theorem mapT_get' (F : MapF) {p : Nat × Nat} : ∀ (l : List (Nat × Nat)) (W : Nat → Nat → Int × Int), (∀ q ∈ l, (F p.1 p.2).1 = (F q.1 q.2).1 → q = p) → p ∈ l → l.foldl (fun W p => upd2 W (F p.1 p.2).1.1 (F p.1 p.2).1.2 (F p.1 p.2).2) W (F p.1 p.2).1.1 (F p.1 p.2).1.2 = (F p.1 p.2).2
  | [], _, _, h => by cases h
  | q :: l, W, hi, h => by
    rw [List.foldl_cons]
    by_cases hp : p ∈ l
    · exact mapT_get' F l _ (fun r hr => hi r (List.mem_cons_of_mem _ hr)) hp
    · have hq : q = p := by
        rcases List.mem_cons.1 h with h | h
        · exact h.symm
        · exact absurd h hp
      subst hq
      rw [mapT_keep F l _ fun r hr e => hp (by rw [← hi r (List.mem_cons_of_mem _ hr) e.symm]; exact hr)]
      unfold upd2
      rw [if_pos ⟨rfl, rfl⟩]
theorem mapP_get {F : MapF} {n N s i : Nat} (hs : s < n) (hi : i < N) (hinj : ∀ s' i', s' < n → i' < N → (F s i).1 = (F s' i').1 → s' = s ∧ i' = i) : mapP F N n 0 (F s i).1.1 (F s i).1.2 = (F s i).2 := by
  have e : prs n N ++ (List.range 0).map (fun k => (n, k)) = prs n N := by simp
  rw [mapP, e]
  refine mapT_get' F (p := (s, i)) (prs n N) _ (fun q hq h => ?_) (mem_prs.2 ⟨hs, hi⟩)
  obtain ⟨h1, h2⟩ := mem_prs.1 hq
  obtain ⟨e1, e2⟩ := hinj q.1 q.2 h1 h2 h
  exact Prod.ext e1 e2
theorem mapRows_id {F : MapF} {n N : Nat} (g : Nat → Nat → Int × Int) (hF : ∀ s i, F s i = ((s, i), g s i)) : mapRows F n N = (List.range n).map fun s => (false, (List.range N).map (g s)) := by
  refine List.map_congr_left fun s hs => ?_
  congr 1
  refine List.map_congr_left fun i hi => ?_
  have := mapP_get (F := F) (List.mem_range.1 hs) (List.mem_range.1 hi) fun s' i' _ _ h => by rw [hF, hF] at h; simp only [Prod.mk.injEq] at h; exact ⟨h.1.symm, h.2.symm⟩
  rw [hF] at this
  exact this

/-- The edge at a place. -/
def eAt (m : Mach) (s i : Nat) : Int × Int := (((m.rows[s]?).map (·.2)).getD [])[i]?.getD (-1, -1)
theorem eAt_get {m : Mach} {s i : Nat} {r : Row} {e : Int × Int} (h1 : m.rows[s]? = some r) (h2 : r.2[i]? = some e) : eAt m s i = e := by simp [eAt, h1, h2]
theorem eAt_stepR (m : Mach) (s i : Nat) : eAt m s i = stepR m (s : Int) (i : Int) := by
  unfold eAt stepR
  rw [if_neg (by omega)]; simp
def isNone (e : Int × Int) : Bool := decide (e.1 = -1) && decide (e.2 = -1)

theorem filled1a_is {tf : FuncId} (s i out to : Int) (e : Int × Int) (hto : PureIs prog tf (.sc (.int .i64 s) :: []) (.sc (.int .i64 to))) :
    PureIs prog 70 [.sc (.int .i64 s), .sc (.int .i64 i), edgeA e, .ia [.fn tf []], .ia [.sc (.int .i64 out)]] (.tu [.sc (.int .i64 s), .sc (.int .i64 i), edgeA (if isNone e = true then (to, out) else e)]) := by
  refine PureIs.of (nv := 5) (hid := [7, 8, 9, 10, 13]) func70 rfl (by kernel_rfl) (by simp [ntmps70]) fun _ => ?_
  rw [ntmps70, results70]
  refine EvC.seq (EvC.rg (by (simp only [go_sem, edgeA]) <;> rfl) (by simp) ?_)
  refine EvC.seq ?_
  apply EvC.seq
  apply EvC.drw mixed
  · apply Tr.run
    · (simp only [go_sem]) <;> rfl
    · simp
    apply Tr.cons
    · exact .call rfl rfl (by (simp only [go_sem]) <;> rfl) (by (simp only [go_sem]) <;> rfl) (by (simp only [go_sem]) <;> rfl) (by (simp only [go_sem]) <;> rfl) (by (simp only [go_sem]) <;> rfl) (none11_is)
    apply Tr.done
    · (simp only [go_sem]) <;> rfl
    · simp [descAgg, matchKinds, matchKind]
  · kernel_rfl
  refine EvC.cond (by (simp only [go_sem]) <;> rfl) (fun hc => ?_) (fun hc => ?_)
  · have hn : isNone e = true := by unfold isNone; simpa using hc
    apply EvC.drw mixed
    · apply Tr.run
      · (simp only [go_sem]) <;> rfl
      · simp
      apply Tr.cons
      · exact .call rfl rfl (by (simp only [go_sem]) <;> rfl) (by (simp only [go_sem]) <;> rfl) (by (simp only [go_sem]) <;> rfl) (by (simp only [go_sem]) <;> rfl) (by (simp only [go_sem]) <;> rfl) (hto)
      apply Tr.done
      · (simp only [go_sem]) <;> rfl
      · simp
    · kernel_rfl
    apply EvC.seq
    apply EvC.drd mixed
    · (simp only [go_sem]) <;> rfl
    · simp
    · kernel_rfl
    refine EvC.ret ⟨.inl rfl, _, (by (simp only [go_sem]) <;> rfl), ?_, by simp [edgeA, AV.noref, AV.norefs]⟩
    simp only [go_sem]
    rw [if_pos hn]; rfl
  have hn : ¬ isNone e = true := by
    unfold isNone
    by_cases h1 : e.1 = -1 <;> by_cases h2 : e.2 = -1 <;> simp [h1, h2] at hc ⊢
  refine EvC.skip ?_
  apply EvC.seq
  apply EvC.drd mixed
  · (simp only [go_sem]) <;> rfl
  · simp
  · kernel_rfl
  refine EvC.ret ⟨.inl rfl, _, (by (simp only [go_sem]) <;> rfl), ?_, by simp [edgeA, AV.noref, AV.norefs]⟩
  simp only [go_sem]
  rw [if_neg hn]; rfl

theorem filled1b_is {tf : FuncId} {n : Int} (s i out to : Int) (e : Int × Int) (hto : PureIs prog tf (.sc (.int .i64 s) :: [.ia [.sc (.int .i64 n)]]) (.sc (.int .i64 to))) :
    PureIs prog 70 [.sc (.int .i64 s), .sc (.int .i64 i), edgeA e, .ia [.fn tf [.ia [.sc (.int .i64 n)]]], .ia [.sc (.int .i64 out)]] (.tu [.sc (.int .i64 s), .sc (.int .i64 i), edgeA (if isNone e = true then (to, out) else e)]) := by
  refine PureIs.of (nv := 5) (hid := [7, 8, 9, 10, 13]) func70 rfl (by kernel_rfl) (by simp [ntmps70]) fun _ => ?_
  rw [ntmps70, results70]
  refine EvC.seq (EvC.rg (by (simp only [go_sem, edgeA]) <;> rfl) (by simp) ?_)
  refine EvC.seq ?_
  apply EvC.seq
  apply EvC.drw mixed
  · apply Tr.run
    · (simp only [go_sem]) <;> rfl
    · simp
    apply Tr.cons
    · exact .call rfl rfl (by (simp only [go_sem]) <;> rfl) (by (simp only [go_sem]) <;> rfl) (by (simp only [go_sem]) <;> rfl) (by (simp only [go_sem]) <;> rfl) (by (simp only [go_sem]) <;> rfl) (none11_is)
    apply Tr.done
    · (simp only [go_sem]) <;> rfl
    · simp [descAgg, matchKinds, matchKind]
  · kernel_rfl
  refine EvC.cond (by (simp only [go_sem]) <;> rfl) (fun hc => ?_) (fun hc => ?_)
  · have hn : isNone e = true := by unfold isNone; simpa using hc
    apply EvC.drw mixed
    · apply Tr.run
      · (simp only [go_sem]) <;> rfl
      · simp
      apply Tr.cons
      · exact .call rfl rfl (by (simp only [go_sem]) <;> rfl) (by (simp only [go_sem]) <;> rfl) (by (simp only [go_sem]) <;> rfl) (by (simp only [go_sem]) <;> rfl) (by (simp only [go_sem]) <;> rfl) (hto)
      apply Tr.done
      · (simp only [go_sem]) <;> rfl
      · simp
    · kernel_rfl
    apply EvC.seq
    apply EvC.drd mixed
    · (simp only [go_sem]) <;> rfl
    · simp
    · kernel_rfl
    refine EvC.ret ⟨.inl rfl, _, (by (simp only [go_sem]) <;> rfl), ?_, by simp [edgeA, AV.noref, AV.norefs]⟩
    simp only [go_sem]
    rw [if_pos hn]; rfl
  have hn : ¬ isNone e = true := by
    unfold isNone
    by_cases h1 : e.1 = -1 <;> by_cases h2 : e.2 = -1 <;> simp [h1, h2] at hc ⊢
  refine EvC.skip ?_
  apply EvC.seq
  apply EvC.drd mixed
  · (simp only [go_sem]) <;> rfl
  · simp
  · kernel_rfl
  refine EvC.ret ⟨.inl rfl, _, (by (simp only [go_sem]) <;> rfl), ?_, by simp [edgeA, AV.noref, AV.norefs]⟩
  simp only [go_sem]
  rw [if_neg hn]; rfl

theorem filled1_is {tf : FuncId} {tc : List AV} (htc : tc = [] ∨ ∃ n : Int, tc = [.ia [.sc (.int .i64 n)]]) (s i out to : Int) (e : Int × Int) (hto : PureIs prog tf (.sc (.int .i64 s) :: tc) (.sc (.int .i64 to))) :
    PureIs prog 70 [.sc (.int .i64 s), .sc (.int .i64 i), edgeA e, .ia [.fn tf tc], .ia [.sc (.int .i64 out)]] (.tu [.sc (.int .i64 s), .sc (.int .i64 i), edgeA (if isNone e = true then (to, out) else e)]) := by
  rcases htc with rfl | ⟨n, rfl⟩
  · exact filled1a_is s i out to e hto
  · exact filled1b_is s i out to e hto

/-- A machine whose undefined edges are filled. -/
def fillR (m : Mach) (n N : Nat) (to : Nat → Int) (out : Int) : List Row := (List.range n).map fun s => (false, (List.range N).map fun i => if isNone (eAt m s i) = true then (to s, out) else eAt m s i)
theorem filled_is {m : Mach} (hv : Valid m) {N : Nat} (hN : m.ins = (N : Int)) {tf : FuncId} {tc : List AV} (htd : tc = [] ∨ ∃ n : Int, tc = [.ia [.sc (.int .i64 n)]]) (out : Int) (to : Nat → Int) (hto : ∀ s : Nat, s < m.rows.length → PureIs prog tf (.sc (.int .i64 (s : Int)) :: tc) (.sc (.int .i64 (to s)))) :
    PureIs prog 61 [.ag m.cells, .sc (.int .i64 out), .fn tf tc] (.ag [.sc (.int .i64 m.ins), .sc (.int .i64 m.outs), .sl false ((fillR m m.rows.length N to out).map rowG) .full]) := by
  have htc : AV.norefs tc = true := by rcases htd with rfl | ⟨n, rfl⟩ <;> rfl
  have hi := hv.ins
  obtain ⟨F, hF⟩ : ∃ F : MapF, ∀ s i, F s i = ((s, i), if isNone (eAt m s i) = true then (to s, out) else eAt m s i) := ⟨_, fun _ _ => rfl⟩
  have hmap := mapped_is (m := m) (n := m.rows.length) (N := N) (fid := 70) (caps := [.ia [.fn tf tc], .ia [.sc (.int .i64 out)]]) (F := F) rfl (by have := hv.rows; omega) hN (by omega) (fun r hr => by have := (hv.row r hr).1; omega) rfl
    (fun s i r e h1 h2 => by
      have hs : s < m.rows.length := (List.getElem?_eq_some_iff.1 h1).1
      have hr := (hv.row r (List.mem_of_getElem? h1)).1
      have hil : i < r.2.length := (List.getElem?_eq_some_iff.1 h2).1
      have := filled1_is htd (s : Int) (i : Int) out (to s) e (hto s hs)
      rw [hF, eAt_get h1 h2]
      exact ⟨hs, by simp only; omega, this⟩)
  rw [mapRows_id _ hF] at hmap
  have hds := fun M => deeps_snap htc M
  refine PureIs.of (nv := 7) (hid := []) func61 rfl (by kernel_rfl) (by simp [ntmps61]) fun _ => ?_
  rw [ntmps61, results61]
  refine EvC.seq (EvC.rg (by (simp only [go_sem, Mach.cells]) <;> rfl) (by simp [htc]) ?_)
  refine EvC.frzB 0 (by (simp only [go_sem, deeps_toIa htc]) <;> rfl) ?_
  refine EvC.frzB 1 (by (simp only [go_sem, deeps_toIa htc]) <;> rfl) ?_
  refine EvC.frzB 2 (by (simp only [go_sem, deeps_toIa htc, htc]) <;> rfl) ?_
  apply EvC.seq
  apply EvC.tr
  · apply Tr.run
    · (simp only [go_sem, Mach.cells]) <;> rfl
    · simp
    apply Tr.cons
    · exact .call rfl rfl (by (simp only [go_sem]) <;> rfl) (by (simp only [go_sem]) <;> rfl) (by (simp only [go_sem]) <;> rfl) (by (simp only [go_sem]) <;> rfl) (by (simp only [go_sem]) <;> rfl) (hmap)
    apply Tr.done
    · (simp only [go_sem]) <;> rfl
    · simp
  refine EvC.ret ⟨.inl rfl, _, (by (simp only [go_sem]) <;> rfl), ?_, rfl⟩
  simp only [go_sem]
  rfl
theorem loops1_is (s : Int) : PureIs prog 62 [.sc (.int .i64 s)] (.sc (.int .i64 s)) := by
  refine PureIs.of (nv := 1) (hid := [2]) func62 rfl (by kernel_rfl) (by simp [ntmps62]) fun _ => ?_
  rw [ntmps62, results62]
  refine EvC.seq (EvC.rg (by (simp only [go_sem]) <;> rfl) (by simp) ?_)
  refine EvC.seq (EvC.rg (by (simp only [go_sem]) <;> rfl) (by simp) ?_)
  refine EvC.ret ⟨.inl rfl, _, (by (simp only [go_sem]) <;> rfl), ?_, rfl⟩
  simp only [go_sem]
theorem sinks1_is (s n : Int) : PureIs prog 64 [.sc (.int .i64 s), .ia [.sc (.int .i64 n)]] (.sc (.int .i64 n)) := by
  refine PureIs.of (nv := 2) (hid := [3]) func64 rfl (by kernel_rfl) (by simp [ntmps64]) fun _ => ?_
  rw [ntmps64, results64]
  refine EvC.seq (EvC.rg (by (simp only [go_sem]) <;> rfl) (by simp) ?_)
  refine EvC.seq (EvC.rg (by (simp only [go_sem]) <;> rfl) (by simp) ?_)
  refine EvC.ret ⟨.inl rfl, _, (by (simp only [go_sem]) <;> rfl), ?_, rfl⟩
  simp only [go_sem]
theorem loops_is {m : Mach} (hv : Valid m) {N : Nat} (hN : m.ins = (N : Int)) (out : Int) :
    PureIs prog 48 [.ag m.cells, .sc (.int .i64 out)] (.tu [.ag [.sc (.int .i64 m.ins), .sc (.int .i64 m.outs), .sl false ((fillR m m.rows.length N (fun s => s) out).map rowG) .full], .sc (.int .i64 0)]) := by
  refine PureIs.of (nv := 3) (hid := [4, 5]) func48 rfl (by kernel_rfl) (by simp [ntmps48]) fun _ => ?_
  rw [ntmps48, results48]
  refine EvC.seq (EvC.rg (by (simp only [go_sem, Mach.cells]) <;> rfl) (by simp) ?_)
  apply EvC.seq
  apply EvC.tr
  · apply Tr.run
    · (simp only [go_sem, Mach.cells]) <;> rfl
    · simp
    apply Tr.cons
    · exact .call rfl rfl (by (simp only [go_sem]) <;> rfl) (by (simp only [go_sem]) <;> rfl) (by (simp only [go_sem]) <;> rfl) (by (simp only [go_sem]) <;> rfl) (by (simp only [go_sem]) <;> rfl) (filled_is hv hN (tc := []) (.inl rfl) out (fun s => s) (fun s _ => loops1_is s))
    apply Tr.done
    · (simp only [go_sem]) <;> rfl
    · simp
  refine EvC.ret ⟨.inl rfl, _, (by (simp only [go_sem]) <;> rfl), ?_, rfl⟩
  simp only [go_sem]
end Go.Avl
namespace Go.Avl
open Go Go.Proofs.Try
set_option maxRecDepth 10000
set_option linter.unusedSimpArgs false

theorem wrapU {x : Int} (h0 : 0 ≤ x) (h : x < 18446744073709551616) : IntKind.u64.wrap x = x := by
  have e : (2 : Int) ^ IntKind.u64.bits = 18446744073709551616 := by decide
  have e2 : IntKind.u64.signed = false := rfl
  simp only [IntKind.wrap, e, e2, Bool.false_and, Bool.false_eq_true, if_false]
  exact Int.emod_eq_of_lt h0 h
theorem lowU {n : Nat} (h : n < 17) : bitsOf .and .u64 (n : Int) 4294967295 = (n : Int) := by
  have : ∀ k : Fin 17, bitsOf .and .u64 ((k.val : Nat) : Int) 4294967295 = ((k.val : Nat) : Int) := by decide +kernel
  exact this ⟨n, h⟩
theorem highU {n : Nat} (h : n < 17) : shiftOf .shr .u64 (n : Int) 32 = 0 := by
  have : ∀ k : Fin 17, shiftOf .shr .u64 ((k.val : Nat) : Int) 32 = 0 := by decide +kernel
  exact this ⟨n, h⟩
theorem mul64_is {n : Nat} (h : n < 17) : PureIs prog 76 [.sc (.int .u64 1), .sc (.int .u64 (n : Int))] (.tu [.sc (.int .u64 0), .sc (.int .u64 (n : Int))]) := by
  have a1 : bitsOf .and .u64 1 4294967295 = 1 := lowU (n := 1) (by omega)
  have a0 : bitsOf .and .u64 0 4294967295 = 0 := lowU (n := 0) (by omega)
  have s1 : shiftOf .shr .u64 1 32 = 0 := highU (n := 1) (by omega)
  have s0 : shiftOf .shr .u64 0 32 = 0 := highU (n := 0) (by omega)
  have an := lowU h
  have sn := highU h
  have w0 : IntKind.u64.wrap 0 = 0 := wrapU (by omega) (by omega)
  have w1 : IntKind.u64.wrap 1 = 1 := wrapU (by omega) (by omega)
  have wn : IntKind.u64.wrap (n : Int) = n := wrapU (by omega) (by omega)
  refine PureIs.of (nv := 2) (hid := [4, 5, 6, 7, 8, 9, 10, 11, 12, 13]) func76 rfl (by kernel_rfl) (by simp [ntmps76]) fun _ => ?_
  rw [ntmps76, results76]
  refine EvC.seq (EvC.rg (by (simp only [go_sem]) <;> rfl) (by simp) ?_)
  refine EvC.seq (EvC.rg (by (simp only [go_sem, a1]) <;> rfl) (by simp) ?_)
  refine EvC.seq (EvC.rg (by (simp only [go_sem, s1]) <;> rfl) (by simp) ?_)
  refine EvC.seq (EvC.rg (by (simp only [go_sem, an]) <;> rfl) (by simp) ?_)
  refine EvC.seq (EvC.rg (by (simp only [go_sem, sn]) <;> rfl) (by simp) ?_)
  refine EvC.seq (EvC.rg (by (simp only [go_sem, Int.one_mul, wn]) <;> rfl) (by simp) ?_)
  refine EvC.seq (EvC.rg (by (simp only [go_sem, Int.zero_mul, w0, sn, Int.add_zero]) <;> rfl) (by simp) ?_)
  refine EvC.seq (EvC.rg (by (simp only [go_sem, a0]) <;> rfl) (by simp) ?_)
  refine EvC.seq (EvC.rg (by (simp only [go_sem, s0]) <;> rfl) (by simp) ?_)
  refine EvC.seq (EvC.rg (by (simp only [go_sem, Int.mul_zero, w0, Int.add_zero]) <;> rfl) (by simp) ?_)
  refine EvC.seq (EvC.rg (by (simp only [go_sem, Int.mul_zero, w0, Int.add_zero, s0]) <;> rfl) (by simp) ?_)
  refine EvC.seq (EvC.rg (by (simp only [go_sem, Int.one_mul, wn]) <;> rfl) (by simp) ?_)
  refine EvC.ret ⟨.inl rfl, _, (by (simp only [go_sem]) <;> rfl), ?_, rfl⟩
  simp only [go_sem]
theorem mul_is {n : Nat} (h : n < 17) : PureIs prog 72 [.sc (.int .u64 1), .sc (.int .u64 (n : Int))] (.tu [.sc (.int .u64 0), .sc (.int .u64 (n : Int))]) := by
  refine PureIs.of (nv := 2) (hid := [4, 5, 6, 7, 8, 9]) func72 rfl (by kernel_rfl) (by simp [ntmps72]) fun _ => ?_
  rw [ntmps72, results72]
  refine EvC.seq (EvC.rg (by (simp only [go_sem]) <;> rfl) (by simp) ?_)
  refine EvC.seq ?_
  refine EvC.cond_false (by (simp only [go_sem]) <;> rfl) ?_
  refine EvC.skip ?_
  apply EvC.seq
  apply EvC.tr
  · apply Tr.run
    · (simp only [go_sem]) <;> rfl
    · simp
    apply Tr.cons
    · exact .call rfl rfl (by (simp only [go_sem]) <;> rfl) (by (simp only [go_sem]) <;> rfl) (by (simp only [go_sem]) <;> rfl) (by (simp only [go_sem]) <;> rfl) (by (simp only [go_sem]) <;> rfl) (mul64_is h)
    apply Tr.done
    · (simp only [go_sem]) <;> rfl
    · simp
  refine EvC.seq (EvC.rg (by (simp only [go_sem]) <;> rfl) (by simp) ?_)
  refine EvC.ret ⟨.inl rfl, _, (by (simp only [go_sem]) <;> rfl), ?_, rfl⟩
  simp only [go_sem]

/-- So many copies of an edge, and zeros behind them. -/
def repC (e : Int × Int) (N n : Nat) : List (List AV) := List.replicate n (edgeC e) ++ List.replicate (N - n) (edgeC (0, 0))
theorem repC_len (e : Int × Int) {N n : Nat} (h : n ≤ N) : (repC e N n).length = N := by simp [repC]; omega
theorem repC_take (e : Int × Int) (N n : Nat) : (repC e N n).take n = List.replicate n (edgeC e) := by simp [repC]
theorem repC_next (e : Int × Int) {N n m : Nat} (h : n + m ≤ N) (hm : m ≤ n) : List.replicate n (edgeC e) ++ (List.take m (List.replicate n (edgeC e)) ++ List.drop (n + m) (repC e N n)) = repC e N (n + m) := by
  have h1 : List.drop (n + m) (repC e N n) = List.replicate (N - (n + m)) (edgeC (0, 0)) := by
    rw [repC, List.drop_append, List.drop_of_length_le (by simp), List.length_replicate, List.drop_replicate, List.nil_append]
    congr 1; omega
  rw [h1, List.take_replicate, Nat.min_eq_left hm, ← List.append_assoc, List.replicate_append_replicate]; rfl
theorem repC_one (e : Int × Int) {N : Nat} : repC e N 1 = edgeC e :: List.replicate (N - 1) (edgeC (0, 0)) := by simp [repC]
theorem norefs_repl (e : Int × Int) (n : Nat) : (List.replicate n (edgeC e)).all AV.norefs = true := by simp [List.all_eq_true, edgeC, AV.norefs, AV.noref]
theorem len_repl (e : Int × Int) (n : Nat) : ((List.replicate n (edgeC e)).all fun y => decide (y.length = 2)) = true := by simp [List.all_eq_true, edgeC]
theorem norefs_repC (e : Int × Int) (N n : Nat) : (repC e N n).all AV.norefs = true := by simp only [repC, List.all_append, norefs_repl, Bool.and_self]

set_option maxHeartbeats 1000000 in
theorem repeat_is (e : Int × Int) {N : Nat} (hN : 1 ≤ N ∧ N ≤ 16) : PureIs prog 65 [.sl false [edgeC e] .full, .sc (.int .i64 (N : Int))] (.sl false (List.replicate N (edgeC e)) .full) := by
  have w1 : IntKind.u64.wrap 1 = 1 := wrapU (by omega) (by omega)
  have wn : IntKind.u64.wrap (N : Int) = N := wrapU (by omega) (by omega)
  have hbig : decide ((9223372036854775807 : Int) < (N : Int)) = false := decide_eq_false (by omega)
  have hneg : decide ((N : Int) < 0) = false := decide_eq_false (by omega)
  have hI : inI64 (N : Int) = true := inI64_of (by omega) (by omega)
  have hNN : ((N : Nat) : Int).toNat = N := Int.toNat_natCast N
  have hm1 : min 1 N = 1 := Nat.min_eq_left hN.1
  refine PureIs.of (nv := 2) (hid := [4, 5, 6, 7, 8, 10, 26, 37, 30]) func65 rfl (by kernel_rfl) (by simp [ntmps65]) fun _ => ?_
  rw [ntmps65, results65]
  refine EvC.seq (EvC.rg (by (simp only [go_sem]) <;> rfl) (by simp) ?_)
  refine EvC.seq ?_
  refine EvC.seq (EvC.rg (by (simp only [go_sem, hneg]) <;> rfl) (by simp) ?_)
  refine EvC.cond_false (by (simp only [go_sem]) <;> rfl) ?_
  refine EvC.skip ?_
  apply EvC.seq
  apply EvC.tr
  · apply Tr.run
    · (simp only [go_sem, Int.natCast_one, w1, wn]) <;> rfl
    · simp
    apply Tr.cons
    · exact .call rfl rfl (by (simp only [go_sem]) <;> rfl) (by (simp only [go_sem]) <;> rfl) (by (simp only [go_sem]) <;> rfl) (by (simp only [go_sem]) <;> rfl) (by (simp only [go_sem]) <;> rfl) (mul_is (show N < 17 by omega))
    apply Tr.done
    · (simp only [go_sem]) <;> rfl
    · simp
  refine EvC.seq ?_
  apply EvC.seq
  apply EvC.trd
  · (simp only [go_sem, hbig]) <;> rfl
  · simp
  refine EvC.cond_false (by (simp only [go_sem]) <;> rfl) ?_
  refine EvC.skip ?_
  have hz : List.replicate N [AV.sc (Value.int .i64 0), AV.sc (Value.int .i64 0)] = List.replicate N (edgeC (0, 0)) := rfl
  refine EvC.seq (EvC.rg (by (simp only [go_sem, hNN, hz]) <;> rfl) (by simp [room_eq, hI]; omega) ?_)
  have hd1 : List.drop 1 (List.replicate N [AV.sc (Value.int .i64 0), AV.sc (Value.int .i64 0)]) = List.replicate (N - 1) [AV.sc (Value.int .i64 0), AV.sc (Value.int .i64 0)] := List.drop_replicate ..
  refine EvC.seq (EvC.rg (by (simp only [go_sem, hm1, hd1, edgeC, List.length_replicate, Int.natCast_one]) <;> rfl) (by simp [AV.norefs, AV.noref]; omega) ?_)
  have hnr0 : (List.replicate (N - 1) [AV.sc (Value.int .i64 0), AV.sc (Value.int .i64 0)]).all AV.norefs = true := norefs_repl (0, 0) (N - 1)
  refine EvC.seq ?_
  refine EvC.block ?_  -- 0
  refine EvC.loopS (σ := Nat) (fun n => ⟨[(7, .tv 0 N 0 N (.val N)), (8, .sc (.int .i64 n))], [], [(0, .arr 2 (repC e N n) false)], 1⟩) (fun n => N - n) (fun n => 1 ≤ n ∧ n ≤ N) [7, 8] 1 ?_ ?_
  · exact ⟨[(22, 0)], 1, rfl, (by (simp only [go_sem, repC_one, edgeC, hnr0, Int.natCast_one]) <;> rfl), Nat.le_refl _, hN.1⟩
  rintro n ⟨h1, h2⟩
  have hl := repC_len e h2
  have htk := repC_take e N n
  refine EvC.seq ?_
  refine EvC.seq (EvC.rg (by (simp only [go_sem, hl, List.length_take, Nat.min_self]) <;> rfl) (by simp) ?_)
  refine EvC.cond (by (simp only [go_sem]) <;> rfl) (fun hc => ?_) (fun hc => ?_)
  rotate_left
  · refine EvC.exit ?_  -- 0
    obtain rfl : N = n := by have : ¬ n < N := by simpa using hc
                             omega
    have hrn : repC e N N = List.replicate N (edgeC e) := by simp [repC]
    refine EvC.frz 0 (by (simp only [go_sem, hl, norefs_repC]) <;> rfl) ?_
    refine EvC.seq (EvC.rg (by (simp only [go_sem]) <;> rfl) (by simp) ?_)
    refine EvC.ret ⟨.inl rfl, _, (by (simp only [go_sem]) <;> rfl), ?_, rfl⟩
    simp only [go_sem]
    rw [hrn]
  have hnl : n < N := by simpa using hc
  clear hc
  obtain ⟨m, hmm⟩ : ∃ m, m = min n (N - n) := ⟨_, rfl⟩
  have hnx := repC_next e (N := N) (n := n) (m := m) (by omega) (by omega)
  have hnn : ((n : Nat) : Int).toNat = n := Int.toNat_natCast n
  refine EvC.skip ?_
  refine EvC.block ?_  -- 1
  apply EvC.drd mixed  -- R9
  · (simp only [go_sem, hl, htk, hnn, List.length_replicate, ← hmm, hnx, Nat.sub_zero]) <;> rfl
  · have hIm : inI64 ((n : Int) + (m : Int)) = true := inI64_of (by omega) (by omega)
    have hN0 : N ≠ 0 := by omega
    simp only [norefs_repl, len_repl, hIm, Bool.and_true, Bool.and_eq_true, Bool.or_eq_true, decide_eq_true_eq]
    omega
  · kernel_rfl
  exact ⟨[(0, 0)], n + m, rfl, (by (simp only [go_sem, norefs_repC, Int.natCast_add]) <;> rfl), ⟨by omega, by omega⟩, by omega⟩
end Go.Avl
namespace Go.Avl
open Go Go.Proofs.Try
set_option maxRecDepth 10000
set_option linter.unusedSimpArgs false

theorem prs_get {n N s i : Nat} (hs : s < n) (hi : i < N) : (prs n N)[s * N + i]? = some (s, i) := by
  induction n with
  | zero => omega
  | succ n ih =>
    rw [prs_succ]
    by_cases h : s < n
    · rw [List.getElem?_append_left (by rw [prs_len]; have := Nat.mul_le_mul_right N h; rw [Nat.succ_mul] at this; omega)]; exact ih h
    · obtain rfl : s = n := by omega
      rw [List.getElem?_append_right (by rw [prs_len]; omega), prs_len, Nat.add_sub_cancel_left, List.getElem?_map, List.getElem?_range hi]; rfl
/-- What the iterator over the edges yields. -/
def edgY (m : Mach) (p : Nat × Nat) : List AV := [edgeA ((p.1 : Int), (p.2 : Int)), edgeA (eAt m p.1 p.2)]
def edgYs (m : Mach) (N : Nat) : List (List AV) := (prs m.rows.length N).map (edgY m)
theorem edges1_seq {m : Mach} (hv : Valid m) {N : Nat} (hN : m.ins = (N : Int)) : SeqIs prog 77 [.ia m.cells] (edgYs m N) := by
  have hrw := hv.rows
  have hin := hv.ins
  obtain ⟨n, hn⟩ : ∃ n, n = m.rows.length := ⟨_, rfl⟩
  have hlen : (edgYs m N).length = n * N := by rw [edgYs, List.length_map, prs_len, ← hn]
  have hnN : n * N ≤ 64 * 16 := Nat.mul_le_mul (by omega) (by omega)
  refine SeqIs.of (nv := 2) (hid := [3, 4, 5, 6, 8, 9, 10, 11, 15, 16, 17, 18, 28]) func77 rfl (by kernel_rfl) (by simp [ntmps77]) (by rw [results77]) fun lp J h0 hJ hy => ?_
  rw [ntmps77]
  refine EvY.seqL hJ (EvC.rg (by (simp only [go_sem, Mach.cells, List.length_map, ← hn]) <;> rfl) (by simp) ?_)
  refine EvY.block ?_
  refine EvY.loopS hJ (σ := Nat) (fun s => ⟨[(0, .sc (yv lp)), (1, .ia m.cells), (8, .sl m.nl (m.rows.map rowC) .unk), (9, .sc (.int .i64 n)), (10, .sc (.int .i64 s))], [], [], 0⟩) (fun s => s * N) (fun s => n - s) (fun s => s ≤ n) [0, 1, 8, 9, 10] 0 ?_ ?_
  · exact ⟨[], 0, rfl, (by (simp only [go_sem, Mach.cells, Int.natCast_zero]) <;> rfl), Nat.zero_le _, by simp⟩
  intro s hs
  refine EvY.seqL hJ (EvC.rg (by (simp only [go_sem]) <;> rfl) (by simp) ?_)
  refine EvY.seq ?_
  refine EvY.cond (by (simp only [go_sem]) <;> rfl) (fun hc => ?_) (fun hc => ?_)
  rotate_left
  · refine EvY.exit ⟨.inr rfl, .inl ?_⟩
    obtain rfl : n = s := by have : ¬ s < n := by simpa using hc
                             omega
    rw [hlen]
  have hsl : s < n := by simpa using hc
  clear hc
  have he : m.rows[s]? = some (m.rows[s]'(by omega)) := List.getElem?_eq_getElem (by omega)
  have hr := (hv.row _ (List.getElem_mem (show s < m.rows.length by omega))).1
  generalize m.rows[s]'(by omega) = r at he hr
  have hrN : r.2.length = N := by omega
  refine EvY.skip ?_
  refine EvY.seq ?_
  refine EvY.block ?_
  refine EvY.seqL hJ (EvC.rg (by (simp only [go_sem, he, rowC]) <;> rfl) (by simp) ?_)
  refine EvY.seqL hJ (EvC.rg (by (simp only [go_sem, List.length_map, hrN]) <;> rfl) (by simp) ?_)
  refine EvY.block ?_
  refine EvY.loopS hJ (σ := Nat) (fun i => ⟨[(0, .sc (yv lp)), (1, .ia m.cells), (3, .sc (.int .i64 s)), (8, .sl m.nl (m.rows.map rowC) .unk), (9, .sc (.int .i64 n)), (10, .sc (.int .i64 s)), (15, .sl r.1 (r.2.map edgeC) .unk), (16, .sc (.int .i64 N)), (17, .sc (.int .i64 i))], [], [], 0⟩) (fun i => s * N + i) (fun i => N - i) (fun i => i ≤ N) [0, 1, 3, 8, 9, 10, 15, 16, 17] 0 ?_ ?_
  · exact ⟨[], 0, rfl, (by (simp only [go_sem, Mach.cells, Int.natCast_zero]) <;> rfl), Nat.zero_le _, rfl⟩
  intro i hi
  refine EvY.seqL hJ (EvC.rg (by (simp only [go_sem]) <;> rfl) (by simp) ?_)
  refine EvY.seq ?_
  refine EvY.cond (by (simp only [go_sem]) <;> rfl) (fun hc => ?_) (fun hc => ?_)
  rotate_left
  · refine EvY.exit ?_
    obtain rfl : N = i := by have : ¬ i < N := by simpa using hc
                             omega
    refine EvY.lift hJ (EvC.rg (by (simp only [go_sem]) <;> rfl) (by exact inI64_of (by omega) (by omega)) ?_)
    exact ⟨[], s + 1, rfl, (by (simp only [go_sem, Mach.cells, Int.natCast_add, Int.natCast_one]) <;> rfl), hsl, by rw [Nat.succ_mul], by omega⟩
  have hil : i < N := by simpa using hc
  clear hc
  have hre : r.2[i]? = some (r.2[i]'(by omega)) := List.getElem?_eq_getElem (by omega)
  generalize r.2[i]'(by omega) = e at hre
  have hle : s * N + i < n * N := by have := Nat.mul_le_mul_right N hsl; rw [Nat.succ_mul] at this; omega
  have hlt : s * N + i < (edgYs m N).length := by rw [hlen]; exact hle
  have hget : (edgYs m N)[s * N + i] = [edgeA ((s : Int), (i : Int)), edgeA e] := by
    have h1 : (edgYs m N)[s * N + i]? = some (edgY m (s, i)) := by rw [edgYs, List.getElem?_map, prs_get (by omega) hil]; rfl
    rw [List.getElem?_eq_getElem hlt] at h1
    rw [Option.some.inj h1, edgY, eAt_get he hre]
  refine EvY.skip ?_
  refine EvY.seq ?_
  refine EvY.block ?_
  refine EvY.seqL hJ (EvC.rg (by (simp only [go_sem, hre, edgeC]) <;> rfl) (by simp) ?_)
  refine EvY.seq (EvY.region ?_)  -- R6
  refine XRY.run hJ (by (simp only [go_sem]) <;> rfl) (by simp) ?_
  refine XRY.yield hlt hy rfl rfl (by (simp only [go_sem]) <;> rfl) (by (simp only [go_sem]) <;> rfl) (by rw [hget]; (simp only [go_sem, edgeA]) <;> rfl) (by rw [hget]; simp only [go_sem, edgeA]) fun b => ?_
  refine XRY.done hJ (by (simp only [go_sem]) <;> rfl) rfl ?_
  refine EvY.cond (by (simp only [go_sem]) <;> rfl) (fun hb => ?_) (fun hb => ?_)
  · have hb : b = false := by simpa using hb
    subst hb
    exact EvY.ret ⟨.inl rfl, .inr rfl⟩
  have hb : b = true := by simpa using hb
  subst hb
  refine EvY.skip ?_
  refine EvY.lift hJ (EvC.rg (by (simp only [go_sem]) <;> rfl) (by exact inI64_of (by omega) (by omega)) ?_)
  exact ⟨[], i + 1, rfl, (by (simp only [go_sem, Mach.cells, Int.natCast_add, Int.natCast_one]) <;> rfl), hil, rfl, by omega⟩
end Go.Avl
namespace Go.Avl
open Go Go.Proofs.Try
set_option maxRecDepth 10000
set_option linter.unusedSimpArgs false

theorem edges_is (m : Mach) : PureIs prog 73 [.ag m.cells] (.fn 77 [.ia m.cells]) := by
  refine PureIs.of (nv := 3) (hid := []) func73 rfl (by kernel_rfl) (by simp [ntmps73]) fun _ => ?_
  rw [ntmps73, results73]
  refine EvC.seq (EvC.rg (by (simp only [go_sem, Mach.cells]) <;> rfl) (by simp) ?_)
  refine EvC.frzB 0 (by (simp only [go_sem]) <;> rfl) ?_
  refine EvC.seq (EvC.rg (by (simp only [go_sem]) <;> rfl) (by simp) ?_)
  refine EvC.ret ⟨.inl rfl, _, (by (simp only [go_sem]) <;> rfl), ?_, rfl⟩
  simp only [go_sem]
  rfl
theorem clip74_is (nl : Bool) (es : List (List AV)) (c : Cp) (h : (es.all fun y => decide (y.length = 2)) = true) : PureIs prog 74 [.sl nl es c] (.sl nl es .full) := by
  refine PureIs.of (nv := 1) (hid := [2]) func74 rfl (by kernel_rfl) (by simp [ntmps74]) fun _ => ?_
  rw [ntmps74, results74]
  refine EvC.seq (EvC.rg (by (simp only [go_sem]) <;> rfl) (by simp) ?_)
  refine EvC.seq (EvC.rg (by (simp only [go_sem]) <;> rfl) (by simp [h]) ?_)
  refine EvC.ret ⟨.inl rfl, _, (by (simp only [go_sem]) <;> rfl), ?_, rfl⟩
  simp only [go_sem]
def pcC (p : Nat × Nat) : List AV := [.sc (.int .i64 (p.1 : Int)), .sc (.int .i64 (p.2 : Int))]
@[go_sem] theorem norefs_pc (l : List (Nat × Nat)) : (l.map pcC).all AV.norefs = true := by simp [List.all_eq_true, pcC, AV.norefs, AV.noref]
/-- The places without an edge. -/
def undL (m : Mach) (l : List (Nat × Nat)) : List (Nat × Nat) := l.filter fun p => isNone (eAt m p.1 p.2)
def memU (now : List (Nat × Nat)) : Mem := [(0, .cells [.tl 1 now.length now.isEmpty]), (1, .arr 2 (now.map pcC) true)]

theorem undefined_is {m : Mach} (hv : Valid m) {N : Nat} (hN : m.ins = (N : Int)) : PureIs prog 71 [.ag m.cells] (.sl (undL m (prs m.rows.length N)).isEmpty ((undL m (prs m.rows.length N)).map pcC) .full) := by
  have hrw := hv.rows
  have hin := hv.ins
  obtain ⟨L, hL⟩ : ∃ L, L = prs m.rows.length N := ⟨_, rfl⟩
  have hLl : L.length ≤ 64 * 16 := by rw [hL, prs_len]; exact Nat.mul_le_mul (by omega) (by omega)
  refine PureIs.of (nv := 6) (hid := [7, 8, 9, 12]) func71 rfl (by kernel_rfl) (by simp [ntmps71]) fun _ => ?_
  rw [ntmps71, results71]
  refine EvC.seq (EvC.rg (by (simp only [go_sem, Mach.cells]) <;> rfl) (by simp) ?_)
  refine EvC.frzB 0 (by (simp only [go_sem]) <;> rfl) ?_
  refine EvC.seq (EvC.rg (by (simp only [go_sem]) <;> rfl) (by simp) ?_)
  refine EvC.seq ?_
  apply EvC.seq
  apply EvC.tr
  · apply Tr.run
    · (simp only [go_sem, Mach.cells]) <;> rfl
    · simp
    apply Tr.cons
    · exact .call rfl rfl (by (simp only [go_sem]) <;> rfl) (by (simp only [go_sem]) <;> rfl) (by (simp only [go_sem]) <;> rfl) (by (simp only [go_sem]) <;> rfl) (by (simp only [go_sem]) <;> rfl) (edges_is m)
    apply Tr.done
    · (simp only [go_sem]) <;> rfl
    · simp
  refine EvC.block ?_  -- 0
  refine EvC.ownC 2 0 2 (by (simp only [go_sem]) <;> rfl) ?_
  refine EvC.gcTo ⟨[(3, .rf 0 0), (7, .fn 77 [.ia m.cells])], [], memU [], 2⟩ [3, 7] [(2, 0), (5, 1)] (by rfl) (by (simp only [go_sem, memU]) <;> rfl) ?_
  refine EvC.range (σ := List (Nat × Nat)) (gf := 77) (caps := [.ia m.cells]) (xs := edgYs m N) rfl (fun _ => rfl) (by (simp only [go_sem]) <;> rfl) rfl (edges1_seq hv hN) ?_ (by simp) (Nat.zero_le _)
    (fun _ now => memU now) (fun j now => now = undL m (L.take j)) ⟨[], rfl, rfl⟩ ?_ ?_
  · intro x hx
    obtain ⟨z, _, rfl⟩ := List.mem_map.1 hx
    rfl
  · rintro j now lp hj hnow
    have hj' : j < L.length := by rw [hL]; simpa [edgYs] using hj
    have hz : (edgYs m N)[j] = edgY m L[j] := by simp only [edgYs, List.getElem_map, hL]
    have htk : L.take (j + 1) = L.take j ++ [L[j]] := by rw [List.take_add_one, List.getElem?_eq_getElem hj']; rfl
    rw [hz]
    have hnl : now.length ≤ 64 * 16 := by
      have h1 : now.length ≤ (L.take j).length := by rw [hnow]; exact List.length_filter_le _ _
      simp at h1; omega
    generalize L[j] = p at htk
    have hnx : undL m (L.take (j + 1)) = now ++ undL m [p] := by rw [htk, undL, List.filter_append, hnow]; rfl
    obtain ⟨e, he⟩ : ∃ e, e = eAt m p.1 p.2 := ⟨_, rfl⟩
    rw [edgY, ← he]
    unfold memU
    refine EvC.seq (EvC.rg (by (simp only [go_sem, edgeA]) <;> rfl) (by simp) ?_)  -- R3
    refine EvC.rg (by (simp only [go_sem]) <;> rfl) (by simp) ⟨rfl, ?_⟩  -- R4
    refine EvC.block ?_
    apply EvC.seq
    apply EvC.drw mixed
    · apply Tr.run
      · (simp only [go_sem]) <;> rfl
      · simp
      apply Tr.cons
      · exact .call rfl rfl (by (simp only [go_sem]) <;> rfl) (by (simp only [go_sem]) <;> rfl) (by (simp only [go_sem]) <;> rfl) (by (simp only [go_sem]) <;> rfl) (by (simp only [go_sem]) <;> rfl) (none_is)
      apply Tr.done
      · (simp only [go_sem]) <;> rfl
      · simp [descAgg, matchKinds, matchKind]
    · kernel_rfl
    refine EvC.cond (by (simp only [go_sem]) <;> rfl) (fun hc => ?_) (fun hc => ?_)
    · have hn : isNone e = true := by unfold isNone; simpa using hc
      refine EvC.rg (by (simp only [go_sem, List.length_map]) <;> rfl) (by simp [room_eq, AV.norefs, AV.noref]; omega) ?_
      refine ⟨[(0, 0), (1, 1)], now ++ [p], rfl, by (simp only [go_sem, memU, pcC, List.length_map]) <;> rfl, ?_⟩
      rw [hnx]; simp [undL, ← he, hn]
    have hn : ¬ isNone e = true := by
      unfold isNone
      by_cases h1 : e.1 = -1 <;> by_cases h2 : e.2 = -1 <;> simp [h1, h2] at hc ⊢
    refine EvC.skip ?_
    refine ⟨[(0, 0), (1, 1)], now, rfl, by (simp only [go_sem, memU]) <;> rfl, ?_⟩
    rw [hnx]; simp [undL, ← he, hn]
  · rintro now hnow
    have hlx : (edgYs m N).length = L.length := by rw [hL]; simp [edgYs]
    rw [hlx, List.take_length] at hnow
    unfold memU
    refine EvC.frzD 1 (by (simp only [go_sem, List.length_map]) <;> rfl) ?_
    apply EvC.seq
    apply EvC.tr
    · apply Tr.run
      · (simp only [go_sem]) <;> rfl
      · simp
      apply Tr.cons
      · exact .call rfl rfl (by (simp only [go_sem]) <;> rfl) (by (simp only [go_sem]) <;> rfl) (by (simp only [go_sem]) <;> rfl) (by (simp only [go_sem]) <;> rfl) (by (simp only [go_sem]) <;> rfl) (clip74_is now.isEmpty (now.map pcC) .unk (by simp [pcC]))
      apply Tr.done
      · (simp only [go_sem]) <;> rfl
      · simp
    refine EvC.ret ⟨.inl rfl, _, (by (simp only [go_sem]) <;> rfl), ?_, rfl⟩
    simp only [go_sem]
    rw [hnow, hL]

theorem complete_is {m : Mach} (hm : checkM m = 0) {N : Nat} (hN : m.ins = (N : Int)) : PureIs prog 63 [.ag m.cells] (.tu [.sc (.bool (undL m (prs m.rows.length N)).isEmpty), .sc (.int .i64 0)]) := by
  have hv := Valid.of hm
  have hck := check_is m (fun r hr => by have := (hv.row r hr).1; have := hv.ins; omega)
  rw [hm] at hck
  refine PureIs.of (nv := 5) (hid := [8]) func63 rfl (by kernel_rfl) (by simp [ntmps63]) fun _ => ?_
  rw [ntmps63, results63]
  refine EvC.seq (EvC.rg (by (simp only [go_sem, Mach.cells]) <;> rfl) (by simp) ?_)
  refine EvC.frzB 0 (by (simp only [go_sem]) <;> rfl) ?_
  refine EvC.seq ?_
  apply EvC.seq
  apply EvC.tr
  · apply Tr.run
    · (simp only [go_sem, Mach.cells]) <;> rfl
    · simp
    apply Tr.cons
    · exact .call rfl rfl (by (simp only [go_sem]) <;> rfl) (by (simp only [go_sem]) <;> rfl) (by (simp only [go_sem]) <;> rfl) (by (simp only [go_sem]) <;> rfl) (by (simp only [go_sem]) <;> rfl) (hck)
    apply Tr.done
    · (simp only [go_sem]) <;> rfl
    · simp
  refine EvC.seq (EvC.rg (by (simp only [go_sem]) <;> rfl) (by simp) ?_)
  refine EvC.cond_false (by (simp only [go_sem]) <;> rfl) ?_
  refine EvC.skip ?_
  apply EvC.seq
  apply EvC.tr
  · apply Tr.run
    · (simp only [go_sem, Mach.cells]) <;> rfl
    · simp
    apply Tr.cons
    · exact .call rfl rfl (by (simp only [go_sem]) <;> rfl) (by (simp only [go_sem]) <;> rfl) (by (simp only [go_sem]) <;> rfl) (by (simp only [go_sem]) <;> rfl) (by (simp only [go_sem]) <;> rfl) (undefined_is hv hN)
    apply Tr.done
    · (simp only [go_sem, List.length_map]) <;> rfl
    · simp
  refine EvC.ret ⟨.inl rfl, _, (by (simp only [go_sem]) <;> rfl), ?_, rfl⟩
  simp only [go_sem]
  cases undL m (prs m.rows.length N) with
  | nil => simp
  | cons a l => simp; omega
end Go.Avl
