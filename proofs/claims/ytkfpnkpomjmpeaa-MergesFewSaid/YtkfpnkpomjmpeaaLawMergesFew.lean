/-
  Lemmas.
  Lemmas.
  Lemmas.
  A call that freezes an object lent to it: its result may be that object.
  Lemmas.
  Lemmas.
  A nil slice in a slot has no room.
  Lemmas.
  Lemmas.
  Lemmas.
  Lemmas.
  Lemmas.
  Lemmas.
  Lemmas.
  Lemmas.
  Lemmas.
  Lemmas.
  Lemmas.
  Lemmas.
  Lemmas.
  MergesFew returns true at every input, and each argument reads behind the call as it read before.
-/
import Derived.Test.YtkfpnkpomjmpeaaPart9
set_option linter.unusedSimpArgs false
set_option linter.unusedVariables false
set_option linter.unnecessarySimpa false
set_option linter.deprecated false
namespace Go.Avl
open Go Go.Proofs.Try
set_option maxRecDepth 10000
set_option linter.unusedSimpArgs false
theorem treeM_rowsF (i : Nat) (o : Int) (L : List TR) : RowsF (treeM i o L) := fun r hr _ => by
 unfold treeM at hr
 simp only [List.mem_map] at hr
 obtain ⟨x, _, rfl⟩ := hr
 rfl
theorem TV.short {t : Mach} (v : TV t) : ∀ r ∈ t.rows, r.2.length < 1000000 := fun r hr => by
 obtain ⟨i, hi, rfl⟩ := List.mem_iff_getElem.1 hr
 have := (v.row i _ (List.getElem?_eq_getElem hi)).1
 have := v.ins
 omega
theorem nodesE_zero {t : Mach} (h : checkT t = 0) {l : List Int} (hl : ∀ x ∈ l, 0 ≤ x ∧ x < t.rows.length) : nodesE t l = 0 := by
 unfold nodesE
 rw [h, if_neg (by simp), if_pos]
 rw [List.all_eq_true]
 intro x hx
 have := hl x hx
 unfold inT
 simp; omega
end Go.Avl
namespace Go.Avl
open Go Go.Proofs.Try
set_option maxRecDepth 10000
set_option linter.unusedSimpArgs false
end Go.Avl
namespace Go.Avl
open Go Go.Proofs.Try
set_option maxRecDepth 10000
set_option linter.unusedSimpArgs false
end Go.Avl
namespace Go.Avl
open Go
section
variable {P : Program} {fr : Fr} {ro : Option Nat} {ds : DS} {st st' : St} {G G' : Nat → Option Value} {F F' : Nat → Nat → Prop} {a : Act} {w w' : World} {c : Code}
 {M : Mem} {ops : Array Oper} {l rest : List Oper} {o : Oper} {id N : Nat} {rd : List Nat}
end
end Go.Avl
namespace Go.Avl
open Go Go.Proofs.Try
set_option maxRecDepth 10000
set_option linter.unusedSimpArgs false
def SR.is : SR → Bool
 | .found _ _ => true
 | _ => false
def SR.left : SR → Int
 | .found _ f => f
 | .fail f => f
 | .spent => -1
def usedN (c : List Nat) : Nat := c.foldl (fun u x => max u (x + 1)) 0
theorem usedN_snoc (c : List Nat) (x : Nat) : usedN (c ++ [x]) = max (usedN c) (x + 1) := by unfold usedN; rw [List.foldl_append]; rfl
end Go.Avl
namespace Go.Avl
open Go Go.Proofs.Try
set_option maxRecDepth 10000
set_option linter.unusedSimpArgs false
def GoodC (t : Mach) (k : Nat) (c : List Nat) : Prop := ∀ i x, c[i]? = some x → x < k ∧ x ≤ usedN (c.take i) ∧ possB t (c.take i) x = true
theorem goodC_nil (t : Mach) (k : Nat) : GoodC t k [] := fun i x h => by simp at h
theorem GoodC.snoc {t : Mach} {k : Nat} {c : List Nat} (h : GoodC t k c) {x : Nat} (h1 : x < k) (h2 : x ≤ usedN c) (h3 : possB t c x = true) : GoodC t k (c ++ [x]) := fun i y hy => by
 by_cases hi : i < c.length
 ·rw [List.getElem?_append_left hi] at hy
  rw [List.take_append_of_le_length (by omega)]
  exact h i y hy
 ·rw [List.getElem?_append_right (by omega)] at hy
  have hi0 : i - c.length = 0 := by
   have := (List.getElem?_eq_some_iff.1 hy).1
   simp at this; omega
  rw [hi0] at hy
  cases hy
  rw [show i = c.length by omega, List.take_append_of_le_length (Nat.le_refl _), List.take_length]
  exact ⟨h1, h2, h3⟩
theorem GoodC.take {t : Mach} {k : Nat} {c : List Nat} (h : GoodC t k c) (n : Nat) : GoodC t k (c.take n) := fun i x hx => by
 rw [List.getElem?_take] at hx
 split at hx
 ·rename_i hin
  rw [List.take_take, Nat.min_eq_left (by omega)]
  exact h i x hx
 ·cases hx
theorem GoodC.le {t : Mach} {k k' : Nat} {c : List Nat} (h : GoodC t k c) (hk : ∀ x ∈ c, x < k') : GoodC t k' c := fun i x hx => ⟨hk x (List.mem_of_getElem? hx), (h i x hx).2⟩
theorem srch_good (t : Mach) (k : Nat) : ∀ (d : Nat) (c : List Nat) (fuel : Nat) (c' : List Nat) (f' : Nat), GoodC t k c → srch t k d c (usedN c) fuel = .found c' f' → GoodC t k c' ∧ c'.length = c.length + d
 | 0, c, fuel, c', f', hg, h => by
   rw [srch] at h; cases h
   exact ⟨hg, rfl⟩
 | d + 1, c, fuel, c', f', hg, h => by
   rw [srch] at h
   have key : ∀ (l : List Nat) (r : SR), (∀ x ∈ l, x < min k (usedN c + 1)) → (∀ c' f', r = .found c' f' → GoodC t k c' ∧ c'.length = c.length + (d + 1)) → ∀ c' f', l.foldl (stepS t (srch t k d) c (usedN c)) r = .found c' f' → GoodC t k c' ∧ c'.length = c.length + (d + 1) := fun l => by
    induction l with
    | nil => intro r _ h; exact h
    | cons x l ih =>
      intro r hl h
      rw [List.foldl_cons]
      refine ih _ (fun y hy => hl y (List.mem_cons_of_mem _ hy)) fun c' f' he => ?_
      unfold stepS at he
      cases r with
      | found c2 f2 => exact h c' f' he
      | spent => cases he
      | fail f =>
        simp only at he
        split at he
        ·cases he
        ·split at he
         ·rename_i hp
          have hx := hl x List.mem_cons_self
          rw [← usedN_snoc] at he
          obtain ⟨h1, h2⟩ := srch_good t k d _ _ _ _ (hg.snoc (x := x) (by omega) (by omega) hp) he
          exact ⟨h1, by rw [h2]; simp; omega⟩
         ·cases he
   exact key _ _ (fun x hx => by have := List.mem_range.1 hx; omega) (fun c' f' he => by cases he) c' f' h
theorem srch_compl (t : Mach) (k : Nat) {c : List Nat} (hg : GoodC t k c) : ∀ (d n : Nat) (fuel f' : Nat), n + d = c.length → srch t k d (c.take n) (usedN (c.take n)) fuel ≠ .fail f'
 | 0, n, fuel, f', _, h => by rw [srch] at h; cases h
 | d + 1, n, fuel, f', hn, h => by
   rw [srch] at h
   have hx : c[n]? = some c[n] := List.getElem?_eq_getElem (by omega)
   obtain ⟨h1, h2, h3⟩ := hg n _ hx
   generalize c[n] = x at hx h1 h2 h3
   have ht : c.take n ++ [x] = c.take (n + 1) := by rw [List.take_succ, hx]; rfl
   have hs : ∀ r : SR, (stepS t (srch t k d) (c.take n) (usedN (c.take n)) r x).more = false := fun r => by
    unfold stepS
    cases r with
    | found _ _ => rfl
    | spent => rfl
    | fail f =>
      simp only
      split
      ·rfl
      ·rw [← usedN_snoc, ht]
       cases hr : srch t k d (c.take (n + 1)) (usedN (c.take (n + 1))) (f - 1) with
       | found _ _ => rfl
       | spent => rfl
       | fail f2 => exact absurd hr (srch_compl t k hg d (n + 1) _ _ (by omega))
   have := foldl_at (t := t) (rec := srch t k d) (c := c.take n) (used := usedN (c.take n)) (n := min k (usedN (c.take n) + 1)) (i := x) (r0 := .fail fuel) (by omega) rfl (hs _)
   rw [this] at h
   have := hs ((List.range x).foldl (stepS t (srch t k d) (c.take n) (usedN (c.take n))) (.fail fuel))
   rw [h] at this; cases this
theorem usedN_lt : ∀ {c : List Nat} {x : Nat}, x ∈ c → x < usedN c := by
 have key : ∀ (c : List Nat) (u : Nat), u ≤ c.foldl (fun u x => max u (x + 1)) u ∧ ∀ x ∈ c, x < c.foldl (fun u x => max u (x + 1)) u := by
  intro c
  induction c with
  | nil => intro u; exact ⟨Nat.le_refl _, fun x h => by cases h⟩
  | cons y c ih =>
    intro u
    obtain ⟨h1, h2⟩ := ih (max u (y + 1))
    rw [List.foldl_cons]
    refine ⟨by omega, fun x hx => ?_⟩
    rcases List.mem_cons.1 hx with rfl | hx
    ·omega
    ·exact h2 x hx
 intro c x h
 exact (key c 0).2 x h
theorem GoodC.all {t : Mach} {k : Nat} : ∀ {c : List Nat}, GoodC t k c → ∀ s, s < usedN c → s ∈ c := by
 intro c hg
 have key : ∀ n, n ≤ c.length → ∀ s, s < usedN (c.take n) → s ∈ c := by
  intro n
  induction n with
  | zero => intro _ s h; simp [usedN] at h
  | succ n ih =>
    intro hn s h
    have hx : c[n]? = some c[n] := List.getElem?_eq_getElem (by omega)
    rw [List.take_succ, hx] at h
    simp only [Option.toList_some] at h
    rw [usedN_snoc] at h
    by_cases h1 : s < usedN (c.take n)
    ·exact ih (by omega) s h1
    ·have := (hg n _ hx).2.1
     have e : s = c[n] := by omega
     rw [e]; exact List.getElem_mem _
 intro s h
 exact key c.length (Nat.le_refl _) s (by rw [List.take_length]; exact h)
theorem leastL_done {t : Mach} : ∀ (n k fuel : Nat) (c : List Nat) (k' f' : Nat), 1 ≤ k → (∀ j, 1 ≤ j → j < k → ∃ f f2, srch t j t.rows.length [] 0 f = .fail f2) → leastL t n k fuel = .done c k' f' →
  GoodC t k' c ∧ c.length = t.rows.length ∧ k ≤ k' ∧ k' < k + n ∧ ∀ j, 1 ≤ j → j < k' → ∃ f f2, srch t j t.rows.length [] 0 f = .fail f2
 | 0, k, fuel, c, k', f', _, _, h => by cases h
 | n + 1, k, fuel, c, k', f', hk, hj, h => by
   rw [leastL] at h
   cases hs : srch t k t.rows.length [] 0 fuel with
   | found c2 f2 =>
     rw [hs] at h
     cases h
     obtain ⟨h1, h2⟩ := srch_good t k t.rows.length [] fuel _ _ (goodC_nil t k) hs
     exact ⟨h1, by rw [h2]; simp, Nat.le_refl _, by omega, hj⟩
   | spent => rw [hs] at h; cases h
   | fail f2 =>
     rw [hs] at h
     have hj' : ∀ j, 1 ≤ j → j < k + 1 → ∃ f f2, srch t j t.rows.length [] 0 f = .fail f2 := fun j h1 h2 => by
      by_cases e : j = k
      ·subst e; exact ⟨fuel, f2, hs⟩
      ·exact hj j h1 (by omega)
     obtain ⟨h1, h2, h3, h4, h5⟩ := leastL_done n (k + 1) f2 c k' f' (by omega) hj' h
     exact ⟨h1, h2, by omega, by omega, h5⟩
theorem leastL_least {t : Mach} {n fuel : Nat} {c : List Nat} {k f : Nat} (h : leastL t n 1 fuel = .done c k f) {K : Nat} (hK : 1 ≤ K) {c' : List Nat} (hg : GoodC t K c') (hl : c'.length = t.rows.length) : k ≤ K := by
 obtain ⟨_, _, _, _, h5⟩ := leastL_done n 1 fuel c k f (Nat.le_refl _) (fun j h1 h2 => by omega) h
 refine Nat.le_of_not_lt fun hlt => ?_
 obtain ⟨f1, f2, hs⟩ := h5 K hK hlt
 have := srch_compl t K hg t.rows.length 0 f1 f2 (by omega)
 rw [List.take_zero] at this
 exact this hs
theorem leastL_all {t : Mach} {n fuel : Nat} {c : List Nat} {k f : Nat} (hN : 1 ≤ t.rows.length) (h : leastL t n 1 fuel = .done c k f) : usedN c = k ∧ (∀ s, s < k → s ∈ c) ∧ (∀ x ∈ c, x < k) ∧ c.length = t.rows.length ∧ 1 ≤ k ∧ k ≤ n ∧ GoodC t k c := by
 obtain ⟨h1, h2, h3, h4, h5⟩ := leastL_done n 1 fuel c k f (Nat.le_refl _) (fun j h1 h2 => by omega) h
 have hlt : ∀ x ∈ c, x < k := fun x hx => by
  obtain ⟨i, hi, rfl⟩ := List.mem_iff_getElem.1 hx
  exact (h1 i _ (List.getElem?_eq_getElem hi)).1
 have hle : usedN c ≤ k := by
  refine Nat.le_of_not_lt fun hgt => ?_
  exact absurd (hlt k (h1.all k hgt)) (Nat.lt_irrefl _)
 have hu1 : 1 ≤ usedN c := by
  have : c[0]'(by omega) ∈ c := List.getElem_mem _
  have := usedN_lt this
  omega
 have hge : k ≤ usedN c := leastL_least h hu1 (h1.le fun x hx => usedN_lt hx) h2
 have e : usedN c = k := by omega
 exact ⟨e, fun s hs => h1.all s (by omega), hlt, h2, h3, by omega, h1⟩
end Go.Avl
namespace Go.Avl
open Go
def St.zerS (fr : Fr) (k : Nat) (st : St) : Option St :=
 match st.get fr k with
 | .sl true [] _ => some (st.put fr (some k) (.sl true [] .zer))
 | _ => none
attribute [go_sem] St.zerS
section
variable {P : Program} {fr : Fr} {ro : Option Nat} {ds : DS} {st st' : St} {Q : Exit → St → Prop} {G : Nat → Option Value} {F : Nat → Nat → Prop} {a : Act} {w : World} {c : Code}
theorem SimA.zerS {k : Nat} (s : SimA P fr ds G F st a w) (h : st.zerS fr k = some st') : SimA P fr ds G F st' a w ∧ st'.mem = st.mem := by
 unfold St.zerS at h
 split at h
 ·rename_i cp hg
  cases h
  refine ⟨⟨⟨by rw [St.put_mem, St.put_nx]; exact s.sim.mem, fun j => ?_, s.sim.size⟩, fun j hj => s.fresh j (by rw [St.put_nx] at hj; exact hj), s.defers⟩, St.put_mem ..⟩
  rw [St.put_mem, St.get_put]
  split
  ·rename_i hj; subst hj
   have := s.sim.slots j
   rw [hg] at this
   exact .imm this.inv_sl.nil_zer
  ·exact s.sim.slots j
 ·cases h
theorem EvC.zerS (k : Nat) (h : st.zerS fr k = some st') (hc : EvC P fr ro ds c st' Q) : EvC P fr ro ds c st Q :=
 EvC.conv (fun G F _ _ s => ⟨G, F, (s.zerS h).1, by rw [(s.zerS h).2]; exact .refl⟩) hc
end
end Go.Avl
namespace Go.Avl
open Go Go.Proofs.Try
set_option maxRecDepth 10000
set_option linter.unusedSimpArgs false
end Go.Avl
namespace Go.Avl
open Go Go.Proofs.Try
set_option maxRecDepth 10000
set_option linter.unusedSimpArgs false
def cutT (t : TR) : TR := ⟨t.w.take 5, t.r.take 5⟩
def fewL (L : List TR) : List TR := (L.take 3).map cutT
theorem traceC_cut {t : TR} (h : t.r.length = t.w.length) : ([.sl t.w.isEmpty ((t.w.map intC).take (min t.w.length 5)) .unk, .sl t.r.isEmpty ((t.r.map intC).take (min t.w.length 5)) .unk] : List AV) = traceC (cutT t) := by
 obtain ⟨w, r⟩ := t
 simp only at h
 unfold traceC cutT
 simp only
 have hw : w.take (min w.length 5) = w.take 5 := by
  by_cases h5 : w.length ≤ 5
  ·rw [Nat.min_eq_left h5, List.take_length, List.take_of_length_le h5]
  ·rw [Nat.min_eq_right (by omega)]
 have hr : r.take (min w.length 5) = r.take 5 := by
  rw [← h]
  by_cases h5 : r.length ≤ 5
  ·rw [Nat.min_eq_left h5, List.take_length, List.take_of_length_le h5]
  ·rw [Nat.min_eq_right (by omega)]
 rw [← List.map_take, ← List.map_take, hw, hr]
 have e : ∀ l : List Int, (l.take 5).isEmpty = l.isEmpty := fun l => by cases l <;> rfl
 rw [e, e]
set_option maxHeartbeats 8000000 in
theorem few30_is (i o : Int) (L : List TR) (hL : ∀ t ∈ L, TrOk t) (hl : L.length < 1000000) : PureIs prog 30 [logA i o L] (logA i o (fewL L)) := by
 unfold logA
 refine PureIs.of (nv := 2) (hid := [2, 3, 4, 5, 19]) func30 rfl (by kernel_rfl) (by simp [ntmps30]) fun _ => ?_
 rw [ntmps30, results30]
 refine EvC.seq (EvC.rg (by simp only [go_sem] <;> rfl) (by simp) ?_)
 refine EvC.frzB 0 (by simp only [go_sem] <;> rfl) ?_
 refine EvC.seq (EvC.rg (by simp only [go_sem] <;> rfl) (by simp) ?_)
 refine EvC.seq ?_
 refine EvC.seq (EvC.rg (by simp only [go_sem] <;> rfl) (by simp) ?_)
 refine EvC.ownC 7 2 2 (by simp only [go_sem] <;> rfl) ?_
 refine EvC.block ?_
 refine EvC.loopS (σ := Nat) (fun k => ⟨[(1, .ia [.sc (.int .i64 i), .sc (.int .i64 o), .sl L.isEmpty (L.map traceC) .unk]), (2, .rf 0 0), (3, .rf 1 0), (4, .sc (.int .i64 k))], [],
  [(0, .cells [.sc (.int .i64 0), .sc (.int .i64 0), .sl true [] .zer]), (1, .cells [.sc (.int .i64 i), .sc (.int .i64 o), .tl 2 k (k == 0)]), (2, .arr 2 (((L.take k).map cutT).map traceC) true)], 3⟩) (fun k => L.length - k) (fun k => k ≤ L.length ∧ k ≤ 3) [1, 2, 3, 4] 3 ?_ ?_
 ·exact ⟨[(1, 0), (7, 1), (10, 2)], 0, rfl, (by simp only [go_sem, List.take_zero, List.map_nil, Int.natCast_zero] <;> rfl), Nat.zero_le _, Nat.zero_le _⟩
 rintro k ⟨h1, h2⟩
 have hkin : (k : Int).toNat = k := Int.toNat_natCast k
 have hTl : (((L.take k).map cutT).map traceC).length = k := by simp; omega
 refine EvC.seq ?_
 apply EvC.seq
 apply EvC.trd
 ·simp only [go_sem, List.length_map] <;> rfl
 ·simp
 by_cases hk : k < L.length ∧ k < 3
 rotate_left
 ·
  have hg : (if decide ((k : Int) < (L.length : Int)) = true then decide ((k : Int) < 3) else false) = false := by
   by_cases h : k < L.length
   ·rw [decide_eq_true (show (k : Int) < L.length by omega), if_pos rfl, decide_eq_false (by omega)]
   ·rw [decide_eq_false (show ¬ (k : Int) < L.length by omega), if_neg (by simp)]
  have hT : (L.take k).map cutT = fewL L := by
   unfold fewL
   by_cases h : k < 3
   ·rw [List.take_of_length_le (by omega), List.take_of_length_le (by omega)]
   ·rw [show k = 3 by omega]
  have hke : (k == 0) = (fewL L).isEmpty := by
   rw [← hT]
   cases k with
   | zero => simp
   | succ k => cases L with
     | nil => simp at h1
     | cons _ _ => rfl
  refine EvC.cond_false (by simp only [go_sem, hg] <;> rfl) ?_
  refine EvC.exit ?_
  refine EvC.frzD 2 (by simp only [go_sem, hTl] <;> rfl) ?_
  rw [hT, hke]
  refine EvC.seq (EvC.rg (by simp only [go_sem] <;> rfl) (by simp) ?_)
  refine EvC.ret ⟨.inl rfl, _, (by simp only [go_sem] <;> rfl), ?_, rfl⟩
  simp only [go_sem]
 have hg : (if decide ((k : Int) < (L.length : Int)) = true then decide ((k : Int) < 3) else false) = true := by
  rw [decide_eq_true (show (k : Int) < L.length by omega), if_pos rfl, decide_eq_true (by omega)]
 refine EvC.cond_true (by simp only [go_sem, hg] <;> rfl) ?_
 refine EvC.skip ?_
 refine EvC.seq ?_
 refine EvC.block ?_
 have hy : L[k]? = some (L[k]'hk.1) := List.getElem?_eq_getElem hk.1
 have hyk := hL _ (List.getElem_mem hk.1)
 have htk : (L.take (k + 1)).map cutT = (L.take k).map cutT ++ [cutT (L[k]'hk.1)] := by rw [List.take_succ, hy, List.map_append]; rfl
 generalize L[k]'hk.1 = t at hy hyk htk
 have hmin : (if (t.w.length : Int) ≤ 5 then (t.w.length : Int) else 5) = ((min t.w.length 5 : Nat) : Int) := by
  split <;> omega
 refine EvC.seq (EvC.rg (by simp only [go_sem, hy, hkin, traceC, hmin, List.length_map] <;> rfl) (by simp; try omega) ?_)
 obtain ⟨n, hn⟩ : ∃ n, n = min t.w.length 5 := ⟨_, rfl⟩
 have hnin : (n : Int).toNat = n := Int.toNat_natCast n
 have hcut := traceC_cut hyk.len
 have hrl := hyk.len
 rw [← hn] at hcut ⊢
 have hcast : ((5 : Nat) : Int) = 5 := rfl
 apply EvC.drd mixed
 ·simp only [go_sem, hy, hkin, hnin, traceC, List.length_map] <;> rfl
 ·have hr6 : room (min k L.length + 1) 48 = true := by simp only [room_eq, decide_eq_true_eq]; omega
  simp
  exact ⟨⟨fun _ _ => rfl, by omega⟩, ⟨fun _ _ => rfl, by omega⟩, by omega, hr6⟩
 ·kernel_rfl
 refine EvC.rg (by simp only [go_sem] <;> rfl) (by exact inI64_of (by omega) (by omega)) ?_
 refine ⟨[(0, 0), (1, 1), (2, 2)], k + 1, rfl, ?_, by omega, by omega⟩
 have hk1 : (k + 1 == 0) = false := rfl
 rw [htk, List.map_append, List.map_singleton, ← hcut]
 have hmk : min k L.length = k := by omega
 simp only [go_sem, hk1, hTl, List.length_map, List.length_take, hmk, Int.natCast_add, Int.natCast_one] <;> rfl
end Go.Avl
namespace Go.Avl
open Go Go.Proofs.Try
set_option maxRecDepth 10000
set_option linter.unusedSimpArgs false
def rowsK (t : Mach) (c : List Nat) (k : Nat) : List (List (Int × Int)) := (List.range k).map fun s => (List.range t.ins.toNat).map fun i => edgeK t c s i t.rows.length
theorem rowsV_rowsK (t : Mach) (c : List Nat) (k : Nat) : rowsV (fun s i => edgeK t c s i t.rows.length) k t.ins.toNat = (rowsK t c k).map rowF := by
 unfold rowsV rowsK gcells
 rw [List.map_map]
 refine List.map_congr_left fun s _ => ?_
 simp [rowF, rowC]
theorem TrVal.cut {ins : Nat} {outs : Int} {t : TR} (h : TrVal ins outs t) : TrVal ins outs (cutT t) := by
 refine ⟨?_, fun a ha => h.sym a (List.mem_of_mem_take ha), ?_⟩
 ·unfold cutT; simp only [List.length_take, h.len]
 ·exact FormR.take h.form 5
theorem few_val {ins : Nat} {outs : Int} {L : List TR} (h : ∀ t ∈ L, TrVal ins outs t) : ∀ t ∈ fewL L, TrVal ins outs t := fun t ht => by
 obtain ⟨u, hu, rfl⟩ := List.mem_map.1 ht
 exact (h u (List.mem_of_mem_take hu)).cut
theorem few_len (L : List TR) : (fewL L).length ≤ 3 ∧ ∀ t ∈ fewL L, t.w.length ≤ 5 := by
 refine ⟨by simp [fewL]; omega, fun t ht => ?_⟩
 obtain ⟨u, hu, rfl⟩ := List.mem_map.1 ht
 simp only [cutT, List.length_take]; omega
end Go.Avl
namespace Go.Avl
open Go Go.Proofs.Try
set_option maxRecDepth 10000
set_option linter.unusedSimpArgs false
structure TG (t : Mach) : Prop where
 ins : 1 ≤ t.ins ∧ t.ins ≤ 16
 rows : 1 ≤ t.rows.length ∧ t.rows.length ≤ 65537
 row : ∀ (i : Nat) (r : Row), t.rows[i]? = some r → (r.2.length : Int) = t.ins ∧ ∀ e ∈ r.2, e.1 = -1 ∨ (1 ≤ e.1 ∧ e.1 < t.rows.length)
theorem TG.get {t : Mach} (v : TG t) {n i : Nat} (hn : n < t.rows.length) (hi : (i : Int) < t.ins) : ∃ A : Row, t.rows[n]? = some A ∧ (A.2.length : Int) = t.ins ∧ A.2[i]? = some (eT t n i) ∧ ((eT t n i).1 = -1 ∨ (1 ≤ (eT t n i).1 ∧ (eT t n i).1 < t.rows.length)) := by
 have hg : t.rows[n]? = some (t.rows[n]) := List.getElem?_eq_getElem hn
 have hl := v.row n _ hg
 have he : (t.rows[n]).2[i]? = some (eT t n i) := by
  rw [eT, hg]
  simp only [Option.map_some, Option.getD_some]
  rw [List.getElem?_eq_getElem (by omega)]; rfl
 exact ⟨t.rows[n], hg, hl.1, he, hl.2 _ (List.mem_of_getElem? he)⟩
structure WS where
 seen : List Bool
 out : List (List Nat)
 many : Nat
def WS.has (s : WS) (n : Nat) : Bool := (s.seen[n]?).getD false
def WS.wd (s : WS) (n : Nat) : List Nat := (s.out[n]?).getD []
def WS.put (s : WS) (to n i : Nat) : WS := ⟨s.seen.set to true, s.out.set to (s.wd n ++ [i]), s.many + 1⟩
structure WS.Ok (s : WS) (N : Nat) : Prop where
 seen : s.seen.length = N
 out : s.out.length = N
 many : s.many = s.seen.countP (fun b => b)
 le : ∀ w ∈ s.out, w.length ≤ N
theorem WS.Ok.has_get {s : WS} {N n : Nat} (h : s.Ok N) (hn : n < N) : s.seen[n]? = some (s.has n) := by
 unfold WS.has
 rw [List.getElem?_eq_getElem (by rw [h.seen]; exact hn)]; rfl
theorem WS.Ok.put {s : WS} {N to n i : Nat} (h : s.Ok N) (ht : to < N) (hs : s.has to = false) (hl : (s.wd n).length < N) : (s.put to n i).Ok N := by
 refine ⟨by simp [WS.put, h.seen], by simp [WS.put, h.out], ?_, fun w hw => ?_⟩
 ·have h1 := h.has_get ht
  rw [hs] at h1
  have h2 : s.seen[to]'(by rw [h.seen]; exact ht) = false := by
   rw [List.getElem?_eq_getElem (by rw [h.seen]; exact ht)] at h1
   exact Option.some.inj h1
  simp only [WS.put]
  rw [List.countP_set (by rw [h.seen]; exact ht), h2, h.many]
  simp
 ·rcases List.mem_or_eq_of_mem_set hw with h1 | h1
  ·exact h.le w h1
  ·rw [h1]; simp; omega
def wCp (w : List Nat) : Cp := if w = [] then .zer else .unk
def wA (w : List Nat) : List AV := [.sl w.isEmpty (w.map natC) (wCp w)]
def wordsA : Option (List (List Nat)) → AV
 | none => .sl true [] .unk
 | some l => .sl false (l.map wA) .full
attribute [go_sem] wordsA
end Go.Avl
namespace Go.Avl
open Go Go.Proofs.Try
set_option maxRecDepth 10000
set_option linter.unusedSimpArgs false
def wT (t : Mach) : Nat → Nat → List Nat
 | 0, _ => []
 | d + 1, n => if n = 0 then [] else wT t d (parT t n).1 ++ [(parT t n).2]
def wordN (t : Mach) (n : Nat) : List Nat := wT t n n
theorem wordN_zero (t : Mach) : wordN t 0 = [] := rfl
theorem wT_more {t : Mach} (v : TV t) (tp : TP t) : ∀ (n d d' : Nat), n < t.rows.length → n ≤ d → n ≤ d' → wT t d n = wT t d' n := by
 intro n
 induction n using Nat.strongRecOn with
 | _ n ih =>
   intro d d' hn h1 h2
   by_cases h0 : n = 0
   ·subst h0
    cases d <;> cases d' <;> rfl
   ·have hp := parT_lt v tp (by omega) hn
    obtain ⟨d, rfl⟩ : ∃ k, d = k + 1 := ⟨d - 1, by omega⟩
    obtain ⟨d', rfl⟩ : ∃ k, d' = k + 1 := ⟨d' - 1, by omega⟩
    rw [wT, wT, if_neg h0, if_neg h0, ih _ hp.1 d d' (by omega) (by omega) (by omega)]
theorem wordN_eq {t : Mach} (v : TV t) (tp : TP t) {n : Nat} (h0 : 1 ≤ n) (hn : n < t.rows.length) : wordN t n = wordN t (parT t n).1 ++ [(parT t n).2] := by
 have hp := parT_lt v tp h0 hn
 unfold wordN
 obtain ⟨d, rfl⟩ : ∃ k, n = k + 1 := ⟨n - 1, by omega⟩
 rw [wT, if_neg (by omega), wT_more v tp _ d _ (by omega) (by omega) (Nat.le_refl _)]
theorem wordN_edge {t : Mach} (v : TV t) (tp : TP t) {p i n : Nat} (h1 : p < t.rows.length) (h2 : (i : Int) < t.ins) (h3 : (eT t p i).1 = (n : Int)) : p < n ∧ n < t.rows.length ∧ parT t n = (p, i) ∧ wordN t n = wordN t p ++ [i] := by
 have he := v.edge h1 h2
 have hpn : p < n := by omega
 have hpar := parT_eq tp hpn h2 h3
 have hw := wordN_eq v tp (n := n) (by omega) (by omega)
 rw [hpar] at hw
 exact ⟨hpn, by omega, hpar, hw⟩
theorem parT_to {t : Mach} (v : TV t) (tp : TP t) {n : Nat} (h0 : 1 ≤ n) (hn : n < t.rows.length) : (eT t (parT t n).1 (parT t n).2).1 = (n : Int) := by
 obtain ⟨p, i, k1, k2, k3⟩ := tp.has n h0 hn
 rw [parT_eq tp k1 k2 k3]; exact k3
structure WI (t : Mach) (m0 r n i : Nat) (s : WS) : Prop where
 ok : s.Ok t.rows.length
 has : ∀ m, m < t.rows.length → (s.has m = true ↔ (wordN t m).length ≤ r ∨ (wordN t m).length = r + 1 ∧ ((parT t m).1 < n ∨ (parT t m).1 = n ∧ (parT t m).2 < i))
 wd : ∀ m, m < t.rows.length → s.has m = true → s.wd m = wordN t m
 ge : m0 ≤ s.many
 new : s.many = m0 → ∀ m, m < t.rows.length → (wordN t m).length = r + 1 → ¬ ((parT t m).1 < n ∨ (parT t m).1 = n ∧ (parT t m).2 < i)
end Go.Avl
namespace Go.Avl
open Go Go.Proofs.Try
set_option maxRecDepth 10000
set_option linter.unusedSimpArgs false
theorem mergeC_end {t : Mach} (v : TV t) : ∀ (f : Nat) (c red : List Nat), IsF t c → RedOk t c red → red[0]? = some 0 → ∀ rows, mergeC t f c red = some rows →
  ∃ c' red' : List Nat, IsF t c' ∧ RedOk t c' red' ∧ red'[0]? = some 0 ∧ red'.length ≤ 64 ∧ nextC t c' red' < 0 ∧ rows = machC t c' red'
 | 0, c, red, _, _, _, rows, h => by cases h
 | f + 1, c, red, hc, hr, h0, rows, h => by
   rw [mergeC] at h
   split at h
   ·cases h
   ·rename_i hl
    split at h
    ·rename_i hn
     cases h
     exact ⟨c, red, hc, hr, h0, by omega, hn, rfl⟩
    ·rename_i hn
     obtain ⟨k1, k2, k3⟩ := next_node v hn
     split at h
     ·rename_i d hd
      obtain ⟨a1, a2⟩ := hr.absorb v hc k1 hd
      exact mergeC_end v f d red a2 a1 h0 rows h
     ·rename_i hd
      refine mergeC_end v f c _ hc (hr.push v hc k1 hd) ?_ rows h
      have := (List.getElem?_eq_some_iff.1 h0).1
      rw [List.getElem?_append_left this]; exact h0
theorem eT_machC {t m : Mach} {c red : List Nat} (hm : m.rows.map (·.2) = machC t c red) {s i : Nat} (hs : s < red.length) (hi : (i : Int) < t.ins) : eT m s i = edgeR t c red s i := by
 have h1 : (m.rows[s]?).map (·.2) = some ((List.range t.ins.toNat).map (edgeR t c red s)) := by
  rw [← List.getElem?_map, hm, machC, List.getElem?_map, List.getElem?_range hs]; rfl
 rw [eT, h1, Option.getD_some, List.getElem?_map, List.getElem?_range (by omega)]; rfl
theorem allRed {t : Mach} (tp : TP t) {c red : List Nat} (h0 : 0 ∈ red) (hn : nextC t c red < 0) {k : Nat} (hk : k < t.rows.length) : isRed c red (pU c k) = true := by
 cases h : isRed c red (pU c k) with
 | true => rfl
 | false =>
   obtain ⟨m, h1, _⟩ := cand_le tp (isRed_iff.2 ⟨0, h0, rfl⟩) k hk h
   rcases nextC_min t c red with ⟨_, h2⟩ | ⟨j, h2, _⟩
   ·exact absurd h1 (h2 m)
   ·omega
theorem placeC_in {c red : List Nat} {k : Nat} (h : isRed c red k = true) : ∃ s : Nat, s < red.length ∧ placeC c red k = (s : Int) ∧ (red.map (pU c))[s]? = some k := by
 obtain ⟨r, h1, h2⟩ := isRed_iff.1 h
 have hm : k ∈ red.map (pU c) := List.mem_map.2 ⟨r, h1, h2⟩
 have hl := List.idxOf_lt_length_of_mem hm
 refine ⟨(red.map (pU c)).idxOf k, by simpa using hl, ?_, ?_⟩
 ·rw [placeC, if_pos (by simpa using hl)]
 ·rw [List.getElem?_eq_getElem hl, List.getElem_idxOf hl]
theorem machC_fits {t m : Mach} (v : TV t) (tp : TP t) {c red : List Nat} (hc : IsF t c) (hr : RedOk t c red) (h0 : red[0]? = some 0) (hn : nextC t c red < 0) (hm : m.rows.map (·.2) = machC t c red) : FitH t m (fun n => (placeC c red (pU c n)).toNat) := by
 have h0m := hr.zero
 have hpl : ∀ n, n < t.rows.length → ∃ s : Nat, s < red.length ∧ placeC c red (pU c n) = (s : Int) ∧ (red.map (pU c))[s]? = some (pU c n) := fun n hn' => placeC_in (allRed tp h0m hn hn')
 refine ⟨?_, fun n i hn' hi => ?_⟩
 ·unfold placeC
  obtain ⟨red', rfl⟩ : ∃ l, red = 0 :: l := by
   cases red with
   | nil => cases h0
   | cons x l => cases h0; exact ⟨l, rfl⟩
  simp
 ·obtain ⟨s, h1, h2, h3⟩ := hpl n hn'
  rw [h2, Int.toNat_natCast, eT_machC hm h1 hi]
  have hrs : pU c ((red[s]?).getD 0) = pU c n := by
   rw [List.getElem?_map] at h3
   cases hx : red[s]? with
   | none => rw [hx] at h3; cases h3
   | some x => rw [hx] at h3; simpa using h3
  have hE : edgeR t c red s i = match (List.range t.rows.length).reverse.find? fun n' => decide (pU c n' = pU c n) && decide ((eT t n' i).1 ≠ -1) with
   | some n' => (placeC c red (pU c (eT t n' i).1.toNat), (eT t n' i).2)
   | none => (-1, -1) := by rw [edgeR, hrs]; all_goals rfl
  rw [hE]
  cases hf : (List.range t.rows.length).reverse.find? fun n' => decide (pU c n' = pU c n) && decide ((eT t n' i).1 ≠ -1) with
  | none =>
    rw [List.find?_eq_none] at hf
    have hx : (eT t n i).1 = -1 := by
     by_cases hx : (eT t n i).1 = -1
     ·exact hx
     ·exact absurd (by simp [hx]) (hf n (List.mem_reverse.2 (List.mem_range.2 hn')))
    refine ⟨?_, fun h => absurd hx h⟩
    unfold okB
    rw [hx]; simp
  | some q =>
    have g1 := List.find?_some hf
    have g2 := List.mem_range.1 (List.mem_reverse.1 (List.mem_of_find?_eq_some hf))
    simp only [Bool.and_eq_true, decide_eq_true_eq] at g1
    obtain ⟨g3, g4⟩ := g1
    obtain ⟨k1, k2⟩ := hc.clo q n i g3 hi
    have ht := v.to g2 hi g4
    obtain ⟨s', j1, j2, j3⟩ := hpl _ ht.2
    simp only
    unfold okE okB
    by_cases hk : knownE (eT t n i) = true
    ·rw [clashE_iff (knownE_to g4) hk] at k1
     have g5 : (eT t n i).1 ≠ -1 := fun e => g4 (k1.1.2 e)
     have e2 := k2 (bothE_iff.2 ⟨g4, g5⟩)
     refine ⟨?_, fun _ => ?_⟩
     ·simp only
      rw [j2, hk, k1.2 g4, decide_eq_false g5, decide_eq_false (show ¬ (s' : Int) = -1 by omega), decide_eq_true (rfl)]
      rfl
     ·simp only
      rw [← e2, j2, Int.toNat_natCast]
    ·have hkf : knownE (eT t n i) = false := by simpa using hk
     refine ⟨by rw [hkf]; rfl, fun h => absurd (knownE_to h) hk⟩
theorem machC_check {t m : Mach} (v : TV t) (tp : TP t) {c red : List Nat} (hr : RedOk t c red) (hl : red.length ≤ 64) (hn : nextC t c red < 0) (hi : m.ins = t.ins) (ho : m.outs = t.outs) (hm : m.rows.map (·.2) = machC t c red) : checkM m = 0 := by
 have hin := v.ins
 have hou := v.outs
 have hml : m.rows.length = red.length := by have := congrArg List.length hm; simpa [machC] using this
 have hrl : 1 ≤ red.length := by
  have := hr.zero
  cases red with
  | nil => cases this
  | cons x l => simp
 unfold checkM
 rw [if_neg (by omega), if_neg (by omega), if_pos]
 rw [List.all_eq_true]
 intro r hrm
 have h2 : r.2 ∈ machC t c red := by rw [← hm]; exact List.mem_map.2 ⟨r, hrm, rfl⟩
 unfold machC at h2
 obtain ⟨s, hs, h3⟩ := List.mem_map.1 h2
 unfold rowOk
 rw [← h3, hi, ho, hml]
 have hlen : (((List.range t.ins.toNat).map (edgeR t c red s)).length : Int) = t.ins := by simp; omega
 simp only [Bool.and_eq_true, decide_eq_true_eq]
 refine ⟨hlen, ?_⟩
 rw [Bool.not_eq_true', List.any_eq_false]
 intro e he
 obtain ⟨i, hi', rfl⟩ := List.mem_map.1 he
 simp only [Bool.not_eq_true', Bool.not_eq_false]
 have hi' := List.mem_range.1 hi'
 have hii : (i : Int) < t.ins := by omega
 unfold edgeR
 split
 ·rename_i q hf
  have g1 := List.find?_some hf
  have g2 := List.mem_range.1 (List.mem_reverse.1 (List.mem_of_find?_eq_some hf))
  simp only [Bool.and_eq_true, decide_eq_true_eq] at g1
  have ht := v.to g2 hii g1.2
  obtain ⟨s', j1, j2, j3⟩ := placeC_in (allRed tp hr.zero hn ht.2)
  have he := v.edge g2 hii
  rw [j2]
  unfold fitsR
  have : 0 ≤ (eT t q i).2 ∧ (eT t q i).2 < t.outs := by
   rcases he with h | h
   ·exact absurd h.1 g1.2
   ·exact ⟨h.2.2.1, h.2.2.2⟩
  simp only [Bool.or_eq_true, Bool.and_eq_true, decide_eq_true_eq]
  exact .inr ⟨⟨⟨by omega, by omega⟩, this.1⟩, this.2⟩
 ·rfl
end Go.Avl
namespace Go.Avl
open Go Go.Proofs.Try
set_option maxRecDepth 10000
set_option linter.unusedSimpArgs false
def aftI (m : Mach) : Int → List Nat → Int
 | s, [] => s
 | s, a :: w => aftI m (stepR m s (a : Int)).1 w
def castW (w : List Nat) : List Int := w.map fun (x : Nat) => (x : Int)
theorem aftI_snoc (m : Mach) (i : Nat) : ∀ (s : Int) (w : List Nat), aftI m s (w ++ [i]) = (stepR m (aftI m s w) (i : Int)).1
 | _, [] => rfl
 | _, _ :: w => aftI_snoc m i _ w
theorem stepR_eT (m : Mach) (s i : Nat) : stepR m (s : Int) (i : Int) = eT m s i := by
 unfold stepR
 rw [if_neg (by omega)]; rfl
def outT (x : Int × Int) : Int := if x.1 = -1 then -1 else x.2
def okW (t m : Mach) (n i : Nat) : Bool := !knownE (eT t n i) || decide ((stepR m (aftI m 0 (wordN t n)) (i : Int)).2 = outT (eT t n i))
theorem FitH.aft {t m : Mach} (v : TV t) (tp : TP t) {h : Nat → Nat} (hf : FitH t m h) : ∀ n, n < t.rows.length → aftI m 0 (wordN t n) = (h n : Int) := by
 intro n
 induction n using Nat.strongRecOn with
 | _ n ih =>
   intro hn
   by_cases h0 : n = 0
   ·subst h0; rw [wordN_zero, aftI, hf.root]; rfl
   ·have hp := parT_lt v tp (by omega) hn
    have he := parT_to v tp (n := n) (by omega) hn
    rw [wordN_eq v tp (by omega) hn, aftI_snoc, ih _ hp.1 (by omega), stepR_eT]
    have := (hf.ok _ _ (show (parT t n).1 < t.rows.length by omega) hp.2).2 (by omega)
    rw [this, he, Int.toNat_natCast]
theorem FitH.okW {t m : Mach} (v : TV t) (tp : TP t) (vm : Valid m) (hins : m.ins = t.ins) {h : Nat → Nat} (hf : FitH t m h) {n i : Nat} (hn : n < t.rows.length) (hi : (i : Int) < t.ins) : okW t m n i = true := by
 have h1 := (hf.ok n i hn hi).1
 unfold Go.Avl.okW
 rw [hf.aft v tp n hn, stepR_eT]
 unfold okB at h1
 cases hk : knownE (eT t n i) with
 | false => rfl
 | true =>
   rw [hk] at h1
   simp only [Bool.not_true, Bool.false_or, Bool.and_eq_true, Bool.or_eq_true, beq_iff_eq, decide_eq_true_eq, decide_eq_decide] at h1 ⊢
   unfold outT
   by_cases hx : (eT t n i).1 = -1
   ·rw [if_pos hx]
    have hy := h1.1.1 hx
    by_cases hs : h n < m.rows.length
    ·obtain ⟨_, _, _, _, he⟩ := vm.edge hs (i := i) (by omega)
     rcases he with he | he
     ·rw [he]
     ·omega
    ·have : m.rows[h n]? = none := List.getElem?_eq_none (by omega)
     simp [eT, this]
   ·rw [if_neg hx]
    exact h1.2.resolve_left hx
theorem okW_fit {t m : Mach} (v : TV t) (tp : TP t) (vm : Valid m) (hins : m.ins = t.ins) (h : ∀ n i : Nat, n < t.rows.length → (i : Int) < t.ins → okW t m n i = true) : FitH t m fun n => (aftI m 0 (wordN t n)).toNat := by
 have hpos : ∀ n, n < t.rows.length → 0 ≤ aftI m 0 (wordN t n) ∧ aftI m 0 (wordN t n) < m.rows.length := by
  intro n
  induction n using Nat.strongRecOn with
  | _ n ih =>
    intro hn
    by_cases h0 : n = 0
    ·subst h0; rw [wordN_zero, aftI]; have := vm.rows; omega
    ·have hp := parT_lt v tp (by omega) hn
     have he := parT_to v tp (n := n) (by omega) hn
     have hk := h _ _ (show (parT t n).1 < t.rows.length by omega) hp.2
     have hv := v.edge (show (parT t n).1 < t.rows.length by omega) hp.2
     have ih := ih _ hp.1 (by omega)
     rw [wordN_eq v tp (by omega) hn, aftI_snoc]
     obtain ⟨s, hs⟩ : ∃ s : Nat, aftI m 0 (wordN t (parT t n).1) = (s : Int) := ⟨_, (Int.toNat_of_nonneg ih.1).symm⟩
     unfold okW at hk
     rw [knownE_to (show (eT t (parT t n).1 (parT t n).2).1 ≠ -1 by omega), hs, stepR_eT, outT, if_neg (by omega)] at hk
     rw [hs, stepR_eT]
     simp only [Bool.not_true, Bool.false_or, decide_eq_true_eq] at hk
     obtain ⟨_, _, _, _, hx⟩ := vm.edge (show s < m.rows.length by omega) (i := (parT t n).2) (by omega)
     rcases hx with hx | hx
     ·rw [hx] at hk; simp only at hk; omega
     ·omega
 refine ⟨by rw [wordN_zero]; rfl, fun n i hn hi => ?_⟩
 have hp := hpos n hn
 obtain ⟨s, hs⟩ : ∃ s : Nat, aftI m 0 (wordN t n) = (s : Int) := ⟨_, (Int.toNat_of_nonneg hp.1).symm⟩
 have hk := h n i hn hi
 unfold okW at hk
 rw [hs, stepR_eT] at hk
 rw [hs, Int.toNat_natCast]
 obtain ⟨_, _, _, _, hx⟩ := vm.edge (show s < m.rows.length by omega) (i := i) (by omega)
 have hv := v.edge hn hi
 refine ⟨?_, fun hne => ?_⟩
 ·unfold okB
  cases hkn : knownE (eT t n i) with
  | false => rfl
  | true =>
    rw [hkn] at hk
    unfold outT at hk
    simp only [Bool.not_true, Bool.false_or, decide_eq_true_eq] at hk
    by_cases h1 : (eT t n i).1 = -1
    ·rw [if_pos h1] at hk
     have : (eT m s i).1 = -1 := by
      rcases hx with hx | hx
      ·rw [hx]
      ·omega
     rw [h1, this]; rfl
    ·rw [if_neg h1] at hk
     have : (eT m s i).1 ≠ -1 := by
      rcases hx with hx | hx
      ·rw [hx] at hk; simp only at hk; omega
      ·omega
     rw [decide_eq_false h1, decide_eq_false this, hk]; simp
 ·obtain ⟨k, hk⟩ : ∃ k : Nat, (eT t n i).1 = (k : Int) := ⟨(eT t n i).1.toNat, by omega⟩
  obtain ⟨q1, q2, q3, q4⟩ := wordN_edge v tp hn hi hk
  rw [hk, Int.toNat_natCast]
  have := hpos k q2
  rw [q4, aftI_snoc, hs, stepR_eT] at this ⊢
  omega
theorem fitB_iff {t m : Mach} (v : TV t) (tp : TP t) (vm : Valid m) (hins : m.ins = t.ins) : fitB t m = true ↔ ∀ n i : Nat, n < t.rows.length → (i : Int) < t.ins → okW t m n i = true := by
 classical
 unfold fitB
 rw [decide_eq_true_eq]
 exact ⟨fun ⟨h, hf⟩ n i hn hi => hf.okW v tp vm hins hn hi, fun h => ⟨_, okW_fit v tp vm hins h⟩⟩
end Go.Avl
namespace Go.Avl
open Go Go.Proofs.Try
set_option maxRecDepth 10000
set_option linter.unusedSimpArgs false
def aftZ (m : Mach) : Int → List Int → Int
 | s, [] => s
 | s, a :: w => aftZ m (stepR m s a).1 w
theorem aftZ_cast (m : Mach) : ∀ (s : Int) (w : List Nat), aftZ m s (castW w) = aftI m s w
 | _, [] => rfl
 | _, _ :: w => aftZ_cast m _ w
theorem runR_at (m : Mach) : ∀ (s : Int) (w : List Int) (k : Nat) (a : Int), w[k]? = some a → (runR m s w)[k]? = some (stepR m (aftZ m s (w.take k)) a).2
 | s, [], k, a, h => by simp at h
 | s, x :: w, 0, a, h => by
   simp at h; subst h
   simp [runR, aftZ]
 | s, x :: w, k + 1, a, h => by
   rw [runR, List.getElem?_cons_succ, List.take_succ_cons, aftZ]
   exact runR_at m _ w k a (by simpa using h)
theorem aftZ_snoc (m : Mach) (a : Int) : ∀ (s : Int) (w : List Int), aftZ m s (w ++ [a]) = (stepR m (aftZ m s w) a).1
 | _, [] => rfl
 | _, _ :: w => aftZ_snoc m a _ w
theorem treeM_edge {ins : Nat} {outs : Int} {L : List TR} {n i : Nat} {x : List Int} (hx : (nodesL L)[n]? = some x) (hi : i < ins) : eT (treeM ins outs L) n i = edgeOf L (nodesL L) (x ++ [(i : Int)]) := by
 unfold eT treeM
 simp only [List.getElem?_map, hx, Option.map_some, Option.getD_some, treeRow]
 rw [List.getElem?_range hi]; rfl
theorem nodesL_get {L : List TR} {w : List Int} (h : w ∈ nodesL L) : (nodesL L)[(nodesL L).idxOf w]? = some w := by
 have hl := List.idxOf_lt_length_of_mem h
 rw [List.getElem?_eq_getElem hl, List.getElem_idxOf hl]
theorem wordN_tree {ins : Nat} {outs : Int} {L : List TR} (hv : ∀ t ∈ L, TrVal ins outs t) (hc : Cons L) (v : TV (treeM ins outs L)) (tp : TP (treeM ins outs L)) : ∀ n, n < (nodesL L).length → (nodesL L)[n]? = some (castW (wordN (treeM ins outs L) n)) := by
 have hlen : (treeM ins outs L).rows.length = (nodesL L).length := by simp [treeM]
 intro n
 induction n using Nat.strongRecOn with
 | _ n ih =>
   intro hn
   by_cases h0 : n = 0
   ·subst h0
    rw [kids_all hv, wordN_zero]; rfl
   ·have hp := parT_lt v tp (n := n) (by omega) (by omega)
    have he := parT_to v tp (n := n) (by omega) (by omega)
    have hw := wordN_eq v tp (n := n) (by omega) (by omega)
    have hx := ih _ hp.1 (by omega)
    have hi : (parT (treeM ins outs L) n).2 < ins := by have : ((parT (treeM ins outs L) n).2 : Int) < (ins : Int) := hp.2; omega
    rw [treeM_edge hx hi] at he
    rcases edge_cases hv hc (w := castW (wordN (treeM ins outs L) (parT (treeM ins outs L) n).1) ++ [((parT (treeM ins outs L) n).2 : Int)]) (by simp) with ⟨_, h1⟩ | ⟨h1, k, _, _, _, h2⟩
    ·rcases h1 with h1 | h1 <;> (rw [h1] at he; simp only at he; omega)
    ·rw [h2] at he
     simp only at he
     have hg := nodesL_get h1
     rw [show (nodesL L).idxOf (castW (wordN (treeM ins outs L) (parT (treeM ins outs L) n).1) ++ [((parT (treeM ins outs L) n).2 : Int)]) = n by omega] at hg
     rw [hg, hw, castW, castW, List.map_append]; rfl
theorem tree_fit {ins : Nat} {outs : Int} {L : List TR} (hv : ∀ t ∈ L, TrVal ins outs t) (hc : Cons L) (hck : checkT (treeM ins outs L) = 0) {m : Mach} (vm : Valid m) (hins : m.ins = ins) :
  fitB (treeM ins outs L) m = true ↔ ∀ t ∈ L, runR m 0 t.w = t.r := by
 have v := TV.of hck
 have tp := TP.of hck
 have hlen : (treeM ins outs L).rows.length = (nodesL L).length := by simp [treeM]
 have hti : (treeM ins outs L).ins = ins := rfl
 rw [fitB_iff v tp vm (by rw [hti]; exact hins), hlen, hti]
 have hok : ∀ n i : Nat, n < (nodesL L).length → i < ins → ∃ x, (nodesL L)[n]? = some x ∧ okW (treeM ins outs L) m n i = (!knownE (edgeOf L (nodesL L) (x ++ [(i : Int)])) || decide ((stepR m (aftZ m 0 x) (i : Int)).2 = outT (edgeOf L (nodesL L) (x ++ [(i : Int)])))) := fun n i hn hi => by
  have hx := wordN_tree hv hc v tp n hn
  refine ⟨_, hx, ?_⟩
  rw [okW, treeM_edge hx hi, aftZ_cast]
 have hout : ∀ (x : List Int) (a o : Int), lastL L (x ++ [a]) = some o → knownE (edgeOf L (nodesL L) (x ++ [a])) = true ∧ outT (edgeOf L (nodesL L) (x ++ [a])) = o := fun x a o h => by
  have he : edgeOf L (nodesL L) (x ++ [a]) = if o = -1 then (-1, -2) else (posOf (nodesL L) (x ++ [a]), o) := by rw [edgeOf, h]
  by_cases ho : o = -1
  ·rw [if_pos ho] at he
   rw [he, ho]; exact ⟨rfl, rfl⟩
  ·rw [if_neg ho] at he
   rcases edge_cases hv hc (w := x ++ [a]) (by simp) with ⟨_, h1⟩ | ⟨_, k, h1, _, _, h2⟩
   ·obtain ⟨t, ht, hw, hr⟩ := lastL_mem h
    have hkl : (x ++ [a]).length - 1 < t.r.length := by
     have := hw.1
     have := (hv t ht).len
     simp at *; omega
    rcases (hv t ht).get hkl with h3 | h3
    ·rcases h1 with h1 | h1 <;> (rw [he] at h1; have := congrArg Prod.snd h1; simp only at this; omega)
    ·omega
   ·rw [h2]
    have : k = o := by rw [h] at h1; exact (Option.some.inj h1).symm
    subst this
    have hne : ((((nodesL L).idxOf (x ++ [a]) : Nat) : Int)) ≠ -1 := by omega
    exact ⟨knownE_to hne, by unfold outT; rw [if_neg hne]⟩
 constructor
 ·intro H t ht
  have tv := hv t ht
  have key : ∀ k a, t.w[k]? = some a → k ≤ preN t.r → (stepR m (aftZ m 0 (t.w.take k)) a).2 = (t.r[k]?).getD 0 := fun k a ha hk => by
   have hkl : k < t.w.length := (List.getElem?_eq_some_iff.1 ha).1
   have hnode : t.w.take k ∈ nodesL L := by
    rw [mem_nodesL]
    by_cases h0 : k = 0
    ·subst h0; exact .inl (by simp)
    ·exact .inr ⟨t, ht, k - 1, by omega, by rw [show k - 1 + 1 = k by omega]⟩
   have hn := List.idxOf_lt_length_of_mem hnode
   have hs := tv.sym a (List.mem_of_getElem? ha)
   obtain ⟨i, hi⟩ : ∃ i : Nat, a = (i : Int) := ⟨a.toNat, by omega⟩
   subst hi
   obtain ⟨x, hx, hxo⟩ := hok _ i hn (by omega)
   rw [nodesL_get hnode] at hx
   cases hx
   have htk : t.w.take k ++ [(i : Int)] = t.w.take (k + 1) := by rw [List.take_succ, ha]; rfl
   have hl := hc.last ht (w := t.w.take (k + 1)) (by rw [← htk]; simp) (hasW_take t (k + 1))
   rw [show (t.w.take (k + 1)).length - 1 = k by rw [List.length_take]; omega, ← htk] at hl
   obtain ⟨h1, h2⟩ := hout _ _ _ hl
   have h3 := H _ i hn (by omega)
   rw [hxo, h1, h2] at h3
   simpa using h3
  have hneg : ∀ k, preN t.r < k → k ≤ t.w.length → aftZ m 0 (t.w.take k) < 0 := by
   intro k
   induction k with
   | zero => intro h; omega
   | succ k ih =>
     intro h1 h2
     have ha : t.w[k]? = some t.w[k] := List.getElem?_eq_getElem (by omega)
     rw [List.take_succ, ha]
     simp only [Option.toList_some]
     rw [aftZ_snoc]
     by_cases hk : k = preN t.r
     ·have h3 := key k _ ha (by omega)
      have hrl : k < t.r.length := by rw [tv.len]; omega
      have hr : (t.r[k]?).getD 0 = -1 := by
       rcases tv.get hrl with h | h
       ·omega
       ·exact h.2
      rw [hr] at h3
      have hs := tv.sym _ (List.mem_of_getElem? ha)
      by_cases hneg : aftZ m 0 (t.w.take k) < 0
      ·rw [stepR_neg hneg]; decide
      ·obtain ⟨s, hs'⟩ : ∃ s : Nat, aftZ m 0 (t.w.take k) = (s : Int) := ⟨_, (Int.toNat_of_nonneg (by omega)).symm⟩
       obtain ⟨i, hi⟩ : ∃ i : Nat, t.w[k] = (i : Int) := ⟨(t.w[k]).toNat, by omega⟩
       rw [hs', hi, stepR_eT] at h3 ⊢
       by_cases hsl : s < m.rows.length
       ·obtain ⟨_, _, _, _, he⟩ := vm.edge hsl (i := i) (by omega)
        rcases he with he | he
        ·rw [he]; decide
        ·omega
       ·have : m.rows[s]? = none := List.getElem?_eq_none (by omega)
        simp [eT, this]
     ·rw [stepR_neg (ih (by omega) (by omega))]; decide
  apply List.ext_getElem?
  intro k
  by_cases hk : k < t.w.length
  ·have ha : t.w[k]? = some t.w[k] := List.getElem?_eq_getElem hk
   have hrl : k < t.r.length := by rw [tv.len]; exact hk
   have hr : t.r[k]? = some ((t.r[k]?).getD 0) := by rw [List.getElem?_eq_getElem hrl]; rfl
   rw [runR_at m 0 t.w k _ ha, hr]
   congr 1
   by_cases hp : k ≤ preN t.r
   ·exact key k _ ha hp
   ·rw [stepR_neg (hneg k (by omega) (by omega))]
    rcases tv.get hrl with h | h
    ·omega
    ·exact h.2.symm
  ·rw [List.getElem?_eq_none (by rw [runR_len]; omega), List.getElem?_eq_none (by rw [tv.len]; omega)]
 ·intro H n i hn hi
  obtain ⟨x, hx, hxo⟩ := hok n i hn (by omega)
  rw [hxo]
  cases hl : lastL L (x ++ [(i : Int)]) with
  | none => rw [edgeOf, hl]; rfl
  | some o =>
    obtain ⟨h1, h2⟩ := hout _ _ _ hl
    rw [h1, h2]
    obtain ⟨t, ht, hw, hr⟩ := lastL_mem hl
    have hwl := hw.1
    rw [List.length_append, List.length_singleton] at hwl
    have hxt := hw.2
    rw [List.length_append, List.length_singleton] at hxt
    have ha : t.w[x.length]? = some (i : Int) := by
     have := congrArg (fun l => l[x.length]?) hxt
     simp only [List.getElem?_append_right (Nat.le_refl _), Nat.sub_self] at this
     rw [List.getElem?_take, if_pos (by omega)] at this
     exact this
    have hxx : t.w.take x.length = x := by
     have := congrArg (fun l => l.take x.length) hxt
     simp only [List.take_left', List.take_take] at this
     rw [Nat.min_eq_left (by omega)] at this
     rw [this]
    have hrun := runR_at m 0 t.w x.length _ ha
    rw [H t ht, hxx] at hrun
    rw [List.length_append, List.length_singleton, Nat.add_sub_cancel, hrun] at hr
    simp [hr]
end Go.Avl
namespace Go.Avl
open Go Go.Proofs.Try
set_option maxRecDepth 10000
set_option linter.unusedSimpArgs false
def mM (t : Mach) (rows : List (List (Int × Int))) : Mach := ⟨t.ins, t.outs, false, rows.map fun r => (false, r)⟩
theorem mM_rows (t : Mach) (rows : List (List (Int × Int))) : (mM t rows).rows.map (·.2) = rows := by
 unfold mM
 rw [List.map_map]
 exact List.map_id' rows
theorem mM_unk2 (t : Mach) (rows : List (List (Int × Int))) : AV.unk (.ag [.sc (.int .i64 t.ins), .sc (.int .i64 t.outs), .sl false (rows.map rowF) .unk]) = .ag (mM t rows).cells := by
 have h : AV.unkss (rows.map rowF) = (rows.map fun r => ((false, r) : Row)).map rowC := by
  rw [unkss_eq, List.map_map, List.map_map]
  refine List.map_congr_left fun r _ => ?_
  have : AV.unkss (r.map edgeC) = r.map edgeC := unkss_map edgeC (fun _ => rfl) r
  simp [rowF, rowC, AV.unks, AV.unk, this]
 simp only [AV.unk, AV.unks, h, mM, Mach.cells]
theorem mergeT_ok {t : Mach} (v : TV t) (tp : TP t) {rows : List (List (Int × Int))} (h : mergeT t = some rows) : checkM (mM t rows) = 0 ∧ fitB t (mM t rows) = true ∧ 1 ≤ rows.length ∧ rows.length ≤ 64 ∧ ∀ r ∈ rows, (r.length : Int) = t.ins := by
 classical
 obtain ⟨c, red, h1, h2, h3, h4, h5, rfl⟩ := mergeC_end v _ _ _ (isF_alone t) (redOk_zero v) rfl rows h
 have hm := mM_rows t (machC t c red)
 have hin := v.ins
 refine ⟨machC_check v tp h2 h4 h5 rfl rfl hm, ?_, ?_, ?_, fun r hr => ?_⟩
 ·unfold fitB
  rw [decide_eq_true_eq]
  exact ⟨_, machC_fits v tp h1 h2 h3 h5 hm⟩
 ·have := (List.getElem?_eq_some_iff.1 h3).1
  simp [machC]; omega
 ·simp [machC]; exact h4
 ·obtain ⟨s, _, rfl⟩ := List.mem_map.1 hr
  simp; omega
end Go.Avl
namespace Go.Avl
open Go Go.Proofs.Try
set_option maxRecDepth 10000
set_option linter.unusedSimpArgs false
theorem mM_unk3 (t : Mach) (rows : List (List (Int × Int))) : AV.unk (.ag [.sc (.int .i64 t.ins), .sc (.int .i64 t.outs), .sl false (rows.map rowF) .full]) = .ag (mM t rows).cells := by
 rw [← mM_unk2]; rfl
end Go.Avl
namespace Go.Avl
open Go Go.Proofs.Try
set_option maxRecDepth 10000
set_option linter.unusedSimpArgs false
theorem edgeK_find (t : Mach) (c : List Nat) (s i : Nat) : ∀ n, (edgeK t c s i n = (-1, -1) ∧ ∀ m, m < n → stN c m = s → (eT t m i).1 = -1) ∨ ∃ m, m < n ∧ stN c m = s ∧ (eT t m i).1 ≠ -1 ∧ edgeK t c s i n = (((stN c (eT t m i).1.toNat : Nat) : Int), (eT t m i).2)
 | 0 => .inl ⟨rfl, fun m h => by omega⟩
 | n + 1 => by
   rw [edgeK]
   by_cases h : stN c n = s ∧ (eT t n i).1 ≠ -1
   ·rw [if_pos h]
    exact .inr ⟨n, by omega, h.1, h.2, rfl⟩
   ·rw [if_neg h]
    rcases edgeK_find t c s i n with ⟨h1, h2⟩ | ⟨m, h1, h2⟩
    ·refine .inl ⟨h1, fun m hm hs => ?_⟩
     by_cases e : m = n
     ·subst e
      exact Decidable.byContradiction fun hne => h ⟨hs, hne⟩
     ·exact h2 m (by omega) hs
    ·exact .inr ⟨m, by omega, h2⟩
theorem stN_take {c : List Nat} {n m : Nat} (h : m < n) : stN (c.take n) m = stN c m := by
 unfold stN
 rw [List.getElem?_take, if_pos h]
theorem GoodC.same {t : Mach} (v : TV t) (tp : TP t) {k : Nat} {c : List Nat} (hg : GoodC t k c) (hl : c.length = t.rows.length) {p q i : Nat} (hp : p < t.rows.length) (hq : q < t.rows.length) (hi : (i : Int) < t.ins) (hc : stN c p = stN c q) :
  clashE (eT t p i) (eT t q i) = false ∧ ((eT t p i).1 ≠ -1 → (eT t q i).1 ≠ -1 → stN c (eT t p i).1.toNat = stN c (eT t q i).1.toNat) := by
 have hpos : ∀ n, n < t.rows.length → possB t (c.take n) (stN c n) = true := fun n hn => (hg n _ (stN_get (by omega))).2.2
 have hcl : ∀ p q, p < q → q < t.rows.length → stN c p = stN c q → clashE (eT t p i) (eT t q i) = false := fun p q hpq hq hc => by
  have h1 := hpos q hq
  unfold possB at h1
  rw [List.all_eq_true] at h1
  have h2 := h1 p (List.mem_range.2 (by rw [List.length_take]; omega))
  cases hx : clashE (eT t p i) (eT t q i) with
  | false => rfl
  | true =>
    have := possM_clash (t := t) (c := c.take q) (k := stN c q) (m := p) (i := i) (by rw [stN_take hpq]; exact hc) hi (by unfold clashN; rw [List.length_take, Nat.min_eq_left (by omega)]; exact hx)
    rw [h2] at this; cases this
 have hto : ∀ p q a b : Nat, (eT t p i).1 = (a : Int) → (eT t q i).1 = (b : Int) → p < t.rows.length → q < t.rows.length → a < b → stN c p = stN c q → stN c a = stN c b := fun p q a b ha hb hp hq hab hc => by
  obtain ⟨k1, k2, k3, _⟩ := wordN_edge v tp hq hi hb
  have h1 := hpos b k2
  unfold possB at h1
  rw [List.all_eq_true] at h1
  obtain ⟨j1, j2, _, _⟩ := wordN_edge v tp hp hi ha
  have h2 := h1 p (List.mem_range.2 (by rw [List.length_take]; omega))
  unfold possM at h2
  simp only [Bool.and_eq_true] at h2
  have h3 := h2.2
  unfold wrongN at h3
  have hlen : (c.take b).length = b := by rw [List.length_take]; omega
  rw [hlen, k3] at h3
  simp only at h3
  rw [stN_take (by omega), stN_take (by omega), ha, Int.toNat_natCast, stN_take hab, decide_eq_true hc, decide_eq_true (show (a : Int) ≠ -1 by omega), decide_eq_true (show (a : Int) < (b : Int) by omega)] at h3
  simpa using h3
 refine ⟨?_, fun h1 h2 => ?_⟩
 ·by_cases h : p < q
  ·exact hcl p q h hq hc
  ·by_cases h' : q < p
   ·rw [clashE_symm]; exact hcl q p h' hp hc.symm
   ·obtain rfl : p = q := by omega
    cases hk : knownE (eT t p i) with
    | true => exact clashE_self hk
    | false => unfold clashE; rw [hk]; rfl
 ·have e1 := v.to hp hi h1
  have e2 := v.to hq hi h2
  by_cases h : (eT t p i).1.toNat < (eT t q i).1.toNat
  ·exact hto p q _ _ e1.1.symm e2.1.symm hp hq h hc
  ·by_cases h' : (eT t q i).1.toNat < (eT t p i).1.toNat
   ·exact (hto q p _ _ e2.1.symm e1.1.symm hq hp h' hc.symm).symm
   ·rw [show (eT t p i).1.toNat = (eT t q i).1.toNat by omega]
theorem eT_rowsK {t m : Mach} {c : List Nat} {k : Nat} (hm : m.rows.map (·.2) = rowsK t c k) {s i : Nat} (hs : s < k) (hi : (i : Int) < t.ins) : eT m s i = edgeK t c s i t.rows.length := by
 have h1 : (m.rows[s]?).map (·.2) = some ((List.range t.ins.toNat).map fun i => edgeK t c s i t.rows.length) := by
  rw [← List.getElem?_map, hm, rowsK, List.getElem?_map, List.getElem?_range hs]; rfl
 rw [eT, h1, Option.getD_some, List.getElem?_map, List.getElem?_range (by omega)]; rfl
theorem rowsK_fits {t m : Mach} (v : TV t) (tp : TP t) {k : Nat} {c : List Nat} (hg : GoodC t k c) (hl : c.length = t.rows.length) (hx : ∀ x ∈ c, x < k) (hk : 1 ≤ k) (hm : m.rows.map (·.2) = rowsK t c k) : FitH t m (stN c) := by
 have hrw := v.rows
 refine ⟨?_, fun n i hn hi => ?_⟩
 ·have := (hg 0 _ (stN_get (by omega))).2.1
  rw [List.take_zero] at this
  exact Nat.le_zero.1 this
 ·rw [eT_rowsK hm (stN_lt hx (by omega)) hi]
  rcases edgeK_find t c (stN c n) i t.rows.length with ⟨h1, h2⟩ | ⟨q, h1, h2, h3, h4⟩
  ·have := h2 n hn rfl
   rw [h1]
   refine ⟨?_, fun h => absurd this h⟩
   unfold okB
   rw [this]; simp
  ·obtain ⟨g1, g2⟩ := hg.same v tp hl h1 hn hi h2
   rw [h4]
   by_cases hkn : knownE (eT t n i) = true
   ·rw [clashE_iff (knownE_to h3) hkn] at g1
    have g5 : (eT t n i).1 ≠ -1 := fun e => h3 (g1.1.2 e)
    refine ⟨?_, fun _ => by simp only; rw [g2 h3 g5]⟩
    unfold okB
    rw [hkn, decide_eq_false g5]
    simp only
    rw [decide_eq_false (show ¬ ((stN c (eT t q i).1.toNat : Nat) : Int) = -1 by omega), g1.2 h3]
    simp
   ·have hkf : knownE (eT t n i) = false := by simpa using hkn
    exact ⟨by unfold okB; rw [hkf]; rfl, fun h => absurd (knownE_to h) hkn⟩
theorem rowsK_check {t m : Mach} (v : TV t) {k : Nat} {c : List Nat} (hl : c.length = t.rows.length) (hx : ∀ x ∈ c, x < k) (hk : 1 ≤ k ∧ k ≤ 64) (hi : m.ins = t.ins) (ho : m.outs = t.outs) (hm : m.rows.map (·.2) = rowsK t c k) : checkM m = 0 := by
 have hin := v.ins
 have hou := v.outs
 have hml : m.rows.length = k := by have := congrArg List.length hm; simpa [rowsK] using this
 unfold checkM
 rw [if_neg (by omega), if_neg (by omega), if_pos]
 rw [List.all_eq_true]
 intro r hrm
 have h2 : r.2 ∈ rowsK t c k := by rw [← hm]; exact List.mem_map.2 ⟨r, hrm, rfl⟩
 unfold rowsK at h2
 obtain ⟨s, hs, h3⟩ := List.mem_map.1 h2
 unfold rowOk
 rw [← h3, hi, ho, hml]
 have hlen : (((List.range t.ins.toNat).map fun i => edgeK t c s i t.rows.length).length : Int) = t.ins := by simp; omega
 simp only [Bool.and_eq_true, decide_eq_true_eq]
 refine ⟨hlen, ?_⟩
 rw [Bool.not_eq_true', List.any_eq_false]
 intro e he
 obtain ⟨i, hi', rfl⟩ := List.mem_map.1 he
 simp only [Bool.not_eq_true', Bool.not_eq_false]
 have hi' := List.mem_range.1 hi'
 have hii : (i : Int) < t.ins := by omega
 rcases edgeK_find t c s i t.rows.length with ⟨h1, _⟩ | ⟨q, h1, h2, h3, h4⟩
 ·rw [h1]; rfl
 ·have ht := v.to h1 hii h3
  have he := v.edge h1 hii
  have hlt : stN c (eT t q i).1.toNat < k := stN_lt hx (by omega)
  rw [h4]
  unfold fitsR
  have : 0 ≤ (eT t q i).2 ∧ (eT t q i).2 < t.outs := by
   rcases he with h | h
   ·exact absurd h.1 h3
   ·exact ⟨h.2.2.1, h.2.2.2⟩
  simp only [Bool.or_eq_true, Bool.and_eq_true, decide_eq_true_eq]
  exact .inr ⟨⟨⟨by omega, by omega⟩, this.1⟩, this.2⟩
end Go.Avl
namespace Go.Avl
open Go Go.Proofs.Try
set_option maxRecDepth 10000
set_option linter.unusedSimpArgs false
theorem nodup_le : ∀ (n : Nat) (l : List Nat), l.Nodup → (∀ x ∈ l, x < n) → l.length ≤ n
 | 0, [], _, _ => Nat.le_refl _
 | 0, x :: _, _, h => absurd (h x List.mem_cons_self) (Nat.not_lt_zero _)
 | n + 1, l, hn, h => by
   have h1 := nodup_le n (l.erase n) (hn.erase n) fun x hx => by
    have := h x (List.mem_of_mem_erase hx)
    have : x ≠ n := fun e => by
     subst e
     exact absurd hx (by rw [hn.mem_erase_iff]; simp)
    omega
   have h2 : l.length ≤ (l.erase n).length + 1 := by
    rw [List.length_erase]; split <;> omega
   omega
theorem idx_mem {l r : List Nat} {a : Nat} (h : a ∈ l) : (l ++ r).idxOf a = l.idxOf a := by rw [List.idxOf_append, if_pos h]
theorem idx_not {l r : List Nat} {a : Nat} (h : a ∉ l) : (l ++ r).idxOf a = l.length + r.idxOf a := by rw [List.idxOf_append, if_neg h, Nat.add_comm]
def seenF (h : Nat → Nat) : Nat → List Nat
 | 0 => []
 | n + 1 => if h n ∈ seenF h n then seenF h n else seenF h n ++ [h n]
theorem seenF_mem {h : Nat → Nat} : ∀ {n m : Nat}, m < n → h m ∈ seenF h n
 | n + 1, m, hm => by
   rw [seenF]
   by_cases e : m = n
   ·subst e
    split
    ·assumption
    ·simp
   ·have := seenF_mem (h := h) (n := n) (m := m) (by omega)
    split
    ·exact this
    ·exact List.mem_append_left _ this
theorem seenF_lt {h : Nat → Nat} {K : Nat} : ∀ {n : Nat}, (∀ m, m < n → h m < K) → ∀ x ∈ seenF h n, x < K
 | 0, _, x, hx => by cases hx
 | n + 1, hK, x, hx => by
   rw [seenF] at hx
   have ih := seenF_lt (h := h) (n := n) fun m hm => hK m (by omega)
   split at hx
   ·exact ih x hx
   ·rcases List.mem_append.1 hx with hx | hx
    ·exact ih x hx
    ·rw [List.mem_singleton.1 hx]; exact hK n (by omega)
theorem seenF_nodup (h : Nat → Nat) : ∀ n, (seenF h n).Nodup
 | 0 => List.nodup_nil
 | n + 1 => by
   rw [seenF]
   split
   ·exact seenF_nodup h n
   ·rename_i hn
    rw [List.nodup_append]
    refine ⟨seenF_nodup h n, by simp, fun a ha b hb he => ?_⟩
    rw [List.mem_singleton.1 hb] at he
    exact hn (he ▸ ha)
theorem seenF_pre (h : Nat → Nat) : ∀ (d n : Nat), ∃ r, seenF h (n + d) = seenF h n ++ r
 | 0, n => ⟨[], by simp⟩
 | d + 1, n => by
   obtain ⟨r, hr⟩ := seenF_pre h d n
   rw [show n + (d + 1) = (n + d) + 1 by omega, seenF]
   split
   ·exact ⟨r, hr⟩
   ·exact ⟨r ++ [h (n + d)], by rw [hr, List.append_assoc]⟩
theorem seenF_idx {h : Nat → Nat} {n M m : Nat} (hm : m < n) (hn : n ≤ M) : (seenF h M).idxOf (h m) = (seenF h n).idxOf (h m) := by
 obtain ⟨r, hr⟩ := seenF_pre h (M - n) n
 rw [show n + (M - n) = M by omega] at hr
 rw [hr, idx_mem (seenF_mem hm)]
def colF (h : Nat → Nat) (N : Nat) : List Nat := (List.range N).map fun n => (seenF h (n + 1)).idxOf (h n)
theorem colF_len (h : Nat → Nat) (N : Nat) : (colF h N).length = N := by simp [colF]
theorem colF_get {h : Nat → Nat} {N n : Nat} (hn : n < N) : stN (colF h N) n = (seenF h N).idxOf (h n) := by
 unfold stN colF
 rw [List.getElem?_map, List.getElem?_range hn]
 simp only [Option.map_some, Option.getD_some]
 exact (seenF_idx (by omega) (by omega)).symm
theorem colF_inj {h : Nat → Nat} {N m n : Nat} (hm : m < N) (hn : n < N) : stN (colF h N) m = stN (colF h N) n ↔ h m = h n := by
 rw [colF_get hm, colF_get hn]
 refine ⟨fun e => ?_, fun e => by rw [e]⟩
 have h1 := List.idxOf_lt_length_of_mem (seenF_mem (h := h) hm)
 have h2 := List.idxOf_lt_length_of_mem (seenF_mem (h := h) hn)
 have e1 : (seenF h N)[(seenF h N).idxOf (h m)] = h m := List.getElem_idxOf h1
 have e2 : (seenF h N)[(seenF h N).idxOf (h n)] = h n := List.getElem_idxOf h2
 rw [← e1, ← e2]
 congr 1
theorem colF_used (h : Nat → Nat) (N : Nat) : ∀ n, n ≤ N → usedN ((colF h N).take n) = (seenF h n).length
 | 0, _ => by simp [usedN, seenF]
 | n + 1, hn => by
   have hg : (colF h N)[n]? = some ((seenF h (n + 1)).idxOf (h n)) := by unfold colF; rw [List.getElem?_map, List.getElem?_range (by omega)]; rfl
   rw [List.take_succ, hg]
   simp only [Option.toList_some]
   rw [usedN_snoc, colF_used h N n (by omega), seenF]
   split
   ·rename_i hm
    have := List.idxOf_lt_length_of_mem hm
    omega
   ·rename_i hm
    rw [idx_not hm]
    simp
theorem okB_noclash {y a b : Int × Int} (ha : okB y a = true) (hb : okB y b = true) : clashE a b = false := by
 cases ka : knownE a with
 | false => unfold clashE; rw [ka]; rfl
 | true =>
   cases kb : knownE b with
   | false => unfold clashE; rw [kb]; simp
   | true =>
     unfold okB at ha hb
     rw [ka] at ha
     rw [kb] at hb
     simp only [Bool.not_true, Bool.false_or, Bool.and_eq_true, Bool.or_eq_true, beq_iff_eq, decide_eq_true_eq, decide_eq_decide] at ha hb
     rw [clashE_iff ka kb]
     refine ⟨by rw [ha.1, hb.1], fun h => ?_⟩
     have h2 : b.1 ≠ -1 := fun e => h (ha.1.2 (hb.1.1 e))
     rw [← ha.2.resolve_left h, ← hb.2.resolve_left h2]
theorem FitH.good {t m : Mach} (v : TV t) (tp : TP t) {h : Nat → Nat} (hf : FitH t m h) {K : Nat} (hK : ∀ n, n < t.rows.length → h n < K) : GoodC t K (colF h t.rows.length) := by
 intro n x hx
 have hn : n < t.rows.length := by have := (List.getElem?_eq_some_iff.1 hx).1; rwa [colF_len] at this
 have hxs : stN (colF h t.rows.length) n = x := by unfold stN; rw [hx]; rfl
 have hxi := colF_get (h := h) hn
 rw [hxs] at hxi
 have hxl := List.idxOf_lt_length_of_mem (seenF_mem (h := h) hn)
 have hle := nodup_le K _ (seenF_nodup h t.rows.length) (seenF_lt hK)
 refine ⟨by omega, ?_, ?_⟩
 ·rw [colF_used h t.rows.length n (by omega), hxi, seenF_idx (n := n + 1) (by omega) (by omega), seenF]
  split
  ·rename_i hm
   have := List.idxOf_lt_length_of_mem hm
   omega
  ·rename_i hm
   rw [idx_not hm]
   simp
 ·have hlen : ((colF h t.rows.length).take n).length = n := by rw [List.length_take, colF_len]; omega
  refine possB_true fun q hq => ?_
  rw [hlen] at hq
  unfold possM
  rw [stN_take hq]
  have h1 : (decide (stN (colF h t.rows.length) q = x) && (List.range t.ins.toNat).any (clashN t q ((colF h t.rows.length).take n).length)) = false := by
   by_cases e : stN (colF h t.rows.length) q = x
   ·rw [decide_eq_true e, Bool.true_and, hlen]
    rw [← hxs, colF_inj (by omega) hn] at e
    refine any_false_of fun i hi => ?_
    unfold clashN
    have a1 := (hf.ok q i (by omega) (by omega)).1
    have a2 := (hf.ok n i hn (by omega)).1
    rw [e] at a1
    exact okB_noclash a1 a2
   ·rw [decide_eq_false e]; rfl
  have h2 : wrongN t ((colF h t.rows.length).take n) x q = false := by
   unfold wrongN
   rw [hlen, stN_take hq]
   have hp := parT_lt v tp (n := n) (by omega) hn
   have hto := parT_to v tp (n := n) (by omega) hn
   rw [stN_take hp.1]
   by_cases e1 : stN (colF h t.rows.length) q = stN (colF h t.rows.length) (parT t n).1
   rotate_left
   ·rw [decide_eq_false e1]; rfl
   by_cases e2 : (eT t q (parT t n).2).1 = -1
   ·rw [e2]; simp
   by_cases e3 : (eT t q (parT t n).2).1 < (n : Int)
   rotate_left
   ·rw [decide_eq_false e3]; simp
   have hv := v.to (show q < t.rows.length by omega) hp.2 e2
   rw [colF_inj (by omega) (by omega)] at e1
   have a1 := (hf.ok q _ (by omega) hp.2).2 e2
   have a2 := (hf.ok _ _ (show (parT t n).1 < t.rows.length by omega) hp.2).2 (by omega)
   rw [e1] at a1
   rw [hto, Int.toNat_natCast] at a2
   have e4 : h (eT t q (parT t n).2).1.toNat = h n := by omega
   rw [stN_take (by omega), ← hxs, (colF_inj (N := t.rows.length) (by omega) hn).2 e4]
   simp
  rw [h1, h2]; rfl
theorem FitH.lt {t m : Mach} (v : TV t) (tp : TP t) (vm : Valid m) (hins : m.ins = t.ins) {h : Nat → Nat} (hf : FitH t m h) : ∀ n, n < t.rows.length → h n < m.rows.length := by
 intro n
 induction n using Nat.strongRecOn with
 | _ n ih =>
   intro hn
   by_cases h0 : n = 0
   ·subst h0; rw [hf.root]; have := vm.rows; omega
   ·have hp := parT_lt v tp (by omega) hn
    have he := parT_to v tp (n := n) (by omega) hn
    have ih := ih _ hp.1 (by omega)
    have a := (hf.ok _ _ (show (parT t n).1 < t.rows.length by omega) hp.2).2 (by omega)
    rw [he, Int.toNat_natCast] at a
    obtain ⟨_, _, _, _, hx⟩ := vm.edge ih (i := (parT t n).2) (by have := hp.2; omega)
    rcases hx with hx | hx
    ·rw [hx] at a; simp only at a; omega
    ·omega
theorem fitB_good {t m : Mach} (v : TV t) (tp : TP t) (vm : Valid m) (hins : m.ins = t.ins) (h : fitB t m = true) : ∃ c, GoodC t m.rows.length c ∧ c.length = t.rows.length := by
 classical
 unfold fitB at h
 rw [decide_eq_true_eq] at h
 obtain ⟨f, hf⟩ := h
 exact ⟨_, hf.good v tp (hf.lt v tp vm hins), colF_len _ _⟩
theorem mergeC_none {t : Mach} (v : TV t) : ∀ (f : Nat) (c red : List Nat), IsF t c → RedOk t c red → sumR c t.rows.length + (65 - red.length) < f → mergeC t f c red = none → 64 < t.rows.length
 | 0, c, red, _, _, hf, _ => by omega
 | f + 1, c, red, hc, hr, hf, h => by
   rw [mergeC] at h
   split at h
   ·rename_i hl
    have hn := hr.nodup hc
    have := nodup_le t.rows.length _ hn fun x hx => by
     obtain ⟨r, hr', rfl⟩ := List.mem_map.1 hx
     have := hr.lt r hr'
     have := hc.can.le r
     omega
    rw [List.length_map] at this
    omega
   ·rename_i hl
    split at h
    ·cases h
    ·rename_i hn
     obtain ⟨k1, k2, k3⟩ := next_node v hn
     split at h
     ·rename_i d hd
      obtain ⟨a1, a2⟩ := hr.absorb v hc k1 hd
      have := absorb_sum v hr hc k1 k2 hd
      exact mergeC_none v f d red a2 a1 (by omega) h
     ·rename_i hd
      refine mergeC_none v f c _ hc (hr.push v hc k1 hd) ?_ h
      rw [List.length_append, List.length_singleton]; omega
theorem mergeT_some {t : Mach} (v : TV t) (h : t.rows.length ≤ 64) : ∃ rows, mergeT t = some rows := by
 cases hm : mergeT t with
 | some rows => exact ⟨rows, rfl⟩
 | none =>
   have hs := sumR_le (upOk_range t.rows.length) t.rows.length
   have := mergeC_none v _ _ _ (isF_alone t) (redOk_zero v) (by simp only [List.length_singleton]; omega) hm
   omega
theorem leastL_limit {t : Mach} : ∀ (n k fuel : Nat), leastL t n k fuel = .limit → ∀ j, k ≤ j → j < k + n → ∃ f f2, srch t j t.rows.length [] 0 f = .fail f2
 | 0, k, fuel, _, j, h1, h2 => by omega
 | n + 1, k, fuel, h, j, h1, h2 => by
   rw [leastL] at h
   cases hs : srch t k t.rows.length [] 0 fuel with
   | found c2 f2 => rw [hs] at h; cases h
   | spent => rw [hs] at h; cases h
   | fail f2 =>
     rw [hs] at h
     by_cases e : j = k
     ·subst e; exact ⟨fuel, f2, hs⟩
     ·exact leastL_limit n (k + 1) f2 h j (by omega) (by omega)
theorem leastL_nolimit {t : Mach} {fuel K : Nat} (hK : 1 ≤ K ∧ K ≤ 64) {c : List Nat} (hg : GoodC t K c) (hl : c.length = t.rows.length) : leastL t 64 1 fuel ≠ .limit := fun h => by
 obtain ⟨f, f2, hs⟩ := leastL_limit 64 1 fuel h K hK.1 (by omega)
 have := srch_compl t K hg t.rows.length 0 f f2 (by omega)
 rw [List.take_zero] at this
 exact this hs
end Go.Avl
namespace Go.Avl
open Go Go.Proofs.Try
set_option maxRecDepth 10000
set_option linter.unusedSimpArgs false
theorem nodesL_len5 : ∀ (L : List TR) (l : List (List Int)), (∀ t ∈ L, t.r.length ≤ 5) → (L.foldl (fun l t => addP t l (preN t.r)) l).length ≤ l.length + 5 * L.length
 | [], l, _ => by simp
 | t :: L, l, h => by
   rw [List.foldl_cons]
   have h1 := nodesL_len5 L (addP t l (preN t.r)) fun u hu => h u (List.mem_cons_of_mem _ hu)
   have h2 := addP_len t l (preN t.r)
   have h3 := preN_le t.r
   have h4 := h t List.mem_cons_self
   rw [List.length_cons]
   omega
theorem runR_take (m : Mach) : ∀ (s : Int) (w : List Int) (k : Nat), runR m s (w.take k) = (runR m s w).take k
 | s, [], k => by simp [runR]
 | s, a :: w, 0 => by simp [runR]
 | s, a :: w, k + 1 => by rw [List.take_succ_cons, runR, runR, List.take_succ_cons, runR_take m _ w k]
def LG.rtree (g : LG) : Mach := treeM g.m.mach.ins.toNat g.m.mach.outs (fewL g.runs)
theorem LG.rtree_ok {g : LG} (hg : g.Ok) : checkT g.rtree = 0 ∧ g.rtree.rows.length ≤ 16 ∧ fitB g.rtree g.m.mach = true ∧ g.rtree.ins = g.m.mach.ins := by
 have va := LM.valid hg.m
 have hv := few_val (LG.runs_val hg)
 have hl := few_len g.runs
 have hrun : ∀ t ∈ fewL g.runs, t.r = runR g.m.mach 0 t.w := fun t ht => by
  obtain ⟨u, hu, rfl⟩ := List.mem_map.1 ht
  obtain ⟨y, _, rfl⟩ := List.mem_map.1 (List.mem_of_mem_take hu)
  simp only [cutT, runT]
  rw [runR_take]
 have hc : Cons (fewL g.runs) := by
  have key : ∀ (m : Mach) (L : List TR), (∀ t ∈ L, t.r = runR m 0 t.w) → Cons L := fun m L h => by
   intro t ht u hu w hw h1 h2
   have hlw : w.length ≠ 0 := fun h => hw (List.length_eq_zero_iff.1 h)
   have key : ∀ t : TR, hasW t w → (runR m 0 t.w)[w.length - 1]? = (runR m 0 w)[w.length - 1]? := fun t h => by
    have := congrArg (fun r => r[w.length - 1]?) (runR_take m 0 t.w w.length)
    rw [h.2] at this
    simp only [List.getElem?_take] at this
    rw [this, if_pos (by omega)]
   rw [h t ht, h u hu, key t h1, key u h2]
  exact key _ _ hrun
 have hn : (nodesL (fewL g.runs)).length ≤ 16 := by
  have := nodesL_len5 (fewL g.runs) [[]] fun t ht => by rw [(hv t ht).len]; exact hl.2 t ht
  unfold nodesL
  simp only [List.length_singleton] at this
  omega
 have hck := checkT_tree hv hc (by have := va.ins; omega) va.outs (by omega)
 have hti : (g.m.mach.ins.toNat : Int) = g.m.mach.ins := Int.toNat_of_nonneg (by have := va.ins; omega)
 refine ⟨hck, ?_, ?_, hti⟩
 ·unfold LG.rtree treeM; simp only [List.length_map]; exact hn
 ·exact (tree_fit hv hc hck va hti.symm).2 fun t ht => (hrun t ht).symm
set_option maxHeartbeats 8000000 in
theorem mergesFew_is {g : LG} (hg : g.Ok) : PureIs prog 8 [.ag g.cells] (.sc (.bool true)) := by
 obtain ⟨hck, hN, hown, hti⟩ := LG.rtree_ok hg
 have va := LM.valid hg.m
 have hR := runs26_is hg
 have hrv := LG.runs_val hg
 have hrs := LG.runs_short (g := g)
 have hrl : g.runs.length ≤ 12 := runsTo_len _ _ _
 have hF := few30_is g.m.mach.ins g.m.mach.outs g.runs (fun t ht => ⟨(hrv t ht).len, by have := hrs t ht; omega⟩) (by omega)
 have hfl := few_len g.runs
 have hT := tree27_is g.m.mach.ins.toNat g.m.mach.outs (fewL g.runs).isEmpty (fewL g.runs) .unk (fun t ht => ⟨((few_val hrv) t ht).len, by have := hfl.2 t ht; omega⟩) (by omega) (by have := va.ins; omega)
 rw [Int.toNat_of_nonneg (show 0 ≤ g.m.mach.ins by have := va.ins; omega), show treeM g.m.mach.ins.toNat g.m.mach.outs (fewL g.runs) = g.rtree from rfl] at hT
 have hL := lives15_is
 have hM := mOf_is hg.m
 have hRF := treeM_rowsF g.m.mach.ins.toNat g.m.mach.outs (fewL g.runs)
 rw [show treeM g.m.mach.ins.toNat g.m.mach.outs (fewL g.runs) = g.rtree from rfl] at hRF
 generalize g.rtree = t at hck hN hown hti hT hRF
 have v := TV.of hck
 have tp := TP.of hck
 have hrw := v.rows
 have hin := v.ins
 have c1 := least31_is t v.short 20000 (by omega)
 unfold leastRes at c1
 rw [nodesE_zero hck (by intro x hx; cases hx), if_neg (by simp), if_neg (by simp)] at c1
 obtain ⟨rows, hrows⟩ := mergeT_some v (by omega)
 have c2 := merge20_is t v.short hRF
 unfold mergeRes at c2
 rw [nodesE_zero hck (by intro x hx; cases hx), if_neg (by simp), hrows] at c2
 obtain ⟨m1, m2, m3, m4, m5⟩ := mergeT_ok v tp hrows
 have hml : (mM t rows).rows.length = rows.length := by simp [mM]
 obtain ⟨cm, hcm, hcml⟩ := fitB_good v tp (Valid.of m1) rfl m2
 obtain ⟨co, hco, hcol⟩ := fitB_good v tp va hti.symm hown
 rw [hml] at hcm
 have hnl := leastL_nolimit (fuel := (20000 : Int).toNat) ⟨m3, m4⟩ hcm hcml
 have hdn := fun c k f h => leastL_all (t := t) (n := 64) (fuel := (20000 : Int).toNat) (c := c) (k := k) (f := f) hrw.1 h
 have hle := fun c k f h => leastL_least (t := t) (n := 64) (fuel := (20000 : Int).toNat) (c := c) (k := k) (f := f) h m3 hcm hcml
 have hlo := fun c k f h => leastL_least (t := t) (n := 64) (fuel := (20000 : Int).toNat) (c := c) (k := k) (f := f) h va.rows.1 hco hcol
 generalize leastL t 64 1 (20000 : Int).toNat = r at c1 hnl hdn hle hlo
 unfold logA at hF
 have hmrl : g.m.mach.rows.length < 1000000 := by have := va.rows; omega
 unfold LG.cells at *
 cases r with
 | limit => exact absurd rfl hnl
 | spent =>
   simp only [zeroM] at c1
   rw [Mach.cells] at hT c1
   refine PureIs.of (nv := 3) (hid := [3, 4, 5, 6, 7, 8, 9, 10, 11, 12, 25]) func8 rfl (by kernel_rfl) (by simp [ntmps8]) fun _ => ?_
   rw [ntmps8, results8]
   refine EvC.seq (EvC.rg (by simp only [go_sem] <;> rfl) (by simp) ?_)
   refine EvC.frzB 0 (by simp only [go_sem] <;> rfl) ?_
   apply EvC.seq
   apply EvC.tr
   ·apply Tr.run
    ·simp only [go_sem] <;> rfl
    ·simp
    apply Tr.cons
    ·exact .call rfl rfl (by simp only [go_sem] <;> rfl) (by simp only [go_sem] <;> rfl) (by simp only [go_sem] <;> rfl) (by simp only [go_sem] <;> rfl) (by simp only [go_sem] <;> rfl) (hR)
    apply Tr.run
    ·simp only [go_sem] <;> rfl
    ·simp
    apply Tr.cons
    ·exact .call rfl rfl (by simp only [go_sem] <;> rfl) (by simp only [go_sem] <;> rfl) (by simp only [go_sem] <;> rfl) (by simp only [go_sem] <;> rfl) (by simp only [go_sem] <;> rfl) (hF)
    apply Tr.done
    ·simp only [go_sem] <;> rfl
    ·simp
   refine EvC.frzB 5 (by simp only [go_sem] <;> rfl) ?_
   refine EvC.gc [1, 3] [] 0 rfl ?_
   apply EvC.seq
   apply EvC.tr
   ·apply Tr.run
    ·simp only [go_sem] <;> rfl
    ·simp
    apply Tr.cons
    ·exact .call rfl rfl (by simp only [go_sem] <;> rfl) (by simp only [go_sem] <;> rfl) (by simp only [go_sem] <;> rfl) (by simp only [go_sem] <;> rfl) (by simp only [go_sem] <;> rfl) (hT)
    apply Tr.done
    ·simp only [go_sem] <;> rfl
    ·simp
   refine EvC.frzB 2 (by simp only [go_sem] <;> rfl) ?_
   refine EvC.gc [1, 4] [] 0 rfl ?_
   apply EvC.seq
   apply EvC.tr
   ·apply Tr.run
    ·simp only [go_sem] <;> rfl
    ·simp
    apply Tr.cons
    ·exact .call rfl rfl (by simp only [go_sem] <;> rfl) (by simp only [go_sem] <;> rfl) (by simp only [go_sem] <;> rfl) (by simp only [go_sem] <;> rfl) (by simp only [go_sem] <;> rfl) (c1)
    apply Tr.done
    ·simp only [go_sem] <;> rfl
    ·simp
   refine EvC.frzB 6 (by simp only [go_sem] <;> rfl) ?_
   refine EvC.seq ?_
   refine EvC.seq (EvC.rg (by simp only [go_sem] <;> rfl) (by simp) ?_)
   refine EvC.cond_true (by simp only [go_sem] <;> rfl) ?_
   apply EvC.seq
   apply EvC.tr
   ·apply Tr.run
    ·simp only [go_sem] <;> rfl
    ·simp
    apply Tr.cons
    ·exact .callG rfl rfl (by simp only [go_sem] <;> rfl) rfl (by simp only [go_sem] <;> rfl) (by simp only [go_sem] <;> rfl) (by simp only [go_sem] <;> rfl) (by simp only [go_sem] <;> rfl) (by simp only [go_sem] <;> rfl) (hL)
    apply Tr.done
    ·simp only [go_sem] <;> rfl
    ·simp
   refine EvC.ret ⟨.inl rfl, _, (by simp only [go_sem] <;> rfl), ?_, rfl⟩
   simp only [go_sem]
 | done c k f =>
   obtain ⟨d1, d2, d3, d4, d5, d6, d7⟩ := hdn c k f rfl
   have e1 := hle c k f rfl
   have e2 := hlo c k f rfl
   have hKm := mM_rows t (rowsK t c k)
   have hKc : checkM (mM t (rowsK t c k)) = 0 := rowsK_check v d4 d3 ⟨d5, d6⟩ rfl rfl hKm
   have hKf : fitB t (mM t (rowsK t c k)) = true := by
    classical
    unfold fitB
    rw [decide_eq_true_eq]
    exact ⟨_, rowsK_fits v tp d7 d4 d3 d5 hKm⟩
   have tu : AV.unk (.ag t.cells) = .ag t.cells := by
    have h : AV.unkss (t.rows.map rowC) = t.rows.map rowC := by
     refine unkss_map rowC (fun x => ?_) t.rows
     have : AV.unkss (x.2.map edgeC) = x.2.map edgeC := unkss_map edgeC (fun _ => rfl) _
     simp [rowC, AV.unks, AV.unk, this]
    simp only [Mach.cells, AV.unk, AV.unks, h]
   have hrl2 : ∀ r ∈ (mM t (rowsK t c k)).rows, r.2.length < 1000000 := fun r hr => by
    obtain ⟨x, hx, rfl⟩ := List.mem_map.1 hr
    obtain ⟨s, _, rfl⟩ := List.mem_map.1 hx
    simp; omega
   have f0 : PureIs prog 23 [.ag [.sc (.int .i64 t.ins), .sc (.int .i64 t.outs), .sl false ((rowsK t c k).map rowF) .full], .ag t.cells] (.tu [.sc (.bool true), .sc (.int .i64 0)]) := by
    refine PureIs.weak ?_
    rw [List.map_cons, List.map_cons, List.map_nil, mM_unk3, tu]
    have := fits23_is t (mM t (rowsK t c k)) v.short hrl2
    unfold fitAns at this
    rw [hKc, hck, if_neg (by simp), if_neg (by simp), if_neg (show ¬ (mM t (rowsK t c k)).ins ≠ t.ins from fun h => h rfl), hKf] at this
    exact this
   simp only at c1 c2
   rw [colRes, rowsV_rowsK] at c1
   have hkl : ((rowsK t c k).map rowF).length = k := by simp [rowsK]
   have hml2 : (rows.map rowFu).length = rows.length := by simp
   have hol : (g.m.mach.rows.map rowC).length = g.m.mach.rows.length := by simp
   generalize (rowsK t c k).map rowF = KR at c1 f0 hkl
   rw [Mach.cells] at hT c1 c2 f0 hM
   unfold LM.cells at hM
   refine PureIs.of (nv := 3) (hid := [3, 4, 5, 6, 7, 8, 9, 10, 11, 12, 25]) func8 rfl (by kernel_rfl) (by simp [ntmps8]) fun _ => ?_
   rw [ntmps8, results8]
   refine EvC.seq (EvC.rg (by simp only [go_sem] <;> rfl) (by simp) ?_)
   refine EvC.frzB 0 (by simp only [go_sem] <;> rfl) ?_
   apply EvC.seq
   apply EvC.tr
   ·apply Tr.run
    ·simp only [go_sem] <;> rfl
    ·simp
    apply Tr.cons
    ·exact .call rfl rfl (by simp only [go_sem] <;> rfl) (by simp only [go_sem] <;> rfl) (by simp only [go_sem] <;> rfl) (by simp only [go_sem] <;> rfl) (by simp only [go_sem] <;> rfl) (hR)
    apply Tr.run
    ·simp only [go_sem] <;> rfl
    ·simp
    apply Tr.cons
    ·exact .call rfl rfl (by simp only [go_sem] <;> rfl) (by simp only [go_sem] <;> rfl) (by simp only [go_sem] <;> rfl) (by simp only [go_sem] <;> rfl) (by simp only [go_sem] <;> rfl) (hF)
    apply Tr.done
    ·simp only [go_sem] <;> rfl
    ·simp
   refine EvC.frzB 5 (by simp only [go_sem] <;> rfl) ?_
   refine EvC.gc [1, 3] [] 0 rfl ?_
   apply EvC.seq
   apply EvC.tr
   ·apply Tr.run
    ·simp only [go_sem] <;> rfl
    ·simp
    apply Tr.cons
    ·exact .call rfl rfl (by simp only [go_sem] <;> rfl) (by simp only [go_sem] <;> rfl) (by simp only [go_sem] <;> rfl) (by simp only [go_sem] <;> rfl) (by simp only [go_sem] <;> rfl) (hT)
    apply Tr.done
    ·simp only [go_sem] <;> rfl
    ·simp
   refine EvC.frzB 2 (by simp only [go_sem] <;> rfl) ?_
   refine EvC.gc [1, 4] [] 0 rfl ?_
   apply EvC.seq
   apply EvC.tr
   ·apply Tr.run
    ·simp only [go_sem] <;> rfl
    ·simp
    apply Tr.cons
    ·exact .call rfl rfl (by simp only [go_sem] <;> rfl) (by simp only [go_sem] <;> rfl) (by simp only [go_sem] <;> rfl) (by simp only [go_sem] <;> rfl) (by simp only [go_sem] <;> rfl) (c1)
    apply Tr.done
    ·simp only [go_sem] <;> rfl
    ·simp
   refine EvC.frzB 6 (by simp only [go_sem] <;> rfl) ?_
   refine EvC.gc [1, 4, 5, 6, 7] [] 0 rfl ?_
   refine EvC.seq ?_
   refine EvC.seq (EvC.rg (by simp only [go_sem] <;> rfl) (by simp) ?_)
   refine EvC.cond_false (by simp only [go_sem] <;> rfl) ?_
   refine EvC.skip ?_
   refine EvC.gc [1, 4, 5, 6, 7] [] 0 rfl ?_
   apply EvC.seq
   apply EvC.tr
   ·apply Tr.run
    ·simp only [go_sem] <;> rfl
    ·simp
    apply Tr.cons
    ·exact .call rfl rfl (by simp only [go_sem] <;> rfl) (by simp only [go_sem] <;> rfl) (by simp only [go_sem] <;> rfl) (by simp only [go_sem] <;> rfl) (by simp only [go_sem] <;> rfl) (c2)
    apply Tr.done
    ·simp only [go_sem] <;> rfl
    ·simp
   refine EvC.frzB 5 (by simp only [go_sem] <;> rfl) ?_
   refine EvC.gc [1, 4, 5, 7, 8, 9] [] 0 rfl ?_
   apply EvC.seq
   apply EvC.tr
   ·apply Tr.run
    ·simp only [go_sem] <;> rfl
    ·simp
    apply Tr.cons
    ·exact .call rfl rfl (by simp only [go_sem] <;> rfl) (by simp only [go_sem] <;> rfl) (by simp only [go_sem] <;> rfl) (by simp only [go_sem] <;> rfl) (by simp only [go_sem] <;> rfl) (f0)
    apply Tr.done
    ·simp only [go_sem] <;> rfl
    ·simp
   refine EvC.gc [1, 5, 7, 8, 9, 10, 11] [] 0 rfl ?_
   apply EvC.seq
   apply EvC.tr
   ·apply Tr.run
    ·simp only [go_sem] <;> rfl
    ·simp
    apply Tr.cons
    ·exact .call rfl rfl (by simp only [go_sem] <;> rfl) (by simp only [go_sem] <;> rfl) (by simp only [go_sem] <;> rfl) (by simp only [go_sem] <;> rfl) (by simp only [go_sem] <;> rfl) (hM)
    apply Tr.done
    ·simp only [go_sem] <;> rfl
    ·simp
   refine EvC.frzB 3 (by simp only [go_sem] <;> rfl) ?_
   refine EvC.gc [5, 7, 8, 9, 10, 11, 12] [] 0 rfl ?_
   have l1 := decide_eq_true (show (k : Int) ≤ (rows.length : Int) by omega)
   have l2 := decide_eq_true (show (k : Int) ≤ (g.m.mach.rows.length : Int) by omega)
   apply EvC.seq
   apply EvC.tr
   ·apply Tr.run
    ·simp only [go_sem, hkl, hml2, hol, l1, l2] <;> rfl
    ·simp
    apply Tr.cons
    ·exact .callG rfl rfl (by simp only [go_sem] <;> rfl) rfl (by simp only [go_sem] <;> rfl) (by simp only [go_sem] <;> rfl) (by simp only [go_sem] <;> rfl) (by simp only [go_sem] <;> rfl) (by simp only [go_sem] <;> rfl) (hL)
    apply Tr.done
    ·simp only [go_sem] <;> rfl
    ·simp
   refine EvC.ret ⟨.inl rfl, _, (by simp only [go_sem] <;> rfl), ?_, rfl⟩
   simp only [go_sem]
end Go.Avl
namespace Go.Proofs.Ytkfpnkpomjmpeaa
open Go Go.Avl Go.Proofs Go.ChangeShapes Go.RowKit
set_option maxRecDepth 100000 in
theorem mergesFew_lifted (os : Os) (started : os.Started) (H : Type) (enc : TypeId × Value → H) :
  ReturnsInHanded {} Try.checked os 8 .any (Rows.mergesFewSpec.pre6 enc Try.prog Try.f8 Rows.mergesFewRow.domain false) (Rows.mergesFewSpec.post enc Try.prog Try.f8 false true false false) := by
 refine returnsInHanded_of_change_sized (C := Try.checked) Try.own started (by kernel_rfl) Try.func8
  (ChangeSpec.witness6 (enc := enc) (C := Try.checked) false ⟨#[], #[.agg #[.int .u8 0, .int .u8 0, .int .u8 0, .bool false, .slice none 0 0, .slice none 0 0, .int .u8 0, .int .u8 0, .int .u8 0]], []⟩ 8 (by kernel_rfl) (by kernel_rfl) (by kernel_rfl) (by kernel_rfl)) ?_
 intro W base args ds gs before hval hW _ hz _
 have hW' := hW
 obtain ⟨p, q, hA, hV, rfl, _, _⟩ := hW'
 obtain ⟨rfl, rfl⟩ := trodVars_none hV
 have hA' : DataW.TrodAll enc Try.prog W 0 (fun _ => true) true [27] args.toList ds p := by rw [← show Try.f8.params.toList = [27] from rfl]; exact hA
 obtain ⟨v0, d0, rfl, rfl, h0⟩ := trodAll_one hA'
 have hz' : (DataW.weightsEach Try.prog [27] [d0]).all (· ≤ reachBytes) = true := hz
 have hf := fits_each (P := Try.prog) (ts := [27]) (l := [d0]) fun n hn => by simpa using List.all_eq_true.1 hz' n hn
 obtain ⟨x, hx, i0⟩ := rd_LG.imm_struct Try.underlying27 (hval 0 27 v0 rfl rfl) (hf 0 27 d0 rfl rfl) h0
 exact law_calls Try.laidOut (by kernel_rfl) rfl (by kernel_rfl) rfl rfl (mergesFew_is hx) (.one i0) hW
theorem mergesFew_holds : Rows.MergesFewSaid :=
 OpenClaim.holds_of_wide 8 Try.f8 rfl rfl rfl rfl rfl rfl rfl ⟨rfl, rfl, rfl, rfl, rfl⟩ rfl rfl rfl rfl rfl (by kernel_rfl) Try.func8 (by kernel_rfl)
  (of_decide_eq_true (by kernel_rfl)) (by unfold Func.isWrapper; first | (rw [if_pos (by decide +kernel)]; kernel_rfl) | (rw [if_neg (by decide +kernel)]; exact ⟨rfl, rfl⟩))
  (fun os started H enc _ => mergesFew_lifted os started H enc)
#print axioms mergesFew_holds
end Go.Proofs.Ytkfpnkpomjmpeaa
