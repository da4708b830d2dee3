/-
  Lemmas.
  Lemmas.
  Lemmas.
  A call that freezes an object lent to it: its result may be that object.
  Lemmas.
  Lemmas.
  A nil slice in a slot has no room.
  Lemmas.
  Lemmas.
  Lemmas.
  Lemmas.
  Lemmas.
  MergesLeast returns true at every input, and each argument reads behind the call as it read before.
-/
import Derived.Test.YtkfpnkpomjmpeaaPart9
set_option linter.unusedSimpArgs false
set_option linter.unusedVariables false
set_option linter.unnecessarySimpa false
set_option linter.deprecated false
namespace Go.Avl
open Go Go.Proofs.Try
set_option maxRecDepth 10000
set_option linter.unusedSimpArgs false
theorem TV.short {t : Mach} (v : TV t) : ∀ r ∈ t.rows, r.2.length < 1000000 := fun r hr => by
 obtain ⟨i, hi, rfl⟩ := List.mem_iff_getElem.1 hr
 have := (v.row i _ (List.getElem?_eq_getElem hi)).1
 have := v.ins
 omega
theorem nodesE_zero {t : Mach} (h : checkT t = 0) {l : List Int} (hl : ∀ x ∈ l, 0 ≤ x ∧ x < t.rows.length) : nodesE t l = 0 := by
 unfold nodesE
 rw [h, if_neg (by simp), if_pos]
 rw [List.all_eq_true]
 intro x hx
 have := hl x hx
 unfold inT
 simp; omega
end Go.Avl
namespace Go.Avl
open Go Go.Proofs.Try
set_option maxRecDepth 10000
set_option linter.unusedSimpArgs false
end Go.Avl
namespace Go.Avl
open Go Go.Proofs.Try
set_option maxRecDepth 10000
set_option linter.unusedSimpArgs false
def prA (p : Nat × Nat) : AV := .tu [.sc (.int .i64 p.1), .sc (.int .i64 p.2)]
set_option maxHeartbeats 4000000 in
theorem parent87_is {t : Mach} (v : TV t) (tp : TP t) {n : Nat} (hn : n < t.rows.length) : PureIs prog 87 [.ag t.cells, .sc (.int .i64 n)] (prA (parT t n)) := by
 have hrw := v.rows
 have hin := v.ins
 refine PureIs.of (nv := 3) (hid := [4, 5, 6, 7, 10, 16, 29]) func87 rfl (by kernel_rfl) (by simp [ntmps87]) fun _ => ?_
 rw [ntmps87, results87]
 refine EvC.seq (EvC.rg (by simp only [go_sem, Mach.cells] <;> rfl) (by simp) ?_)
 refine EvC.frzB 0 (by simp only [go_sem] <;> rfl) ?_
 refine EvC.seq ?_
 refine EvC.seq (EvC.rg (by simp only [go_sem] <;> rfl) (by simp) ?_)
 refine EvC.block ?_
 refine EvC.loopS (σ := Nat) (fun q => ⟨[(1, .sc (.int .i64 n)), (2, .ia t.cells), (6, .sc (.int .i64 q))], [], [], 0⟩) (fun q => n - q) (fun q => q ≤ n ∧ ∀ q' i' : Nat, q' < q → (i' : Int) < t.ins → (eT t q' i').1 ≠ (n : Int)) [1, 2, 6] 0 ?_ ?_
 ·exact ⟨[], 0, rfl, (by simp only [go_sem, Mach.cells, Int.natCast_zero] <;> rfl), Nat.zero_le _, fun q' i' h => absurd h (Nat.not_lt_zero _)⟩
 rintro q ⟨h1, h2⟩
 have hqin : (q : Int).toNat = q := Int.toNat_natCast q
 refine EvC.seq ?_
 refine EvC.seq (EvC.rg (by simp only [go_sem] <;> rfl) (by simp) ?_)
 refine EvC.cond (by simp only [go_sem] <;> rfl) (fun hc => ?_) (fun hc => ?_)
 rotate_left
 ·
  have hq : ¬ q < n := by simpa using hc
  have hp : parT t n = (0, 0) := by
   by_cases h0 : n = 0
   ·rw [h0]; rfl
   ·obtain ⟨p, i, k1, k2, k3⟩ := tp.has n (by omega) hn
    exact absurd k3 (h2 p i (by omega) k2)
  rw [hp]
  refine EvC.exit ?_
  refine EvC.seq (EvC.rg (by simp only [go_sem] <;> rfl) (by simp) ?_)
  refine EvC.ret ⟨.inl rfl, _, (by simp only [go_sem] <;> rfl), ?_, rfl⟩
  simp only [go_sem]
  rfl
 have hq : q < n := by simpa using hc
 clear hc
 refine EvC.skip ?_
 refine EvC.seq ?_
 refine EvC.block ?_
 refine EvC.seq (EvC.rg (by simp only [go_sem] <;> rfl) (by simp) ?_)
 refine EvC.block ?_
 refine EvC.loopS (σ := Nat) (fun i => ⟨[(1, .sc (.int .i64 n)), (2, .ia t.cells), (6, .sc (.int .i64 q)), (7, .sc (.int .i64 i))], [], [], 0⟩) (fun i => t.ins.toNat - i) (fun i => (i : Int) ≤ t.ins ∧ ∀ i' : Nat, i' < i → (eT t q i').1 ≠ (n : Int)) [1, 2, 6, 7] 0 ?_ ?_
 ·exact ⟨[], 0, rfl, (by simp only [go_sem, Mach.cells, Int.natCast_zero] <;> rfl), by omega, fun i' h => absurd h (Nat.not_lt_zero _)⟩
 rintro i ⟨h3, h4⟩
 have hiin : (i : Int).toNat = i := Int.toNat_natCast i
 refine EvC.seq ?_
 refine EvC.seq (EvC.rg (by simp only [go_sem, Mach.cells] <;> rfl) (by simp) ?_)
 refine EvC.cond (by simp only [go_sem] <;> rfl) (fun hc => ?_) (fun hc => ?_)
 rotate_left
 ·
  have hi : ¬ (i : Int) < t.ins := by simpa using hc
  refine EvC.exit ?_
  refine EvC.rg (by simp only [go_sem] <;> rfl) (by exact inI64_of (by omega) (by omega)) ?_
  exact ⟨[], q + 1, rfl, (by simp only [go_sem, Mach.cells, Int.natCast_add, Int.natCast_one] <;> rfl), ⟨hq, fun q' i' k1 k2 => by
   by_cases e : q' = q
   ·rw [e]; exact h4 i' (by omega)
   ·exact h2 q' i' (by omega) k2⟩, by omega⟩
 have hi : (i : Int) < t.ins := by simpa using hc
 clear hc
 refine EvC.skip ?_
 refine EvC.seq ?_
 refine EvC.block ?_
 obtain ⟨A, hA, hAl, hAi⟩ := row_get v (n := q) (i := i) (by omega) hi
 have hpq := fun h => parT_eq tp (n := n) hq hi h
 have hnx : (eT t q i).1 ≠ (n : Int) → ∀ i' : Nat, i' < i + 1 → (eT t q i').1 ≠ (n : Int) := fun h i' k1 => by
  by_cases e : i' = i
  ·rw [e]; exact h
  ·exact h4 i' (by omega)
 generalize eT t q i = e at hAi hpq hnx
 obtain ⟨e1, e2⟩ := e
 simp only at hpq hnx
 refine EvC.seq (EvC.rg (by simp only [go_sem, Mach.cells, hA, hAi, hqin, hiin, rowC, edgeC, List.length_map] <;> rfl) (by simp; try omega) ?_)
 by_cases he : e1 = (n : Int)
 ·refine EvC.cond_true (by simp only [go_sem, decide_eq_true he] <;> rfl) ?_
  rw [hpq he]
  refine EvC.seq (EvC.rg (by simp only [go_sem] <;> rfl) (by simp) ?_)
  refine EvC.ret ⟨.inl rfl, _, (by simp only [go_sem] <;> rfl), ?_, rfl⟩
  simp only [go_sem]
  rfl
 refine EvC.cond_false (by simp only [go_sem, decide_eq_false he] <;> rfl) ?_
 refine EvC.skip ?_
 refine EvC.rg (by simp only [go_sem] <;> rfl) (by exact inI64_of (by omega) (by omega)) ?_
 exact ⟨[], i + 1, rfl, (by simp only [go_sem, Mach.cells, Int.natCast_add, Int.natCast_one] <;> rfl), ⟨by omega, hnx he⟩, by omega⟩
set_option maxHeartbeats 8000000 in
theorem possible78_is {t : Mach} (v : TV t) (tp : TP t) (nl : Bool) {c : List Nat} (cp : Cp) (hn : c.length < t.rows.length) (k : Nat) : PureIs prog 78 [.ag t.cells, .sl nl (c.map natC) cp, .sc (.int .i64 k)] (.sc (.bool (possB t c k))) := by
 have hrw := v.rows
 have hin := v.ins
 have hP := parent87_is v tp hn
 obtain ⟨hp1, hp2⟩ := parT_in v tp hn
 have hwr : ∀ m, wrongN t c k m = (decide (stN c m = stN c (parT t c.length).1) && decide ((eT t m (parT t c.length).2).1 ≠ -1) && decide ((eT t m (parT t c.length).2).1 < (c.length : Int)) && !decide (stN c (eT t m (parT t c.length).2).1.toNat = k)) := fun _ => rfl
 have hcl : (c.map natC).length = c.length := List.length_map _
 rw [Mach.cells, prA] at hP
 obtain ⟨n, hnd⟩ : ∃ n, n = c.length := ⟨_, rfl⟩
 rw [← hnd] at hn hP hp1 hp2 hcl hwr
 have hp0 : n ≠ 0 → (parT t n).1 < n := fun h => (parT_lt v tp (by omega) hn).1
 generalize parT t n = pj at hP hp1 hp2 hwr hp0
 obtain ⟨p, j⟩ := pj
 simp only at hP hp1 hp2 hwr hp0
 have hpin : (p : Int).toNat = p := Int.toNat_natCast p
 have hjin : (j : Int).toNat = j := Int.toNat_natCast j
 have hnin : (n : Int).toNat = n := Int.toNat_natCast n
 refine PureIs.of (nv := 4) (hid := [6, 7, 8, 9, 10, 11, 12, 23, 37, 56, 95]) func78 rfl (by kernel_rfl) (by simp [ntmps78]) fun _ => ?_
 rw [ntmps78, results78]
 refine EvC.seq (EvC.rg (by simp only [go_sem, Mach.cells] <;> rfl) (by simp) ?_)
 refine EvC.frzB 0 (by simp only [go_sem] <;> rfl) ?_
 refine EvC.seq (EvC.rg (by simp only [go_sem, hcl] <;> rfl) (by simp) ?_)
 apply EvC.seq
 apply EvC.tr
 ·apply Tr.run
  ·simp only [go_sem] <;> rfl
  ·simp
  apply Tr.cons
  ·exact .call rfl rfl (by simp only [go_sem] <;> rfl) (by simp only [go_sem] <;> rfl) (by simp only [go_sem] <;> rfl) (by simp only [go_sem] <;> rfl) (by simp only [go_sem] <;> rfl) (hP)
  apply Tr.done
  ·simp only [go_sem] <;> rfl
  ·simp
 refine EvC.seq ?_
 refine EvC.seq (EvC.rg (by simp only [go_sem] <;> rfl) (by simp) ?_)
 refine EvC.block ?_
 refine EvC.loopS (σ := Nat) (fun m => ⟨[(1, .sl nl (c.map natC) cp), (2, .sc (.int .i64 k)), (3, .ia t.cells), (7, .sc (.int .i64 n)), (8, .sc (.int .i64 p)), (9, .sc (.int .i64 j)), (10, .sc (.int .i64 m))], [], [], 0⟩) (fun m => n - m) (fun m => m ≤ n ∧ ∀ m', m' < m → possM t c k m' = true) [1, 2, 3, 7, 8, 9, 10] 0 ?_ ?_
 ·exact ⟨[], 0, rfl, (by simp only [go_sem, Mach.cells, Int.natCast_zero] <;> rfl), Nat.zero_le _, fun _ h => absurd h (Nat.not_lt_zero _)⟩
 rintro m ⟨h1, h2⟩
 have hmin : (m : Int).toNat = m := Int.toNat_natCast m
 refine EvC.seq ?_
 refine EvC.seq (EvC.rg (by simp only [go_sem] <;> rfl) (by simp) ?_)
 refine EvC.cond (by simp only [go_sem] <;> rfl) (fun hc => ?_) (fun hc => ?_)
 rotate_left
 ·
  have hm : ¬ m < n := by simpa using hc
  rw [possB_true fun m' hm' => h2 m' (by omega)]
  refine EvC.exit ?_
  refine EvC.seq (EvC.rg (by simp only [go_sem] <;> rfl) (by simp) ?_)
  refine EvC.ret ⟨.inl rfl, _, (by simp only [go_sem] <;> rfl), ?_, rfl⟩
  simp only [go_sem]
 have hm : m < n := by simpa using hc
 clear hc
 have hgm := stN_get (c := c) (m := m) (by omega)
 have hgp := stN_get (c := c) (m := p) (by have := hp0 (by omega); omega)
 refine EvC.skip ?_
 refine EvC.seq ?_
 refine EvC.block ?_
 refine EvC.seq ?_
 refine EvC.seq (EvC.rg (by simp only [go_sem] <;> rfl) (by simp) ?_)
 refine EvC.block ?_
 refine EvC.loopS (σ := Nat) (fun i => ⟨[(1, .sl nl (c.map natC) cp), (2, .sc (.int .i64 k)), (3, .ia t.cells), (7, .sc (.int .i64 n)), (8, .sc (.int .i64 p)), (9, .sc (.int .i64 j)), (10, .sc (.int .i64 m)), (11, .sc (.int .i64 i))], [], [], 0⟩) (fun i => t.ins.toNat - i) (fun i => (i : Int) ≤ t.ins ∧ (stN c m = k → ∀ i' : Nat, i' < i → clashN t m n i' = false)) [1, 2, 3, 7, 8, 9, 10, 11] 0 ?_ ?_
 ·exact ⟨[], 0, rfl, (by simp only [go_sem, Mach.cells, Int.natCast_zero] <;> rfl), by omega, fun _ _ h => absurd h (Nat.not_lt_zero _)⟩
 rintro i ⟨h3, h4⟩
 have hiin : (i : Int).toNat = i := Int.toNat_natCast i
 refine EvC.seq ?_
 have hnext : possM t c k m = true → ∀ m', m' < m + 1 → possM t c k m' = true := fun h m' hm' => by
  by_cases e : m' = m
  ·rw [e]; exact h
  ·exact h2 m' (by omega)
 have hkd : decide ((stN c m : Int) = (k : Int)) = decide (stN c m = k) := decide_eq_decide.2 (by omega)
 by_cases hi : (i : Int) < t.ins
 rotate_left
 ·have d1 := decide_eq_false hi
  have hnc : stN c m = k → ∀ i : Nat, (i : Int) < t.ins → clashN t m c.length i = false := fun h i' hi' => by rw [← hnd]; exact h4 h i' (by omega)
  apply EvC.seq
  apply EvC.trd
  ·simp only [go_sem, Mach.cells, d1, hgm, hmin, natC, hcl] <;> rfl
  ·simp; try omega
  refine EvC.cond_false (by simp only [go_sem] <;> rfl) ?_
  refine EvC.exit ?_
  have hpm := possM_noclash (t := t) (c := c) (k := k) (m := m) hnc
  rw [hwr] at hpm
  obtain ⟨A, hA, hAl, hAi⟩ := row_get v (n := m) (i := j) (by omega) hp2
  have eA := v.edge (n := m) (i := j) (by omega) hp2
  generalize eT t m j = e at hAi hpm eA
  obtain ⟨e1, e2⟩ := e
  simp only at hpm eA
  refine EvC.seq (EvC.rg (by simp only [go_sem, Mach.cells, hA, hAi, hmin, hjin, rowC, edgeC, List.length_map] <;> rfl) (by simp; try omega) ?_)
  have d0 := decide_eq_true (show (0 : Int) < (n : Int) by omega)
  have hgm2 : decide ((stN c m : Int) = (stN c p : Int)) = decide (stN c m = stN c p) := decide_eq_decide.2 (by omega)
  by_cases g2 : e1 = -1
  ·have d2 := decide_eq_true g2
   rw [decide_eq_false (show ¬ (e1 ≠ -1) from fun h => h g2)] at hpm
   have hg0 := stN_get (c := c) (m := e1.toNat) (by omega)
   by_cases g1 : stN c m = stN c p
   rotate_left
   ·have g1 := decide_eq_false g1
    rw [g1] at hpm hgm2
    apply EvC.seq
    apply EvC.drd mixed
    ·simp only [go_sem, d0, hgm, hgp, hmin, hpin, natC, hgm2, hcl, d2, hg0] <;> rfl
    ·simp; try omega
    ·kernel_rfl
    refine EvC.cond_false (by simp only [go_sem] <;> rfl) ?_
    refine EvC.skip ?_
    refine EvC.rg (by simp only [go_sem] <;> rfl) (by exact inI64_of (by omega) (by omega)) ?_
    exact ⟨[], m + 1, rfl, (by simp only [go_sem, Mach.cells, Int.natCast_add, Int.natCast_one] <;> rfl), ⟨hm, hnext hpm⟩, by omega⟩
   have g1 := decide_eq_true g1
   rw [g1] at hpm hgm2
   apply EvC.seq
   apply EvC.drd mixed
   ·simp only [go_sem, d0, hgm, hgp, hmin, hpin, natC, hgm2, hcl, d2, hg0] <;> rfl
   ·simp; try omega
   ·kernel_rfl
   refine EvC.cond_false (by simp only [go_sem] <;> rfl) ?_
   refine EvC.skip ?_
   refine EvC.rg (by simp only [go_sem] <;> rfl) (by exact inI64_of (by omega) (by omega)) ?_
   exact ⟨[], m + 1, rfl, (by simp only [go_sem, Mach.cells, Int.natCast_add, Int.natCast_one] <;> rfl), ⟨hm, hnext hpm⟩, by omega⟩
  have d2 := decide_eq_false g2
  rw [decide_eq_true (show e1 ≠ -1 from g2)] at hpm
  obtain ⟨q, rfl⟩ : ∃ q : Nat, e1 = q := ⟨e1.toNat, by omega⟩
  have hqin : (q : Int).toNat = q := Int.toNat_natCast q
  rw [hqin] at hpm
  by_cases g3 : q < n
  rotate_left
  ·have d3 := decide_eq_false (show ¬ (q : Int) < (n : Int) by omega)
   rw [d3] at hpm
   have hgq : c[q]? = none := List.getElem?_eq_none (by omega)
   by_cases g1 : stN c m = stN c p
   rotate_left
   ·have g1 := decide_eq_false g1
    rw [g1] at hpm hgm2
    apply EvC.seq
    apply EvC.drw mixed
    ·apply Tr.run
     ·simp only [go_sem, d0, hgm, hgp, hmin, hpin, natC, hgm2, hcl, d2, d3, hgq, hqin] <;> rfl
     ·simp; try omega
     apply Tr.cons
     ·exact .skipv ((.ia [.sc (.int .i64 0)])) rfl rfl (by simp only [go_sem] <;> rfl) (by simp only [go_sem] <;> rfl)
     apply Tr.done
     ·simp only [go_sem] <;> rfl
     ·simp
    ·kernel_rfl
    refine EvC.cond_false (by simp only [go_sem] <;> rfl) ?_
    refine EvC.skip ?_
    refine EvC.rg (by simp only [go_sem] <;> rfl) (by exact inI64_of (by omega) (by omega)) ?_
    exact ⟨[], m + 1, rfl, (by simp only [go_sem, Mach.cells, Int.natCast_add, Int.natCast_one] <;> rfl), ⟨hm, hnext hpm⟩, by omega⟩
   have g1 := decide_eq_true g1
   rw [g1] at hpm hgm2
   apply EvC.seq
   apply EvC.drw mixed
   ·apply Tr.run
    ·simp only [go_sem, d0, hgm, hgp, hmin, hpin, natC, hgm2, hcl, d2, d3, hgq, hqin] <;> rfl
    ·simp; try omega
    apply Tr.cons
    ·exact .skipv ((.ia [.sc (.int .i64 0)])) rfl rfl (by simp only [go_sem] <;> rfl) (by simp only [go_sem] <;> rfl)
    apply Tr.done
    ·simp only [go_sem] <;> rfl
    ·simp
   ·kernel_rfl
   refine EvC.cond_false (by simp only [go_sem] <;> rfl) ?_
   refine EvC.skip ?_
   refine EvC.rg (by simp only [go_sem] <;> rfl) (by exact inI64_of (by omega) (by omega)) ?_
   exact ⟨[], m + 1, rfl, (by simp only [go_sem, Mach.cells, Int.natCast_add, Int.natCast_one] <;> rfl), ⟨hm, hnext hpm⟩, by omega⟩
  have d3 := decide_eq_true (show (q : Int) < (n : Int) by omega)
  rw [d3] at hpm
  have hgq := stN_get (c := c) (m := q) (by omega)
  have hgq2 : decide ((stN c q : Int) = (k : Int)) = decide (stN c q = k) := decide_eq_decide.2 (by omega)
  by_cases g1 : stN c m = stN c p
  rotate_left
  ·have g1 := decide_eq_false g1
   rw [g1] at hpm hgm2
   apply EvC.seq
   apply EvC.drd mixed
   ·simp only [go_sem, d0, hgm, hgp, hmin, hpin, natC, hgm2, hcl, d2, d3, hgq, hqin, hgq2] <;> rfl
   ·simp; try omega
   ·kernel_rfl
   refine EvC.cond_false (by simp only [go_sem] <;> rfl) ?_
   refine EvC.skip ?_
   refine EvC.rg (by simp only [go_sem] <;> rfl) (by exact inI64_of (by omega) (by omega)) ?_
   exact ⟨[], m + 1, rfl, (by simp only [go_sem, Mach.cells, Int.natCast_add, Int.natCast_one] <;> rfl), ⟨hm, hnext hpm⟩, by omega⟩
  have g1 := decide_eq_true g1
  rw [g1] at hpm hgm2
  by_cases g4 : stN c q = k
  ·have d4 := decide_eq_true g4
   rw [d4] at hpm hgq2
   apply EvC.seq
   apply EvC.drd mixed
   ·simp only [go_sem, d0, hgm, hgp, hmin, hpin, natC, hgm2, hcl, d2, d3, hgq, hqin, hgq2] <;> rfl
   ·simp; try omega
   ·kernel_rfl
   refine EvC.cond_false (by simp only [go_sem] <;> rfl) ?_
   refine EvC.skip ?_
   refine EvC.rg (by simp only [go_sem] <;> rfl) (by exact inI64_of (by omega) (by omega)) ?_
   exact ⟨[], m + 1, rfl, (by simp only [go_sem, Mach.cells, Int.natCast_add, Int.natCast_one] <;> rfl), ⟨hm, hnext hpm⟩, by omega⟩
  have d4 := decide_eq_false g4
  rw [d4] at hpm hgq2
  rw [possB_false (m := m) (by omega) hpm]
  apply EvC.seq
  apply EvC.drd mixed
  ·simp only [go_sem, d0, hgm, hgp, hmin, hpin, natC, hgm2, hcl, d2, d3, hgq, hqin, hgq2] <;> rfl
  ·simp; try omega
  ·kernel_rfl
  refine EvC.cond_true (by simp only [go_sem] <;> rfl) ?_
  refine EvC.seq (EvC.rg (by simp only [go_sem] <;> rfl) (by simp) ?_)
  refine EvC.ret ⟨.inl rfl, _, (by simp only [go_sem] <;> rfl), ?_, rfl⟩
  simp only [go_sem]
 have d1 := decide_eq_true hi
 by_cases hk : stN c m = k
 rotate_left
 ·have hnc : stN c m = k → ∀ i : Nat, (i : Int) < t.ins → clashN t m c.length i = false := fun h => absurd h hk
  rw [decide_eq_false hk] at hkd
  apply EvC.seq
  apply EvC.trd
  ·simp only [go_sem, Mach.cells, d1, hgm, hmin, natC, hkd, hcl] <;> rfl
  ·simp; try omega
  refine EvC.cond_false (by simp only [go_sem] <;> rfl) ?_
  refine EvC.exit ?_
  have hpm := possM_noclash (t := t) (c := c) (k := k) (m := m) hnc
  rw [hwr] at hpm
  obtain ⟨A, hA, hAl, hAi⟩ := row_get v (n := m) (i := j) (by omega) hp2
  have eA := v.edge (n := m) (i := j) (by omega) hp2
  generalize eT t m j = e at hAi hpm eA
  obtain ⟨e1, e2⟩ := e
  simp only at hpm eA
  refine EvC.seq (EvC.rg (by simp only [go_sem, Mach.cells, hA, hAi, hmin, hjin, rowC, edgeC, List.length_map] <;> rfl) (by simp; try omega) ?_)
  have d0 := decide_eq_true (show (0 : Int) < (n : Int) by omega)
  have hgm2 : decide ((stN c m : Int) = (stN c p : Int)) = decide (stN c m = stN c p) := decide_eq_decide.2 (by omega)
  by_cases g2 : e1 = -1
  ·have d2 := decide_eq_true g2
   rw [decide_eq_false (show ¬ (e1 ≠ -1) from fun h => h g2)] at hpm
   have hg0 := stN_get (c := c) (m := e1.toNat) (by omega)
   by_cases g1 : stN c m = stN c p
   rotate_left
   ·have g1 := decide_eq_false g1
    rw [g1] at hpm hgm2
    apply EvC.seq
    apply EvC.drd mixed
    ·simp only [go_sem, d0, hgm, hgp, hmin, hpin, natC, hgm2, hcl, d2, hg0] <;> rfl
    ·simp; try omega
    ·kernel_rfl
    refine EvC.cond_false (by simp only [go_sem] <;> rfl) ?_
    refine EvC.skip ?_
    refine EvC.rg (by simp only [go_sem] <;> rfl) (by exact inI64_of (by omega) (by omega)) ?_
    exact ⟨[], m + 1, rfl, (by simp only [go_sem, Mach.cells, Int.natCast_add, Int.natCast_one] <;> rfl), ⟨hm, hnext hpm⟩, by omega⟩
   have g1 := decide_eq_true g1
   rw [g1] at hpm hgm2
   apply EvC.seq
   apply EvC.drd mixed
   ·simp only [go_sem, d0, hgm, hgp, hmin, hpin, natC, hgm2, hcl, d2, hg0] <;> rfl
   ·simp; try omega
   ·kernel_rfl
   refine EvC.cond_false (by simp only [go_sem] <;> rfl) ?_
   refine EvC.skip ?_
   refine EvC.rg (by simp only [go_sem] <;> rfl) (by exact inI64_of (by omega) (by omega)) ?_
   exact ⟨[], m + 1, rfl, (by simp only [go_sem, Mach.cells, Int.natCast_add, Int.natCast_one] <;> rfl), ⟨hm, hnext hpm⟩, by omega⟩
  have d2 := decide_eq_false g2
  rw [decide_eq_true (show e1 ≠ -1 from g2)] at hpm
  obtain ⟨q, rfl⟩ : ∃ q : Nat, e1 = q := ⟨e1.toNat, by omega⟩
  have hqin : (q : Int).toNat = q := Int.toNat_natCast q
  rw [hqin] at hpm
  by_cases g3 : q < n
  rotate_left
  ·have d3 := decide_eq_false (show ¬ (q : Int) < (n : Int) by omega)
   rw [d3] at hpm
   have hgq : c[q]? = none := List.getElem?_eq_none (by omega)
   by_cases g1 : stN c m = stN c p
   rotate_left
   ·have g1 := decide_eq_false g1
    rw [g1] at hpm hgm2
    apply EvC.seq
    apply EvC.drw mixed
    ·apply Tr.run
     ·simp only [go_sem, d0, hgm, hgp, hmin, hpin, natC, hgm2, hcl, d2, d3, hgq, hqin] <;> rfl
     ·simp; try omega
     apply Tr.cons
     ·exact .skipv ((.ia [.sc (.int .i64 0)])) rfl rfl (by simp only [go_sem] <;> rfl) (by simp only [go_sem] <;> rfl)
     apply Tr.done
     ·simp only [go_sem] <;> rfl
     ·simp
    ·kernel_rfl
    refine EvC.cond_false (by simp only [go_sem] <;> rfl) ?_
    refine EvC.skip ?_
    refine EvC.rg (by simp only [go_sem] <;> rfl) (by exact inI64_of (by omega) (by omega)) ?_
    exact ⟨[], m + 1, rfl, (by simp only [go_sem, Mach.cells, Int.natCast_add, Int.natCast_one] <;> rfl), ⟨hm, hnext hpm⟩, by omega⟩
   have g1 := decide_eq_true g1
   rw [g1] at hpm hgm2
   apply EvC.seq
   apply EvC.drw mixed
   ·apply Tr.run
    ·simp only [go_sem, d0, hgm, hgp, hmin, hpin, natC, hgm2, hcl, d2, d3, hgq, hqin] <;> rfl
    ·simp; try omega
    apply Tr.cons
    ·exact .skipv ((.ia [.sc (.int .i64 0)])) rfl rfl (by simp only [go_sem] <;> rfl) (by simp only [go_sem] <;> rfl)
    apply Tr.done
    ·simp only [go_sem] <;> rfl
    ·simp
   ·kernel_rfl
   refine EvC.cond_false (by simp only [go_sem] <;> rfl) ?_
   refine EvC.skip ?_
   refine EvC.rg (by simp only [go_sem] <;> rfl) (by exact inI64_of (by omega) (by omega)) ?_
   exact ⟨[], m + 1, rfl, (by simp only [go_sem, Mach.cells, Int.natCast_add, Int.natCast_one] <;> rfl), ⟨hm, hnext hpm⟩, by omega⟩
  have d3 := decide_eq_true (show (q : Int) < (n : Int) by omega)
  rw [d3] at hpm
  have hgq := stN_get (c := c) (m := q) (by omega)
  have hgq2 : decide ((stN c q : Int) = (k : Int)) = decide (stN c q = k) := decide_eq_decide.2 (by omega)
  by_cases g1 : stN c m = stN c p
  rotate_left
  ·have g1 := decide_eq_false g1
   rw [g1] at hpm hgm2
   apply EvC.seq
   apply EvC.drd mixed
   ·simp only [go_sem, d0, hgm, hgp, hmin, hpin, natC, hgm2, hcl, d2, d3, hgq, hqin, hgq2] <;> rfl
   ·simp; try omega
   ·kernel_rfl
   refine EvC.cond_false (by simp only [go_sem] <;> rfl) ?_
   refine EvC.skip ?_
   refine EvC.rg (by simp only [go_sem] <;> rfl) (by exact inI64_of (by omega) (by omega)) ?_
   exact ⟨[], m + 1, rfl, (by simp only [go_sem, Mach.cells, Int.natCast_add, Int.natCast_one] <;> rfl), ⟨hm, hnext hpm⟩, by omega⟩
  have g1 := decide_eq_true g1
  rw [g1] at hpm hgm2
  by_cases g4 : stN c q = k
  ·have d4 := decide_eq_true g4
   rw [d4] at hpm hgq2
   apply EvC.seq
   apply EvC.drd mixed
   ·simp only [go_sem, d0, hgm, hgp, hmin, hpin, natC, hgm2, hcl, d2, d3, hgq, hqin, hgq2] <;> rfl
   ·simp; try omega
   ·kernel_rfl
   refine EvC.cond_false (by simp only [go_sem] <;> rfl) ?_
   refine EvC.skip ?_
   refine EvC.rg (by simp only [go_sem] <;> rfl) (by exact inI64_of (by omega) (by omega)) ?_
   exact ⟨[], m + 1, rfl, (by simp only [go_sem, Mach.cells, Int.natCast_add, Int.natCast_one] <;> rfl), ⟨hm, hnext hpm⟩, by omega⟩
  have d4 := decide_eq_false g4
  rw [d4] at hpm hgq2
  rw [possB_false (m := m) (by omega) hpm]
  apply EvC.seq
  apply EvC.drd mixed
  ·simp only [go_sem, d0, hgm, hgp, hmin, hpin, natC, hgm2, hcl, d2, d3, hgq, hqin, hgq2] <;> rfl
  ·simp; try omega
  ·kernel_rfl
  refine EvC.cond_true (by simp only [go_sem] <;> rfl) ?_
  refine EvC.seq (EvC.rg (by simp only [go_sem] <;> rfl) (by simp) ?_)
  refine EvC.ret ⟨.inl rfl, _, (by simp only [go_sem] <;> rfl), ?_, rfl⟩
  simp only [go_sem]
 rw [decide_eq_true hk] at hkd
 apply EvC.seq
 apply EvC.trd
 ·simp only [go_sem, Mach.cells, d1, hgm, hmin, natC, hkd, hcl] <;> rfl
 ·simp; try omega
 refine EvC.cond_true (by simp only [go_sem] <;> rfl) ?_
 refine EvC.skip ?_
 refine EvC.seq ?_
 refine EvC.block ?_
 obtain ⟨A, hA, hAl, hAi⟩ := row_get v (n := m) (i := i) (by omega) hi
 obtain ⟨B, hB, hBl, hBi⟩ := row_get v (n := n) (i := i) hn hi
 have hck : clashN t m n i = clashE (eT t m i) (eT t n i) := rfl
 generalize eT t m i = x at hAi hck
 generalize eT t n i = y at hBi hck
 obtain ⟨x1, x2⟩ := x
 obtain ⟨y1, y2⟩ := y
 have hK := clash39_is x1 x2 y1 y2
 rw [← hck] at hK
 apply EvC.seq
 apply EvC.drw mixed
 ·apply Tr.run
  ·simp only [go_sem, Mach.cells, hA, hAi, hB, hBi, hmin, hnin, hiin, rowC, edgeC, List.length_map] <;> rfl
  ·simp; try omega
  apply Tr.cons
  ·exact .call rfl rfl (by simp only [go_sem] <;> rfl) (by simp only [go_sem] <;> rfl) (by simp only [go_sem] <;> rfl) (by simp only [go_sem] <;> rfl) (by simp only [go_sem] <;> rfl) (hK)
  apply Tr.done
  ·simp only [go_sem] <;> rfl
  ·simp
 ·kernel_rfl
 cases hcb : clashN t m n i with
 | true =>
   refine EvC.cond_true (by simp only [go_sem, hcb] <;> rfl) ?_
   rw [possB_false (m := m) (by omega) (possM_clash hk hi (by rw [← hnd]; exact hcb))]
   refine EvC.seq (EvC.rg (by simp only [go_sem] <;> rfl) (by simp) ?_)
   refine EvC.ret ⟨.inl rfl, _, (by simp only [go_sem] <;> rfl), ?_, rfl⟩
   simp only [go_sem]
 | false =>
 refine EvC.cond_false (by simp only [go_sem, hcb] <;> rfl) ?_
 refine EvC.skip ?_
 refine EvC.rg (by simp only [go_sem] <;> rfl) (by exact inI64_of (by omega) (by omega)) ?_
 exact ⟨[], i + 1, rfl, (by simp only [go_sem, Mach.cells, Int.natCast_add, Int.natCast_one] <;> rfl), ⟨by omega, fun h i' hi' => by
  by_cases e : i' = i
  ·rw [e]; exact hcb
  ·exact h4 h i' (by omega)⟩, by omega⟩
end Go.Avl
namespace Go.Avl
open Go
section
variable {P : Program} {fr : Fr} {ro : Option Nat} {ds : DS} {st st' : St} {G G' : Nat → Option Value} {F F' : Nat → Nat → Prop} {a : Act} {w w' : World} {c : Code}
 {M : Mem} {ops : Array Oper} {l rest : List Oper} {o : Oper} {id N : Nat} {rd : List Nat}
theorem OpIs.callFz {f : FuncId} {callee : Operand} {args : Array Operand} {tys : Array TypeId} {i esz : Nat} {es : List (List AV)} {fz : Bool} {xs : List AV} {r : AV} (hg : o.guard = none) (hop : o.op = .call ⟨.value callee, args, tys⟩) (hd : dok fr o.dst = true)
  (hcal : od fr st true callee = .fn f []) (ho : mlook st.mem i = some (.arr esz es fz)) (hes : es.all AV.norefs = true)
  (hxs : (args.toList.map fun x => AV.deep (snap [(i, .arr esz es true)]) (od fr st true x)) = xs) (hn : AV.norefs xs = true) (hrn : r.noref = true)
  (hrd : opSlots o.op.operands.toList ++ [2 * i + 1] = rd) (hc : PureIs P f xs r) : OpIs P fr ro ds ops id st ⟨o, ⟨r, some (i, .arr esz es true)⟩, rd⟩ := by
 intro st' G F a w N K Q1 s hN hG hlk h
 simp only [Region.wanted, hg, if_true]
 have hslot : ∀ x ∈ o.op.operands.toList, opnd fr st' x = opnd fr st x := fun x hx => by
  cases x with
  | tmp t => exact look_slot (hlk _ (by simp only; rw [← hrd]; exact List.mem_append_left _ (opSlots_mem hx)))
  | _ => rfl
 rw [hop] at hslot
 have hod : ∀ z, z = callee ∨ z ∈ args.toList → od fr st' true z = od fr st true z := fun z hz => by
  unfold od; rw [hslot z (by simp only [Op.operands, Call.operands]; simpa using hz)]
 have ho' : mlook st'.mem i = some (.arr esz es fz) := by rw [← ho]; exact look_obj (hlk _ (by simp only; rw [← hrd]; simp))
 refine ⟨fun _ _ => trivial, ?_⟩
 rw [Oper.semAt_eq _ _ _ (by rw [hop]; intro c h; cases h)]
 have hv := (s.eval callee).unopt
 have hv : RV G F st'.mem w (a.eval callee) (.fn f []) := by have := hod callee (.inl rfl); unfold od at this hcal; rwa [this, hcal] at hv
 obtain ⟨vs, hev, hll, _⟩ := hv.inv_fn
 have hvs : vs = [] := by cases vs with
  | nil => rfl
  | cons a l => simp at hll
 subst hvs
 obtain ⟨F1, hm1, S1⟩ := simM_frz s.mem ho' hes
 have hrun : (execOp a.eval o).run P w = .ok (.enter f ((args.toList.map a.eval).toArray)) w := by
  obtain ⟨dst, op, ty, pos, after, guard⟩ := o
  simp only at hop
  subst hop
  simp only [execOp, resolve, hev, Deferred.ofValue, Sem.run_bind, Sem.run_pure, Result.andThen_ok, invoke]
  rw [hc.1]
  congr 2
  apply Array.ext'
  simp
 rw [hrun]
 have hlk1 : mlook (mset st'.mem i (.arr esz es true)) i = some (.arr esz es true) := by rw [mlook_mset, if_pos rfl]
 have hi : Imms F1 w (args.toList.map a.eval) xs := by
  have hall : ∀ x ∈ xs, x.noref = true := by
   clear hxs hc
   induction xs with
   | nil => intro x hx; cases hx
   | cons y ys ih =>
     simp only [AV.norefs, Bool.and_eq_true] at hn
     intro x hx
     rcases List.mem_cons.1 hx with rfl | hx
     ·exact hn.1
     ·exact ih hn.2 x hx
  subst hxs
  refine ⟨by simp, fun j h1 h2 => ?_⟩
  have hj : j < args.toList.length := by simpa using h1
  have hr : RV G F1 (mset st'.mem i (.arr esz es true)) w (a.eval args.toList[j]) (AV.deep (snap [(i, .arr esz es true)]) (od fr st true args.toList[j])) := by
   have h0 := (s.eval args.toList[j]).unopt
   have he := hod args.toList[j] (.inr (List.getElem_mem hj))
   unfold od at he ⊢
   rw [he] at h0
   exact (h0.step S1 fun _ _ => trivial).deep fun v y h => snap_one (fz := true) hlk1 (fun v y h => h.snap hm1) h
  simp only [List.getElem_map]
  exact hr.imm_of (hall _ (by exact List.mem_map.2 ⟨_, List.getElem_mem hj, rfl⟩))
 refine ⟨fun h => by simp [fc, Fence.wide] at h, callsIn_fc ((hc.2 F1 w _ hm1.fok hi).mono ?_)⟩
 rintro e w' ⟨v, F', rfl, hv, g⟩
 obtain ⟨hm', S'⟩ := simM_grown hm1 g
 obtain ⟨s1, S2⟩ := s.put (d := o.dst) (r := ⟨r, some (i, .arr esz es true)⟩) (u := v) hm' (fun _ => rfl) (S1.trans S') hd (.imm hv)
 exact h G _ _ w' s1 S2 (fun _ _ h => h)
end
end Go.Avl
namespace Go.Avl
open Go Go.Proofs.Try
set_option maxRecDepth 10000
set_option linter.unusedSimpArgs false
def SR.lst : SR → List Nat
 | .found c _ => c
 | _ => []
def SR.is : SR → Bool
 | .found _ _ => true
 | _ => false
def SR.left : SR → Int
 | .found _ f => f
 | .fail f => f
 | .spent => -1
def srA (r : SR) : AV := .tu [.sl (!r.is) (r.lst.map natC) .unk, .sc (.bool r.is), .sc (.int .i64 r.left)]
def usedN (c : List Nat) : Nat := c.foldl (fun u x => max u (x + 1)) 0
theorem usedN_snoc (c : List Nat) (x : Nat) : usedN (c ++ [x]) = max (usedN c) (x + 1) := by unfold usedN; rw [List.foldl_append]; rfl
theorem usedN_le {c : List Nat} (h : ∀ x ∈ c, x < 64) : usedN c ≤ 64 := by
 have key : ∀ (c : List Nat) (u : Nat), (∀ x ∈ c, x < 64) → u ≤ 64 → c.foldl (fun u x => max u (x + 1)) u ≤ 64 := by
  intro c
  induction c with
  | nil => intro u _ h; exact h
  | cons x c ih =>
    intro u hx hu
    rw [List.foldl_cons]
    refine ih _ (fun y hy => hx y (List.mem_cons_of_mem _ hy)) ?_
    have := hx x List.mem_cons_self
    omega
 exact key c 0 h (by omega)
theorem usedN_take {c : List Nat} {i : Nat} (h : i < c.length) : usedN (c.take (i + 1)) = max (usedN (c.take i)) (stN c i + 1) := by
 rw [List.take_succ, stN_get h]
 simp only [Option.toList_some]
 rw [usedN_snoc]
set_option maxHeartbeats 8000000 in
theorem search66_is {t : Mach} (v : TV t) (tp : TP t) (k : Nat) (hk : k ≤ 64) : ∀ (d : Nat) (c : List Nat) (nl : Bool) (cap : Cp) (fuel : Nat), c.length + d = t.rows.length → ((c = [] ∧ nl = true ∧ cap = .zer) ∨ (c ≠ [] ∧ nl = false ∧ cap = .unk)) → (∀ x ∈ c, x < 64) → fuel ≤ 1000000 →
  PureIs prog 66 [.ag t.cells, .sl nl (c.map natC) cap, .sc (.int .i64 k), .sc (.int .i64 fuel)] (srA (srch t k d c (usedN c) fuel)) := by
 intro d
 induction d with
 | zero =>
   intro c nl cap fuel hd hc hx hfu
   have hrw := v.rows
   rcases hc with ⟨rfl, _, _⟩ | ⟨hc0, rfl, rfl⟩
   ·simp at hd; omega
   have hcl : (c.map natC).length = c.length := List.length_map _
   have d1 := decide_eq_true (show (c.length : Int) = (t.rows.length : Int) by omega)
   rw [srch]
   refine PureIs.of (nv := 11) (hid := [11, 12, 13, 14, 15, 16, 22, 28, 45, 49, 56, 61, 64, 75]) func66 rfl (by kernel_rfl) (by simp [ntmps66]) fun _ => ?_
   rw [ntmps66, results66]
   refine EvC.seq (EvC.rg (by simp only [go_sem, Mach.cells] <;> rfl) (by simp) ?_)
   refine EvC.frzB 0 (by simp only [go_sem] <;> rfl) ?_
   refine EvC.seq ?_
   refine EvC.seq (EvC.rg (by simp only [go_sem, hcl, List.length_map, d1] <;> rfl) (by simp) ?_)
   refine EvC.cond_true (by simp only [go_sem] <;> rfl) ?_
   refine EvC.seq (EvC.rg (by simp only [go_sem] <;> rfl) (by simp) ?_)
   refine EvC.ret ⟨.inl rfl, _, (by simp only [go_sem] <;> rfl), ?_, rfl⟩
   simp only [go_sem]
   rfl
 | succ d ih =>
 intro c nl cap fuel hd hc hx hfu
 have hrw := v.rows
 have hin := v.ins
 have hcl : (c.map natC).length = c.length := List.length_map _
 have d1 := decide_eq_false (show ¬ (c.length : Int) = (t.rows.length : Int) by omega)
 refine PureIs.of (nv := 11) (hid := [11, 12, 13, 14, 15, 16, 22, 28, 45, 49, 56, 61, 64, 75]) func66 rfl (by kernel_rfl) (by simp [ntmps66]) fun _ => ?_
 rw [ntmps66, results66]
 refine EvC.seq (EvC.rg (by simp only [go_sem, Mach.cells] <;> rfl) (by simp) ?_)
 refine EvC.frzB 0 (by simp only [go_sem] <;> rfl) ?_
 refine EvC.seq ?_
 refine EvC.seq (EvC.rg (by simp only [go_sem, hcl, List.length_map, d1] <;> rfl) (by simp) ?_)
 refine EvC.cond_false (by simp only [go_sem] <;> rfl) ?_
 refine EvC.skip ?_
 refine EvC.seq (EvC.rg (by simp only [go_sem] <;> rfl) (by simp) ?_)
 refine EvC.seq ?_
 refine EvC.seq (EvC.rg (by simp only [go_sem] <;> rfl) (by simp) ?_)
 refine EvC.block ?_
 have hxc : ∀ x ∈ c, x < 64 := hx
 refine EvC.loopS (σ := Nat) (fun i => ⟨[(1, .sl nl (c.map natC) cap), (2, .sc (.int .i64 k)), (3, .sc (.int .i64 fuel)), (4, .ia t.cells), (11, .sc (.int .i64 (usedN (c.take i)))), (12, .sc (.int .i64 i))], [], [], 0⟩) (fun i => c.length - i) (fun i => i ≤ c.length) [1, 2, 3, 4, 11, 12] 0 ?_ ?_
 ·exact ⟨[], 0, rfl, (by simp only [go_sem, Mach.cells, Int.natCast_zero, List.take_zero, usedN, List.foldl_nil] <;> rfl), Nat.zero_le _⟩
 intro i hi
 have hiin : (i : Int).toNat = i := Int.toNat_natCast i
 refine EvC.seq ?_
 refine EvC.seq (EvC.rg (by simp only [go_sem, hcl] <;> rfl) (by simp) ?_)
 refine EvC.cond (by simp only [go_sem] <;> rfl) (fun hc => ?_) (fun hc => ?_)
 ·
  have hic : i < c.length := by simpa using hc
  have hgi : (c.map natC)[i]? = some (natC (stN c i)) := by rw [List.getElem?_map, stN_get hic]; rfl
  have hxi : stN c i < 64 := stN_lt hx (by omega)
  have hu1 : usedN (c.take i) ≤ 64 := usedN_le fun x hx' => hx x (List.mem_of_mem_take hx')
  have hut := usedN_take hic
  refine EvC.skip ?_
  refine EvC.seq ?_
  refine EvC.block ?_
  have hmx : (if ((usedN (c.take i) : Nat) : Int) ≤ ((stN c i : Nat) : Int) + 1 then ((stN c i : Nat) : Int) + 1 else ((usedN (c.take i) : Nat) : Int)) = ((usedN (c.take (i + 1)) : Nat) : Int) := by
   rw [hut]; split <;> omega
  refine EvC.rg (by simp only [go_sem, hcl, hgi, hiin, natC, hmx] <;> rfl) (by exact inI64_of (by omega) (by omega)) ?_
  refine EvC.rg (by simp only [go_sem] <;> rfl) (by exact inI64_of (by omega) (by omega)) ?_
  exact ⟨[], i + 1, rfl, (by simp only [go_sem, Mach.cells, Int.natCast_add, Int.natCast_one] <;> rfl), by omega, by omega⟩
 have hic : ¬ i < c.length := by simpa using hc
 rw [List.take_of_length_le (by omega)]
 clear hc
 obtain ⟨u, hu⟩ : ∃ u, u = usedN c := ⟨_, rfl⟩
 have hul := usedN_le hx
 rw [← hu] at hul ⊢
 refine EvC.exit ?_
 refine EvC.seq ?_
 refine EvC.seq (EvC.rg (by simp only [go_sem] <;> rfl) (by simp) ?_)
 refine EvC.block ?_
 have hS : ∀ r, srch t k (d + 1) c u fuel = r → srch t k (d + 1) c u fuel = r := fun r h => h
 obtain ⟨Res, hRes⟩ : ∃ Res, Res = srch t k (d + 1) c u fuel := ⟨_, rfl⟩
 rw [← hRes]
 rw [srch] at hRes
 refine EvC.loopS (σ := Nat × Nat) (fun g => ⟨[(1, .sl nl (c.map natC) cap), (2, .sc (.int .i64 k)), (3, .sc (.int .i64 g.2)), (4, .ia t.cells), (11, .sc (.int .i64 u)), (13, .sc (.int .i64 g.1))], [], [], 0⟩) (fun g => 70 - g.1)
  (fun g => g.1 ≤ min k (u + 1) ∧ g.2 ≤ 1000000 ∧ (List.range g.1).foldl (stepS t (srch t k d) c u) (.fail fuel) = .fail g.2) [1, 2, 3, 4, 11, 13] 0 ?_ ?_
 ·exact ⟨[], (0, fuel), rfl, (by simp only [go_sem, Mach.cells, Int.natCast_zero] <;> rfl), Nat.zero_le _, hfu, rfl⟩
 rintro ⟨n, f⟩ ⟨h1, h2, h3⟩
 simp only at h1 h2 h3 ⊢
 refine EvC.seq ?_
 apply EvC.seq
 apply EvC.trd
 ·simp only [go_sem] <;> rfl
 ·simp
 by_cases hn : n < min k (u + 1)
 rotate_left
 ·
  have hg : (if decide ((n : Int) < (k : Int)) = true then decide ((n : Int) ≤ (u : Int)) else false) = false := by
   by_cases h : n < k
   ·rw [decide_eq_true (show (n : Int) < k by omega), if_pos rfl, decide_eq_false (show ¬ (n : Int) ≤ u by omega)]
   ·rw [decide_eq_false (show ¬ (n : Int) < k by omega), if_neg (by simp)]
  have hR : Res = .fail f := by rw [hRes, ← h3]; congr 2; omega
  subst hR
  refine EvC.cond_false (by simp only [go_sem, hg] <;> rfl) ?_
  refine EvC.exit ?_
  refine EvC.seq (EvC.rg (by simp only [go_sem] <;> rfl) (by simp) ?_)
  refine EvC.ret ⟨.inl rfl, _, (by simp only [go_sem] <;> rfl), ?_, rfl⟩
  simp only [go_sem]
  rfl
 have hg : (if decide ((n : Int) < (k : Int)) = true then decide ((n : Int) ≤ (u : Int)) else false) = true := by
  rw [decide_eq_true (show (n : Int) < k by omega), if_pos rfl, decide_eq_true (show (n : Int) ≤ u by omega)]
 refine EvC.cond_true (by simp only [go_sem, hg] <;> rfl) ?_
 refine EvC.skip ?_
 refine EvC.seq ?_
 refine EvC.block ?_
 have hat := fun r h => foldl_at (t := t) (rec := srch t k d) (c := c) (used := u) (r0 := .fail fuel) (r := r) hn h
 have hnx := foldl_next (t := t) (rec := srch t k d) (c := c) (used := u) (r0 := .fail fuel) (i := n)
 rw [← hRes] at hat
 rw [h3] at hat hnx
 refine EvC.seq ?_
 refine EvC.seq (EvC.rg (by simp only [go_sem] <;> rfl) (by simp) ?_)
 by_cases hf : f = 0
 ·have hR : Res = .spent := hat .spent (by unfold stepS; simp only; rw [if_pos hf]) rfl
  subst hR
  refine EvC.cond_true (by simp only [go_sem, decide_eq_true (show (f : Int) = 0 by omega)] <;> rfl) ?_
  refine EvC.seq (EvC.rg (by simp only [go_sem] <;> rfl) (by simp) ?_)
  refine EvC.ret ⟨.inl rfl, _, (by simp only [go_sem] <;> rfl), ?_, rfl⟩
  simp only [go_sem]
  rfl
 have hst : stepS t (srch t k d) c u (.fail f) n = if possB t c n = true then srch t k d (c ++ [n]) (max u (n + 1)) (f - 1) else .fail (f - 1) := by
  unfold stepS; simp only; rw [if_neg hf]
 rw [hst] at hat hnx
 obtain ⟨f1, hf1⟩ : ∃ f1, f1 = f - 1 := ⟨_, rfl⟩
 rw [← hf1] at hat hnx
 have hfi : (f : Int) - 1 = (f1 : Int) := by omega
 refine EvC.cond_false (by simp only [go_sem, decide_eq_false (show ¬ (f : Int) = 0 by omega)] <;> rfl) ?_
 refine EvC.skip ?_
 refine EvC.seq (EvC.rg (by simp only [go_sem, hfi] <;> rfl) (by exact inI64_of (by omega) (by omega)) ?_)
 have hP := possible78_is v tp nl (c := c) cap (by omega) n
 rw [Mach.cells] at hP
 cases hb : possB t c n with
 | false =>
   rw [hb] at hP
   rw [hb, if_neg (by simp)] at hnx
   refine EvC.seq ?_
   apply EvC.seq
   apply EvC.tr
   ·apply Tr.run
    ·simp only [go_sem] <;> rfl
    ·simp [Mach.cells]
    apply Tr.cons
    ·exact .call rfl rfl (by simp only [go_sem] <;> rfl) (by simp only [go_sem] <;> rfl) (by simp only [go_sem] <;> rfl) (by simp only [go_sem] <;> rfl) (by simp only [go_sem] <;> rfl) (hP)
    apply Tr.done
    ·simp only [go_sem] <;> rfl
    ·simp
   refine EvC.cond_true (by simp only [go_sem] <;> rfl) ?_
   refine EvC.exit ?_
   refine EvC.rg (by simp only [go_sem] <;> rfl) (by exact inI64_of (by omega) (by omega)) ?_
   exact ⟨[], (n + 1, f1), rfl, (by simp only [go_sem, Mach.cells, Int.natCast_add, Int.natCast_one] <;> rfl), ⟨by simp only; omega, by simp only; omega, hnx⟩, by simp only; omega⟩
 | true =>
 rw [hb] at hP
 rw [hb, if_pos rfl] at hnx hat
 refine EvC.seq ?_
 apply EvC.seq
 apply EvC.tr
 ·apply Tr.run
  ·simp only [go_sem] <;> rfl
  ·simp [Mach.cells]
  apply Tr.cons
  ·exact .call rfl rfl (by simp only [go_sem] <;> rfl) (by simp only [go_sem] <;> rfl) (by simp only [go_sem] <;> rfl) (by simp only [go_sem] <;> rfl) (by simp only [go_sem] <;> rfl) (hP)
  apply Tr.done
  ·simp only [go_sem] <;> rfl
  ·simp
 refine EvC.cond_false (by simp only [go_sem] <;> rfl) ?_
 refine EvC.skip ?_
 have hih := ih (c ++ [n]) false .unk f1 (by simp; omega) (.inr ⟨by simp, rfl, rfl⟩) (fun x hx' => by
  rcases List.mem_append.1 hx' with h | h
  ·exact hx x h
  ·rw [List.mem_singleton.1 h]; omega) (by omega)
 rw [usedN_snoc, ← hu] at hih
 obtain ⟨r, hr⟩ : ∃ r, r = srch t k d (c ++ [n]) (max u (n + 1)) f1 := ⟨_, rfl⟩
 have hrf := srch_fuel t k d (c ++ [n]) (max u (n + 1)) f1
 rw [← hr] at hih hnx hat hrf
 have hrn : (srA r).noref = true := rfl
 rw [Mach.cells] at hih
 refine EvC.gcE [1, 2, 3, 4, 11, 13] [] 0 rfl (by simp only [go_sem, Mach.cells] <;> rfl) ?_
 refine EvC.mergeC (α := Unit) (fun _ => ⟨[(1, .sl nl (c.map natC) cap), (2, .sc (.int .i64 k)), (4, .ia t.cells), (11, .sc (.int .i64 u)), (13, .sc (.int .i64 n)), (14, .sl (!r.is) (r.lst.map natC) .unk), (15, .sc (.bool r.is)), (16, .sc (.int .i64 r.left))], [], [], 0⟩) (fun _ => True) ?_ ?_
 ·rcases hc with ⟨rfl, rfl, rfl⟩ | ⟨hc0, rfl, rfl⟩
  ·have hw1 : ([] ++ [n]).map natC = [[AV.sc (.int .i64 n)]] := rfl
   rw [hw1] at hih
   apply EvC.drw mixed
   ·apply Tr.cons
    ·exact .op rfl (by simp only [go_sem] <;> rfl) (by simp only [go_sem] <;> rfl) rfl (by simp only [go_sem] <;> rfl)
    apply Tr.cons
    ·exact .op rfl (by simp only [go_sem] <;> rfl) (by simp only [go_sem] <;> rfl) rfl (by simp only [go_sem] <;> rfl)
    apply Tr.cons
    ·exact .op rfl (by simp only [go_sem] <;> rfl) (by simp only [go_sem] <;> rfl) rfl (by simp only [go_sem] <;> rfl)
    apply Tr.cons
    ·exact .appZ rfl rfl (by simp only [go_sem] <;> rfl) (by simp only [go_sem] <;> rfl) (by simp only [go_sem] <;> rfl) (by simp only [go_sem] <;> rfl) (by simp only [go_sem] <;> rfl) (by simp only [go_sem] <;> rfl) (by simp only [go_sem] <;> rfl)
    apply Tr.run
    ·simp only [go_sem] <;> rfl
    ·simp [room_eq]
    apply Tr.cons
    ·exact .callFz (i := 6) rfl rfl (by simp only [go_sem] <;> rfl) (by simp only [go_sem] <;> rfl) (by simp only [go_sem] <;> rfl) (by simp only [go_sem] <;> rfl) (by simp only [go_sem] <;> rfl) (by simp only [go_sem] <;> rfl) hrn (by simp only [go_sem] <;> rfl) hih
    apply Tr.done
    ·simp only [go_sem, srA] <;> rfl
    ·simp
   ·kernel_rfl
   exact ⟨rfl, (), trivial, fun c Q h => EvC.gcE [1, 2, 4, 11, 13, 14, 15, 16] [] 0 rfl (by simp only [go_sem, Mach.cells] <;> rfl) h⟩
  have hc0l : c.length ≠ 0 := fun h => hc0 (List.length_eq_zero_iff.1 h)
  have hsn : c.map natC ++ [[.sc (.int .i64 n)]] = (c ++ [n]).map natC := by simp [natC]
  have hsl : c.length + 1 = (c ++ [n]).length := by simp
  have hy : ∀ a ∈ c, (natC a).length = 1 := fun _ _ => rfl
  have hr3 : room c.length 8 = true := by simp only [room_eq, decide_eq_true_eq]; omega
  have hr4 : room (c ++ [n]).length 8 = true := by simp only [room_eq, decide_eq_true_eq, ← hsl]; omega
  generalize c ++ [n] = w at hih hsn hsl hr4
  apply EvC.drwA mixed
  ·apply Tr.run
   ·simp only [go_sem, hsn, hsl, List.length_map] <;> rfl
   ·simp; exact ⟨⟨hr3, hy⟩, hr4⟩
   apply Tr.cons
   ·exact .callFz (i := 3) rfl rfl (by simp only [go_sem] <;> rfl) (by simp only [go_sem] <;> rfl) (by simp only [go_sem] <;> rfl) (by simp only [go_sem] <;> rfl) (by simp only [go_sem, List.length_map] <;> rfl) (by simp only [go_sem] <;> rfl) hrn (by simp only [go_sem] <;> rfl) hih
   apply Tr.done
   ·simp only [go_sem, srA] <;> rfl
   ·simp
  ·kernel_rfl
  exact ⟨rfl, (), trivial, fun c Q h => EvC.gcE [1, 2, 4, 11, 13, 14, 15, 16] [] 0 rfl (by simp only [go_sem, Mach.cells] <;> rfl) h⟩
 intro _ _
 refine EvC.seq ?_
 cases r with
 | found c' f' =>
   have hR : Res = .found c' f' := hat _ rfl rfl
   subst hR
   apply EvC.seq
   apply EvC.trd
   ·simp only [go_sem] <;> rfl
   ·simp
   refine EvC.cond_true (by simp only [go_sem, SR.is] <;> rfl) ?_
   refine EvC.seq (EvC.rg (by simp only [go_sem] <;> rfl) (by simp) ?_)
   refine EvC.ret ⟨.inl rfl, _, (by simp only [go_sem] <;> rfl), ?_, rfl⟩
   simp only [go_sem]
   rfl
 | spent =>
   have hR : Res = .spent := hat _ rfl rfl
   subst hR
   apply EvC.seq
   apply EvC.trd
   ·simp only [go_sem] <;> rfl
   ·simp
   refine EvC.cond_true (by simp only [go_sem, SR.is, SR.left] <;> rfl) ?_
   refine EvC.seq (EvC.rg (by simp only [go_sem] <;> rfl) (by simp) ?_)
   refine EvC.ret ⟨.inl rfl, _, (by simp only [go_sem] <;> rfl), ?_, rfl⟩
   simp only [go_sem]
   rfl
 | fail f' =>
   have hf' : f' ≤ f1 := hrf
   apply EvC.seq
   apply EvC.trd
   ·simp only [go_sem] <;> rfl
   ·simp
   refine EvC.cond_false (by simp only [go_sem, SR.is, SR.left, decide_eq_false (show ¬ (f' : Int) < 0 by omega)] <;> rfl) ?_
   refine EvC.skip ?_
   refine EvC.rg (by simp only [go_sem] <;> rfl) (by simp) ?_
   refine EvC.rg (by simp only [go_sem] <;> rfl) (by exact inI64_of (by omega) (by omega)) ?_
   exact ⟨[], (n + 1, f'), rfl, (by simp only [go_sem, Mach.cells, SR.left, Int.natCast_add, Int.natCast_one] <;> rfl), ⟨by simp only; omega, by simp only; omega, hnx⟩, by simp only; omega⟩
end Go.Avl
namespace Go.Avl
open Go Go.Proofs.Try
set_option maxRecDepth 10000
set_option linter.unusedSimpArgs false
def GoodC (t : Mach) (k : Nat) (c : List Nat) : Prop := ∀ i x, c[i]? = some x → x < k ∧ x ≤ usedN (c.take i) ∧ possB t (c.take i) x = true
theorem goodC_nil (t : Mach) (k : Nat) : GoodC t k [] := fun i x h => by simp at h
theorem GoodC.snoc {t : Mach} {k : Nat} {c : List Nat} (h : GoodC t k c) {x : Nat} (h1 : x < k) (h2 : x ≤ usedN c) (h3 : possB t c x = true) : GoodC t k (c ++ [x]) := fun i y hy => by
 by_cases hi : i < c.length
 ·rw [List.getElem?_append_left hi] at hy
  rw [List.take_append_of_le_length (by omega)]
  exact h i y hy
 ·rw [List.getElem?_append_right (by omega)] at hy
  have hi0 : i - c.length = 0 := by
   have := (List.getElem?_eq_some_iff.1 hy).1
   simp at this; omega
  rw [hi0] at hy
  cases hy
  rw [show i = c.length by omega, List.take_append_of_le_length (Nat.le_refl _), List.take_length]
  exact ⟨h1, h2, h3⟩
theorem GoodC.take {t : Mach} {k : Nat} {c : List Nat} (h : GoodC t k c) (n : Nat) : GoodC t k (c.take n) := fun i x hx => by
 rw [List.getElem?_take] at hx
 split at hx
 ·rename_i hin
  rw [List.take_take, Nat.min_eq_left (by omega)]
  exact h i x hx
 ·cases hx
theorem GoodC.le {t : Mach} {k k' : Nat} {c : List Nat} (h : GoodC t k c) (hk : ∀ x ∈ c, x < k') : GoodC t k' c := fun i x hx => ⟨hk x (List.mem_of_getElem? hx), (h i x hx).2⟩
theorem srch_good (t : Mach) (k : Nat) : ∀ (d : Nat) (c : List Nat) (fuel : Nat) (c' : List Nat) (f' : Nat), GoodC t k c → srch t k d c (usedN c) fuel = .found c' f' → GoodC t k c' ∧ c'.length = c.length + d
 | 0, c, fuel, c', f', hg, h => by
   rw [srch] at h; cases h
   exact ⟨hg, rfl⟩
 | d + 1, c, fuel, c', f', hg, h => by
   rw [srch] at h
   have key : ∀ (l : List Nat) (r : SR), (∀ x ∈ l, x < min k (usedN c + 1)) → (∀ c' f', r = .found c' f' → GoodC t k c' ∧ c'.length = c.length + (d + 1)) → ∀ c' f', l.foldl (stepS t (srch t k d) c (usedN c)) r = .found c' f' → GoodC t k c' ∧ c'.length = c.length + (d + 1) := fun l => by
    induction l with
    | nil => intro r _ h; exact h
    | cons x l ih =>
      intro r hl h
      rw [List.foldl_cons]
      refine ih _ (fun y hy => hl y (List.mem_cons_of_mem _ hy)) fun c' f' he => ?_
      unfold stepS at he
      cases r with
      | found c2 f2 => exact h c' f' he
      | spent => cases he
      | fail f =>
        simp only at he
        split at he
        ·cases he
        ·split at he
         ·rename_i hp
          have hx := hl x List.mem_cons_self
          rw [← usedN_snoc] at he
          obtain ⟨h1, h2⟩ := srch_good t k d _ _ _ _ (hg.snoc (x := x) (by omega) (by omega) hp) he
          exact ⟨h1, by rw [h2]; simp; omega⟩
         ·cases he
   exact key _ _ (fun x hx => by have := List.mem_range.1 hx; omega) (fun c' f' he => by cases he) c' f' h
theorem srch_compl (t : Mach) (k : Nat) {c : List Nat} (hg : GoodC t k c) : ∀ (d n : Nat) (fuel f' : Nat), n + d = c.length → srch t k d (c.take n) (usedN (c.take n)) fuel ≠ .fail f'
 | 0, n, fuel, f', _, h => by rw [srch] at h; cases h
 | d + 1, n, fuel, f', hn, h => by
   rw [srch] at h
   have hx : c[n]? = some c[n] := List.getElem?_eq_getElem (by omega)
   obtain ⟨h1, h2, h3⟩ := hg n _ hx
   generalize c[n] = x at hx h1 h2 h3
   have ht : c.take n ++ [x] = c.take (n + 1) := by rw [List.take_succ, hx]; rfl
   have hs : ∀ r : SR, (stepS t (srch t k d) (c.take n) (usedN (c.take n)) r x).more = false := fun r => by
    unfold stepS
    cases r with
    | found _ _ => rfl
    | spent => rfl
    | fail f =>
      simp only
      split
      ·rfl
      ·rw [← usedN_snoc, ht]
       cases hr : srch t k d (c.take (n + 1)) (usedN (c.take (n + 1))) (f - 1) with
       | found _ _ => rfl
       | spent => rfl
       | fail f2 => exact absurd hr (srch_compl t k hg d (n + 1) _ _ (by omega))
   have := foldl_at (t := t) (rec := srch t k d) (c := c.take n) (used := usedN (c.take n)) (n := min k (usedN (c.take n) + 1)) (i := x) (r0 := .fail fuel) (by omega) rfl (hs _)
   rw [this] at h
   have := hs ((List.range x).foldl (stepS t (srch t k d) (c.take n) (usedN (c.take n))) (.fail fuel))
   rw [h] at this; cases this
theorem usedN_lt : ∀ {c : List Nat} {x : Nat}, x ∈ c → x < usedN c := by
 have key : ∀ (c : List Nat) (u : Nat), u ≤ c.foldl (fun u x => max u (x + 1)) u ∧ ∀ x ∈ c, x < c.foldl (fun u x => max u (x + 1)) u := by
  intro c
  induction c with
  | nil => intro u; exact ⟨Nat.le_refl _, fun x h => by cases h⟩
  | cons y c ih =>
    intro u
    obtain ⟨h1, h2⟩ := ih (max u (y + 1))
    rw [List.foldl_cons]
    refine ⟨by omega, fun x hx => ?_⟩
    rcases List.mem_cons.1 hx with rfl | hx
    ·omega
    ·exact h2 x hx
 intro c x h
 exact (key c 0).2 x h
theorem GoodC.all {t : Mach} {k : Nat} : ∀ {c : List Nat}, GoodC t k c → ∀ s, s < usedN c → s ∈ c := by
 intro c hg
 have key : ∀ n, n ≤ c.length → ∀ s, s < usedN (c.take n) → s ∈ c := by
  intro n
  induction n with
  | zero => intro _ s h; simp [usedN] at h
  | succ n ih =>
    intro hn s h
    have hx : c[n]? = some c[n] := List.getElem?_eq_getElem (by omega)
    rw [List.take_succ, hx] at h
    simp only [Option.toList_some] at h
    rw [usedN_snoc] at h
    by_cases h1 : s < usedN (c.take n)
    ·exact ih (by omega) s h1
    ·have := (hg n _ hx).2.1
     have e : s = c[n] := by omega
     rw [e]; exact List.getElem_mem _
 intro s h
 exact key c.length (Nat.le_refl _) s (by rw [List.take_length]; exact h)
theorem leastL_done {t : Mach} : ∀ (n k fuel : Nat) (c : List Nat) (k' f' : Nat), 1 ≤ k → (∀ j, 1 ≤ j → j < k → ∃ f f2, srch t j t.rows.length [] 0 f = .fail f2) → leastL t n k fuel = .done c k' f' →
  GoodC t k' c ∧ c.length = t.rows.length ∧ k ≤ k' ∧ k' < k + n ∧ ∀ j, 1 ≤ j → j < k' → ∃ f f2, srch t j t.rows.length [] 0 f = .fail f2
 | 0, k, fuel, c, k', f', _, _, h => by cases h
 | n + 1, k, fuel, c, k', f', hk, hj, h => by
   rw [leastL] at h
   cases hs : srch t k t.rows.length [] 0 fuel with
   | found c2 f2 =>
     rw [hs] at h
     cases h
     obtain ⟨h1, h2⟩ := srch_good t k t.rows.length [] fuel _ _ (goodC_nil t k) hs
     exact ⟨h1, by rw [h2]; simp, Nat.le_refl _, by omega, hj⟩
   | spent => rw [hs] at h; cases h
   | fail f2 =>
     rw [hs] at h
     have hj' : ∀ j, 1 ≤ j → j < k + 1 → ∃ f f2, srch t j t.rows.length [] 0 f = .fail f2 := fun j h1 h2 => by
      by_cases e : j = k
      ·subst e; exact ⟨fuel, f2, hs⟩
      ·exact hj j h1 (by omega)
     obtain ⟨h1, h2, h3, h4, h5⟩ := leastL_done n (k + 1) f2 c k' f' (by omega) hj' h
     exact ⟨h1, h2, by omega, by omega, h5⟩
theorem leastL_least {t : Mach} {n fuel : Nat} {c : List Nat} {k f : Nat} (h : leastL t n 1 fuel = .done c k f) {K : Nat} (hK : 1 ≤ K) {c' : List Nat} (hg : GoodC t K c') (hl : c'.length = t.rows.length) : k ≤ K := by
 obtain ⟨_, _, _, _, h5⟩ := leastL_done n 1 fuel c k f (Nat.le_refl _) (fun j h1 h2 => by omega) h
 refine Nat.le_of_not_lt fun hlt => ?_
 obtain ⟨f1, f2, hs⟩ := h5 K hK hlt
 have := srch_compl t K hg t.rows.length 0 f1 f2 (by omega)
 rw [List.take_zero] at this
 exact this hs
theorem leastL_all {t : Mach} {n fuel : Nat} {c : List Nat} {k f : Nat} (hN : 1 ≤ t.rows.length) (h : leastL t n 1 fuel = .done c k f) : usedN c = k ∧ (∀ s, s < k → s ∈ c) ∧ (∀ x ∈ c, x < k) ∧ c.length = t.rows.length ∧ 1 ≤ k ∧ k ≤ n ∧ GoodC t k c := by
 obtain ⟨h1, h2, h3, h4, h5⟩ := leastL_done n 1 fuel c k f (Nat.le_refl _) (fun j h1 h2 => by omega) h
 have hlt : ∀ x ∈ c, x < k := fun x hx => by
  obtain ⟨i, hi, rfl⟩ := List.mem_iff_getElem.1 hx
  exact (h1 i _ (List.getElem?_eq_getElem hi)).1
 have hle : usedN c ≤ k := by
  refine Nat.le_of_not_lt fun hgt => ?_
  exact absurd (hlt k (h1.all k hgt)) (Nat.lt_irrefl _)
 have hu1 : 1 ≤ usedN c := by
  have : c[0]'(by omega) ∈ c := List.getElem_mem _
  have := usedN_lt this
  omega
 have hge : k ≤ usedN c := leastL_least h hu1 (h1.le fun x hx => usedN_lt hx) h2
 have e : usedN c = k := by omega
 exact ⟨e, fun s hs => h1.all s (by omega), hlt, h2, h3, by omega, h1⟩
end Go.Avl
namespace Go.Avl
open Go
def St.zerS (fr : Fr) (k : Nat) (st : St) : Option St :=
 match st.get fr k with
 | .sl true [] _ => some (st.put fr (some k) (.sl true [] .zer))
 | _ => none
attribute [go_sem] St.zerS
section
variable {P : Program} {fr : Fr} {ro : Option Nat} {ds : DS} {st st' : St} {Q : Exit → St → Prop} {G : Nat → Option Value} {F : Nat → Nat → Prop} {a : Act} {w : World} {c : Code}
theorem SimA.zerS {k : Nat} (s : SimA P fr ds G F st a w) (h : st.zerS fr k = some st') : SimA P fr ds G F st' a w ∧ st'.mem = st.mem := by
 unfold St.zerS at h
 split at h
 ·rename_i cp hg
  cases h
  refine ⟨⟨⟨by rw [St.put_mem, St.put_nx]; exact s.sim.mem, fun j => ?_, s.sim.size⟩, fun j hj => s.fresh j (by rw [St.put_nx] at hj; exact hj), s.defers⟩, St.put_mem ..⟩
  rw [St.put_mem, St.get_put]
  split
  ·rename_i hj; subst hj
   have := s.sim.slots j
   rw [hg] at this
   exact .imm this.inv_sl.nil_zer
  ·exact s.sim.slots j
 ·cases h
theorem EvC.zerS (k : Nat) (h : st.zerS fr k = some st') (hc : EvC P fr ro ds c st' Q) : EvC P fr ro ds c st Q :=
 EvC.conv (fun G F _ _ s => ⟨G, F, (s.zerS h).1, by rw [(s.zerS h).2]; exact .refl⟩) hc
end
end Go.Avl
namespace Go.Avl
open Go Go.Proofs.Try
set_option maxRecDepth 10000
set_option linter.unusedSimpArgs false
def fndC (c : List Nat) (s m : Nat) : List Nat := ((List.range' m (c.length - m)).find? fun q => decide (stN c q = s)).toList
theorem fndC_step {c : List Nat} {s m : Nat} (h : m < c.length) : fndC c s m = if stN c m = s then [m] else fndC c s (m + 1) := by
 unfold fndC
 rw [show c.length - m = (c.length - (m + 1)) + 1 by omega, List.range'_succ, List.find?_cons]
 by_cases e : stN c m = s
 ·rw [decide_eq_true e, if_pos e]; rfl
 ·rw [decide_eq_false e, if_neg e]
theorem fndC_end {c : List Nat} {s m : Nat} (h : c.length ≤ m) : fndC c s m = [] := by
 unfold fndC
 rw [show c.length - m = 0 by omega]; rfl
theorem fndC_mem {c : List Nat} {s m q : Nat} (h : q ∈ fndC c s m) : m ≤ q ∧ q < c.length ∧ stN c q = s := by
 unfold fndC at h
 cases hf : (List.range' m (c.length - m)).find? fun q => decide (stN c q = s) with
 | none => rw [hf] at h; cases h
 | some x =>
   rw [hf] at h
   have e : q = x := by simpa using h
   subst e
   have h1 := List.find?_some hf
   have h2 := List.mem_of_find?_eq_some hf
   rw [List.mem_range'] at h2
   obtain ⟨i, hi, rfl⟩ := h2
   exact ⟨by omega, by omega, by simpa using h1⟩
theorem fndC_len (c : List Nat) (s m : Nat) : (fndC c s m).length ≤ 1 := by
 unfold fndC
 cases (List.range' m (c.length - m)).find? fun q => decide (stN c q = s) <;> simp
theorem fndC_one {c : List Nat} {s : Nat} (h : s ∈ c) : ∃ q, fndC c s 0 = [q] := by
 obtain ⟨i, hi, rfl⟩ := List.mem_iff_getElem.1 h
 unfold fndC
 cases hf : (List.range' 0 (c.length - 0)).find? fun q => decide (stN c q = c[i]) with
 | some x => exact ⟨x, rfl⟩
 | none =>
   rw [List.find?_eq_none] at hf
   have := hf i (by rw [List.mem_range']; exact ⟨i, by omega, by omega⟩)
   have e : stN c i = c[i] := by unfold stN; rw [List.getElem?_eq_getElem hi]; rfl
   simp [e] at this
def redC (c : List Nat) (k : Nat) : List Nat := (List.range k).flatMap fun s => fndC c s 0
theorem redC_succ (c : List Nat) (k : Nat) : redC c (k + 1) = redC c k ++ fndC c k 0 := by
 unfold redC
 rw [List.range_succ, List.flatMap_append]; simp
theorem redC_len {c : List Nat} {k : Nat} : ∀ n, n ≤ k → (∀ s, s < k → s ∈ c) → (redC c n).length = n
 | 0, _, _ => rfl
 | n + 1, h, hs => by
   obtain ⟨q, hq⟩ := fndC_one (hs n (by omega))
   rw [redC_succ, List.length_append, redC_len n (by omega) hs, hq]; rfl
theorem redC_get {c : List Nat} {k : Nat} (hs : ∀ s, s < k → s ∈ c) : ∀ n, n ≤ k → ∀ s, s < n → ∃ q, (redC c n)[s]? = some q ∧ q < c.length ∧ stN c q = s
 | 0, _, s, h => by omega
 | n + 1, hn, s, h => by
   have hl := redC_len n (by omega) hs
   rw [redC_succ]
   by_cases e : s = n
   ·subst e
    obtain ⟨q, hq⟩ := fndC_one (hs s (by omega))
    rw [List.getElem?_append_right (by omega), hl, Nat.sub_self, hq]
    have := fndC_mem (c := c) (s := s) (m := 0) (q := q) (by rw [hq]; simp)
    exact ⟨q, rfl, this.2⟩
   ·obtain ⟨q, h1, h2⟩ := redC_get hs n (by omega) s (by omega)
    exact ⟨q, by rw [List.getElem?_append_left (by omega)]; exact h1, h2⟩
theorem redC_mem {c : List Nat} {k q : Nat} (h : q ∈ redC c k) : q < c.length := by
 unfold redC at h
 obtain ⟨s, _, h⟩ := List.mem_flatMap.1 h
 exact (fndC_mem h).2.1
def redV (n : Nat) : AV := if n = 0 then .tl 1 0 true else .tv 1 n 0 n .rest
def refLeast (t : Mach) (fuel : Int) : AV :=
 if fuel < 1 then .tu [zeroM, .sc (.int .i64 0), .sc (.int .i64 17)]
 else match leastL t 64 1 fuel.toNat with
  | .done c k f => .tu [.ag [.sc (.int .i64 t.ins), .sc (.int .i64 t.outs), .sl false ((machC t c (redC c k)).map rowF) .unk], .sc (.int .i64 f), .sc (.int .i64 0)]
  | .spent => .tu [zeroM, .sc (.int .i64 0), .sc (.int .i64 17)]
  | .limit => .tu [zeroM, .sc (.int .i64 0), .sc (.int .i64 3)]
set_option maxHeartbeats 8000000 in
theorem least32_is {t : Mach} (v : TV t) (tp : TP t) (fuel : Int) (hf : fuel ≤ 1000000) : PureIs prog 32 [.ag t.cells, .sc (.int .i64 fuel)] (refLeast t fuel) := by
 have hrw := v.rows
 have hin := v.ins
 have hS := fun k hk f hf => search66_is v tp k hk t.rows.length [] true .zer f (by simp) (.inl ⟨rfl, rfl, rfl⟩) (by simp) hf
 unfold refLeast zeroM
 rw [Mach.cells] at hS
 refine PureIs.of (nv := 3) (hid := [4, 5, 6, 7, 8, 9, 10, 11, 12, 13, 15, 18, 30, 34, 37, 44, 66]) func32 rfl (by kernel_rfl) (by simp [ntmps32]) fun _ => ?_
 rw [ntmps32, results32]
 refine EvC.seq (EvC.rg (by simp only [go_sem, Mach.cells] <;> rfl) (by simp) ?_)
 refine EvC.frzB 0 (by simp only [go_sem] <;> rfl) ?_
 refine EvC.seq ?_
 refine EvC.seq (EvC.rg (by simp only [go_sem] <;> rfl) (by simp) ?_)
 by_cases h0 : fuel < 1
 ·rw [if_pos h0]
  refine EvC.cond_true (by simp only [go_sem, decide_eq_true h0] <;> rfl) ?_
  refine EvC.seq (EvC.rg (by simp only [go_sem] <;> rfl) (by simp) ?_)
  refine EvC.ret ⟨.inl rfl, _, (by simp only [go_sem] <;> rfl), ?_, rfl⟩
  simp only [go_sem]
 rw [if_neg h0]
 refine EvC.cond_false (by simp only [go_sem, decide_eq_false h0] <;> rfl) ?_
 refine EvC.skip ?_
 refine EvC.seq ?_
 refine EvC.seq (EvC.rg (by simp only [go_sem] <;> rfl) (by simp) ?_)
 refine EvC.block ?_
 obtain ⟨F0, hF0⟩ : ∃ F0 : Nat, fuel = (F0 : Int) := ⟨fuel.toNat, by omega⟩
 subst hF0
 rw [Int.toNat_natCast]
 obtain ⟨Res, hRes⟩ : ∃ Res, Res = leastL t 64 1 F0 := ⟨_, rfl⟩
 rw [← hRes]
 have hd0 := fun c k f h => leastL_all (n := 64) (fuel := F0) (c := c) (k := k) (f := f) hrw.1 h
 rw [← hRes] at hd0
 refine EvC.loopS (σ := Nat × Nat) (fun g => ⟨[(1, .sc (.int .i64 g.2)), (2, .ia t.cells), (4, .rf 0 0), (7, .sc (.int .i64 g.1))], [], [(0, .cells [.sc (.int .i64 0), .sc (.int .i64 0), .sl true [] .zer])], 1⟩) (fun g => 65 - g.1)
  (fun g => 1 ≤ g.1 ∧ g.1 ≤ 65 ∧ g.2 ≤ 1000000 ∧ Res = leastL t (65 - g.1) g.1 g.2) [1, 2, 4, 7] 1 ?_ ?_
 ·refine ⟨[(1, 0)], (1, F0), rfl, (by simp only [go_sem, Mach.cells, Int.natCast_one] <;> rfl), by simp, by simp, by simp only; omega, hRes⟩
 rintro ⟨k, f⟩ ⟨h1, h2, h3, h4⟩
 simp only at h1 h2 h3 h4 ⊢
 refine EvC.seq ?_
 refine EvC.seq (EvC.rg (by simp only [go_sem] <;> rfl) (by simp) ?_)
 refine EvC.cond (by simp only [go_sem] <;> rfl) (fun hc => ?_) (fun hc => ?_)
 rotate_left
 ·
  have hc : ¬ (k : Int) ≤ 64 := by simpa using hc
  obtain rfl : k = 65 := by omega
  have hR : Res = .limit := h4
  subst hR
  refine EvC.exit ?_
  refine EvC.seq (EvC.rg (by simp only [go_sem] <;> rfl) (by simp) ?_)
  refine EvC.ret ⟨.inl rfl, _, (by simp only [go_sem] <;> rfl), ?_, rfl⟩
  simp only [go_sem]
 have hk : (k : Int) ≤ 64 := by simpa using hc
 have hk : k ≤ 64 := by omega
 clear hc
 refine EvC.skip ?_
 refine EvC.seq ?_
 refine EvC.block ?_
 have hSk := hS k hk f h3
 rw [show usedN [] = 0 from rfl] at hSk
 rw [show 65 - k = (65 - (k + 1)) + 1 by omega, leastL] at h4
 have hfu := srch_fuel t k t.rows.length [] 0 f
 cases hr : srch t k t.rows.length [] 0 f with
 | spent =>
   rw [hr] at hSk h4
   simp only at h4
   subst h4
   apply EvC.seq
   apply EvC.tr
   ·apply Tr.run
    ·simp only [go_sem, srA, SR.is, SR.left, SR.lst] <;> rfl
    ·simp [Mach.cells]
    apply Tr.cons
    ·exact .call rfl rfl (by simp only [go_sem] <;> rfl) (by simp only [go_sem] <;> rfl) (by simp only [go_sem] <;> rfl) (by simp only [go_sem] <;> rfl) (by simp only [go_sem] <;> rfl) (hSk)
    apply Tr.done
    ·simp only [go_sem, srA, SR.is, SR.left, SR.lst] <;> rfl
    ·simp
   refine EvC.seq ?_
   refine EvC.seq (EvC.rg (by simp only [go_sem] <;> rfl) (by simp) ?_)
   refine EvC.cond_true (by simp only [go_sem] <;> rfl) ?_
   refine EvC.seq (EvC.rg (by simp only [go_sem] <;> rfl) (by simp) ?_)
   refine EvC.ret ⟨.inl rfl, _, (by simp only [go_sem] <;> rfl), ?_, rfl⟩
   simp only [go_sem]
 | fail f2 =>
   rw [hr] at hSk h4 hfu
   have hf2 : f2 ≤ f := hfu
   simp only at h4
   apply EvC.seq
   apply EvC.tr
   ·apply Tr.run
    ·simp only [go_sem, srA, SR.is, SR.left, SR.lst] <;> rfl
    ·simp [Mach.cells]
    apply Tr.cons
    ·exact .call rfl rfl (by simp only [go_sem] <;> rfl) (by simp only [go_sem] <;> rfl) (by simp only [go_sem] <;> rfl) (by simp only [go_sem] <;> rfl) (by simp only [go_sem] <;> rfl) (hSk)
    apply Tr.done
    ·simp only [go_sem, srA, SR.is, SR.left, SR.lst] <;> rfl
    ·simp
   refine EvC.seq ?_
   refine EvC.seq (EvC.rg (by simp only [go_sem] <;> rfl) (by simp) ?_)
   refine EvC.cond_false (by simp only [go_sem, decide_eq_false (show ¬ (f2 : Int) < 0 by omega)] <;> rfl) ?_
   refine EvC.skip ?_
   refine EvC.seq (EvC.rg (by simp only [go_sem] <;> rfl) (by simp) ?_)
   refine EvC.seq ?_
   refine EvC.seq (EvC.rg (by simp only [go_sem] <;> rfl) (by simp) ?_)
   refine EvC.cond_true (by simp only [go_sem] <;> rfl) ?_
   refine EvC.exit ?_
   refine EvC.rg (by simp only [go_sem] <;> rfl) (by exact inI64_of (by omega) (by omega)) ?_
   exact ⟨[(0, 0)], (k + 1, f2), rfl, (by simp only [go_sem, Mach.cells, Int.natCast_add, Int.natCast_one] <;> rfl), ⟨by simp only; omega, by simp only; omega, by simp only; omega, h4⟩, by simp only; omega⟩
 | found c f2 =>
   rw [hr] at hSk h4 hfu
   have hf2 : f2 ≤ f := hfu
   simp only at h4
   subst h4
   obtain ⟨d1, d2, d3, d4, d5, d6, d7⟩ := hd0 c k f2 rfl
   obtain ⟨N, hN⟩ : ∃ N, N = c.length := ⟨_, rfl⟩
   have hcl : (c.map natC).length = N := by rw [List.length_map, hN]
   apply EvC.seq
   apply EvC.tr
   ·apply Tr.run
    ·simp only [go_sem, srA, SR.is, SR.left, SR.lst] <;> rfl
    ·simp [Mach.cells]
    apply Tr.cons
    ·exact .call rfl rfl (by simp only [go_sem] <;> rfl) (by simp only [go_sem] <;> rfl) (by simp only [go_sem] <;> rfl) (by simp only [go_sem] <;> rfl) (by simp only [go_sem] <;> rfl) (hSk)
    apply Tr.done
    ·simp only [go_sem, srA, SR.is, SR.left, SR.lst] <;> rfl
    ·simp
   refine EvC.seq ?_
   refine EvC.seq (EvC.rg (by simp only [go_sem] <;> rfl) (by simp) ?_)
   refine EvC.cond_false (by simp only [go_sem, decide_eq_false (show ¬ (f2 : Int) < 0 by omega)] <;> rfl) ?_
   refine EvC.skip ?_
   refine EvC.seq (EvC.rg (by simp only [go_sem] <;> rfl) (by simp) ?_)
   refine EvC.seq ?_
   refine EvC.seq (EvC.rg (by simp only [go_sem] <;> rfl) (by simp) ?_)
   refine EvC.cond_false (by simp only [go_sem] <;> rfl) ?_
   refine EvC.skip ?_
   refine EvC.seq (EvC.rg (by simp only [go_sem] <;> rfl) (by simp) ?_)
   refine EvC.thaw 20 (by simp only [go_sem] <;> rfl) ?_
   refine EvC.seq ?_
   refine EvC.seq (EvC.rg (by simp only [go_sem] <;> rfl) (by simp) ?_)
   refine EvC.block ?_
   refine EvC.loopS (σ := Nat) (fun s => ⟨[(1, .sc (.int .i64 f2)), (2, .ia t.cells), (4, .rf 0 0), (7, .sc (.int .i64 k)), (8, .sl false (c.map natC) .unk), (11, redV (redC c s).length), (12, .sc (.int .i64 s))], [], [(0, .cells [.sc (.int .i64 0), .sc (.int .i64 0), .sl true [] .zer]), (1, .arr 1 ((redC c s).map natC) false)], 2⟩) (fun s => k - s)
    (fun s => s ≤ k) [1, 2, 4, 7, 8, 11, 12] 2 ?_ ?_
   ·exact ⟨[(0, 0), (20, 1)], 0, rfl, (by simp only [go_sem, Mach.cells, redC, List.range_zero, List.flatMap_nil, List.map_nil, List.length_nil, redV, Int.natCast_zero] <;> rfl), Nat.zero_le _⟩
   intro s hs
   have hsin : (s : Int).toNat = s := Int.toNat_natCast s
   have hsl := redC_len s hs d2
   rw [hsl]
   refine EvC.seq ?_
   refine EvC.seq (EvC.rg (by simp only [go_sem] <;> rfl) (by simp) ?_)
   refine EvC.cond (by simp only [go_sem] <;> rfl) (fun hc => ?_) (fun hc => ?_)
   rotate_left
   ·
    have hc : ¬ s < k := by simpa using hc
    obtain rfl : s = k := by omega
    have hs0 : s ≠ 0 := by omega
    have hrv : redV s = .tv 1 s 0 s .rest := if_neg hs0
    rw [hrv]
    have hRl : ((redC c s).map natC).length = s := by rw [List.length_map, hsl]
    have htk : ((redC c s).map natC).take s = (redC c s).map natC := List.take_of_length_le (by omega)
    refine EvC.exit ?_
    refine EvC.frz 1 (by simp only [go_sem, hRl, htk, norefs_natC] <;> rfl) ?_
    have hM := machine52_is v (c := c) d4 (red := redC c s) ⟨by omega, by omega⟩ (fun r hr => by have := redC_mem hr; omega)
    rw [Mach.cells] at hM
    apply EvC.seq
    apply EvC.tr
    ·apply Tr.run
     ·simp only [go_sem] <;> rfl
     ·simp [Mach.cells]
     apply Tr.cons
     ·exact .call rfl rfl (by simp only [go_sem] <;> rfl) (by simp only [go_sem] <;> rfl) (by simp only [go_sem] <;> rfl) (by simp only [go_sem] <;> rfl) (by simp only [go_sem] <;> rfl) (hM)
     apply Tr.done
     ·simp only [go_sem] <;> rfl
     ·simp
    refine EvC.ret ⟨.inl rfl, _, (by simp only [go_sem] <;> rfl), ?_, rfl⟩
    simp only [go_sem]
   have hsk : s < k := by simpa using hc
   clear hc
   refine EvC.skip ?_
   refine EvC.seq ?_
   refine EvC.block ?_
   refine EvC.seq (EvC.rg (by simp only [go_sem, hcl] <;> rfl) (by exact inI64_of (by omega) (by omega)) ?_)
   refine EvC.block ?_
   obtain ⟨R, hR⟩ : ∃ R, R = redC c s := ⟨_, rfl⟩
   rw [← hR] at hsl ⊢
   refine EvC.loopS (σ := Nat) (fun m => ⟨[(1, .sc (.int .i64 f2)), (2, .ia t.cells), (4, .rf 0 0), (7, .sc (.int .i64 k)), (8, .sl false (c.map natC) .unk), (11, redV (s + (fndC c s m).length)), (12, .sc (.int .i64 s)), (13, .sc (.int .i64 ((m : Int) - 1)))], [], [(0, .cells [.sc (.int .i64 0), .sc (.int .i64 0), .sl true [] .zer]), (1, .arr 1 ((R ++ fndC c s m).map natC) false)], 2⟩) (fun m => m)
    (fun m => m ≤ N) [1, 2, 4, 7, 8, 11, 12, 13] 2 ?_ ?_
   ·refine ⟨[(0, 0), (1, 1)], N, rfl, ?_, Nat.le_refl _⟩
    rw [fndC_end (by omega)]
    by_cases h : s = 0
    ·subst h
     simp only [go_sem, Mach.cells, redV, List.length_nil, List.append_nil, norefs_natC] <;> rfl
    ·have hb : (s == 0) = false := beq_eq_false_iff_ne.2 h
     have hrv : redV s = .tv 1 s 0 s .rest := if_neg h
     simp only [go_sem, Mach.cells, hrv, List.length_nil, List.append_nil, Nat.add_zero, norefs_natC] <;> rfl
   intro m hm
   refine EvC.seq ?_
   refine EvC.seq (EvC.rg (by simp only [go_sem] <;> rfl) (by simp) ?_)
   by_cases hm0 : m = 0
   ·
    subst hm0
    refine EvC.cond_false (by simp only [go_sem] <;> rfl) ?_
    refine EvC.exit ?_
    obtain ⟨q, hq⟩ := fndC_one (d2 s hsk)
    have hnext : redC c (s + 1) = R ++ [q] := by rw [redC_succ, ← hR, hq]
    have hnl : (redC c (s + 1)).length = s + 1 := by rw [hnext, List.length_append, hsl]; rfl
    rw [hq]
    refine EvC.rg (by simp only [go_sem] <;> rfl) (by exact inI64_of (by omega) (by omega)) ?_
    refine ⟨[(0, 0), (1, 1)], s + 1, rfl, ?_, by omega, by omega⟩
    rw [hnl, hnext]
    simp only [go_sem, Mach.cells, List.length_singleton, norefs_natC, Int.natCast_add, Int.natCast_one] <;> rfl
   obtain ⟨n, rfl⟩ : ∃ n, m = n + 1 := ⟨m - 1, by omega⟩
   have hmi : (((n + 1 : Nat) : Int) - 1) = (n : Int) := by omega
   rw [hmi]
   refine EvC.cond_true (by simp only [go_sem, decide_eq_true (show (0 : Int) ≤ n by omega)] <;> rfl) ?_
   refine EvC.skip ?_
   refine EvC.seq ?_
   refine EvC.block ?_
   have hst := fndC_step (c := c) (s := s) (m := n) (by omega)
   have hgn : (c.map natC)[n]? = some (natC (stN c n)) := by rw [List.getElem?_map, stN_get (by omega)]; rfl
   have hnin : (n : Int).toNat = n := Int.toNat_natCast n
   have hRl : (R.map natC).length = s := by rw [List.length_map, hsl]
   have htk : (R.map natC).take s = R.map natC := List.take_of_length_le (by omega)
   have dsc : decide (((stN c n : Nat) : Int) = (s : Int)) = decide (stN c n = s) := decide_eq_decide.2 (by omega)
   have hfl := fndC_len c s (n + 1)
   have hfm := fun q h => fndC_mem (c := c) (s := s) (m := n + 1) (q := q) h
   generalize fndC c s (n + 1) = fn at hst hfl hfm
   rcases fn with _ | ⟨q, fn⟩
   ·
    have hno : ((R ++ []).map natC)[s]? = none := by rw [List.append_nil]; exact List.getElem?_eq_none (by omega)
    rw [List.append_nil] at hno
    rw [List.map_nil, List.append_nil, List.length_nil, Nat.add_zero]
    by_cases e : stN c n = s
    ·rw [if_pos e] at hst
     by_cases hs0 : s = 0
     ·subst hs0
      have hR0 : R = [] := List.length_eq_zero_iff.1 hsl
      subst hR0
      have e0 : decide (((stN c n : Nat) : Int) = 0) = true := decide_eq_true (by omega)
      apply EvC.seq
      apply EvC.tr
      ·apply Tr.run
       ·simp only [go_sem, hcl, hgn, hnin, hsin, natC, e0, redV] <;> rfl
       ·simp; try omega
       apply Tr.cons
       ·exact .skipv ((.sc (.int .i64 0))) rfl rfl (by simp only [go_sem] <;> rfl) (by simp only [go_sem] <;> rfl)
       apply Tr.done
       ·simp only [go_sem] <;> rfl
       ·simp
      refine EvC.cond_true (by simp only [go_sem] <;> rfl) ?_
      refine EvC.frz 1 (by simp only [go_sem] <;> rfl) ?_
      refine EvC.zerS 11 (by simp only [go_sem] <;> rfl) ?_
      refine EvC.rg (by simp only [go_sem] <;> rfl) (by simp [room_eq]) ?_
      refine EvC.slotTv 11 (by simp only [go_sem] <;> rfl) ?_
      refine EvC.rg (by simp only [go_sem] <;> rfl) (by exact inI64_of (by omega) (by omega)) ?_
      refine ⟨[(0, 0), (29, 1)], n, rfl, ?_, by omega, by omega⟩
      rw [hst]
      have hn1 : ((1 : Nat) == 0) = false := rfl
      simp only [go_sem, Mach.cells, redV, List.length_singleton, List.nil_append, List.map_cons, List.map_nil, natC] <;> rfl
     have hrv : redV s = .tv 1 s 0 s .rest := if_neg hs0
     rw [hrv]
     apply EvC.seq
     apply EvC.tr
     ·apply Tr.run
      ·simp only [go_sem, hcl, hgn, hnin, hsin, natC, dsc, decide_eq_true e, hRl, htk, hno] <;> rfl
      ·simp; try omega
      apply Tr.cons
      ·exact .skipv ((.sc (.int .i64 0))) rfl rfl (by simp only [go_sem] <;> rfl) (by simp only [go_sem] <;> rfl)
      apply Tr.done
      ·simp only [go_sem] <;> rfl
      ·simp
     refine EvC.cond_true (by simp only [go_sem] <;> rfl) ?_
     have hr5 : room (s + 1) 8 = true := by simp only [room_eq, decide_eq_true_eq]; omega
     refine EvC.rg (by simp only [go_sem, hsin, hRl, htk, Nat.sub_zero] <;> rfl) (by simp; exact ⟨hs0, hr5⟩) ?_
     refine EvC.rg (by simp only [go_sem] <;> rfl) (by exact inI64_of (by omega) (by omega)) ?_
     refine ⟨[(0, 0), (1, 1)], n, rfl, ?_, by omega, by omega⟩
     rw [hst]
     have hrv1 : redV (s + 1) = .tv 1 (s + 1) 0 (s + 1) .rest := if_neg (by omega)
     simp only [go_sem, Mach.cells, hrv1, List.length_singleton, List.map_append, List.map_cons, List.map_nil, natC] <;> rfl
    ·rw [if_neg e] at hst
     have de := decide_eq_false e
     by_cases hs0 : s = 0
     ·subst hs0
      have hR0 : R = [] := List.length_eq_zero_iff.1 hsl
      subst hR0
      have e0 : decide (((stN c n : Nat) : Int) = 0) = false := decide_eq_false (by omega)
      apply EvC.seq
      apply EvC.tr
      ·apply Tr.run
       ·simp only [go_sem, hcl, hgn, hnin, hsin, natC, e0, redV] <;> rfl
       ·simp; try omega
       apply Tr.cons
       ·exact .skipv ((.sc (.int .i64 0))) rfl rfl (by simp only [go_sem] <;> rfl) (by simp only [go_sem] <;> rfl)
       apply Tr.done
       ·simp only [go_sem] <;> rfl
       ·simp
      refine EvC.cond_false (by simp only [go_sem] <;> rfl) ?_
      refine EvC.skip ?_
      refine EvC.rg (by simp only [go_sem] <;> rfl) (by exact inI64_of (by omega) (by omega)) ?_
      refine ⟨[(0, 0), (1, 1)], n, rfl, ?_, by omega, by omega⟩
      rw [hst]
      simp only [go_sem, Mach.cells, redV, List.length_nil, List.append_nil] <;> rfl
     have hrv : redV s = .tv 1 s 0 s .rest := if_neg hs0
     rw [hrv]
     apply EvC.seq
     apply EvC.tr
     ·apply Tr.run
      ·simp only [go_sem, hcl, hgn, hnin, hsin, natC, dsc, de, hRl, htk, hno] <;> rfl
      ·simp; try omega
      apply Tr.cons
      ·exact .skipv ((.sc (.int .i64 0))) rfl rfl (by simp only [go_sem] <;> rfl) (by simp only [go_sem] <;> rfl)
      apply Tr.done
      ·simp only [go_sem] <;> rfl
      ·simp
     refine EvC.cond_false (by simp only [go_sem] <;> rfl) ?_
     refine EvC.skip ?_
     refine EvC.rg (by simp only [go_sem] <;> rfl) (by exact inI64_of (by omega) (by omega)) ?_
     refine ⟨[(0, 0), (1, 1)], n, rfl, ?_, by omega, by omega⟩
     rw [hst]
     have hb : (s == 0) = false := beq_eq_false_iff_ne.2 hs0
     simp only [go_sem, Mach.cells, hrv, List.length_nil, List.append_nil, List.map_nil, Nat.add_zero] <;> rfl
   ·
    have hfn : fn = [] := by
     cases fn with
     | nil => rfl
     | cons _ _ => simp at hfl
    subst hfn
    obtain ⟨hq1, hq2, hq3⟩ := hfm q (by simp)
    have hrv : redV (s + [q].length) = .tv 1 (s + 1) 0 (s + 1) .rest := if_neg (by simp)
    rw [hrv]
    have hL1 : (R.map natC ++ [q].map natC).length = s + 1 := by rw [List.length_append, hRl]; rfl
    have hgq : (R.map natC ++ [q].map natC)[s]? = some (natC q) := by rw [List.getElem?_append_right (by omega), hRl, Nat.sub_self]; rfl
    have hlt : decide ((n : Int) < (q : Int)) = true := decide_eq_true (by omega)
    have hne : decide (((s : Int) + 1) = (s : Int)) = false := decide_eq_false (by omega)
    have hcast : (((s + 1 : Nat)) : Int) = (s : Int) + 1 := rfl
    have htk2 : (R.map natC ++ [q].map natC).take s = R.map natC := by rw [List.take_append_of_le_length (by omega), htk]
    have htk3 : (R.map natC ++ [q].map natC).take (s + 1) = R.map natC ++ [q].map natC := List.take_of_length_le (by omega)
    have hdr : (R.map natC ++ [q].map natC).drop (s + 1) = [] := List.drop_of_length_le (by omega)
    generalize hLq : R.map natC ++ [q].map natC = Lq at hL1 hgq htk2 htk3 hdr
    by_cases e : stN c n = s
    ·rw [if_pos e] at hst
     have de := decide_eq_true e
     apply EvC.seq
     apply EvC.trd
     ·simp only [go_sem, hcl, hgn, hnin, hsin, natC, dsc, de, hL1, hgq, htk3, hlt, hcast, hne] <;> rfl
     ·simp; try omega
     refine EvC.cond_true (by simp only [go_sem] <;> rfl) ?_
     have hns : (s = s + 1) = False := by simp
     refine EvC.rg (by simp only [go_sem, hsin, hL1, htk2, htk3, hdr, hns, Nat.sub_zero, List.append_nil] <;> rfl) (by simp) ?_
     refine EvC.rg (by simp only [go_sem] <;> rfl) (by exact inI64_of (by omega) (by omega)) ?_
     refine ⟨[(0, 0), (1, 1)], n, rfl, ?_, by omega, by omega⟩
     have hrvn : redV (s + [n].length) = .tv 1 (s + 1) 0 (s + 1) .rest := if_neg (by simp)
     rw [hst, hrvn]
     simp only [go_sem, Mach.cells, List.map_append, List.map_cons, List.map_nil, natC] <;> rfl
    ·rw [if_neg e] at hst
     have de := decide_eq_false e
     apply EvC.seq
     apply EvC.trd
     ·simp only [go_sem, hcl, hgn, hnin, hsin, natC, dsc, de, hL1, hgq, htk3, hlt, hcast, hne] <;> rfl
     ·simp; try omega
     refine EvC.cond_false (by simp only [go_sem] <;> rfl) ?_
     refine EvC.skip ?_
     refine EvC.rg (by simp only [go_sem] <;> rfl) (by exact inI64_of (by omega) (by omega)) ?_
     refine ⟨[(0, 0), (1, 1)], n, rfl, ?_, by omega, by omega⟩
     rw [hst, hrv]
     rw [← hLq]
     simp only [go_sem, Mach.cells, List.map_append] <;> rfl
end Go.Avl
namespace Go.Avl
open Go Go.Proofs.Try
set_option maxRecDepth 10000
set_option linter.unusedSimpArgs false
def cutT (t : TR) : TR := ⟨t.w.take 5, t.r.take 5⟩
def fewL (L : List TR) : List TR := (L.take 3).map cutT
theorem traceC_cut {t : TR} (h : t.r.length = t.w.length) : ([.sl t.w.isEmpty ((t.w.map intC).take (min t.w.length 5)) .unk, .sl t.r.isEmpty ((t.r.map intC).take (min t.w.length 5)) .unk] : List AV) = traceC (cutT t) := by
 obtain ⟨w, r⟩ := t
 simp only at h
 unfold traceC cutT
 simp only
 have hw : w.take (min w.length 5) = w.take 5 := by
  by_cases h5 : w.length ≤ 5
  ·rw [Nat.min_eq_left h5, List.take_length, List.take_of_length_le h5]
  ·rw [Nat.min_eq_right (by omega)]
 have hr : r.take (min w.length 5) = r.take 5 := by
  rw [← h]
  by_cases h5 : r.length ≤ 5
  ·rw [Nat.min_eq_left h5, List.take_length, List.take_of_length_le h5]
  ·rw [Nat.min_eq_right (by omega)]
 rw [← List.map_take, ← List.map_take, hw, hr]
 have e : ∀ l : List Int, (l.take 5).isEmpty = l.isEmpty := fun l => by cases l <;> rfl
 rw [e, e]
set_option maxHeartbeats 8000000 in
theorem few30_is (i o : Int) (L : List TR) (hL : ∀ t ∈ L, TrOk t) (hl : L.length < 1000000) : PureIs prog 30 [logA i o L] (logA i o (fewL L)) := by
 unfold logA
 refine PureIs.of (nv := 2) (hid := [2, 3, 4, 5, 19]) func30 rfl (by kernel_rfl) (by simp [ntmps30]) fun _ => ?_
 rw [ntmps30, results30]
 refine EvC.seq (EvC.rg (by simp only [go_sem] <;> rfl) (by simp) ?_)
 refine EvC.frzB 0 (by simp only [go_sem] <;> rfl) ?_
 refine EvC.seq (EvC.rg (by simp only [go_sem] <;> rfl) (by simp) ?_)
 refine EvC.seq ?_
 refine EvC.seq (EvC.rg (by simp only [go_sem] <;> rfl) (by simp) ?_)
 refine EvC.ownC 7 2 2 (by simp only [go_sem] <;> rfl) ?_
 refine EvC.block ?_
 refine EvC.loopS (σ := Nat) (fun k => ⟨[(1, .ia [.sc (.int .i64 i), .sc (.int .i64 o), .sl L.isEmpty (L.map traceC) .unk]), (2, .rf 0 0), (3, .rf 1 0), (4, .sc (.int .i64 k))], [],
  [(0, .cells [.sc (.int .i64 0), .sc (.int .i64 0), .sl true [] .zer]), (1, .cells [.sc (.int .i64 i), .sc (.int .i64 o), .tl 2 k (k == 0)]), (2, .arr 2 (((L.take k).map cutT).map traceC) true)], 3⟩) (fun k => L.length - k) (fun k => k ≤ L.length ∧ k ≤ 3) [1, 2, 3, 4] 3 ?_ ?_
 ·exact ⟨[(1, 0), (7, 1), (10, 2)], 0, rfl, (by simp only [go_sem, List.take_zero, List.map_nil, Int.natCast_zero] <;> rfl), Nat.zero_le _, Nat.zero_le _⟩
 rintro k ⟨h1, h2⟩
 have hkin : (k : Int).toNat = k := Int.toNat_natCast k
 have hTl : (((L.take k).map cutT).map traceC).length = k := by simp; omega
 refine EvC.seq ?_
 apply EvC.seq
 apply EvC.trd
 ·simp only [go_sem, List.length_map] <;> rfl
 ·simp
 by_cases hk : k < L.length ∧ k < 3
 rotate_left
 ·
  have hg : (if decide ((k : Int) < (L.length : Int)) = true then decide ((k : Int) < 3) else false) = false := by
   by_cases h : k < L.length
   ·rw [decide_eq_true (show (k : Int) < L.length by omega), if_pos rfl, decide_eq_false (by omega)]
   ·rw [decide_eq_false (show ¬ (k : Int) < L.length by omega), if_neg (by simp)]
  have hT : (L.take k).map cutT = fewL L := by
   unfold fewL
   by_cases h : k < 3
   ·rw [List.take_of_length_le (by omega), List.take_of_length_le (by omega)]
   ·rw [show k = 3 by omega]
  have hke : (k == 0) = (fewL L).isEmpty := by
   rw [← hT]
   cases k with
   | zero => simp
   | succ k => cases L with
     | nil => simp at h1
     | cons _ _ => rfl
  refine EvC.cond_false (by simp only [go_sem, hg] <;> rfl) ?_
  refine EvC.exit ?_
  refine EvC.frzD 2 (by simp only [go_sem, hTl] <;> rfl) ?_
  rw [hT, hke]
  refine EvC.seq (EvC.rg (by simp only [go_sem] <;> rfl) (by simp) ?_)
  refine EvC.ret ⟨.inl rfl, _, (by simp only [go_sem] <;> rfl), ?_, rfl⟩
  simp only [go_sem]
 have hg : (if decide ((k : Int) < (L.length : Int)) = true then decide ((k : Int) < 3) else false) = true := by
  rw [decide_eq_true (show (k : Int) < L.length by omega), if_pos rfl, decide_eq_true (by omega)]
 refine EvC.cond_true (by simp only [go_sem, hg] <;> rfl) ?_
 refine EvC.skip ?_
 refine EvC.seq ?_
 refine EvC.block ?_
 have hy : L[k]? = some (L[k]'hk.1) := List.getElem?_eq_getElem hk.1
 have hyk := hL _ (List.getElem_mem hk.1)
 have htk : (L.take (k + 1)).map cutT = (L.take k).map cutT ++ [cutT (L[k]'hk.1)] := by rw [List.take_succ, hy, List.map_append]; rfl
 generalize L[k]'hk.1 = t at hy hyk htk
 have hmin : (if (t.w.length : Int) ≤ 5 then (t.w.length : Int) else 5) = ((min t.w.length 5 : Nat) : Int) := by
  split <;> omega
 refine EvC.seq (EvC.rg (by simp only [go_sem, hy, hkin, traceC, hmin, List.length_map] <;> rfl) (by simp; try omega) ?_)
 obtain ⟨n, hn⟩ : ∃ n, n = min t.w.length 5 := ⟨_, rfl⟩
 have hnin : (n : Int).toNat = n := Int.toNat_natCast n
 have hcut := traceC_cut hyk.len
 have hrl := hyk.len
 rw [← hn] at hcut ⊢
 have hcast : ((5 : Nat) : Int) = 5 := rfl
 apply EvC.drd mixed
 ·simp only [go_sem, hy, hkin, hnin, traceC, List.length_map] <;> rfl
 ·have hr6 : room (min k L.length + 1) 48 = true := by simp only [room_eq, decide_eq_true_eq]; omega
  simp
  exact ⟨⟨fun _ _ => rfl, by omega⟩, ⟨fun _ _ => rfl, by omega⟩, by omega, hr6⟩
 ·kernel_rfl
 refine EvC.rg (by simp only [go_sem] <;> rfl) (by exact inI64_of (by omega) (by omega)) ?_
 refine ⟨[(0, 0), (1, 1), (2, 2)], k + 1, rfl, ?_, by omega, by omega⟩
 have hk1 : (k + 1 == 0) = false := rfl
 rw [htk, List.map_append, List.map_singleton, ← hcut]
 have hmk : min k L.length = k := by omega
 simp only [go_sem, hk1, hTl, List.length_map, List.length_take, hmk, Int.natCast_add, Int.natCast_one] <;> rfl
end Go.Avl
namespace Go.Avl
open Go Go.Proofs.Try
set_option maxRecDepth 10000
set_option linter.unusedSimpArgs false
theorem redC_map {c : List Nat} {k : Nat} (hs : ∀ s, s < k → s ∈ c) : (redC c k).map (pU c) = List.range k := by
 apply List.ext_getElem?
 intro s
 by_cases h : s < k
 ·obtain ⟨q, h1, h2, h3⟩ := redC_get hs k (Nat.le_refl _) s h
  rw [List.getElem?_map, h1, List.getElem?_range h, Option.map_some]
  congr 1
  unfold pU
  rw [stN_get h2, h3]; rfl
 ·rw [List.getElem?_eq_none (by rw [List.length_map, redC_len k (Nat.le_refl _) hs]; omega), List.getElem?_eq_none (by simp; omega)]
theorem idxOf_range {k s : Nat} (h : s < k) : (List.range k).idxOf s = s := by
 have hl := List.idxOf_lt_length_of_mem (List.mem_range.2 h)
 have h1 : (List.range k)[(List.range k).idxOf s]'hl = s := List.getElem_idxOf hl
 rw [List.getElem_range] at h1
 exact h1
theorem edgeL_edgeK {t : Mach} (v : TV t) {c : List Nat} (hl : c.length = t.rows.length) {k : Nat} (hs : ∀ s, s < k → s ∈ c) (hx : ∀ x ∈ c, x < k) {s i : Nat} (hsk : s < k) (hi : (i : Int) < t.ins) : ∀ n, n ≤ t.rows.length → edgeL t c (redC c k) s i n = edgeK t c s i n
 | 0, _ => rfl
 | n + 1, hn => by
   obtain ⟨q, h1, h2, h3⟩ := redC_get hs k (Nat.le_refl _) s hsk
   have hp : ∀ m, m < c.length → pU c m = stN c m := fun m hm => by unfold pU; rw [stN_get hm]; rfl
   rw [edgeL, edgeK, edgeL_edgeK v hl hs hx hsk hi n (by omega), h1, Option.getD_some, hp n (by omega), hp q h2, h3]
   by_cases he : stN c n = s ∧ (eT t n i).1 ≠ -1
   ·rw [if_pos he, if_pos he]
    have ht := v.to (show n < t.rows.length by omega) hi he.2
    have hlt : stN c (eT t n i).1.toNat < k := stN_lt hx (by omega)
    rw [hp _ (by omega), placeC, redC_map hs, idxOf_range hlt, redC_len k (Nat.le_refl _) hs, if_pos hlt]
   ·rw [if_neg he, if_neg he]
def rowsK (t : Mach) (c : List Nat) (k : Nat) : List (List (Int × Int)) := (List.range k).map fun s => (List.range t.ins.toNat).map fun i => edgeK t c s i t.rows.length
theorem machC_rowsK {t : Mach} (v : TV t) {c : List Nat} (hl : c.length = t.rows.length) {k : Nat} (hs : ∀ s, s < k → s ∈ c) (hx : ∀ x ∈ c, x < k) : machC t c (redC c k) = rowsK t c k := by
 have hin := v.ins
 unfold machC rowsK
 rw [redC_len k (Nat.le_refl _) hs]
 refine List.map_congr_left fun s hs' => List.map_congr_left fun i hi => ?_
 have := List.mem_range.1 hs'
 have := List.mem_range.1 hi
 rw [edgeR_eq, edgeL_edgeK v hl hs hx (by omega) (by omega) _ (Nat.le_refl _)]
theorem rowsV_rowsK (t : Mach) (c : List Nat) (k : Nat) : rowsV (fun s i => edgeK t c s i t.rows.length) k t.ins.toNat = (rowsK t c k).map rowF := by
 unfold rowsV rowsK gcells
 rw [List.map_map]
 refine List.map_congr_left fun s _ => ?_
 simp [rowF, rowC]
theorem TrVal.cut {ins : Nat} {outs : Int} {t : TR} (h : TrVal ins outs t) : TrVal ins outs (cutT t) := by
 refine ⟨?_, fun a ha => h.sym a (List.mem_of_mem_take ha), ?_⟩
 ·unfold cutT; simp only [List.length_take, h.len]
 ·exact FormR.take h.form 5
theorem few_val {ins : Nat} {outs : Int} {L : List TR} (h : ∀ t ∈ L, TrVal ins outs t) : ∀ t ∈ fewL L, TrVal ins outs t := fun t ht => by
 obtain ⟨u, hu, rfl⟩ := List.mem_map.1 ht
 exact (h u (List.mem_of_mem_take hu)).cut
theorem few_len (L : List TR) : (fewL L).length ≤ 3 ∧ ∀ t ∈ fewL L, t.w.length ≤ 5 := by
 refine ⟨by simp [fewL]; omega, fun t ht => ?_⟩
 obtain ⟨u, hu, rfl⟩ := List.mem_map.1 ht
 simp only [cutT, List.length_take]; omega
def LG.ftree (g : LG) : Mach := treeM g.m.mach.ins.toNat g.m.mach.outs (okLog (fewL g.log))
theorem LG.ftree_ok {g : LG} (hg : g.Ok) : checkT g.ftree = 0 ∧ TV g.ftree ∧ TP g.ftree := by
 have va := LM.valid hg.m
 have hv := few_val (LG.log_val hg)
 have hl := few_len g.log
 have hvo : ∀ t ∈ okLog (fewL g.log), TrVal g.m.mach.ins.toNat g.m.mach.outs t := fun t ht => hv t (okLog_sub ht)
 have hc : Cons (okLog (fewL g.log)) := Cons.okLog fun t ht => (hv t ht).len
 have hn := nodesL_len (L := okLog (fewL g.log)) fun t ht => ⟨(hvo t ht).len, by have := hl.2 t (okLog_sub ht); omega⟩
 have := okLog_len (fewL g.log)
 have h := checkT_tree hvo hc (by have := va.ins; omega) va.outs (by omega)
 exact ⟨h, TV.of h, TP.of h⟩
theorem LG.ftree_is {g : LG} (hg : g.Ok) : PureIs prog 11 [logA g.m.mach.ins g.m.mach.outs (fewL g.log)] (.ag g.ftree.cells) := by
 have va := (LM.valid hg.m).ins
 have hl := few_len g.log
 have hv := few_val (LG.log_val hg)
 have := tree11_is g.m.mach.ins.toNat g.m.mach.outs (fewL g.log).isEmpty (fewL g.log) .unk (fun t ht => ⟨(hv t ht).len, by have := hl.2 t ht; omega⟩) (by omega) (by omega)
 rw [Int.toNat_of_nonneg (by omega)] at this
 exact this
end Go.Avl
namespace Go.Avl
open Go Go.Proofs.Try
set_option maxRecDepth 10000
set_option linter.unusedSimpArgs false
def mM (t : Mach) (rows : List (List (Int × Int))) : Mach := ⟨t.ins, t.outs, false, rows.map fun r => (false, r)⟩
theorem mM_unk2 (t : Mach) (rows : List (List (Int × Int))) : AV.unk (.ag [.sc (.int .i64 t.ins), .sc (.int .i64 t.outs), .sl false (rows.map rowF) .unk]) = .ag (mM t rows).cells := by
 have h : AV.unkss (rows.map rowF) = (rows.map fun r => ((false, r) : Row)).map rowC := by
  rw [unkss_eq, List.map_map, List.map_map]
  refine List.map_congr_left fun r _ => ?_
  have : AV.unkss (r.map edgeC) = r.map edgeC := unkss_map edgeC (fun _ => rfl) r
  simp [rowF, rowC, AV.unks, AV.unk, this]
 simp only [AV.unk, AV.unks, h, mM, Mach.cells]
end Go.Avl
namespace Go.Avl
open Go Go.Proofs.Try
set_option maxRecDepth 10000
set_option linter.unusedSimpArgs false
theorem mM_unk3 (t : Mach) (rows : List (List (Int × Int))) : AV.unk (.ag [.sc (.int .i64 t.ins), .sc (.int .i64 t.outs), .sl false (rows.map rowF) .full]) = .ag (mM t rows).cells := by
 rw [← mM_unk2]; rfl
theorem zero_same : PureIs prog 22 [.ag [.sc (.int .i64 0), .sc (.int .i64 0), .sl true [] .zer], .ag [.sc (.int .i64 0), .sc (.int .i64 0), .sl true [] .zer]] (.sc (.bool true)) :=
 PureIs.weak (sameM_is (a := ⟨0, 0, true, []⟩) (b := ⟨0, 0, true, []⟩) rfl rfl rfl (by simp) (by simp))
set_option maxHeartbeats 8000000 in
theorem mergesLeast_is {g : LG} (hg : g.Ok) (fuel : Int) : PureIs prog 7 [.ag g.cells, .sc (.int .i64 fuel)] (.sc (.bool true)) := by
 obtain ⟨hck, v, tp⟩ := LG.ftree_ok hg
 have hO := of12_is hg
 have hlv := LG.log_val hg
 have hll := LG.log_len (g := g)
 have hF := few30_is g.m.mach.ins g.m.mach.outs g.log (fun t ht => ⟨(hlv t ht).len, by have := hll.2 t ht; omega⟩) (by omega)
 have hT := LG.ftree_is hg
 have hL := lives15_is
 generalize g.ftree = t at hck v tp hT
 have hrw := v.rows
 unfold logA at hO hF hT
 unfold LG.cells at *
 refine PureIs.of (nv := 3) (hid := [4, 5, 6, 7, 8, 9, 10, 11, 13]) func7 rfl (by kernel_rfl) (by simp [ntmps7]) fun _ => ?_
 rw [ntmps7, results7]
 refine EvC.seq (EvC.rg (by simp only [go_sem] <;> rfl) (by simp) ?_)
 refine EvC.frzB 0 (by simp only [go_sem] <;> rfl) ?_
 refine EvC.seq ?_
 refine EvC.seq (EvC.rg (by simp only [go_sem] <;> rfl) (by simp) ?_)
 by_cases h2 : 2000 < fuel
 ·refine EvC.cond_true (by simp only [go_sem, decide_eq_true h2] <;> rfl) ?_
  refine EvC.seq (EvC.rg (by simp only [go_sem] <;> rfl) (by simp) ?_)
  refine EvC.ret ⟨.inl rfl, _, (by simp only [go_sem] <;> rfl), ?_, rfl⟩
  simp only [go_sem]
 refine EvC.cond_false (by simp only [go_sem, decide_eq_false h2] <;> rfl) ?_
 refine EvC.skip ?_
 have c1 := least31_is t v.short fuel (by omega)
 have c2 := least32_is v tp fuel (by omega)
 unfold leastRes at c1
 unfold refLeast at c2
 rw [nodesE_zero hck (by intro x hx; cases hx), if_neg (by simp)] at c1
 rw [Mach.cells] at hT
 refine EvC.gcE [1, 2] [] 0 rfl (by simp only [go_sem] <;> rfl) ?_
 have s0 := zero_same
 by_cases h1 : fuel < 1
 ·rw [if_pos h1] at c1 c2
  simp only [zeroM] at c1 c2
  rw [Mach.cells] at c1 c2
  apply EvC.seq
  apply EvC.tr
  ·apply Tr.run
   ·simp only [go_sem] <;> rfl
   ·simp
   apply Tr.cons
   ·exact .call rfl rfl (by simp only [go_sem] <;> rfl) (by simp only [go_sem] <;> rfl) (by simp only [go_sem] <;> rfl) (by simp only [go_sem] <;> rfl) (by simp only [go_sem] <;> rfl) (hO)
   apply Tr.run
   ·simp only [go_sem] <;> rfl
   ·simp
   apply Tr.cons
   ·exact .call rfl rfl (by simp only [go_sem] <;> rfl) (by simp only [go_sem] <;> rfl) (by simp only [go_sem] <;> rfl) (by simp only [go_sem] <;> rfl) (by simp only [go_sem] <;> rfl) (hF)
   apply Tr.run
   ·simp only [go_sem] <;> rfl
   ·simp
   apply Tr.cons
   ·exact .call rfl rfl (by simp only [go_sem] <;> rfl) (by simp only [go_sem] <;> rfl) (by simp only [go_sem] <;> rfl) (by simp only [go_sem] <;> rfl) (by simp only [go_sem] <;> rfl) (hT)
   apply Tr.done
   ·simp only [go_sem] <;> rfl
   ·simp
  refine EvC.frzB 4 (by simp only [go_sem] <;> rfl) ?_
  refine EvC.gc [1, 5] [] 0 rfl ?_
  apply EvC.seq
  apply EvC.tr
  ·apply Tr.run
   ·simp only [go_sem] <;> rfl
   ·simp
   apply Tr.cons
   ·exact .call rfl rfl (by simp only [go_sem] <;> rfl) (by simp only [go_sem] <;> rfl) (by simp only [go_sem] <;> rfl) (by simp only [go_sem] <;> rfl) (by simp only [go_sem] <;> rfl) (c1)
   apply Tr.done
   ·simp only [go_sem] <;> rfl
   ·simp
  refine EvC.frzB 7 (by simp only [go_sem] <;> rfl) ?_
  refine EvC.gc [1, 5, 6, 7, 8] [] 0 rfl ?_
  apply EvC.seq
  apply EvC.tr
  ·apply Tr.run
   ·simp only [go_sem] <;> rfl
   ·simp
   apply Tr.cons
   ·exact .call rfl rfl (by simp only [go_sem] <;> rfl) (by simp only [go_sem] <;> rfl) (by simp only [go_sem] <;> rfl) (by simp only [go_sem] <;> rfl) (by simp only [go_sem] <;> rfl) (c2)
   apply Tr.done
   ·simp only [go_sem] <;> rfl
   ·simp
  refine EvC.frzB 7 (by simp only [go_sem] <;> rfl) ?_
  refine EvC.gc [5, 6, 7, 8, 9, 10, 11] [] 0 rfl ?_
  apply EvC.seq
  apply EvC.tr
  ·apply Tr.run
   ·simp only [go_sem] <;> rfl
   ·simp
   apply Tr.cons
   ·exact .callG rfl rfl (by simp only [go_sem] <;> rfl) rfl (by simp only [go_sem] <;> rfl) (by simp only [go_sem] <;> rfl) (by simp only [go_sem] <;> rfl) (by simp only [go_sem] <;> rfl) (by simp only [go_sem] <;> rfl) (s0)
   apply Tr.run
   ·simp only [go_sem] <;> rfl
   ·simp
   apply Tr.cons
   ·exact .callG rfl rfl (by simp only [go_sem] <;> rfl) rfl (by simp only [go_sem] <;> rfl) (by simp only [go_sem] <;> rfl) (by simp only [go_sem] <;> rfl) (by simp only [go_sem] <;> rfl) (by simp only [go_sem] <;> rfl) (hL)
   apply Tr.done
   ·simp only [go_sem, List.length_map] <;> rfl
   ·simp
  refine EvC.ret ⟨.inl rfl, _, (by simp only [go_sem] <;> rfl), ?_, rfl⟩
  simp only [go_sem]
 rw [if_neg h1] at c1 c2
 have hdn := fun c k f h => leastL_all (t := t) (n := 64) (fuel := fuel.toNat) (c := c) (k := k) (f := f) hrw.1 h
 generalize leastL t 64 1 fuel.toNat = r at c1 c2 hdn
 cases r with
 | spent =>
   simp only [zeroM] at c1 c2
   rw [Mach.cells] at c1 c2
   apply EvC.seq
   apply EvC.tr
   ·apply Tr.run
    ·simp only [go_sem] <;> rfl
    ·simp
    apply Tr.cons
    ·exact .call rfl rfl (by simp only [go_sem] <;> rfl) (by simp only [go_sem] <;> rfl) (by simp only [go_sem] <;> rfl) (by simp only [go_sem] <;> rfl) (by simp only [go_sem] <;> rfl) (hO)
    apply Tr.run
    ·simp only [go_sem] <;> rfl
    ·simp
    apply Tr.cons
    ·exact .call rfl rfl (by simp only [go_sem] <;> rfl) (by simp only [go_sem] <;> rfl) (by simp only [go_sem] <;> rfl) (by simp only [go_sem] <;> rfl) (by simp only [go_sem] <;> rfl) (hF)
    apply Tr.run
    ·simp only [go_sem] <;> rfl
    ·simp
    apply Tr.cons
    ·exact .call rfl rfl (by simp only [go_sem] <;> rfl) (by simp only [go_sem] <;> rfl) (by simp only [go_sem] <;> rfl) (by simp only [go_sem] <;> rfl) (by simp only [go_sem] <;> rfl) (hT)
    apply Tr.done
    ·simp only [go_sem] <;> rfl
    ·simp
   refine EvC.frzB 4 (by simp only [go_sem] <;> rfl) ?_
   refine EvC.gc [1, 5] [] 0 rfl ?_
   apply EvC.seq
   apply EvC.tr
   ·apply Tr.run
    ·simp only [go_sem] <;> rfl
    ·simp
    apply Tr.cons
    ·exact .call rfl rfl (by simp only [go_sem] <;> rfl) (by simp only [go_sem] <;> rfl) (by simp only [go_sem] <;> rfl) (by simp only [go_sem] <;> rfl) (by simp only [go_sem] <;> rfl) (c1)
    apply Tr.done
    ·simp only [go_sem] <;> rfl
    ·simp
   refine EvC.frzB 7 (by simp only [go_sem] <;> rfl) ?_
   refine EvC.gc [1, 5, 6, 7, 8] [] 0 rfl ?_
   apply EvC.seq
   apply EvC.tr
   ·apply Tr.run
    ·simp only [go_sem] <;> rfl
    ·simp
    apply Tr.cons
    ·exact .call rfl rfl (by simp only [go_sem] <;> rfl) (by simp only [go_sem] <;> rfl) (by simp only [go_sem] <;> rfl) (by simp only [go_sem] <;> rfl) (by simp only [go_sem] <;> rfl) (c2)
    apply Tr.done
    ·simp only [go_sem] <;> rfl
    ·simp
   refine EvC.frzB 7 (by simp only [go_sem] <;> rfl) ?_
   refine EvC.gc [5, 6, 7, 8, 9, 10, 11] [] 0 rfl ?_
   apply EvC.seq
   apply EvC.tr
   ·apply Tr.run
    ·simp only [go_sem] <;> rfl
    ·simp
    apply Tr.cons
    ·exact .callG rfl rfl (by simp only [go_sem] <;> rfl) rfl (by simp only [go_sem] <;> rfl) (by simp only [go_sem] <;> rfl) (by simp only [go_sem] <;> rfl) (by simp only [go_sem] <;> rfl) (by simp only [go_sem] <;> rfl) (s0)
    apply Tr.run
    ·simp only [go_sem] <;> rfl
    ·simp
    apply Tr.cons
    ·exact .callG rfl rfl (by simp only [go_sem] <;> rfl) rfl (by simp only [go_sem] <;> rfl) (by simp only [go_sem] <;> rfl) (by simp only [go_sem] <;> rfl) (by simp only [go_sem] <;> rfl) (by simp only [go_sem] <;> rfl) (hL)
    apply Tr.done
    ·simp only [go_sem, List.length_map] <;> rfl
    ·simp
   refine EvC.ret ⟨.inl rfl, _, (by simp only [go_sem] <;> rfl), ?_, rfl⟩
   simp only [go_sem]
 | limit =>
   simp only [zeroM] at c1 c2
   rw [Mach.cells] at c1 c2
   apply EvC.seq
   apply EvC.tr
   ·apply Tr.run
    ·simp only [go_sem] <;> rfl
    ·simp
    apply Tr.cons
    ·exact .call rfl rfl (by simp only [go_sem] <;> rfl) (by simp only [go_sem] <;> rfl) (by simp only [go_sem] <;> rfl) (by simp only [go_sem] <;> rfl) (by simp only [go_sem] <;> rfl) (hO)
    apply Tr.run
    ·simp only [go_sem] <;> rfl
    ·simp
    apply Tr.cons
    ·exact .call rfl rfl (by simp only [go_sem] <;> rfl) (by simp only [go_sem] <;> rfl) (by simp only [go_sem] <;> rfl) (by simp only [go_sem] <;> rfl) (by simp only [go_sem] <;> rfl) (hF)
    apply Tr.run
    ·simp only [go_sem] <;> rfl
    ·simp
    apply Tr.cons
    ·exact .call rfl rfl (by simp only [go_sem] <;> rfl) (by simp only [go_sem] <;> rfl) (by simp only [go_sem] <;> rfl) (by simp only [go_sem] <;> rfl) (by simp only [go_sem] <;> rfl) (hT)
    apply Tr.done
    ·simp only [go_sem] <;> rfl
    ·simp
   refine EvC.frzB 4 (by simp only [go_sem] <;> rfl) ?_
   refine EvC.gc [1, 5] [] 0 rfl ?_
   apply EvC.seq
   apply EvC.tr
   ·apply Tr.run
    ·simp only [go_sem] <;> rfl
    ·simp
    apply Tr.cons
    ·exact .call rfl rfl (by simp only [go_sem] <;> rfl) (by simp only [go_sem] <;> rfl) (by simp only [go_sem] <;> rfl) (by simp only [go_sem] <;> rfl) (by simp only [go_sem] <;> rfl) (c1)
    apply Tr.done
    ·simp only [go_sem] <;> rfl
    ·simp
   refine EvC.frzB 7 (by simp only [go_sem] <;> rfl) ?_
   refine EvC.gc [1, 5, 6, 7, 8] [] 0 rfl ?_
   apply EvC.seq
   apply EvC.tr
   ·apply Tr.run
    ·simp only [go_sem] <;> rfl
    ·simp
    apply Tr.cons
    ·exact .call rfl rfl (by simp only [go_sem] <;> rfl) (by simp only [go_sem] <;> rfl) (by simp only [go_sem] <;> rfl) (by simp only [go_sem] <;> rfl) (by simp only [go_sem] <;> rfl) (c2)
    apply Tr.done
    ·simp only [go_sem] <;> rfl
    ·simp
   refine EvC.frzB 7 (by simp only [go_sem] <;> rfl) ?_
   refine EvC.gc [5, 6, 7, 8, 9, 10, 11] [] 0 rfl ?_
   apply EvC.seq
   apply EvC.tr
   ·apply Tr.run
    ·simp only [go_sem] <;> rfl
    ·simp
    apply Tr.cons
    ·exact .callG rfl rfl (by simp only [go_sem] <;> rfl) rfl (by simp only [go_sem] <;> rfl) (by simp only [go_sem] <;> rfl) (by simp only [go_sem] <;> rfl) (by simp only [go_sem] <;> rfl) (by simp only [go_sem] <;> rfl) (s0)
    apply Tr.run
    ·simp only [go_sem] <;> rfl
    ·simp
    apply Tr.cons
    ·exact .callG rfl rfl (by simp only [go_sem] <;> rfl) rfl (by simp only [go_sem] <;> rfl) (by simp only [go_sem] <;> rfl) (by simp only [go_sem] <;> rfl) (by simp only [go_sem] <;> rfl) (by simp only [go_sem] <;> rfl) (hL)
    apply Tr.done
    ·simp only [go_sem, List.length_map] <;> rfl
    ·simp
   refine EvC.ret ⟨.inl rfl, _, (by simp only [go_sem] <;> rfl), ?_, rfl⟩
   simp only [go_sem]
 | done c k f =>
   obtain ⟨d1, d2, d3, d4, d5, d6, d7⟩ := hdn c k f rfl
   simp only at c1 c2
   rw [colRes, rowsV_rowsK] at c1
   rw [machC_rowsK v d4 d2 d3] at c2
   have hrl : ∀ r ∈ (mM t (rowsK t c k)).rows, r.2.length < 1000000 := fun r hr => by
    obtain ⟨x, hx, rfl⟩ := List.mem_map.1 hr
    obtain ⟨s, _, rfl⟩ := List.mem_map.1 hx
    have := v.ins
    simp; omega
   have s0 : PureIs prog 22 [.ag [.sc (.int .i64 t.ins), .sc (.int .i64 t.outs), .sl false ((rowsK t c k).map rowF) .full], .ag [.sc (.int .i64 t.ins), .sc (.int .i64 t.outs), .sl false ((rowsK t c k).map rowF) .unk]] (.sc (.bool true)) := by
    refine PureIs.weak ?_
    rw [List.map_cons, List.map_cons, List.map_nil, mM_unk3, mM_unk2]
    exact sameM_is rfl rfl rfl (by simp [mM, rowsK]; omega) hrl
   generalize rowsK t c k = rows at c1 c2 s0
   rw [Mach.cells] at c1 c2
   apply EvC.seq
   apply EvC.tr
   ·apply Tr.run
    ·simp only [go_sem] <;> rfl
    ·simp
    apply Tr.cons
    ·exact .call rfl rfl (by simp only [go_sem] <;> rfl) (by simp only [go_sem] <;> rfl) (by simp only [go_sem] <;> rfl) (by simp only [go_sem] <;> rfl) (by simp only [go_sem] <;> rfl) (hO)
    apply Tr.run
    ·simp only [go_sem] <;> rfl
    ·simp
    apply Tr.cons
    ·exact .call rfl rfl (by simp only [go_sem] <;> rfl) (by simp only [go_sem] <;> rfl) (by simp only [go_sem] <;> rfl) (by simp only [go_sem] <;> rfl) (by simp only [go_sem] <;> rfl) (hF)
    apply Tr.run
    ·simp only [go_sem] <;> rfl
    ·simp
    apply Tr.cons
    ·exact .call rfl rfl (by simp only [go_sem] <;> rfl) (by simp only [go_sem] <;> rfl) (by simp only [go_sem] <;> rfl) (by simp only [go_sem] <;> rfl) (by simp only [go_sem] <;> rfl) (hT)
    apply Tr.done
    ·simp only [go_sem] <;> rfl
    ·simp
   refine EvC.frzB 4 (by simp only [go_sem] <;> rfl) ?_
   refine EvC.gc [1, 5] [] 0 rfl ?_
   apply EvC.seq
   apply EvC.tr
   ·apply Tr.run
    ·simp only [go_sem] <;> rfl
    ·simp
    apply Tr.cons
    ·exact .call rfl rfl (by simp only [go_sem] <;> rfl) (by simp only [go_sem] <;> rfl) (by simp only [go_sem] <;> rfl) (by simp only [go_sem] <;> rfl) (by simp only [go_sem] <;> rfl) (c1)
    apply Tr.done
    ·simp only [go_sem] <;> rfl
    ·simp
   refine EvC.frzB 7 (by simp only [go_sem] <;> rfl) ?_
   refine EvC.gc [1, 5, 6, 7, 8] [] 0 rfl ?_
   apply EvC.seq
   apply EvC.tr
   ·apply Tr.run
    ·simp only [go_sem] <;> rfl
    ·simp
    apply Tr.cons
    ·exact .call rfl rfl (by simp only [go_sem] <;> rfl) (by simp only [go_sem] <;> rfl) (by simp only [go_sem] <;> rfl) (by simp only [go_sem] <;> rfl) (by simp only [go_sem] <;> rfl) (c2)
    apply Tr.done
    ·simp only [go_sem] <;> rfl
    ·simp
   refine EvC.frzB 7 (by simp only [go_sem] <;> rfl) ?_
   refine EvC.gc [5, 6, 7, 8, 9, 10, 11] [] 0 rfl ?_
   apply EvC.seq
   apply EvC.tr
   ·apply Tr.run
    ·simp only [go_sem] <;> rfl
    ·simp
    apply Tr.cons
    ·exact .callG rfl rfl (by simp only [go_sem] <;> rfl) rfl (by simp only [go_sem] <;> rfl) (by simp only [go_sem] <;> rfl) (by simp only [go_sem] <;> rfl) (by simp only [go_sem] <;> rfl) (by simp only [go_sem] <;> rfl) (s0)
    apply Tr.run
    ·simp only [go_sem] <;> rfl
    ·simp
    apply Tr.cons
    ·exact .callG rfl rfl (by simp only [go_sem] <;> rfl) rfl (by simp only [go_sem] <;> rfl) (by simp only [go_sem] <;> rfl) (by simp only [go_sem] <;> rfl) (by simp only [go_sem] <;> rfl) (by simp only [go_sem] <;> rfl) (hL)
    apply Tr.done
    ·simp only [go_sem, List.length_map] <;> rfl
    ·simp
   refine EvC.ret ⟨.inl rfl, _, (by simp only [go_sem] <;> rfl), ?_, rfl⟩
   simp only [go_sem]
end Go.Avl
namespace Go.Proofs.Ytkfpnkpomjmpeaa
open Go Go.Avl Go.Proofs Go.ChangeShapes Go.RowKit
set_option maxRecDepth 100000 in
theorem mergesLeast_lifted (os : Os) (started : os.Started) (H : Type) (enc : TypeId × Value → H) :
  ReturnsInHanded {} Try.checked os 7 .any (Rows.mergesLeastSpec.pre6 enc Try.prog Try.f7 Rows.mergesLeastRow.domain false) (Rows.mergesLeastSpec.post enc Try.prog Try.f7 false true false false) := by
 refine returnsInHanded_of_change_sized (C := Try.checked) Try.own started (by kernel_rfl) Try.func7
  (ChangeSpec.witness6 (enc := enc) (C := Try.checked) false ⟨#[], #[.agg #[.int .u8 0, .int .u8 0, .int .u8 0, .bool false, .slice none 0 0, .slice none 0 0, .int .u8 0, .int .u8 0, .int .u8 0], .int .i64 0], []⟩ 8 (by kernel_rfl) (by kernel_rfl) (by kernel_rfl) (by kernel_rfl)) ?_
 intro W base args ds gs before hval hW _ hz _
 have hW' := hW
 obtain ⟨p, q, hA, hV, rfl, _, _⟩ := hW'
 obtain ⟨rfl, rfl⟩ := trodVars_none hV
 have hA' : DataW.TrodAll enc Try.prog W 0 (fun _ => true) true [27, 3] args.toList ds p := by rw [← show Try.f7.params.toList = [27, 3] from rfl]; exact hA
 obtain ⟨v0, v1, d0, d1, p0, p1, rfl, rfl, rfl, h0, h1⟩ := trodAll_two hA'
 have hz' : (DataW.weightsEach Try.prog [27, 3] [d0, d1]).all (· ≤ reachBytes) = true := hz
 have hf := fits_each (P := Try.prog) (ts := [27, 3]) (l := [d0, d1]) fun n hn => by simpa using List.all_eq_true.1 hz' n hn
 obtain ⟨x, hx, i0⟩ := rd_LG.imm_struct Try.underlying27 (hval 0 27 v0 rfl rfl) (hf 0 27 d0 rfl rfl) h0
 obtain ⟨y, hy, i1⟩ := rd_i64.imm_int Try.underlying3 (hval 1 3 v1 rfl rfl) (hf 1 3 d1 rfl rfl) h1
 exact law_calls Try.laidOut (by kernel_rfl) rfl (by kernel_rfl) rfl rfl (mergesLeast_is hx y) (Imms.append (.one i0) (.one i1)) hW
theorem mergesLeast_holds : Rows.MergesLeastSaid :=
 OpenClaim.holds_of_wide 7 Try.f7 rfl rfl rfl rfl rfl rfl rfl ⟨rfl, rfl, rfl, rfl, rfl⟩ rfl rfl rfl rfl rfl (by kernel_rfl) Try.func7 (by kernel_rfl)
  (of_decide_eq_true (by kernel_rfl)) (by unfold Func.isWrapper; first | (rw [if_pos (by decide +kernel)]; kernel_rfl) | (rw [if_neg (by decide +kernel)]; exact ⟨rfl, rfl⟩))
  (fun os started H enc _ => mergesLeast_lifted os started H enc)
#print axioms mergesLeast_holds
end Go.Proofs.Ytkfpnkpomjmpeaa
