/-
  Lemmas.
  SplitsErrors returns true at every input, and each argument reads behind the call as it read before.
  Conditions: those of the given row alone (no others).
-/
import Derived.Test.YtghafbihbjdaeaaPart8
set_option linter.unusedSimpArgs false
set_option linter.unusedVariables false
set_option linter.unnecessarySimpa false
set_option linter.deprecated false
namespace Go.Avl
open Go Go.Proofs.Try
set_option maxRecDepth 10000
set_option linter.unusedSimpArgs false

theorem separate_bad {m : Mach} (hr : ∀ r ∈ m.rows, r.2.length < 1000000) {s t e : Int} (h : stateErr m [s, t] = e) (h0 : e ≠ 0) : PureIs prog 11 [.ag m.cells, .sc (.int .i64 s), .sc (.int .i64 t)] (.tu [.sl true [] .unk, .sc (.bool false), .sc (.int .i64 e)]) := by
  have := separate_is m hr s t
  rw [separateA, if_pos (by rw [h]; exact h0), h] at this
  exact this
theorem separate_good {m : Mach} (hr : ∀ r ∈ m.rows, r.2.length < 1000000) {s t : Int} (h : stateErr m [s, t] = 0) {w : List Int} {b : Bool} (hw : sepW m s.toNat t.toNat = w) (hb : decide (0 < (w.length : Int)) = b) : PureIs prog 11 [.ag m.cells, .sc (.int .i64 s), .sc (.int .i64 t)] (.tu [.sl w.isEmpty (w.map intC) .full, .sc (.bool b), .sc (.int .i64 0)]) := by
  have := separate_is m hr s t
  rw [separateA, if_neg (by simp [h]), hw, hb] at this
  exact this
theorem separates_bad1 {m : Mach} (hr : ∀ r ∈ m.rows, r.2.length < 1000000) (nl : Bool) (w : List Int) (c : Cp) (hl : w.length < 1000000) {s t e : Int} (h : stateErr m [s, t] = e) (h0 : e ≠ 0) : PureIs prog 18 [.ag m.cells, .sl nl (w.map intC) c, .sc (.int .i64 s), .sc (.int .i64 t)] (.tu [.sc (.bool false), .sc (.int .i64 e)]) := by
  have := separates_is m hr nl w c hl s t
  rw [sepsA, if_pos (by rw [h]; exact h0), h] at this
  exact this
theorem separates_bad2 {m : Mach} (hr : ∀ r ∈ m.rows, r.2.length < 1000000) (nl : Bool) (w : List Int) (c : Cp) (hl : w.length < 1000000) {s t e : Int} (h : stateErr m [s, t] = 0) (h1 : wordErr m.ins w = e) (h0 : e ≠ 0) : PureIs prog 18 [.ag m.cells, .sl nl (w.map intC) c, .sc (.int .i64 s), .sc (.int .i64 t)] (.tu [.sc (.bool false), .sc (.int .i64 e)]) := by
  have := separates_is m hr nl w c hl s t
  rw [sepsA, if_neg (by simp [h]), if_pos (by rw [h1]; exact h0), h1] at this
  exact this
theorem separates_good {m : Mach} (hr : ∀ r ∈ m.rows, r.2.length < 1000000) (nl : Bool) (w : List Int) (c : Cp) (hl : w.length < 1000000) {s t : Int} (h : stateErr m [s, t] = 0) (h1 : wordErr m.ins w = 0) {b : Bool} (hb : (!decide (runR m s w = runR m t w)) = b) : PureIs prog 18 [.ag m.cells, .sl nl (w.map intC) c, .sc (.int .i64 s), .sc (.int .i64 t)] (.tu [.sc (.bool b), .sc (.int .i64 0)]) := by
  have := separates_is m hr nl w c hl s t
  rw [sepsA, if_neg (by simp [h]), if_neg (by simp [h1]), hb] at this
  exact this
theorem stateErr_two (m : Mach) (h : checkM m = 0) (s t : Int) : stateErr m [s, t] = if (s < 0 ∨ t < 0 ∨ (m.rows.length : Int) ≤ s ∨ (m.rows.length : Int) ≤ t) then 1 else 0 := by
  rw [stateErr, if_neg (by simp [h])]
  by_cases h' : (s < 0 ∨ t < 0 ∨ (m.rows.length : Int) ≤ s ∨ (m.rows.length : Int) ≤ t)
  · rw [if_pos h', if_pos (by simp; omega)]
  · rw [if_neg h', if_neg (by simp; omega)]
theorem stateErr_chk {m : Mach} (h : checkM m ≠ 0) (l : List Int) : stateErr m l = checkM m := by rw [stateErr, if_pos h]

set_option maxHeartbeats 8000000 in
theorem splitsErrors_is (m : Mach) (nl : Bool) (w : List Int) (c : Cp) (s t : Int) (hm : (m.rows.length : Int) ≤ 140737488355328) (hwl : (w.length : Int) ≤ 140737488355328) :
    PureIs prog 8 [.ag m.cells, .sl nl (w.map intC) c, .ag [.sc (.int .i64 s), .sc (.int .i64 t)]] (.sc (.bool true)) := by
  refine PureIs.of (nv := 4) (hid := [5, 6, 7, 8, 9, 10, 11, 12, 13, 14, 15, 16, 17, 18, 19, 20, 41, 46, 55, 88, 91, 113, 141]) func8 rfl (by kernel_rfl) (by simp [ntmps8]) fun _ => ?_
  rw [ntmps8, results8]
  refine EvC.seq (EvC.rg (by (simp only [go_sem, Nat.reduceLT, Nat.reduceLeDiff, Nat.reduceEqDiff, Nat.reduceAdd, Nat.reduceSub, Nat.reduceMul, Nat.reduceBEq, Int.reduceToNat, Int.reduceEq, Int.reduceLT, Int.reduceLE, Int.reduceAdd, ↓reduceIte, reduceCtorEq, Mach.cells]) <;> rfl) (by simp) ?_)
  refine EvC.frzB 1 (by (simp only [go_sem, Nat.reduceLT, Nat.reduceLeDiff, Nat.reduceEqDiff, Nat.reduceAdd, Nat.reduceSub, Nat.reduceMul, Nat.reduceBEq, Int.reduceToNat, Int.reduceEq, Int.reduceLT, Int.reduceLE, Int.reduceAdd, ↓reduceIte, reduceCtorEq]) <;> rfl) ?_
  refine EvC.frzB 0 (by (simp only [go_sem, Nat.reduceLT, Nat.reduceLeDiff, Nat.reduceEqDiff, Nat.reduceAdd, Nat.reduceSub, Nat.reduceMul, Nat.reduceBEq, Int.reduceToNat, Int.reduceEq, Int.reduceLT, Int.reduceLE, Int.reduceAdd, ↓reduceIte, reduceCtorEq]) <;> rfl) ?_
  refine EvC.seq ?_
  apply EvC.seq
  apply EvC.trd
  · (simp only [go_sem, Nat.reduceLT, Nat.reduceLeDiff, Nat.reduceEqDiff, Nat.reduceAdd, Nat.reduceSub, Nat.reduceMul, Nat.reduceBEq, Int.reduceToNat, Int.reduceEq, Int.reduceLT, Int.reduceLE, Int.reduceAdd, ↓reduceIte, reduceCtorEq]) <;> rfl
  · simp
  refine EvC.cond (by (simp only [go_sem, Nat.reduceLT, Nat.reduceLeDiff, Nat.reduceEqDiff, Nat.reduceAdd, Nat.reduceSub, Nat.reduceMul, Nat.reduceBEq, Int.reduceToNat, Int.reduceEq, Int.reduceLT, Int.reduceLE, Int.reduceAdd, ↓reduceIte, reduceCtorEq]) <;> rfl) (fun hc => ?_) (fun hc => ?_)
  · -- then
    refine EvC.seq (EvC.rg (by (simp only [go_sem, Nat.reduceLT, Nat.reduceLeDiff, Nat.reduceEqDiff, Nat.reduceAdd, Nat.reduceSub, Nat.reduceMul, Nat.reduceBEq, Int.reduceToNat, Int.reduceEq, Int.reduceLT, Int.reduceLE, Int.reduceAdd, ↓reduceIte, reduceCtorEq]) <;> rfl) (by simp) ?_)
    refine EvC.ret ⟨.inl rfl, _, (by (simp only [go_sem, Nat.reduceLT, Nat.reduceLeDiff, Nat.reduceEqDiff, Nat.reduceAdd, Nat.reduceSub, Nat.reduceMul, Nat.reduceBEq, Int.reduceToNat, Int.reduceEq, Int.reduceLT, Int.reduceLE, Int.reduceAdd, ↓reduceIte, reduceCtorEq]) <;> rfl), ?_, rfl⟩
    simp only [go_sem, Nat.reduceLT, Nat.reduceLeDiff, Nat.reduceEqDiff, Nat.reduceAdd, Nat.reduceSub, Nat.reduceMul, Nat.reduceBEq, Int.reduceToNat, Int.reduceEq, Int.reduceLT, Int.reduceLE, Int.reduceAdd, ↓reduceIte, reduceCtorEq]
  have hb : m.rows.length ≤ 70 ∧ w.length ≤ 300 := by
    by_cases h1 : m.rows.length ≤ 20 <;> by_cases h2 : m.rows.length < 65 <;> by_cases h3 : m.rows.length ≤ 70 <;> by_cases h4 : w.length ≤ 300 <;> simp_all <;> omega
  clear hc
  obtain ⟨hml, hwl'⟩ := hb
  have hw6 : w.length < 1000000 := by omega
  refine EvC.skip ?_
  refine EvC.seq ?_
  refine EvC.seq (EvC.rg (by (simp only [go_sem, Nat.reduceLT, Nat.reduceLeDiff, Nat.reduceEqDiff, Nat.reduceAdd, Nat.reduceSub, Nat.reduceMul, Nat.reduceBEq, Int.reduceToNat, Int.reduceEq, Int.reduceLT, Int.reduceLE, Int.reduceAdd, ↓reduceIte, reduceCtorEq]) <;> rfl) (by simp) ?_)
  refine EvC.block ?_  -- 0
  refine EvC.loopS (σ := Nat) (fun i => ⟨[(1, .sl nl (w.map intC) c), (3, .ia m.cells), (5, .ia [.sc (.int .i64 s), .sc (.int .i64 t)]), (6, .sc (.bool false)), (7, .sc (.int .i64 i))], [], [], 0⟩) (fun i => m.rows.length - i) (fun i => i ≤ m.rows.length ∧ ∀ r ∈ m.rows.take i, r.2.length ≤ 20) [1, 3, 5, 6, 7] 0 ?_ ?_
  · refine ⟨[], 0, rfl, (by (simp only [go_sem, Nat.reduceLT, Nat.reduceLeDiff, Nat.reduceEqDiff, Nat.reduceAdd, Nat.reduceSub, Nat.reduceMul, Nat.reduceBEq, Int.reduceToNat, Int.reduceEq, Int.reduceLT, Int.reduceLE, Int.reduceAdd, ↓reduceIte, reduceCtorEq, Mach.cells]) <;> rfl), Nat.zero_le _, by simp⟩
  rintro i ⟨h1, h2⟩
  refine EvC.seq ?_
  refine EvC.seq (EvC.rg (by (simp only [go_sem, Nat.reduceLT, Nat.reduceLeDiff, Nat.reduceEqDiff, Nat.reduceAdd, Nat.reduceSub, Nat.reduceMul, Nat.reduceBEq, Int.reduceToNat, Int.reduceEq, Int.reduceLT, Int.reduceLE, Int.reduceAdd, ↓reduceIte, reduceCtorEq, Mach.cells]) <;> rfl) (by simp) ?_)
  refine EvC.cond (by (simp only [go_sem, Nat.reduceLT, Nat.reduceLeDiff, Nat.reduceEqDiff, Nat.reduceAdd, Nat.reduceSub, Nat.reduceMul, Nat.reduceBEq, Int.reduceToNat, Int.reduceEq, Int.reduceLT, Int.reduceLE, Int.reduceAdd, ↓reduceIte, reduceCtorEq]) <;> rfl) (fun hc => ?_) (fun hc => ?_)
  rotate_left
  · refine EvC.exit ?_  -- 0
    have hi : ¬ i < m.rows.length := by simpa using hc
    rw [List.take_of_length_le (by omega)] at h2
    clear hc hi h1
    have hr : ∀ r ∈ m.rows, r.2.length < 1000000 := fun r h => by have := h2 r h; omega
    clear h2
    apply EvC.seq
    apply EvC.tr
    · apply Tr.run
      · (simp only [go_sem, Nat.reduceLT, Nat.reduceLeDiff, Nat.reduceEqDiff, Nat.reduceAdd, Nat.reduceSub, Nat.reduceMul, Nat.reduceBEq, Int.reduceToNat, Int.reduceEq, Int.reduceLT, Int.reduceLE, Int.reduceAdd, ↓reduceIte, reduceCtorEq, Mach.cells]) <;> rfl
      · simp
      apply Tr.cons
      · exact .call rfl rfl (by (simp only [go_sem, Nat.reduceLT, Nat.reduceLeDiff, Nat.reduceEqDiff, Nat.reduceAdd, Nat.reduceSub, Nat.reduceMul, Nat.reduceBEq, Int.reduceToNat, Int.reduceEq, Int.reduceLT, Int.reduceLE, Int.reduceAdd, ↓reduceIte, reduceCtorEq]) <;> rfl) (by (simp only [go_sem, Nat.reduceLT, Nat.reduceLeDiff, Nat.reduceEqDiff, Nat.reduceAdd, Nat.reduceSub, Nat.reduceMul, Nat.reduceBEq, Int.reduceToNat, Int.reduceEq, Int.reduceLT, Int.reduceLE, Int.reduceAdd, ↓reduceIte, reduceCtorEq]) <;> rfl) (by (simp only [go_sem, Nat.reduceLT, Nat.reduceLeDiff, Nat.reduceEqDiff, Nat.reduceAdd, Nat.reduceSub, Nat.reduceMul, Nat.reduceBEq, Int.reduceToNat, Int.reduceEq, Int.reduceLT, Int.reduceLE, Int.reduceAdd, ↓reduceIte, reduceCtorEq]) <;> rfl) (by (simp only [go_sem, Nat.reduceLT, Nat.reduceLeDiff, Nat.reduceEqDiff, Nat.reduceAdd, Nat.reduceSub, Nat.reduceMul, Nat.reduceBEq, Int.reduceToNat, Int.reduceEq, Int.reduceLT, Int.reduceLE, Int.reduceAdd, ↓reduceIte, reduceCtorEq]) <;> rfl) (by (simp only [go_sem, Nat.reduceLT, Nat.reduceLeDiff, Nat.reduceEqDiff, Nat.reduceAdd, Nat.reduceSub, Nat.reduceMul, Nat.reduceBEq, Int.reduceToNat, Int.reduceEq, Int.reduceLT, Int.reduceLE, Int.reduceAdd, ↓reduceIte, reduceCtorEq]) <;> rfl) (check27_is m hr)
      apply Tr.done
      · (simp only [go_sem, Nat.reduceLT, Nat.reduceLeDiff, Nat.reduceEqDiff, Nat.reduceAdd, Nat.reduceSub, Nat.reduceMul, Nat.reduceBEq, Int.reduceToNat, Int.reduceEq, Int.reduceLT, Int.reduceLE, Int.reduceAdd, ↓reduceIte, reduceCtorEq]) <;> rfl
      · simp
    by_cases h0 : checkM m = 0
    rotate_left
    · have ht := table_is m hr
      rw [tableA, if_pos h0] at ht
      have hh := height_is m hr
      rw [heightA, if_pos h0] at hh
      have ha := splitsAfter_is m hr nl w c hw6
      rw [afterA, if_pos h0] at ha
      have hse := stateErr_chk h0 [s, t]
      have hsp := separate_bad hr hse h0
      have hss := separates_bad1 hr nl w c hw6 hse h0
      clear hse
      generalize checkM m = k at ht hh ha hsp hss h0 ⊢
      have h0' : decide (k = 0) = false := decide_eq_false h0
      have h0d : decide (¬ k = 0) = true := decide_eq_true h0
      clear h0
      apply EvC.seq
      apply EvC.tr
      · apply Tr.run
        · (simp only [go_sem, Nat.reduceLT, Nat.reduceLeDiff, Nat.reduceEqDiff, Nat.reduceAdd, Nat.reduceSub, Nat.reduceMul, Nat.reduceBEq, Int.reduceToNat, Int.reduceEq, Int.reduceLT, Int.reduceLE, Int.reduceAdd, ↓reduceIte, reduceCtorEq, Mach.cells]) <;> rfl
        · simp
        apply Tr.cons
        · exact .call rfl rfl (by (simp only [go_sem, Nat.reduceLT, Nat.reduceLeDiff, Nat.reduceEqDiff, Nat.reduceAdd, Nat.reduceSub, Nat.reduceMul, Nat.reduceBEq, Int.reduceToNat, Int.reduceEq, Int.reduceLT, Int.reduceLE, Int.reduceAdd, ↓reduceIte, reduceCtorEq]) <;> rfl) (by (simp only [go_sem, Nat.reduceLT, Nat.reduceLeDiff, Nat.reduceEqDiff, Nat.reduceAdd, Nat.reduceSub, Nat.reduceMul, Nat.reduceBEq, Int.reduceToNat, Int.reduceEq, Int.reduceLT, Int.reduceLE, Int.reduceAdd, ↓reduceIte, reduceCtorEq]) <;> rfl) (by (simp only [go_sem, Nat.reduceLT, Nat.reduceLeDiff, Nat.reduceEqDiff, Nat.reduceAdd, Nat.reduceSub, Nat.reduceMul, Nat.reduceBEq, Int.reduceToNat, Int.reduceEq, Int.reduceLT, Int.reduceLE, Int.reduceAdd, ↓reduceIte, reduceCtorEq]) <;> rfl) (by (simp only [go_sem, Nat.reduceLT, Nat.reduceLeDiff, Nat.reduceEqDiff, Nat.reduceAdd, Nat.reduceSub, Nat.reduceMul, Nat.reduceBEq, Int.reduceToNat, Int.reduceEq, Int.reduceLT, Int.reduceLE, Int.reduceAdd, ↓reduceIte, reduceCtorEq]) <;> rfl) (by (simp only [go_sem, Nat.reduceLT, Nat.reduceLeDiff, Nat.reduceEqDiff, Nat.reduceAdd, Nat.reduceSub, Nat.reduceMul, Nat.reduceBEq, Int.reduceToNat, Int.reduceEq, Int.reduceLT, Int.reduceLE, Int.reduceAdd, ↓reduceIte, reduceCtorEq]) <;> rfl) (ht)
        apply Tr.done
        · (simp only [go_sem, Nat.reduceLT, Nat.reduceLeDiff, Nat.reduceEqDiff, Nat.reduceAdd, Nat.reduceSub, Nat.reduceMul, Nat.reduceBEq, Int.reduceToNat, Int.reduceEq, Int.reduceLT, Int.reduceLE, Int.reduceAdd, ↓reduceIte, reduceCtorEq]) <;> rfl
        · simp
      apply EvC.seq
      apply EvC.tr
      · apply Tr.run
        · (simp only [go_sem, Nat.reduceLT, Nat.reduceLeDiff, Nat.reduceEqDiff, Nat.reduceAdd, Nat.reduceSub, Nat.reduceMul, Nat.reduceBEq, Int.reduceToNat, Int.reduceEq, Int.reduceLT, Int.reduceLE, Int.reduceAdd, ↓reduceIte, reduceCtorEq, Mach.cells]) <;> rfl
        · simp
        apply Tr.cons
        · exact .call rfl rfl (by (simp only [go_sem, Nat.reduceLT, Nat.reduceLeDiff, Nat.reduceEqDiff, Nat.reduceAdd, Nat.reduceSub, Nat.reduceMul, Nat.reduceBEq, Int.reduceToNat, Int.reduceEq, Int.reduceLT, Int.reduceLE, Int.reduceAdd, ↓reduceIte, reduceCtorEq]) <;> rfl) (by (simp only [go_sem, Nat.reduceLT, Nat.reduceLeDiff, Nat.reduceEqDiff, Nat.reduceAdd, Nat.reduceSub, Nat.reduceMul, Nat.reduceBEq, Int.reduceToNat, Int.reduceEq, Int.reduceLT, Int.reduceLE, Int.reduceAdd, ↓reduceIte, reduceCtorEq]) <;> rfl) (by (simp only [go_sem, Nat.reduceLT, Nat.reduceLeDiff, Nat.reduceEqDiff, Nat.reduceAdd, Nat.reduceSub, Nat.reduceMul, Nat.reduceBEq, Int.reduceToNat, Int.reduceEq, Int.reduceLT, Int.reduceLE, Int.reduceAdd, ↓reduceIte, reduceCtorEq]) <;> rfl) (by (simp only [go_sem, Nat.reduceLT, Nat.reduceLeDiff, Nat.reduceEqDiff, Nat.reduceAdd, Nat.reduceSub, Nat.reduceMul, Nat.reduceBEq, Int.reduceToNat, Int.reduceEq, Int.reduceLT, Int.reduceLE, Int.reduceAdd, ↓reduceIte, reduceCtorEq]) <;> rfl) (by (simp only [go_sem, Nat.reduceLT, Nat.reduceLeDiff, Nat.reduceEqDiff, Nat.reduceAdd, Nat.reduceSub, Nat.reduceMul, Nat.reduceBEq, Int.reduceToNat, Int.reduceEq, Int.reduceLT, Int.reduceLE, Int.reduceAdd, ↓reduceIte, reduceCtorEq]) <;> rfl) (hh)
        apply Tr.done
        · (simp only [go_sem, Nat.reduceLT, Nat.reduceLeDiff, Nat.reduceEqDiff, Nat.reduceAdd, Nat.reduceSub, Nat.reduceMul, Nat.reduceBEq, Int.reduceToNat, Int.reduceEq, Int.reduceLT, Int.reduceLE, Int.reduceAdd, ↓reduceIte, reduceCtorEq]) <;> rfl
        · simp
      refine EvC.seq ?_
      apply EvC.seq
      apply EvC.trd
      · (simp only [go_sem, Nat.reduceLT, Nat.reduceLeDiff, Nat.reduceEqDiff, Nat.reduceAdd, Nat.reduceSub, Nat.reduceMul, Nat.reduceBEq, Int.reduceToNat, Int.reduceEq, Int.reduceLT, Int.reduceLE, Int.reduceAdd, ↓reduceIte, reduceCtorEq, h0', h0d, Mach.cells, decide_true, decide_false, decide_not]) <;> rfl
      · simp
      refine EvC.cond_false (by (simp only [go_sem, Nat.reduceLT, Nat.reduceLeDiff, Nat.reduceEqDiff, Nat.reduceAdd, Nat.reduceSub, Nat.reduceMul, Nat.reduceBEq, Int.reduceToNat, Int.reduceEq, Int.reduceLT, Int.reduceLE, Int.reduceAdd, ↓reduceIte, reduceCtorEq, h0', h0d]) <;> rfl) ?_
      refine EvC.skip ?_
      refine EvC.seq (EvC.rg (by (simp only [go_sem, Nat.reduceLT, Nat.reduceLeDiff, Nat.reduceEqDiff, Nat.reduceAdd, Nat.reduceSub, Nat.reduceMul, Nat.reduceBEq, Int.reduceToNat, Int.reduceEq, Int.reduceLT, Int.reduceLE, Int.reduceAdd, ↓reduceIte, reduceCtorEq]) <;> rfl) (by simp) ?_)
      refine EvC.seq ?_
      refine EvC.seq (EvC.rg (by (simp only [go_sem, Nat.reduceLT, Nat.reduceLeDiff, Nat.reduceEqDiff, Nat.reduceAdd, Nat.reduceSub, Nat.reduceMul, Nat.reduceBEq, Int.reduceToNat, Int.reduceEq, Int.reduceLT, Int.reduceLE, Int.reduceAdd, ↓reduceIte, reduceCtorEq, h0']) <;> rfl) (by simp) ?_)
      refine EvC.cond_false (by (simp only [go_sem, Nat.reduceLT, Nat.reduceLeDiff, Nat.reduceEqDiff, Nat.reduceAdd, Nat.reduceSub, Nat.reduceMul, Nat.reduceBEq, Int.reduceToNat, Int.reduceEq, Int.reduceLT, Int.reduceLE, Int.reduceAdd, ↓reduceIte, reduceCtorEq]) <;> rfl) ?_
      refine EvC.skip ?_
      apply EvC.seq
      apply EvC.tr
      · apply Tr.run
        · (simp only [go_sem, Nat.reduceLT, Nat.reduceLeDiff, Nat.reduceEqDiff, Nat.reduceAdd, Nat.reduceSub, Nat.reduceMul, Nat.reduceBEq, Int.reduceToNat, Int.reduceEq, Int.reduceLT, Int.reduceLE, Int.reduceAdd, ↓reduceIte, reduceCtorEq, Mach.cells]) <;> rfl
        · simp
        apply Tr.cons
        · exact .call rfl rfl (by (simp only [go_sem, Nat.reduceLT, Nat.reduceLeDiff, Nat.reduceEqDiff, Nat.reduceAdd, Nat.reduceSub, Nat.reduceMul, Nat.reduceBEq, Int.reduceToNat, Int.reduceEq, Int.reduceLT, Int.reduceLE, Int.reduceAdd, ↓reduceIte, reduceCtorEq]) <;> rfl) (by (simp only [go_sem, Nat.reduceLT, Nat.reduceLeDiff, Nat.reduceEqDiff, Nat.reduceAdd, Nat.reduceSub, Nat.reduceMul, Nat.reduceBEq, Int.reduceToNat, Int.reduceEq, Int.reduceLT, Int.reduceLE, Int.reduceAdd, ↓reduceIte, reduceCtorEq]) <;> rfl) (by (simp only [go_sem, Nat.reduceLT, Nat.reduceLeDiff, Nat.reduceEqDiff, Nat.reduceAdd, Nat.reduceSub, Nat.reduceMul, Nat.reduceBEq, Int.reduceToNat, Int.reduceEq, Int.reduceLT, Int.reduceLE, Int.reduceAdd, ↓reduceIte, reduceCtorEq]) <;> rfl) (by (simp only [go_sem, Nat.reduceLT, Nat.reduceLeDiff, Nat.reduceEqDiff, Nat.reduceAdd, Nat.reduceSub, Nat.reduceMul, Nat.reduceBEq, Int.reduceToNat, Int.reduceEq, Int.reduceLT, Int.reduceLE, Int.reduceAdd, ↓reduceIte, reduceCtorEq]) <;> rfl) (by (simp only [go_sem, Nat.reduceLT, Nat.reduceLeDiff, Nat.reduceEqDiff, Nat.reduceAdd, Nat.reduceSub, Nat.reduceMul, Nat.reduceBEq, Int.reduceToNat, Int.reduceEq, Int.reduceLT, Int.reduceLE, Int.reduceAdd, ↓reduceIte, reduceCtorEq]) <;> rfl) (ha)
        apply Tr.done
        · (simp only [go_sem, Nat.reduceLT, Nat.reduceLeDiff, Nat.reduceEqDiff, Nat.reduceAdd, Nat.reduceSub, Nat.reduceMul, Nat.reduceBEq, Int.reduceToNat, Int.reduceEq, Int.reduceLT, Int.reduceLE, Int.reduceAdd, ↓reduceIte, reduceCtorEq]) <;> rfl
        · simp
      refine EvC.seq ?_
      apply EvC.seq
      apply EvC.trd
      · (simp only [go_sem, Nat.reduceLT, Nat.reduceLeDiff, Nat.reduceEqDiff, Nat.reduceAdd, Nat.reduceSub, Nat.reduceMul, Nat.reduceBEq, Int.reduceToNat, Int.reduceEq, Int.reduceLT, Int.reduceLE, Int.reduceAdd, ↓reduceIte, reduceCtorEq, h0', h0d, decide_not]) <;> rfl
      · simp
      refine EvC.cond_false (by (simp only [go_sem, Nat.reduceLT, Nat.reduceLeDiff, Nat.reduceEqDiff, Nat.reduceAdd, Nat.reduceSub, Nat.reduceMul, Nat.reduceBEq, Int.reduceToNat, Int.reduceEq, Int.reduceLT, Int.reduceLE, Int.reduceAdd, ↓reduceIte, reduceCtorEq, h0', h0d]) <;> rfl) ?_
      refine EvC.skip ?_
      refine EvC.seq ?_
      apply EvC.seq
      apply EvC.trd
      · (simp only [go_sem, Nat.reduceLT, Nat.reduceLeDiff, Nat.reduceEqDiff, Nat.reduceAdd, Nat.reduceSub, Nat.reduceMul, Nat.reduceBEq, Int.reduceToNat, Int.reduceEq, Int.reduceLT, Int.reduceLE, Int.reduceAdd, ↓reduceIte, reduceCtorEq, h0', h0d, Mach.cells]) <;> rfl
      · simp
      refine EvC.cond_false (by (simp only [go_sem, Nat.reduceLT, Nat.reduceLeDiff, Nat.reduceEqDiff, Nat.reduceAdd, Nat.reduceSub, Nat.reduceMul, Nat.reduceBEq, Int.reduceToNat, Int.reduceEq, Int.reduceLT, Int.reduceLE, Int.reduceAdd, ↓reduceIte, reduceCtorEq, h0', h0d]) <;> rfl) ?_
      refine EvC.skip ?_
      apply EvC.seq
      apply EvC.tr
      · apply Tr.run
        · (simp only [go_sem, Nat.reduceLT, Nat.reduceLeDiff, Nat.reduceEqDiff, Nat.reduceAdd, Nat.reduceSub, Nat.reduceMul, Nat.reduceBEq, Int.reduceToNat, Int.reduceEq, Int.reduceLT, Int.reduceLE, Int.reduceAdd, ↓reduceIte, reduceCtorEq, Mach.cells]) <;> rfl
        · simp
        apply Tr.cons
        · exact .call rfl rfl (by (simp only [go_sem, Nat.reduceLT, Nat.reduceLeDiff, Nat.reduceEqDiff, Nat.reduceAdd, Nat.reduceSub, Nat.reduceMul, Nat.reduceBEq, Int.reduceToNat, Int.reduceEq, Int.reduceLT, Int.reduceLE, Int.reduceAdd, ↓reduceIte, reduceCtorEq]) <;> rfl) (by (simp only [go_sem, Nat.reduceLT, Nat.reduceLeDiff, Nat.reduceEqDiff, Nat.reduceAdd, Nat.reduceSub, Nat.reduceMul, Nat.reduceBEq, Int.reduceToNat, Int.reduceEq, Int.reduceLT, Int.reduceLE, Int.reduceAdd, ↓reduceIte, reduceCtorEq]) <;> rfl) (by (simp only [go_sem, Nat.reduceLT, Nat.reduceLeDiff, Nat.reduceEqDiff, Nat.reduceAdd, Nat.reduceSub, Nat.reduceMul, Nat.reduceBEq, Int.reduceToNat, Int.reduceEq, Int.reduceLT, Int.reduceLE, Int.reduceAdd, ↓reduceIte, reduceCtorEq]) <;> rfl) (by (simp only [go_sem, Nat.reduceLT, Nat.reduceLeDiff, Nat.reduceEqDiff, Nat.reduceAdd, Nat.reduceSub, Nat.reduceMul, Nat.reduceBEq, Int.reduceToNat, Int.reduceEq, Int.reduceLT, Int.reduceLE, Int.reduceAdd, ↓reduceIte, reduceCtorEq]) <;> rfl) (by (simp only [go_sem, Nat.reduceLT, Nat.reduceLeDiff, Nat.reduceEqDiff, Nat.reduceAdd, Nat.reduceSub, Nat.reduceMul, Nat.reduceBEq, Int.reduceToNat, Int.reduceEq, Int.reduceLT, Int.reduceLE, Int.reduceAdd, ↓reduceIte, reduceCtorEq]) <;> rfl) (hsp)
        apply Tr.done
        · (simp only [go_sem, Nat.reduceLT, Nat.reduceLeDiff, Nat.reduceEqDiff, Nat.reduceAdd, Nat.reduceSub, Nat.reduceMul, Nat.reduceBEq, Int.reduceToNat, Int.reduceEq, Int.reduceLT, Int.reduceLE, Int.reduceAdd, ↓reduceIte, reduceCtorEq]) <;> rfl
        · simp
      apply EvC.seq
      apply EvC.tr
      · apply Tr.run
        · (simp only [go_sem, Nat.reduceLT, Nat.reduceLeDiff, Nat.reduceEqDiff, Nat.reduceAdd, Nat.reduceSub, Nat.reduceMul, Nat.reduceBEq, Int.reduceToNat, Int.reduceEq, Int.reduceLT, Int.reduceLE, Int.reduceAdd, ↓reduceIte, reduceCtorEq, Mach.cells]) <;> rfl
        · simp
        apply Tr.cons
        · exact .call rfl rfl (by (simp only [go_sem, Nat.reduceLT, Nat.reduceLeDiff, Nat.reduceEqDiff, Nat.reduceAdd, Nat.reduceSub, Nat.reduceMul, Nat.reduceBEq, Int.reduceToNat, Int.reduceEq, Int.reduceLT, Int.reduceLE, Int.reduceAdd, ↓reduceIte, reduceCtorEq]) <;> rfl) (by (simp only [go_sem, Nat.reduceLT, Nat.reduceLeDiff, Nat.reduceEqDiff, Nat.reduceAdd, Nat.reduceSub, Nat.reduceMul, Nat.reduceBEq, Int.reduceToNat, Int.reduceEq, Int.reduceLT, Int.reduceLE, Int.reduceAdd, ↓reduceIte, reduceCtorEq]) <;> rfl) (by (simp only [go_sem, Nat.reduceLT, Nat.reduceLeDiff, Nat.reduceEqDiff, Nat.reduceAdd, Nat.reduceSub, Nat.reduceMul, Nat.reduceBEq, Int.reduceToNat, Int.reduceEq, Int.reduceLT, Int.reduceLE, Int.reduceAdd, ↓reduceIte, reduceCtorEq]) <;> rfl) (by (simp only [go_sem, Nat.reduceLT, Nat.reduceLeDiff, Nat.reduceEqDiff, Nat.reduceAdd, Nat.reduceSub, Nat.reduceMul, Nat.reduceBEq, Int.reduceToNat, Int.reduceEq, Int.reduceLT, Int.reduceLE, Int.reduceAdd, ↓reduceIte, reduceCtorEq]) <;> rfl) (by (simp only [go_sem, Nat.reduceLT, Nat.reduceLeDiff, Nat.reduceEqDiff, Nat.reduceAdd, Nat.reduceSub, Nat.reduceMul, Nat.reduceBEq, Int.reduceToNat, Int.reduceEq, Int.reduceLT, Int.reduceLE, Int.reduceAdd, ↓reduceIte, reduceCtorEq]) <;> rfl) (hss)
        apply Tr.done
        · (simp only [go_sem, Nat.reduceLT, Nat.reduceLeDiff, Nat.reduceEqDiff, Nat.reduceAdd, Nat.reduceSub, Nat.reduceMul, Nat.reduceBEq, Int.reduceToNat, Int.reduceEq, Int.reduceLT, Int.reduceLE, Int.reduceAdd, ↓reduceIte, reduceCtorEq]) <;> rfl
        · simp
      apply EvC.seq
      apply EvC.tr
      · apply Tr.run
        · (simp only [go_sem, Nat.reduceLT, Nat.reduceLeDiff, Nat.reduceEqDiff, Nat.reduceAdd, Nat.reduceSub, Nat.reduceMul, Nat.reduceBEq, Int.reduceToNat, Int.reduceEq, Int.reduceLT, Int.reduceLE, Int.reduceAdd, ↓reduceIte, reduceCtorEq, h0', h0d, decide_true]) <;> rfl
        · simp
        apply Tr.cons
        · exact .callG rfl rfl (by (simp only [go_sem, Nat.reduceLT, Nat.reduceLeDiff, Nat.reduceEqDiff, Nat.reduceAdd, Nat.reduceSub, Nat.reduceMul, Nat.reduceBEq, Int.reduceToNat, Int.reduceEq, Int.reduceLT, Int.reduceLE, Int.reduceAdd, ↓reduceIte, reduceCtorEq]) <;> rfl) rfl (by (simp only [go_sem, Nat.reduceLT, Nat.reduceLeDiff, Nat.reduceEqDiff, Nat.reduceAdd, Nat.reduceSub, Nat.reduceMul, Nat.reduceBEq, Int.reduceToNat, Int.reduceEq, Int.reduceLT, Int.reduceLE, Int.reduceAdd, ↓reduceIte, reduceCtorEq]) <;> rfl) (by (simp only [go_sem, Nat.reduceLT, Nat.reduceLeDiff, Nat.reduceEqDiff, Nat.reduceAdd, Nat.reduceSub, Nat.reduceMul, Nat.reduceBEq, Int.reduceToNat, Int.reduceEq, Int.reduceLT, Int.reduceLE, Int.reduceAdd, ↓reduceIte, reduceCtorEq]) <;> rfl) (by (simp only [go_sem, Nat.reduceLT, Nat.reduceLeDiff, Nat.reduceEqDiff, Nat.reduceAdd, Nat.reduceSub, Nat.reduceMul, Nat.reduceBEq, Int.reduceToNat, Int.reduceEq, Int.reduceLT, Int.reduceLE, Int.reduceAdd, ↓reduceIte, reduceCtorEq]) <;> rfl) (by (simp only [go_sem, Nat.reduceLT, Nat.reduceLeDiff, Nat.reduceEqDiff, Nat.reduceAdd, Nat.reduceSub, Nat.reduceMul, Nat.reduceBEq, Int.reduceToNat, Int.reduceEq, Int.reduceLT, Int.reduceLE, Int.reduceAdd, ↓reduceIte, reduceCtorEq]) <;> rfl) (by (simp only [go_sem, Nat.reduceLT, Nat.reduceLeDiff, Nat.reduceEqDiff, Nat.reduceAdd, Nat.reduceSub, Nat.reduceMul, Nat.reduceBEq, Int.reduceToNat, Int.reduceEq, Int.reduceLT, Int.reduceLE, Int.reduceAdd, ↓reduceIte, reduceCtorEq]) <;> rfl) (lives_is)
        apply Tr.done
        · (simp only [go_sem, Nat.reduceLT, Nat.reduceLeDiff, Nat.reduceEqDiff, Nat.reduceAdd, Nat.reduceSub, Nat.reduceMul, Nat.reduceBEq, Int.reduceToNat, Int.reduceEq, Int.reduceLT, Int.reduceLE, Int.reduceAdd, ↓reduceIte, reduceCtorEq]) <;> rfl
        · simp
      refine EvC.ret ⟨.inl rfl, _, (by (simp only [go_sem, Nat.reduceLT, Nat.reduceLeDiff, Nat.reduceEqDiff, Nat.reduceAdd, Nat.reduceSub, Nat.reduceMul, Nat.reduceBEq, Int.reduceToNat, Int.reduceEq, Int.reduceLT, Int.reduceLE, Int.reduceAdd, ↓reduceIte, reduceCtorEq]) <;> rfl), ?_, rfl⟩
      simp only [go_sem, Nat.reduceLT, Nat.reduceLeDiff, Nat.reduceEqDiff, Nat.reduceAdd, Nat.reduceSub, Nat.reduceMul, Nat.reduceBEq, Int.reduceToNat, Int.reduceEq, Int.reduceLT, Int.reduceLE, Int.reduceAdd, ↓reduceIte, reduceCtorEq]
      try rfl
    · have ht := table_is m hr
      rw [tableA, if_neg (by simp [h0])] at ht
      have hh := height_is m hr
      rw [heightA, if_neg (by simp [h0])] at hh
      have ha := splitsAfter_is m hr nl w c hw6
      rw [afterA, if_neg (by simp [h0])] at ha
      have hst := stateErr_two m h0 s t
      have hch := check28_is nl w c m.ins hw6
      rw [h0]
      generalize tblL m = T at ht hh
      generalize maxLen T = mx at hh
      apply EvC.seq
      apply EvC.tr
      · apply Tr.run
        · (simp only [go_sem, Nat.reduceLT, Nat.reduceLeDiff, Nat.reduceEqDiff, Nat.reduceAdd, Nat.reduceSub, Nat.reduceMul, Nat.reduceBEq, Int.reduceToNat, Int.reduceEq, Int.reduceLT, Int.reduceLE, Int.reduceAdd, ↓reduceIte, reduceCtorEq, Mach.cells]) <;> rfl
        · simp
        apply Tr.cons
        · exact .call rfl rfl (by (simp only [go_sem, Nat.reduceLT, Nat.reduceLeDiff, Nat.reduceEqDiff, Nat.reduceAdd, Nat.reduceSub, Nat.reduceMul, Nat.reduceBEq, Int.reduceToNat, Int.reduceEq, Int.reduceLT, Int.reduceLE, Int.reduceAdd, ↓reduceIte, reduceCtorEq]) <;> rfl) (by (simp only [go_sem, Nat.reduceLT, Nat.reduceLeDiff, Nat.reduceEqDiff, Nat.reduceAdd, Nat.reduceSub, Nat.reduceMul, Nat.reduceBEq, Int.reduceToNat, Int.reduceEq, Int.reduceLT, Int.reduceLE, Int.reduceAdd, ↓reduceIte, reduceCtorEq]) <;> rfl) (by (simp only [go_sem, Nat.reduceLT, Nat.reduceLeDiff, Nat.reduceEqDiff, Nat.reduceAdd, Nat.reduceSub, Nat.reduceMul, Nat.reduceBEq, Int.reduceToNat, Int.reduceEq, Int.reduceLT, Int.reduceLE, Int.reduceAdd, ↓reduceIte, reduceCtorEq]) <;> rfl) (by (simp only [go_sem, Nat.reduceLT, Nat.reduceLeDiff, Nat.reduceEqDiff, Nat.reduceAdd, Nat.reduceSub, Nat.reduceMul, Nat.reduceBEq, Int.reduceToNat, Int.reduceEq, Int.reduceLT, Int.reduceLE, Int.reduceAdd, ↓reduceIte, reduceCtorEq]) <;> rfl) (by (simp only [go_sem, Nat.reduceLT, Nat.reduceLeDiff, Nat.reduceEqDiff, Nat.reduceAdd, Nat.reduceSub, Nat.reduceMul, Nat.reduceBEq, Int.reduceToNat, Int.reduceEq, Int.reduceLT, Int.reduceLE, Int.reduceAdd, ↓reduceIte, reduceCtorEq]) <;> rfl) (ht)
        apply Tr.done
        · (simp only [go_sem, Nat.reduceLT, Nat.reduceLeDiff, Nat.reduceEqDiff, Nat.reduceAdd, Nat.reduceSub, Nat.reduceMul, Nat.reduceBEq, Int.reduceToNat, Int.reduceEq, Int.reduceLT, Int.reduceLE, Int.reduceAdd, ↓reduceIte, reduceCtorEq]) <;> rfl
        · simp
      apply EvC.seq
      apply EvC.tr
      · apply Tr.run
        · (simp only [go_sem, Nat.reduceLT, Nat.reduceLeDiff, Nat.reduceEqDiff, Nat.reduceAdd, Nat.reduceSub, Nat.reduceMul, Nat.reduceBEq, Int.reduceToNat, Int.reduceEq, Int.reduceLT, Int.reduceLE, Int.reduceAdd, ↓reduceIte, reduceCtorEq, Mach.cells]) <;> rfl
        · simp
        apply Tr.cons
        · exact .call rfl rfl (by (simp only [go_sem, Nat.reduceLT, Nat.reduceLeDiff, Nat.reduceEqDiff, Nat.reduceAdd, Nat.reduceSub, Nat.reduceMul, Nat.reduceBEq, Int.reduceToNat, Int.reduceEq, Int.reduceLT, Int.reduceLE, Int.reduceAdd, ↓reduceIte, reduceCtorEq]) <;> rfl) (by (simp only [go_sem, Nat.reduceLT, Nat.reduceLeDiff, Nat.reduceEqDiff, Nat.reduceAdd, Nat.reduceSub, Nat.reduceMul, Nat.reduceBEq, Int.reduceToNat, Int.reduceEq, Int.reduceLT, Int.reduceLE, Int.reduceAdd, ↓reduceIte, reduceCtorEq]) <;> rfl) (by (simp only [go_sem, Nat.reduceLT, Nat.reduceLeDiff, Nat.reduceEqDiff, Nat.reduceAdd, Nat.reduceSub, Nat.reduceMul, Nat.reduceBEq, Int.reduceToNat, Int.reduceEq, Int.reduceLT, Int.reduceLE, Int.reduceAdd, ↓reduceIte, reduceCtorEq]) <;> rfl) (by (simp only [go_sem, Nat.reduceLT, Nat.reduceLeDiff, Nat.reduceEqDiff, Nat.reduceAdd, Nat.reduceSub, Nat.reduceMul, Nat.reduceBEq, Int.reduceToNat, Int.reduceEq, Int.reduceLT, Int.reduceLE, Int.reduceAdd, ↓reduceIte, reduceCtorEq]) <;> rfl) (by (simp only [go_sem, Nat.reduceLT, Nat.reduceLeDiff, Nat.reduceEqDiff, Nat.reduceAdd, Nat.reduceSub, Nat.reduceMul, Nat.reduceBEq, Int.reduceToNat, Int.reduceEq, Int.reduceLT, Int.reduceLE, Int.reduceAdd, ↓reduceIte, reduceCtorEq]) <;> rfl) (hh)
        apply Tr.done
        · (simp only [go_sem, Nat.reduceLT, Nat.reduceLeDiff, Nat.reduceEqDiff, Nat.reduceAdd, Nat.reduceSub, Nat.reduceMul, Nat.reduceBEq, Int.reduceToNat, Int.reduceEq, Int.reduceLT, Int.reduceLE, Int.reduceAdd, ↓reduceIte, reduceCtorEq]) <;> rfl
        · simp
      refine EvC.seq ?_
      apply EvC.seq
      apply EvC.trd
      · (simp only [go_sem, Nat.reduceLT, Nat.reduceLeDiff, Nat.reduceEqDiff, Nat.reduceAdd, Nat.reduceSub, Nat.reduceMul, Nat.reduceBEq, Int.reduceToNat, Int.reduceEq, Int.reduceLT, Int.reduceLE, Int.reduceAdd, ↓reduceIte, reduceCtorEq, Mach.cells, decide_true, decide_false, decide_not]) <;> rfl
      · simp
      refine EvC.cond_false (by (simp only [go_sem, Nat.reduceLT, Nat.reduceLeDiff, Nat.reduceEqDiff, Nat.reduceAdd, Nat.reduceSub, Nat.reduceMul, Nat.reduceBEq, Int.reduceToNat, Int.reduceEq, Int.reduceLT, Int.reduceLE, Int.reduceAdd, ↓reduceIte, reduceCtorEq]) <;> rfl) ?_
      refine EvC.skip ?_
      refine EvC.seq (EvC.rg (by (simp only [go_sem, Nat.reduceLT, Nat.reduceLeDiff, Nat.reduceEqDiff, Nat.reduceAdd, Nat.reduceSub, Nat.reduceMul, Nat.reduceBEq, Int.reduceToNat, Int.reduceEq, Int.reduceLT, Int.reduceLE, Int.reduceAdd, ↓reduceIte, reduceCtorEq]) <;> rfl) (by simp) ?_)
      refine EvC.seq ?_
      refine EvC.seq (EvC.rg (by (simp only [go_sem, Nat.reduceLT, Nat.reduceLeDiff, Nat.reduceEqDiff, Nat.reduceAdd, Nat.reduceSub, Nat.reduceMul, Nat.reduceBEq, Int.reduceToNat, Int.reduceEq, Int.reduceLT, Int.reduceLE, Int.reduceAdd, ↓reduceIte, reduceCtorEq]) <;> rfl) (by simp) ?_)
      refine EvC.cond_true (by (simp only [go_sem, Nat.reduceLT, Nat.reduceLeDiff, Nat.reduceEqDiff, Nat.reduceAdd, Nat.reduceSub, Nat.reduceMul, Nat.reduceBEq, Int.reduceToNat, Int.reduceEq, Int.reduceLT, Int.reduceLE, Int.reduceAdd, ↓reduceIte, reduceCtorEq]) <;> rfl) ?_
      apply EvC.tr
      · apply Tr.run
        · (simp only [go_sem, Nat.reduceLT, Nat.reduceLeDiff, Nat.reduceEqDiff, Nat.reduceAdd, Nat.reduceSub, Nat.reduceMul, Nat.reduceBEq, Int.reduceToNat, Int.reduceEq, Int.reduceLT, Int.reduceLE, Int.reduceAdd, ↓reduceIte, reduceCtorEq, Mach.cells]) <;> rfl
        · simp
        apply Tr.cons
        · exact .call rfl rfl (by (simp only [go_sem, Nat.reduceLT, Nat.reduceLeDiff, Nat.reduceEqDiff, Nat.reduceAdd, Nat.reduceSub, Nat.reduceMul, Nat.reduceBEq, Int.reduceToNat, Int.reduceEq, Int.reduceLT, Int.reduceLE, Int.reduceAdd, ↓reduceIte, reduceCtorEq]) <;> rfl) (by (simp only [go_sem, Nat.reduceLT, Nat.reduceLeDiff, Nat.reduceEqDiff, Nat.reduceAdd, Nat.reduceSub, Nat.reduceMul, Nat.reduceBEq, Int.reduceToNat, Int.reduceEq, Int.reduceLT, Int.reduceLE, Int.reduceAdd, ↓reduceIte, reduceCtorEq]) <;> rfl) (by (simp only [go_sem, Nat.reduceLT, Nat.reduceLeDiff, Nat.reduceEqDiff, Nat.reduceAdd, Nat.reduceSub, Nat.reduceMul, Nat.reduceBEq, Int.reduceToNat, Int.reduceEq, Int.reduceLT, Int.reduceLE, Int.reduceAdd, ↓reduceIte, reduceCtorEq]) <;> rfl) (by (simp only [go_sem, Nat.reduceLT, Nat.reduceLeDiff, Nat.reduceEqDiff, Nat.reduceAdd, Nat.reduceSub, Nat.reduceMul, Nat.reduceBEq, Int.reduceToNat, Int.reduceEq, Int.reduceLT, Int.reduceLE, Int.reduceAdd, ↓reduceIte, reduceCtorEq]) <;> rfl) (by (simp only [go_sem, Nat.reduceLT, Nat.reduceLeDiff, Nat.reduceEqDiff, Nat.reduceAdd, Nat.reduceSub, Nat.reduceMul, Nat.reduceBEq, Int.reduceToNat, Int.reduceEq, Int.reduceLT, Int.reduceLE, Int.reduceAdd, ↓reduceIte, reduceCtorEq]) <;> rfl) (hch)
        apply Tr.done
        · (simp only [go_sem, Nat.reduceLT, Nat.reduceLeDiff, Nat.reduceEqDiff, Nat.reduceAdd, Nat.reduceSub, Nat.reduceMul, Nat.reduceBEq, Int.reduceToNat, Int.reduceEq, Int.reduceLT, Int.reduceLE, Int.reduceAdd, ↓reduceIte, reduceCtorEq]) <;> rfl
        · simp
      by_cases hw0 : wordErr m.ins w = 0
      · rw [if_neg (by simp [hw0])] at ha
        rw [hw0]
        generalize nm (namesR m w) = nw at ha
        apply EvC.seq
        apply EvC.tr
        · apply Tr.run
          · (simp only [go_sem, Nat.reduceLT, Nat.reduceLeDiff, Nat.reduceEqDiff, Nat.reduceAdd, Nat.reduceSub, Nat.reduceMul, Nat.reduceBEq, Int.reduceToNat, Int.reduceEq, Int.reduceLT, Int.reduceLE, Int.reduceAdd, ↓reduceIte, reduceCtorEq, Mach.cells]) <;> rfl
          · simp
          apply Tr.cons
          · exact .call rfl rfl (by (simp only [go_sem, Nat.reduceLT, Nat.reduceLeDiff, Nat.reduceEqDiff, Nat.reduceAdd, Nat.reduceSub, Nat.reduceMul, Nat.reduceBEq, Int.reduceToNat, Int.reduceEq, Int.reduceLT, Int.reduceLE, Int.reduceAdd, ↓reduceIte, reduceCtorEq]) <;> rfl) (by (simp only [go_sem, Nat.reduceLT, Nat.reduceLeDiff, Nat.reduceEqDiff, Nat.reduceAdd, Nat.reduceSub, Nat.reduceMul, Nat.reduceBEq, Int.reduceToNat, Int.reduceEq, Int.reduceLT, Int.reduceLE, Int.reduceAdd, ↓reduceIte, reduceCtorEq]) <;> rfl) (by (simp only [go_sem, Nat.reduceLT, Nat.reduceLeDiff, Nat.reduceEqDiff, Nat.reduceAdd, Nat.reduceSub, Nat.reduceMul, Nat.reduceBEq, Int.reduceToNat, Int.reduceEq, Int.reduceLT, Int.reduceLE, Int.reduceAdd, ↓reduceIte, reduceCtorEq]) <;> rfl) (by (simp only [go_sem, Nat.reduceLT, Nat.reduceLeDiff, Nat.reduceEqDiff, Nat.reduceAdd, Nat.reduceSub, Nat.reduceMul, Nat.reduceBEq, Int.reduceToNat, Int.reduceEq, Int.reduceLT, Int.reduceLE, Int.reduceAdd, ↓reduceIte, reduceCtorEq]) <;> rfl) (by (simp only [go_sem, Nat.reduceLT, Nat.reduceLeDiff, Nat.reduceEqDiff, Nat.reduceAdd, Nat.reduceSub, Nat.reduceMul, Nat.reduceBEq, Int.reduceToNat, Int.reduceEq, Int.reduceLT, Int.reduceLE, Int.reduceAdd, ↓reduceIte, reduceCtorEq]) <;> rfl) (ha)
          apply Tr.done
          · (simp only [go_sem, Nat.reduceLT, Nat.reduceLeDiff, Nat.reduceEqDiff, Nat.reduceAdd, Nat.reduceSub, Nat.reduceMul, Nat.reduceBEq, Int.reduceToNat, Int.reduceEq, Int.reduceLT, Int.reduceLE, Int.reduceAdd, ↓reduceIte, reduceCtorEq]) <;> rfl
          · simp
        refine EvC.seq ?_
        apply EvC.seq
        apply EvC.trd
        · (simp only [go_sem, Nat.reduceLT, Nat.reduceLeDiff, Nat.reduceEqDiff, Nat.reduceAdd, Nat.reduceSub, Nat.reduceMul, Nat.reduceBEq, Int.reduceToNat, Int.reduceEq, Int.reduceLT, Int.reduceLE, Int.reduceAdd, ↓reduceIte, reduceCtorEq, decide_true]) <;> rfl
        · simp
        refine EvC.cond_false (by (simp only [go_sem, Nat.reduceLT, Nat.reduceLeDiff, Nat.reduceEqDiff, Nat.reduceAdd, Nat.reduceSub, Nat.reduceMul, Nat.reduceBEq, Int.reduceToNat, Int.reduceEq, Int.reduceLT, Int.reduceLE, Int.reduceAdd, ↓reduceIte, reduceCtorEq, decide_true]) <;> rfl) ?_
        refine EvC.skip ?_
        refine EvC.seq ?_
        apply EvC.seq
        apply EvC.trd
        · (simp only [go_sem, Nat.reduceLT, Nat.reduceLeDiff, Nat.reduceEqDiff, Nat.reduceAdd, Nat.reduceSub, Nat.reduceMul, Nat.reduceBEq, Int.reduceToNat, Int.reduceEq, Int.reduceLT, Int.reduceLE, Int.reduceAdd, ↓reduceIte, reduceCtorEq, Mach.cells, decide_true]) <;> rfl
        · simp
        refine EvC.cond (by (simp only [go_sem, Nat.reduceLT, Nat.reduceLeDiff, Nat.reduceEqDiff, Nat.reduceAdd, Nat.reduceSub, Nat.reduceMul, Nat.reduceBEq, Int.reduceToNat, Int.reduceEq, Int.reduceLT, Int.reduceLE, Int.reduceAdd, ↓reduceIte, reduceCtorEq, decide_true]) <;> rfl) (fun hc => ?_) (fun hc => ?_)
        · have ho : (s < 0 ∨ t < 0 ∨ (m.rows.length : Int) ≤ s ∨ (m.rows.length : Int) ≤ t) := by
            by_cases k1 : s < 0 <;> by_cases k2 : t < 0 <;> by_cases k3 : (m.rows.length : Int) ≤ s <;> by_cases k4 : (m.rows.length : Int) ≤ t <;> simp_all <;> omega
          rw [if_pos ho] at hst
          clear hc
          refine EvC.rg (by (simp only [go_sem, Nat.reduceLT, Nat.reduceLeDiff, Nat.reduceEqDiff, Nat.reduceAdd, Nat.reduceSub, Nat.reduceMul, Nat.reduceBEq, Int.reduceToNat, Int.reduceEq, Int.reduceLT, Int.reduceLE, Int.reduceAdd, ↓reduceIte, reduceCtorEq]) <;> rfl) (by simp) ?_
          apply EvC.seq
          apply EvC.tr
          · apply Tr.run
            · (simp only [go_sem, Nat.reduceLT, Nat.reduceLeDiff, Nat.reduceEqDiff, Nat.reduceAdd, Nat.reduceSub, Nat.reduceMul, Nat.reduceBEq, Int.reduceToNat, Int.reduceEq, Int.reduceLT, Int.reduceLE, Int.reduceAdd, ↓reduceIte, reduceCtorEq, Mach.cells]) <;> rfl
            · simp
            apply Tr.cons
            · exact .call rfl rfl (by (simp only [go_sem, Nat.reduceLT, Nat.reduceLeDiff, Nat.reduceEqDiff, Nat.reduceAdd, Nat.reduceSub, Nat.reduceMul, Nat.reduceBEq, Int.reduceToNat, Int.reduceEq, Int.reduceLT, Int.reduceLE, Int.reduceAdd, ↓reduceIte, reduceCtorEq]) <;> rfl) (by (simp only [go_sem, Nat.reduceLT, Nat.reduceLeDiff, Nat.reduceEqDiff, Nat.reduceAdd, Nat.reduceSub, Nat.reduceMul, Nat.reduceBEq, Int.reduceToNat, Int.reduceEq, Int.reduceLT, Int.reduceLE, Int.reduceAdd, ↓reduceIte, reduceCtorEq]) <;> rfl) (by (simp only [go_sem, Nat.reduceLT, Nat.reduceLeDiff, Nat.reduceEqDiff, Nat.reduceAdd, Nat.reduceSub, Nat.reduceMul, Nat.reduceBEq, Int.reduceToNat, Int.reduceEq, Int.reduceLT, Int.reduceLE, Int.reduceAdd, ↓reduceIte, reduceCtorEq]) <;> rfl) (by (simp only [go_sem, Nat.reduceLT, Nat.reduceLeDiff, Nat.reduceEqDiff, Nat.reduceAdd, Nat.reduceSub, Nat.reduceMul, Nat.reduceBEq, Int.reduceToNat, Int.reduceEq, Int.reduceLT, Int.reduceLE, Int.reduceAdd, ↓reduceIte, reduceCtorEq]) <;> rfl) (by (simp only [go_sem, Nat.reduceLT, Nat.reduceLeDiff, Nat.reduceEqDiff, Nat.reduceAdd, Nat.reduceSub, Nat.reduceMul, Nat.reduceBEq, Int.reduceToNat, Int.reduceEq, Int.reduceLT, Int.reduceLE, Int.reduceAdd, ↓reduceIte, reduceCtorEq]) <;> rfl) (separate_bad hr hst (by decide))
            apply Tr.done
            · (simp only [go_sem, Nat.reduceLT, Nat.reduceLeDiff, Nat.reduceEqDiff, Nat.reduceAdd, Nat.reduceSub, Nat.reduceMul, Nat.reduceBEq, Int.reduceToNat, Int.reduceEq, Int.reduceLT, Int.reduceLE, Int.reduceAdd, ↓reduceIte, reduceCtorEq]) <;> rfl
            · simp
          apply EvC.seq
          apply EvC.tr
          · apply Tr.run
            · (simp only [go_sem, Nat.reduceLT, Nat.reduceLeDiff, Nat.reduceEqDiff, Nat.reduceAdd, Nat.reduceSub, Nat.reduceMul, Nat.reduceBEq, Int.reduceToNat, Int.reduceEq, Int.reduceLT, Int.reduceLE, Int.reduceAdd, ↓reduceIte, reduceCtorEq, Mach.cells]) <;> rfl
            · simp
            apply Tr.cons
            · exact .call rfl rfl (by (simp only [go_sem, Nat.reduceLT, Nat.reduceLeDiff, Nat.reduceEqDiff, Nat.reduceAdd, Nat.reduceSub, Nat.reduceMul, Nat.reduceBEq, Int.reduceToNat, Int.reduceEq, Int.reduceLT, Int.reduceLE, Int.reduceAdd, ↓reduceIte, reduceCtorEq]) <;> rfl) (by (simp only [go_sem, Nat.reduceLT, Nat.reduceLeDiff, Nat.reduceEqDiff, Nat.reduceAdd, Nat.reduceSub, Nat.reduceMul, Nat.reduceBEq, Int.reduceToNat, Int.reduceEq, Int.reduceLT, Int.reduceLE, Int.reduceAdd, ↓reduceIte, reduceCtorEq]) <;> rfl) (by (simp only [go_sem, Nat.reduceLT, Nat.reduceLeDiff, Nat.reduceEqDiff, Nat.reduceAdd, Nat.reduceSub, Nat.reduceMul, Nat.reduceBEq, Int.reduceToNat, Int.reduceEq, Int.reduceLT, Int.reduceLE, Int.reduceAdd, ↓reduceIte, reduceCtorEq]) <;> rfl) (by (simp only [go_sem, Nat.reduceLT, Nat.reduceLeDiff, Nat.reduceEqDiff, Nat.reduceAdd, Nat.reduceSub, Nat.reduceMul, Nat.reduceBEq, Int.reduceToNat, Int.reduceEq, Int.reduceLT, Int.reduceLE, Int.reduceAdd, ↓reduceIte, reduceCtorEq]) <;> rfl) (by (simp only [go_sem, Nat.reduceLT, Nat.reduceLeDiff, Nat.reduceEqDiff, Nat.reduceAdd, Nat.reduceSub, Nat.reduceMul, Nat.reduceBEq, Int.reduceToNat, Int.reduceEq, Int.reduceLT, Int.reduceLE, Int.reduceAdd, ↓reduceIte, reduceCtorEq]) <;> rfl) (separates_bad1 hr nl w c hw6 hst (by decide))
            apply Tr.done
            · (simp only [go_sem, Nat.reduceLT, Nat.reduceLeDiff, Nat.reduceEqDiff, Nat.reduceAdd, Nat.reduceSub, Nat.reduceMul, Nat.reduceBEq, Int.reduceToNat, Int.reduceEq, Int.reduceLT, Int.reduceLE, Int.reduceAdd, ↓reduceIte, reduceCtorEq]) <;> rfl
            · simp
          apply EvC.seq
          apply EvC.tr
          · apply Tr.run
            · (simp only [go_sem, Nat.reduceLT, Nat.reduceLeDiff, Nat.reduceEqDiff, Nat.reduceAdd, Nat.reduceSub, Nat.reduceMul, Nat.reduceBEq, Int.reduceToNat, Int.reduceEq, Int.reduceLT, Int.reduceLE, Int.reduceAdd, ↓reduceIte, reduceCtorEq, decide_true]) <;> rfl
            · simp
            apply Tr.cons
            · exact .callG rfl rfl (by (simp only [go_sem, Nat.reduceLT, Nat.reduceLeDiff, Nat.reduceEqDiff, Nat.reduceAdd, Nat.reduceSub, Nat.reduceMul, Nat.reduceBEq, Int.reduceToNat, Int.reduceEq, Int.reduceLT, Int.reduceLE, Int.reduceAdd, ↓reduceIte, reduceCtorEq]) <;> rfl) rfl (by (simp only [go_sem, Nat.reduceLT, Nat.reduceLeDiff, Nat.reduceEqDiff, Nat.reduceAdd, Nat.reduceSub, Nat.reduceMul, Nat.reduceBEq, Int.reduceToNat, Int.reduceEq, Int.reduceLT, Int.reduceLE, Int.reduceAdd, ↓reduceIte, reduceCtorEq]) <;> rfl) (by (simp only [go_sem, Nat.reduceLT, Nat.reduceLeDiff, Nat.reduceEqDiff, Nat.reduceAdd, Nat.reduceSub, Nat.reduceMul, Nat.reduceBEq, Int.reduceToNat, Int.reduceEq, Int.reduceLT, Int.reduceLE, Int.reduceAdd, ↓reduceIte, reduceCtorEq]) <;> rfl) (by (simp only [go_sem, Nat.reduceLT, Nat.reduceLeDiff, Nat.reduceEqDiff, Nat.reduceAdd, Nat.reduceSub, Nat.reduceMul, Nat.reduceBEq, Int.reduceToNat, Int.reduceEq, Int.reduceLT, Int.reduceLE, Int.reduceAdd, ↓reduceIte, reduceCtorEq]) <;> rfl) (by (simp only [go_sem, Nat.reduceLT, Nat.reduceLeDiff, Nat.reduceEqDiff, Nat.reduceAdd, Nat.reduceSub, Nat.reduceMul, Nat.reduceBEq, Int.reduceToNat, Int.reduceEq, Int.reduceLT, Int.reduceLE, Int.reduceAdd, ↓reduceIte, reduceCtorEq]) <;> rfl) (by (simp only [go_sem, Nat.reduceLT, Nat.reduceLeDiff, Nat.reduceEqDiff, Nat.reduceAdd, Nat.reduceSub, Nat.reduceMul, Nat.reduceBEq, Int.reduceToNat, Int.reduceEq, Int.reduceLT, Int.reduceLE, Int.reduceAdd, ↓reduceIte, reduceCtorEq]) <;> rfl) (lives_is)
            apply Tr.done
            · (simp only [go_sem, Nat.reduceLT, Nat.reduceLeDiff, Nat.reduceEqDiff, Nat.reduceAdd, Nat.reduceSub, Nat.reduceMul, Nat.reduceBEq, Int.reduceToNat, Int.reduceEq, Int.reduceLT, Int.reduceLE, Int.reduceAdd, ↓reduceIte, reduceCtorEq]) <;> rfl
            · simp
          refine EvC.ret ⟨.inl rfl, _, (by (simp only [go_sem, Nat.reduceLT, Nat.reduceLeDiff, Nat.reduceEqDiff, Nat.reduceAdd, Nat.reduceSub, Nat.reduceMul, Nat.reduceBEq, Int.reduceToNat, Int.reduceEq, Int.reduceLT, Int.reduceLE, Int.reduceAdd, ↓reduceIte, reduceCtorEq]) <;> rfl), ?_, rfl⟩
          simp only [go_sem, Nat.reduceLT, Nat.reduceLeDiff, Nat.reduceEqDiff, Nat.reduceAdd, Nat.reduceSub, Nat.reduceMul, Nat.reduceBEq, Int.reduceToNat, Int.reduceEq, Int.reduceLT, Int.reduceLE, Int.reduceAdd, ↓reduceIte, reduceCtorEq]
          try rfl
        · have ho : ¬ (s < 0 ∨ t < 0 ∨ (m.rows.length : Int) ≤ s ∨ (m.rows.length : Int) ≤ t) := by
            by_cases k1 : s < 0 <;> by_cases k2 : t < 0 <;> by_cases k3 : (m.rows.length : Int) ≤ s <;> by_cases k4 : (m.rows.length : Int) ≤ t <;> simp_all <;> omega
          rw [if_neg ho] at hst
          clear hc
          refine EvC.skip ?_
          obtain ⟨b1, hb1⟩ : ∃ b, decide (0 < ((sepW m s.toNat t.toNat).length : Int)) = b := ⟨_, rfl⟩
          have hsg := separate_good hr hst rfl hb1
          generalize sepW m s.toNat t.toNat = sw at hsg
          apply EvC.seq
          apply EvC.tr
          · apply Tr.run
            · (simp only [go_sem, Nat.reduceLT, Nat.reduceLeDiff, Nat.reduceEqDiff, Nat.reduceAdd, Nat.reduceSub, Nat.reduceMul, Nat.reduceBEq, Int.reduceToNat, Int.reduceEq, Int.reduceLT, Int.reduceLE, Int.reduceAdd, ↓reduceIte, reduceCtorEq, Mach.cells]) <;> rfl
            · simp
            apply Tr.cons
            · exact .call rfl rfl (by (simp only [go_sem, Nat.reduceLT, Nat.reduceLeDiff, Nat.reduceEqDiff, Nat.reduceAdd, Nat.reduceSub, Nat.reduceMul, Nat.reduceBEq, Int.reduceToNat, Int.reduceEq, Int.reduceLT, Int.reduceLE, Int.reduceAdd, ↓reduceIte, reduceCtorEq]) <;> rfl) (by (simp only [go_sem, Nat.reduceLT, Nat.reduceLeDiff, Nat.reduceEqDiff, Nat.reduceAdd, Nat.reduceSub, Nat.reduceMul, Nat.reduceBEq, Int.reduceToNat, Int.reduceEq, Int.reduceLT, Int.reduceLE, Int.reduceAdd, ↓reduceIte, reduceCtorEq]) <;> rfl) (by (simp only [go_sem, Nat.reduceLT, Nat.reduceLeDiff, Nat.reduceEqDiff, Nat.reduceAdd, Nat.reduceSub, Nat.reduceMul, Nat.reduceBEq, Int.reduceToNat, Int.reduceEq, Int.reduceLT, Int.reduceLE, Int.reduceAdd, ↓reduceIte, reduceCtorEq]) <;> rfl) (by (simp only [go_sem, Nat.reduceLT, Nat.reduceLeDiff, Nat.reduceEqDiff, Nat.reduceAdd, Nat.reduceSub, Nat.reduceMul, Nat.reduceBEq, Int.reduceToNat, Int.reduceEq, Int.reduceLT, Int.reduceLE, Int.reduceAdd, ↓reduceIte, reduceCtorEq]) <;> rfl) (by (simp only [go_sem, Nat.reduceLT, Nat.reduceLeDiff, Nat.reduceEqDiff, Nat.reduceAdd, Nat.reduceSub, Nat.reduceMul, Nat.reduceBEq, Int.reduceToNat, Int.reduceEq, Int.reduceLT, Int.reduceLE, Int.reduceAdd, ↓reduceIte, reduceCtorEq]) <;> rfl) (hsg)
            apply Tr.done
            · (simp only [go_sem, Nat.reduceLT, Nat.reduceLeDiff, Nat.reduceEqDiff, Nat.reduceAdd, Nat.reduceSub, Nat.reduceMul, Nat.reduceBEq, Int.reduceToNat, Int.reduceEq, Int.reduceLT, Int.reduceLE, Int.reduceAdd, ↓reduceIte, reduceCtorEq]) <;> rfl
            · simp
          obtain ⟨b2, hb2⟩ : ∃ b, (!decide (runR m s w = runR m t w)) = b := ⟨_, rfl⟩
          apply EvC.seq
          apply EvC.tr
          · apply Tr.run
            · (simp only [go_sem, Nat.reduceLT, Nat.reduceLeDiff, Nat.reduceEqDiff, Nat.reduceAdd, Nat.reduceSub, Nat.reduceMul, Nat.reduceBEq, Int.reduceToNat, Int.reduceEq, Int.reduceLT, Int.reduceLE, Int.reduceAdd, ↓reduceIte, reduceCtorEq, Mach.cells]) <;> rfl
            · simp
            apply Tr.cons
            · exact .call rfl rfl (by (simp only [go_sem, Nat.reduceLT, Nat.reduceLeDiff, Nat.reduceEqDiff, Nat.reduceAdd, Nat.reduceSub, Nat.reduceMul, Nat.reduceBEq, Int.reduceToNat, Int.reduceEq, Int.reduceLT, Int.reduceLE, Int.reduceAdd, ↓reduceIte, reduceCtorEq]) <;> rfl) (by (simp only [go_sem, Nat.reduceLT, Nat.reduceLeDiff, Nat.reduceEqDiff, Nat.reduceAdd, Nat.reduceSub, Nat.reduceMul, Nat.reduceBEq, Int.reduceToNat, Int.reduceEq, Int.reduceLT, Int.reduceLE, Int.reduceAdd, ↓reduceIte, reduceCtorEq]) <;> rfl) (by (simp only [go_sem, Nat.reduceLT, Nat.reduceLeDiff, Nat.reduceEqDiff, Nat.reduceAdd, Nat.reduceSub, Nat.reduceMul, Nat.reduceBEq, Int.reduceToNat, Int.reduceEq, Int.reduceLT, Int.reduceLE, Int.reduceAdd, ↓reduceIte, reduceCtorEq]) <;> rfl) (by (simp only [go_sem, Nat.reduceLT, Nat.reduceLeDiff, Nat.reduceEqDiff, Nat.reduceAdd, Nat.reduceSub, Nat.reduceMul, Nat.reduceBEq, Int.reduceToNat, Int.reduceEq, Int.reduceLT, Int.reduceLE, Int.reduceAdd, ↓reduceIte, reduceCtorEq]) <;> rfl) (by (simp only [go_sem, Nat.reduceLT, Nat.reduceLeDiff, Nat.reduceEqDiff, Nat.reduceAdd, Nat.reduceSub, Nat.reduceMul, Nat.reduceBEq, Int.reduceToNat, Int.reduceEq, Int.reduceLT, Int.reduceLE, Int.reduceAdd, ↓reduceIte, reduceCtorEq]) <;> rfl) (separates_good hr nl w c hw6 hst hw0 hb2)
            apply Tr.done
            · (simp only [go_sem, Nat.reduceLT, Nat.reduceLeDiff, Nat.reduceEqDiff, Nat.reduceAdd, Nat.reduceSub, Nat.reduceMul, Nat.reduceBEq, Int.reduceToNat, Int.reduceEq, Int.reduceLT, Int.reduceLE, Int.reduceAdd, ↓reduceIte, reduceCtorEq]) <;> rfl
            · simp
          apply EvC.seq
          apply EvC.tr
          · apply Tr.run
            · (simp only [go_sem, Nat.reduceLT, Nat.reduceLeDiff, Nat.reduceEqDiff, Nat.reduceAdd, Nat.reduceSub, Nat.reduceMul, Nat.reduceBEq, Int.reduceToNat, Int.reduceEq, Int.reduceLT, Int.reduceLE, Int.reduceAdd, ↓reduceIte, reduceCtorEq, decide_true]) <;> rfl
            · simp
            apply Tr.cons
            · exact .callG rfl rfl (by (simp only [go_sem, Nat.reduceLT, Nat.reduceLeDiff, Nat.reduceEqDiff, Nat.reduceAdd, Nat.reduceSub, Nat.reduceMul, Nat.reduceBEq, Int.reduceToNat, Int.reduceEq, Int.reduceLT, Int.reduceLE, Int.reduceAdd, ↓reduceIte, reduceCtorEq]) <;> rfl) rfl (by (simp only [go_sem, Nat.reduceLT, Nat.reduceLeDiff, Nat.reduceEqDiff, Nat.reduceAdd, Nat.reduceSub, Nat.reduceMul, Nat.reduceBEq, Int.reduceToNat, Int.reduceEq, Int.reduceLT, Int.reduceLE, Int.reduceAdd, ↓reduceIte, reduceCtorEq]) <;> rfl) (by (simp only [go_sem, Nat.reduceLT, Nat.reduceLeDiff, Nat.reduceEqDiff, Nat.reduceAdd, Nat.reduceSub, Nat.reduceMul, Nat.reduceBEq, Int.reduceToNat, Int.reduceEq, Int.reduceLT, Int.reduceLE, Int.reduceAdd, ↓reduceIte, reduceCtorEq]) <;> rfl) (by (simp only [go_sem, Nat.reduceLT, Nat.reduceLeDiff, Nat.reduceEqDiff, Nat.reduceAdd, Nat.reduceSub, Nat.reduceMul, Nat.reduceBEq, Int.reduceToNat, Int.reduceEq, Int.reduceLT, Int.reduceLE, Int.reduceAdd, ↓reduceIte, reduceCtorEq]) <;> rfl) (by (simp only [go_sem, Nat.reduceLT, Nat.reduceLeDiff, Nat.reduceEqDiff, Nat.reduceAdd, Nat.reduceSub, Nat.reduceMul, Nat.reduceBEq, Int.reduceToNat, Int.reduceEq, Int.reduceLT, Int.reduceLE, Int.reduceAdd, ↓reduceIte, reduceCtorEq]) <;> rfl) (by (simp only [go_sem, Nat.reduceLT, Nat.reduceLeDiff, Nat.reduceEqDiff, Nat.reduceAdd, Nat.reduceSub, Nat.reduceMul, Nat.reduceBEq, Int.reduceToNat, Int.reduceEq, Int.reduceLT, Int.reduceLE, Int.reduceAdd, ↓reduceIte, reduceCtorEq]) <;> rfl) (lives_is)
            apply Tr.done
            · (simp only [go_sem, Nat.reduceLT, Nat.reduceLeDiff, Nat.reduceEqDiff, Nat.reduceAdd, Nat.reduceSub, Nat.reduceMul, Nat.reduceBEq, Int.reduceToNat, Int.reduceEq, Int.reduceLT, Int.reduceLE, Int.reduceAdd, ↓reduceIte, reduceCtorEq]) <;> rfl
            · simp
          refine EvC.ret ⟨.inl rfl, _, (by (simp only [go_sem, Nat.reduceLT, Nat.reduceLeDiff, Nat.reduceEqDiff, Nat.reduceAdd, Nat.reduceSub, Nat.reduceMul, Nat.reduceBEq, Int.reduceToNat, Int.reduceEq, Int.reduceLT, Int.reduceLE, Int.reduceAdd, ↓reduceIte, reduceCtorEq]) <;> rfl), ?_, rfl⟩
          simp only [go_sem, Nat.reduceLT, Nat.reduceLeDiff, Nat.reduceEqDiff, Nat.reduceAdd, Nat.reduceSub, Nat.reduceMul, Nat.reduceBEq, Int.reduceToNat, Int.reduceEq, Int.reduceLT, Int.reduceLE, Int.reduceAdd, ↓reduceIte, reduceCtorEq]
          try rfl
      · rw [if_pos (by simp [hw0])] at ha
        have k0' : decide (wordErr m.ins w = 0) = false := decide_eq_false hw0
        apply EvC.seq
        apply EvC.tr
        · apply Tr.run
          · (simp only [go_sem, Nat.reduceLT, Nat.reduceLeDiff, Nat.reduceEqDiff, Nat.reduceAdd, Nat.reduceSub, Nat.reduceMul, Nat.reduceBEq, Int.reduceToNat, Int.reduceEq, Int.reduceLT, Int.reduceLE, Int.reduceAdd, ↓reduceIte, reduceCtorEq, Mach.cells]) <;> rfl
          · simp
          apply Tr.cons
          · exact .call rfl rfl (by (simp only [go_sem, Nat.reduceLT, Nat.reduceLeDiff, Nat.reduceEqDiff, Nat.reduceAdd, Nat.reduceSub, Nat.reduceMul, Nat.reduceBEq, Int.reduceToNat, Int.reduceEq, Int.reduceLT, Int.reduceLE, Int.reduceAdd, ↓reduceIte, reduceCtorEq]) <;> rfl) (by (simp only [go_sem, Nat.reduceLT, Nat.reduceLeDiff, Nat.reduceEqDiff, Nat.reduceAdd, Nat.reduceSub, Nat.reduceMul, Nat.reduceBEq, Int.reduceToNat, Int.reduceEq, Int.reduceLT, Int.reduceLE, Int.reduceAdd, ↓reduceIte, reduceCtorEq]) <;> rfl) (by (simp only [go_sem, Nat.reduceLT, Nat.reduceLeDiff, Nat.reduceEqDiff, Nat.reduceAdd, Nat.reduceSub, Nat.reduceMul, Nat.reduceBEq, Int.reduceToNat, Int.reduceEq, Int.reduceLT, Int.reduceLE, Int.reduceAdd, ↓reduceIte, reduceCtorEq]) <;> rfl) (by (simp only [go_sem, Nat.reduceLT, Nat.reduceLeDiff, Nat.reduceEqDiff, Nat.reduceAdd, Nat.reduceSub, Nat.reduceMul, Nat.reduceBEq, Int.reduceToNat, Int.reduceEq, Int.reduceLT, Int.reduceLE, Int.reduceAdd, ↓reduceIte, reduceCtorEq]) <;> rfl) (by (simp only [go_sem, Nat.reduceLT, Nat.reduceLeDiff, Nat.reduceEqDiff, Nat.reduceAdd, Nat.reduceSub, Nat.reduceMul, Nat.reduceBEq, Int.reduceToNat, Int.reduceEq, Int.reduceLT, Int.reduceLE, Int.reduceAdd, ↓reduceIte, reduceCtorEq]) <;> rfl) (ha)
          apply Tr.done
          · (simp only [go_sem, Nat.reduceLT, Nat.reduceLeDiff, Nat.reduceEqDiff, Nat.reduceAdd, Nat.reduceSub, Nat.reduceMul, Nat.reduceBEq, Int.reduceToNat, Int.reduceEq, Int.reduceLT, Int.reduceLE, Int.reduceAdd, ↓reduceIte, reduceCtorEq]) <;> rfl
          · simp
        refine EvC.seq ?_
        apply EvC.seq
        apply EvC.trd
        · (simp only [go_sem, Nat.reduceLT, Nat.reduceLeDiff, Nat.reduceEqDiff, Nat.reduceAdd, Nat.reduceSub, Nat.reduceMul, Nat.reduceBEq, Int.reduceToNat, Int.reduceEq, Int.reduceLT, Int.reduceLE, Int.reduceAdd, ↓reduceIte, reduceCtorEq, k0', decide_not]) <;> rfl
        · simp
        refine EvC.cond_false (by (simp only [go_sem, Nat.reduceLT, Nat.reduceLeDiff, Nat.reduceEqDiff, Nat.reduceAdd, Nat.reduceSub, Nat.reduceMul, Nat.reduceBEq, Int.reduceToNat, Int.reduceEq, Int.reduceLT, Int.reduceLE, Int.reduceAdd, ↓reduceIte, reduceCtorEq, k0', decide_not]) <;> rfl) ?_
        refine EvC.skip ?_
        refine EvC.seq ?_
        apply EvC.seq
        apply EvC.trd
        · (simp only [go_sem, Nat.reduceLT, Nat.reduceLeDiff, Nat.reduceEqDiff, Nat.reduceAdd, Nat.reduceSub, Nat.reduceMul, Nat.reduceBEq, Int.reduceToNat, Int.reduceEq, Int.reduceLT, Int.reduceLE, Int.reduceAdd, ↓reduceIte, reduceCtorEq, Mach.cells, decide_true]) <;> rfl
        · simp
        refine EvC.cond (by (simp only [go_sem, Nat.reduceLT, Nat.reduceLeDiff, Nat.reduceEqDiff, Nat.reduceAdd, Nat.reduceSub, Nat.reduceMul, Nat.reduceBEq, Int.reduceToNat, Int.reduceEq, Int.reduceLT, Int.reduceLE, Int.reduceAdd, ↓reduceIte, reduceCtorEq, decide_true]) <;> rfl) (fun hc => ?_) (fun hc => ?_)
        · have ho : (s < 0 ∨ t < 0 ∨ (m.rows.length : Int) ≤ s ∨ (m.rows.length : Int) ≤ t) := by
            by_cases k1 : s < 0 <;> by_cases k2 : t < 0 <;> by_cases k3 : (m.rows.length : Int) ≤ s <;> by_cases k4 : (m.rows.length : Int) ≤ t <;> simp_all <;> omega
          rw [if_pos ho] at hst
          clear hc
          refine EvC.rg (by (simp only [go_sem, Nat.reduceLT, Nat.reduceLeDiff, Nat.reduceEqDiff, Nat.reduceAdd, Nat.reduceSub, Nat.reduceMul, Nat.reduceBEq, Int.reduceToNat, Int.reduceEq, Int.reduceLT, Int.reduceLE, Int.reduceAdd, ↓reduceIte, reduceCtorEq]) <;> rfl) (by simp) ?_
          apply EvC.seq
          apply EvC.tr
          · apply Tr.run
            · (simp only [go_sem, Nat.reduceLT, Nat.reduceLeDiff, Nat.reduceEqDiff, Nat.reduceAdd, Nat.reduceSub, Nat.reduceMul, Nat.reduceBEq, Int.reduceToNat, Int.reduceEq, Int.reduceLT, Int.reduceLE, Int.reduceAdd, ↓reduceIte, reduceCtorEq, Mach.cells]) <;> rfl
            · simp
            apply Tr.cons
            · exact .call rfl rfl (by (simp only [go_sem, Nat.reduceLT, Nat.reduceLeDiff, Nat.reduceEqDiff, Nat.reduceAdd, Nat.reduceSub, Nat.reduceMul, Nat.reduceBEq, Int.reduceToNat, Int.reduceEq, Int.reduceLT, Int.reduceLE, Int.reduceAdd, ↓reduceIte, reduceCtorEq]) <;> rfl) (by (simp only [go_sem, Nat.reduceLT, Nat.reduceLeDiff, Nat.reduceEqDiff, Nat.reduceAdd, Nat.reduceSub, Nat.reduceMul, Nat.reduceBEq, Int.reduceToNat, Int.reduceEq, Int.reduceLT, Int.reduceLE, Int.reduceAdd, ↓reduceIte, reduceCtorEq]) <;> rfl) (by (simp only [go_sem, Nat.reduceLT, Nat.reduceLeDiff, Nat.reduceEqDiff, Nat.reduceAdd, Nat.reduceSub, Nat.reduceMul, Nat.reduceBEq, Int.reduceToNat, Int.reduceEq, Int.reduceLT, Int.reduceLE, Int.reduceAdd, ↓reduceIte, reduceCtorEq]) <;> rfl) (by (simp only [go_sem, Nat.reduceLT, Nat.reduceLeDiff, Nat.reduceEqDiff, Nat.reduceAdd, Nat.reduceSub, Nat.reduceMul, Nat.reduceBEq, Int.reduceToNat, Int.reduceEq, Int.reduceLT, Int.reduceLE, Int.reduceAdd, ↓reduceIte, reduceCtorEq]) <;> rfl) (by (simp only [go_sem, Nat.reduceLT, Nat.reduceLeDiff, Nat.reduceEqDiff, Nat.reduceAdd, Nat.reduceSub, Nat.reduceMul, Nat.reduceBEq, Int.reduceToNat, Int.reduceEq, Int.reduceLT, Int.reduceLE, Int.reduceAdd, ↓reduceIte, reduceCtorEq]) <;> rfl) (separate_bad hr hst (by decide))
            apply Tr.done
            · (simp only [go_sem, Nat.reduceLT, Nat.reduceLeDiff, Nat.reduceEqDiff, Nat.reduceAdd, Nat.reduceSub, Nat.reduceMul, Nat.reduceBEq, Int.reduceToNat, Int.reduceEq, Int.reduceLT, Int.reduceLE, Int.reduceAdd, ↓reduceIte, reduceCtorEq]) <;> rfl
            · simp
          apply EvC.seq
          apply EvC.tr
          · apply Tr.run
            · (simp only [go_sem, Nat.reduceLT, Nat.reduceLeDiff, Nat.reduceEqDiff, Nat.reduceAdd, Nat.reduceSub, Nat.reduceMul, Nat.reduceBEq, Int.reduceToNat, Int.reduceEq, Int.reduceLT, Int.reduceLE, Int.reduceAdd, ↓reduceIte, reduceCtorEq, Mach.cells]) <;> rfl
            · simp
            apply Tr.cons
            · exact .call rfl rfl (by (simp only [go_sem, Nat.reduceLT, Nat.reduceLeDiff, Nat.reduceEqDiff, Nat.reduceAdd, Nat.reduceSub, Nat.reduceMul, Nat.reduceBEq, Int.reduceToNat, Int.reduceEq, Int.reduceLT, Int.reduceLE, Int.reduceAdd, ↓reduceIte, reduceCtorEq]) <;> rfl) (by (simp only [go_sem, Nat.reduceLT, Nat.reduceLeDiff, Nat.reduceEqDiff, Nat.reduceAdd, Nat.reduceSub, Nat.reduceMul, Nat.reduceBEq, Int.reduceToNat, Int.reduceEq, Int.reduceLT, Int.reduceLE, Int.reduceAdd, ↓reduceIte, reduceCtorEq]) <;> rfl) (by (simp only [go_sem, Nat.reduceLT, Nat.reduceLeDiff, Nat.reduceEqDiff, Nat.reduceAdd, Nat.reduceSub, Nat.reduceMul, Nat.reduceBEq, Int.reduceToNat, Int.reduceEq, Int.reduceLT, Int.reduceLE, Int.reduceAdd, ↓reduceIte, reduceCtorEq]) <;> rfl) (by (simp only [go_sem, Nat.reduceLT, Nat.reduceLeDiff, Nat.reduceEqDiff, Nat.reduceAdd, Nat.reduceSub, Nat.reduceMul, Nat.reduceBEq, Int.reduceToNat, Int.reduceEq, Int.reduceLT, Int.reduceLE, Int.reduceAdd, ↓reduceIte, reduceCtorEq]) <;> rfl) (by (simp only [go_sem, Nat.reduceLT, Nat.reduceLeDiff, Nat.reduceEqDiff, Nat.reduceAdd, Nat.reduceSub, Nat.reduceMul, Nat.reduceBEq, Int.reduceToNat, Int.reduceEq, Int.reduceLT, Int.reduceLE, Int.reduceAdd, ↓reduceIte, reduceCtorEq]) <;> rfl) (separates_bad1 hr nl w c hw6 hst (by decide))
            apply Tr.done
            · (simp only [go_sem, Nat.reduceLT, Nat.reduceLeDiff, Nat.reduceEqDiff, Nat.reduceAdd, Nat.reduceSub, Nat.reduceMul, Nat.reduceBEq, Int.reduceToNat, Int.reduceEq, Int.reduceLT, Int.reduceLE, Int.reduceAdd, ↓reduceIte, reduceCtorEq]) <;> rfl
            · simp
          apply EvC.seq
          apply EvC.tr
          · apply Tr.run
            · (simp only [go_sem, Nat.reduceLT, Nat.reduceLeDiff, Nat.reduceEqDiff, Nat.reduceAdd, Nat.reduceSub, Nat.reduceMul, Nat.reduceBEq, Int.reduceToNat, Int.reduceEq, Int.reduceLT, Int.reduceLE, Int.reduceAdd, ↓reduceIte, reduceCtorEq, decide_true]) <;> rfl
            · simp
            apply Tr.cons
            · exact .callG rfl rfl (by (simp only [go_sem, Nat.reduceLT, Nat.reduceLeDiff, Nat.reduceEqDiff, Nat.reduceAdd, Nat.reduceSub, Nat.reduceMul, Nat.reduceBEq, Int.reduceToNat, Int.reduceEq, Int.reduceLT, Int.reduceLE, Int.reduceAdd, ↓reduceIte, reduceCtorEq]) <;> rfl) rfl (by (simp only [go_sem, Nat.reduceLT, Nat.reduceLeDiff, Nat.reduceEqDiff, Nat.reduceAdd, Nat.reduceSub, Nat.reduceMul, Nat.reduceBEq, Int.reduceToNat, Int.reduceEq, Int.reduceLT, Int.reduceLE, Int.reduceAdd, ↓reduceIte, reduceCtorEq]) <;> rfl) (by (simp only [go_sem, Nat.reduceLT, Nat.reduceLeDiff, Nat.reduceEqDiff, Nat.reduceAdd, Nat.reduceSub, Nat.reduceMul, Nat.reduceBEq, Int.reduceToNat, Int.reduceEq, Int.reduceLT, Int.reduceLE, Int.reduceAdd, ↓reduceIte, reduceCtorEq]) <;> rfl) (by (simp only [go_sem, Nat.reduceLT, Nat.reduceLeDiff, Nat.reduceEqDiff, Nat.reduceAdd, Nat.reduceSub, Nat.reduceMul, Nat.reduceBEq, Int.reduceToNat, Int.reduceEq, Int.reduceLT, Int.reduceLE, Int.reduceAdd, ↓reduceIte, reduceCtorEq]) <;> rfl) (by (simp only [go_sem, Nat.reduceLT, Nat.reduceLeDiff, Nat.reduceEqDiff, Nat.reduceAdd, Nat.reduceSub, Nat.reduceMul, Nat.reduceBEq, Int.reduceToNat, Int.reduceEq, Int.reduceLT, Int.reduceLE, Int.reduceAdd, ↓reduceIte, reduceCtorEq]) <;> rfl) (by (simp only [go_sem, Nat.reduceLT, Nat.reduceLeDiff, Nat.reduceEqDiff, Nat.reduceAdd, Nat.reduceSub, Nat.reduceMul, Nat.reduceBEq, Int.reduceToNat, Int.reduceEq, Int.reduceLT, Int.reduceLE, Int.reduceAdd, ↓reduceIte, reduceCtorEq]) <;> rfl) (lives_is)
            apply Tr.done
            · (simp only [go_sem, Nat.reduceLT, Nat.reduceLeDiff, Nat.reduceEqDiff, Nat.reduceAdd, Nat.reduceSub, Nat.reduceMul, Nat.reduceBEq, Int.reduceToNat, Int.reduceEq, Int.reduceLT, Int.reduceLE, Int.reduceAdd, ↓reduceIte, reduceCtorEq]) <;> rfl
            · simp
          refine EvC.ret ⟨.inl rfl, _, (by (simp only [go_sem, Nat.reduceLT, Nat.reduceLeDiff, Nat.reduceEqDiff, Nat.reduceAdd, Nat.reduceSub, Nat.reduceMul, Nat.reduceBEq, Int.reduceToNat, Int.reduceEq, Int.reduceLT, Int.reduceLE, Int.reduceAdd, ↓reduceIte, reduceCtorEq]) <;> rfl), ?_, rfl⟩
          simp only [go_sem, Nat.reduceLT, Nat.reduceLeDiff, Nat.reduceEqDiff, Nat.reduceAdd, Nat.reduceSub, Nat.reduceMul, Nat.reduceBEq, Int.reduceToNat, Int.reduceEq, Int.reduceLT, Int.reduceLE, Int.reduceAdd, ↓reduceIte, reduceCtorEq]
          try rfl
        · have ho : ¬ (s < 0 ∨ t < 0 ∨ (m.rows.length : Int) ≤ s ∨ (m.rows.length : Int) ≤ t) := by
            by_cases k1 : s < 0 <;> by_cases k2 : t < 0 <;> by_cases k3 : (m.rows.length : Int) ≤ s <;> by_cases k4 : (m.rows.length : Int) ≤ t <;> simp_all <;> omega
          rw [if_neg ho] at hst
          clear hc
          refine EvC.skip ?_
          obtain ⟨b1, hb1⟩ : ∃ b, decide (0 < ((sepW m s.toNat t.toNat).length : Int)) = b := ⟨_, rfl⟩
          have hsg := separate_good hr hst rfl hb1
          generalize sepW m s.toNat t.toNat = sw at hsg
          apply EvC.seq
          apply EvC.tr
          · apply Tr.run
            · (simp only [go_sem, Nat.reduceLT, Nat.reduceLeDiff, Nat.reduceEqDiff, Nat.reduceAdd, Nat.reduceSub, Nat.reduceMul, Nat.reduceBEq, Int.reduceToNat, Int.reduceEq, Int.reduceLT, Int.reduceLE, Int.reduceAdd, ↓reduceIte, reduceCtorEq, Mach.cells]) <;> rfl
            · simp
            apply Tr.cons
            · exact .call rfl rfl (by (simp only [go_sem, Nat.reduceLT, Nat.reduceLeDiff, Nat.reduceEqDiff, Nat.reduceAdd, Nat.reduceSub, Nat.reduceMul, Nat.reduceBEq, Int.reduceToNat, Int.reduceEq, Int.reduceLT, Int.reduceLE, Int.reduceAdd, ↓reduceIte, reduceCtorEq]) <;> rfl) (by (simp only [go_sem, Nat.reduceLT, Nat.reduceLeDiff, Nat.reduceEqDiff, Nat.reduceAdd, Nat.reduceSub, Nat.reduceMul, Nat.reduceBEq, Int.reduceToNat, Int.reduceEq, Int.reduceLT, Int.reduceLE, Int.reduceAdd, ↓reduceIte, reduceCtorEq]) <;> rfl) (by (simp only [go_sem, Nat.reduceLT, Nat.reduceLeDiff, Nat.reduceEqDiff, Nat.reduceAdd, Nat.reduceSub, Nat.reduceMul, Nat.reduceBEq, Int.reduceToNat, Int.reduceEq, Int.reduceLT, Int.reduceLE, Int.reduceAdd, ↓reduceIte, reduceCtorEq]) <;> rfl) (by (simp only [go_sem, Nat.reduceLT, Nat.reduceLeDiff, Nat.reduceEqDiff, Nat.reduceAdd, Nat.reduceSub, Nat.reduceMul, Nat.reduceBEq, Int.reduceToNat, Int.reduceEq, Int.reduceLT, Int.reduceLE, Int.reduceAdd, ↓reduceIte, reduceCtorEq]) <;> rfl) (by (simp only [go_sem, Nat.reduceLT, Nat.reduceLeDiff, Nat.reduceEqDiff, Nat.reduceAdd, Nat.reduceSub, Nat.reduceMul, Nat.reduceBEq, Int.reduceToNat, Int.reduceEq, Int.reduceLT, Int.reduceLE, Int.reduceAdd, ↓reduceIte, reduceCtorEq]) <;> rfl) (hsg)
            apply Tr.done
            · (simp only [go_sem, Nat.reduceLT, Nat.reduceLeDiff, Nat.reduceEqDiff, Nat.reduceAdd, Nat.reduceSub, Nat.reduceMul, Nat.reduceBEq, Int.reduceToNat, Int.reduceEq, Int.reduceLT, Int.reduceLE, Int.reduceAdd, ↓reduceIte, reduceCtorEq]) <;> rfl
            · simp
          apply EvC.seq
          apply EvC.tr
          · apply Tr.run
            · (simp only [go_sem, Nat.reduceLT, Nat.reduceLeDiff, Nat.reduceEqDiff, Nat.reduceAdd, Nat.reduceSub, Nat.reduceMul, Nat.reduceBEq, Int.reduceToNat, Int.reduceEq, Int.reduceLT, Int.reduceLE, Int.reduceAdd, ↓reduceIte, reduceCtorEq, Mach.cells]) <;> rfl
            · simp
            apply Tr.cons
            · exact .call rfl rfl (by (simp only [go_sem, Nat.reduceLT, Nat.reduceLeDiff, Nat.reduceEqDiff, Nat.reduceAdd, Nat.reduceSub, Nat.reduceMul, Nat.reduceBEq, Int.reduceToNat, Int.reduceEq, Int.reduceLT, Int.reduceLE, Int.reduceAdd, ↓reduceIte, reduceCtorEq]) <;> rfl) (by (simp only [go_sem, Nat.reduceLT, Nat.reduceLeDiff, Nat.reduceEqDiff, Nat.reduceAdd, Nat.reduceSub, Nat.reduceMul, Nat.reduceBEq, Int.reduceToNat, Int.reduceEq, Int.reduceLT, Int.reduceLE, Int.reduceAdd, ↓reduceIte, reduceCtorEq]) <;> rfl) (by (simp only [go_sem, Nat.reduceLT, Nat.reduceLeDiff, Nat.reduceEqDiff, Nat.reduceAdd, Nat.reduceSub, Nat.reduceMul, Nat.reduceBEq, Int.reduceToNat, Int.reduceEq, Int.reduceLT, Int.reduceLE, Int.reduceAdd, ↓reduceIte, reduceCtorEq]) <;> rfl) (by (simp only [go_sem, Nat.reduceLT, Nat.reduceLeDiff, Nat.reduceEqDiff, Nat.reduceAdd, Nat.reduceSub, Nat.reduceMul, Nat.reduceBEq, Int.reduceToNat, Int.reduceEq, Int.reduceLT, Int.reduceLE, Int.reduceAdd, ↓reduceIte, reduceCtorEq]) <;> rfl) (by (simp only [go_sem, Nat.reduceLT, Nat.reduceLeDiff, Nat.reduceEqDiff, Nat.reduceAdd, Nat.reduceSub, Nat.reduceMul, Nat.reduceBEq, Int.reduceToNat, Int.reduceEq, Int.reduceLT, Int.reduceLE, Int.reduceAdd, ↓reduceIte, reduceCtorEq]) <;> rfl) (separates_bad2 hr nl w c hw6 hst rfl hw0)
            apply Tr.done
            · (simp only [go_sem, Nat.reduceLT, Nat.reduceLeDiff, Nat.reduceEqDiff, Nat.reduceAdd, Nat.reduceSub, Nat.reduceMul, Nat.reduceBEq, Int.reduceToNat, Int.reduceEq, Int.reduceLT, Int.reduceLE, Int.reduceAdd, ↓reduceIte, reduceCtorEq]) <;> rfl
            · simp
          apply EvC.seq
          apply EvC.tr
          · apply Tr.run
            · (simp only [go_sem, Nat.reduceLT, Nat.reduceLeDiff, Nat.reduceEqDiff, Nat.reduceAdd, Nat.reduceSub, Nat.reduceMul, Nat.reduceBEq, Int.reduceToNat, Int.reduceEq, Int.reduceLT, Int.reduceLE, Int.reduceAdd, ↓reduceIte, reduceCtorEq, decide_true, k0']) <;> rfl
            · simp
            apply Tr.cons
            · exact .callG rfl rfl (by (simp only [go_sem, Nat.reduceLT, Nat.reduceLeDiff, Nat.reduceEqDiff, Nat.reduceAdd, Nat.reduceSub, Nat.reduceMul, Nat.reduceBEq, Int.reduceToNat, Int.reduceEq, Int.reduceLT, Int.reduceLE, Int.reduceAdd, ↓reduceIte, reduceCtorEq]) <;> rfl) rfl (by (simp only [go_sem, Nat.reduceLT, Nat.reduceLeDiff, Nat.reduceEqDiff, Nat.reduceAdd, Nat.reduceSub, Nat.reduceMul, Nat.reduceBEq, Int.reduceToNat, Int.reduceEq, Int.reduceLT, Int.reduceLE, Int.reduceAdd, ↓reduceIte, reduceCtorEq]) <;> rfl) (by (simp only [go_sem, Nat.reduceLT, Nat.reduceLeDiff, Nat.reduceEqDiff, Nat.reduceAdd, Nat.reduceSub, Nat.reduceMul, Nat.reduceBEq, Int.reduceToNat, Int.reduceEq, Int.reduceLT, Int.reduceLE, Int.reduceAdd, ↓reduceIte, reduceCtorEq]) <;> rfl) (by (simp only [go_sem, Nat.reduceLT, Nat.reduceLeDiff, Nat.reduceEqDiff, Nat.reduceAdd, Nat.reduceSub, Nat.reduceMul, Nat.reduceBEq, Int.reduceToNat, Int.reduceEq, Int.reduceLT, Int.reduceLE, Int.reduceAdd, ↓reduceIte, reduceCtorEq]) <;> rfl) (by (simp only [go_sem, Nat.reduceLT, Nat.reduceLeDiff, Nat.reduceEqDiff, Nat.reduceAdd, Nat.reduceSub, Nat.reduceMul, Nat.reduceBEq, Int.reduceToNat, Int.reduceEq, Int.reduceLT, Int.reduceLE, Int.reduceAdd, ↓reduceIte, reduceCtorEq]) <;> rfl) (by (simp only [go_sem, Nat.reduceLT, Nat.reduceLeDiff, Nat.reduceEqDiff, Nat.reduceAdd, Nat.reduceSub, Nat.reduceMul, Nat.reduceBEq, Int.reduceToNat, Int.reduceEq, Int.reduceLT, Int.reduceLE, Int.reduceAdd, ↓reduceIte, reduceCtorEq]) <;> rfl) (lives_is)
            apply Tr.done
            · (simp only [go_sem, Nat.reduceLT, Nat.reduceLeDiff, Nat.reduceEqDiff, Nat.reduceAdd, Nat.reduceSub, Nat.reduceMul, Nat.reduceBEq, Int.reduceToNat, Int.reduceEq, Int.reduceLT, Int.reduceLE, Int.reduceAdd, ↓reduceIte, reduceCtorEq]) <;> rfl
            · simp
          refine EvC.ret ⟨.inl rfl, _, (by (simp only [go_sem, Nat.reduceLT, Nat.reduceLeDiff, Nat.reduceEqDiff, Nat.reduceAdd, Nat.reduceSub, Nat.reduceMul, Nat.reduceBEq, Int.reduceToNat, Int.reduceEq, Int.reduceLT, Int.reduceLE, Int.reduceAdd, ↓reduceIte, reduceCtorEq]) <;> rfl), ?_, rfl⟩
          simp only [go_sem, Nat.reduceLT, Nat.reduceLeDiff, Nat.reduceEqDiff, Nat.reduceAdd, Nat.reduceSub, Nat.reduceMul, Nat.reduceBEq, Int.reduceToNat, Int.reduceEq, Int.reduceLT, Int.reduceLE, Int.reduceAdd, ↓reduceIte, reduceCtorEq]
          try rfl
  have hi : i < m.rows.length := by simpa using hc
  have he : m.rows[i]? = some m.rows[i] := List.getElem?_eq_getElem hi
  have htk : m.rows.take (i + 1) = m.rows.take i ++ [m.rows[i]] := by rw [List.take_add_one, he]; rfl
  generalize m.rows[i] = r at he htk
  refine EvC.skip ?_
  refine EvC.seq ?_
  refine EvC.block ?_  -- 1
  refine EvC.seq (EvC.rg (by (simp only [go_sem, Nat.reduceLT, Nat.reduceLeDiff, Nat.reduceEqDiff, Nat.reduceAdd, Nat.reduceSub, Nat.reduceMul, Nat.reduceBEq, Int.reduceToNat, Int.reduceEq, Int.reduceLT, Int.reduceLE, Int.reduceAdd, ↓reduceIte, reduceCtorEq, Mach.cells, he, rowC]) <;> rfl) (by simp) ?_)
  refine EvC.cond (by (simp only [go_sem, Nat.reduceLT, Nat.reduceLeDiff, Nat.reduceEqDiff, Nat.reduceAdd, Nat.reduceSub, Nat.reduceMul, Nat.reduceBEq, Int.reduceToNat, Int.reduceEq, Int.reduceLT, Int.reduceLE, Int.reduceAdd, ↓reduceIte, reduceCtorEq]) <;> rfl) (fun hc => ?_) (fun hc => ?_)
  · -- then
    refine EvC.seq (EvC.rg (by (simp only [go_sem, Nat.reduceLT, Nat.reduceLeDiff, Nat.reduceEqDiff, Nat.reduceAdd, Nat.reduceSub, Nat.reduceMul, Nat.reduceBEq, Int.reduceToNat, Int.reduceEq, Int.reduceLT, Int.reduceLE, Int.reduceAdd, ↓reduceIte, reduceCtorEq]) <;> rfl) (by simp) ?_)
    refine EvC.ret ⟨.inl rfl, _, (by (simp only [go_sem, Nat.reduceLT, Nat.reduceLeDiff, Nat.reduceEqDiff, Nat.reduceAdd, Nat.reduceSub, Nat.reduceMul, Nat.reduceBEq, Int.reduceToNat, Int.reduceEq, Int.reduceLT, Int.reduceLE, Int.reduceAdd, ↓reduceIte, reduceCtorEq]) <;> rfl), ?_, rfl⟩
    simp only [go_sem, Nat.reduceLT, Nat.reduceLeDiff, Nat.reduceEqDiff, Nat.reduceAdd, Nat.reduceSub, Nat.reduceMul, Nat.reduceBEq, Int.reduceToNat, Int.reduceEq, Int.reduceLT, Int.reduceLE, Int.reduceAdd, ↓reduceIte, reduceCtorEq]
  have hl : (r.2.length : Int) ≤ 20 := by simpa using hc
  refine EvC.skip ?_
  have hI1 : inI64 ((i : Int) + 1) = true := inI64_of (by omega) (by omega)
  refine EvC.rg (by (simp only [go_sem, Nat.reduceLT, Nat.reduceLeDiff, Nat.reduceEqDiff, Nat.reduceAdd, Nat.reduceSub, Nat.reduceMul, Nat.reduceBEq, Int.reduceToNat, Int.reduceEq, Int.reduceLT, Int.reduceLE, Int.reduceAdd, ↓reduceIte, reduceCtorEq, hI1]) <;> rfl) (by simp) ?_
  refine ⟨[], i + 1, rfl, (by (simp only [go_sem, Nat.reduceLT, Nat.reduceLeDiff, Nat.reduceEqDiff, Nat.reduceAdd, Nat.reduceSub, Nat.reduceMul, Nat.reduceBEq, Int.reduceToNat, Int.reduceEq, Int.reduceLT, Int.reduceLE, Int.reduceAdd, ↓reduceIte, reduceCtorEq, Mach.cells]) <;> rfl), ⟨by omega, ?_⟩, by omega⟩
  rw [htk]
  intro r' hr'
  rcases List.mem_append.1 hr' with h | h
  · exact h2 r' h
  · simp at h; subst h; omega
end Go.Avl
namespace Go.Proofs.Ytghafbihbjdaeaa
open Go Go.Avl Go.Proofs Go.ChangeShapes Go.RowKit

set_option maxRecDepth 100000 in
theorem splitsErrors_lifted (os : Os) (started : os.Started) (H : Type) (enc : TypeId × Value → H) :
    ReturnsInHanded {} Try.checked os 8 .any (Rows.splitsErrorsSpec.pre6 enc Try.prog Try.f8 Rows.splitsErrorsRow.domain false) (Rows.splitsErrorsSpec.post enc Try.prog Try.f8 false true false false) := by
  refine returnsInHanded_of_change_sized (C := Try.checked) Try.own started (by kernel_rfl) Try.func8
    (ChangeSpec.witness6 (enc := enc) (C := Try.checked) false ⟨#[], #[.agg #[.int .i64 0, .int .i64 0, .slice none 0 0], .slice none 0 0, .agg #[.int .i64 0, .int .i64 0]], []⟩ 8 (by kernel_rfl) (by kernel_rfl) (by kernel_rfl) (by kernel_rfl)) ?_
  intro W base args ds gs before hval hW _ hz _
  have hW' := hW
  obtain ⟨p, q, hA, hV, rfl, _, _⟩ := hW'
  obtain ⟨rfl, rfl⟩ := trodVars_none hV
  have hA' : DataW.TrodAll enc Try.prog W 0 (fun _ => true) true [28, 30, 67] args.toList ds p := by rw [← show Try.f8.params.toList = [28, 30, 67] from rfl]; exact hA
  obtain ⟨v0, v1, v2, d0, d1, d2, p0, p1, p2, rfl, rfl, rfl, h0, h1, h2⟩ := trodAll_three hA'
  have hz' : (DataW.weightsEach Try.prog [28, 30, 67] [d0, d1, d2]).all (· ≤ reachBytes) = true := hz
  have hf := fits_each (P := Try.prog) (ts := [28, 30, 67]) (l := [d0, d1, d2]) fun n hn => by simpa using List.all_eq_true.1 hz' n hn
  obtain ⟨m, hm, i0⟩ := rd_mach.imm_struct Try.underlying28 (hval 0 28 v0 rfl rfl) (hf 0 28 d0 rfl rfl) h0
  obtain ⟨a, ha, i1⟩ := rd_ints.imm_slice Try.underlying30 (hval 1 30 v1 rfl rfl) (hf 1 30 d1 rfl rfl) h1
  obtain ⟨t, ht, i2⟩ := rd_i64x2.imm_array Try.underlying67 (hval 2 67 v2 rfl rfl) (hf 2 67 d2 rfl rfl) h2
  exact law_calls Try.laidOut (by kernel_rfl) rfl (by kernel_rfl) rfl rfl (splitsErrors_is m a.1 a.2 .unk t.1 t.2 hm ha) (Imms.append (.one i0) (Imms.append (.one i1) (.one i2))) hW

theorem splitsErrors_holds : Rows.SplitsErrorsSaid :=
  OpenClaim.holds_of_wide 8 Try.f8 rfl rfl rfl rfl rfl rfl rfl ⟨rfl, rfl, rfl, rfl, rfl⟩ rfl rfl rfl rfl rfl (by kernel_rfl) Try.func8 (by kernel_rfl)
    (of_decide_eq_true (by kernel_rfl)) (by unfold Func.isWrapper; first | (rw [if_pos (by decide +kernel)]; kernel_rfl) | (rw [if_neg (by decide +kernel)]; exact ⟨rfl, rfl⟩))
    (fun os started H enc _ => splitsErrors_lifted os started H enc)
#print axioms splitsErrors_holds
end Go.Proofs.Ytghafbihbjdaeaa
