/-
  Lemmas.
  Lemmas.
  Lemmas.
  Lemmas.
  Lemmas.
  Lemmas.
  Lemmas.
  An empty object, to be grown by rows that are still written.
-/
import Derived.Test.YtghafbihbjdaeaaPart8
set_option linter.unusedSimpArgs false
set_option linter.unusedVariables false
set_option linter.unnecessarySimpa false
set_option linter.deprecated false
namespace Go.Avl
open Go Go.Proofs.Try
set_option maxRecDepth 10000
set_option linter.unusedSimpArgs false

theorem separate_bad {m : Mach} (hr : ∀ r ∈ m.rows, r.2.length < 1000000) {s t e : Int} (h : stateErr m [s, t] = e) (h0 : e ≠ 0) : PureIs prog 11 [.ag m.cells, .sc (.int .i64 s), .sc (.int .i64 t)] (.tu [.sl true [] .unk, .sc (.bool false), .sc (.int .i64 e)]) := by
  have := separate_is m hr s t
  rw [separateA, if_pos (by rw [h]; exact h0), h] at this
  exact this
theorem separate_good {m : Mach} (hr : ∀ r ∈ m.rows, r.2.length < 1000000) {s t : Int} (h : stateErr m [s, t] = 0) {w : List Int} {b : Bool} (hw : sepW m s.toNat t.toNat = w) (hb : decide (0 < (w.length : Int)) = b) : PureIs prog 11 [.ag m.cells, .sc (.int .i64 s), .sc (.int .i64 t)] (.tu [.sl w.isEmpty (w.map intC) .full, .sc (.bool b), .sc (.int .i64 0)]) := by
  have := separate_is m hr s t
  rw [separateA, if_neg (by simp [h]), hw, hb] at this
  exact this
theorem separates_bad1 {m : Mach} (hr : ∀ r ∈ m.rows, r.2.length < 1000000) (nl : Bool) (w : List Int) (c : Cp) (hl : w.length < 1000000) {s t e : Int} (h : stateErr m [s, t] = e) (h0 : e ≠ 0) : PureIs prog 18 [.ag m.cells, .sl nl (w.map intC) c, .sc (.int .i64 s), .sc (.int .i64 t)] (.tu [.sc (.bool false), .sc (.int .i64 e)]) := by
  have := separates_is m hr nl w c hl s t
  rw [sepsA, if_pos (by rw [h]; exact h0), h] at this
  exact this
theorem separates_bad2 {m : Mach} (hr : ∀ r ∈ m.rows, r.2.length < 1000000) (nl : Bool) (w : List Int) (c : Cp) (hl : w.length < 1000000) {s t e : Int} (h : stateErr m [s, t] = 0) (h1 : wordErr m.ins w = e) (h0 : e ≠ 0) : PureIs prog 18 [.ag m.cells, .sl nl (w.map intC) c, .sc (.int .i64 s), .sc (.int .i64 t)] (.tu [.sc (.bool false), .sc (.int .i64 e)]) := by
  have := separates_is m hr nl w c hl s t
  rw [sepsA, if_neg (by simp [h]), if_pos (by rw [h1]; exact h0), h1] at this
  exact this
theorem separates_good {m : Mach} (hr : ∀ r ∈ m.rows, r.2.length < 1000000) (nl : Bool) (w : List Int) (c : Cp) (hl : w.length < 1000000) {s t : Int} (h : stateErr m [s, t] = 0) (h1 : wordErr m.ins w = 0) {b : Bool} (hb : (!decide (runR m s w = runR m t w)) = b) : PureIs prog 18 [.ag m.cells, .sl nl (w.map intC) c, .sc (.int .i64 s), .sc (.int .i64 t)] (.tu [.sc (.bool b), .sc (.int .i64 0)]) := by
  have := separates_is m hr nl w c hl s t
  rw [sepsA, if_neg (by simp [h]), if_neg (by simp [h1]), hb] at this
  exact this
theorem stateErr_two (m : Mach) (h : checkM m = 0) (s t : Int) : stateErr m [s, t] = if (s < 0 ∨ t < 0 ∨ (m.rows.length : Int) ≤ s ∨ (m.rows.length : Int) ≤ t) then 1 else 0 := by
  rw [stateErr, if_neg (by simp [h])]
  by_cases h' : (s < 0 ∨ t < 0 ∨ (m.rows.length : Int) ≤ s ∨ (m.rows.length : Int) ≤ t)
  · rw [if_pos h', if_pos (by simp; omega)]
  · rw [if_neg h', if_neg (by simp; omega)]
theorem stateErr_chk {m : Mach} (h : checkM m ≠ 0) (l : List Int) : stateErr m l = checkM m := by rw [stateErr, if_pos h]

set_option maxHeartbeats 8000000 in
theorem splitsErrors_is (m : Mach) (nl : Bool) (w : List Int) (c : Cp) (s t : Int) (hm : (m.rows.length : Int) ≤ 140737488355328) (hwl : (w.length : Int) ≤ 140737488355328) :
    PureIs prog 8 [.ag m.cells, .sl nl (w.map intC) c, .ag [.sc (.int .i64 s), .sc (.int .i64 t)]] (.sc (.bool true)) := by
  refine PureIs.of (nv := 4) (hid := [5, 6, 7, 8, 9, 10, 11, 12, 13, 14, 15, 16, 17, 18, 19, 20, 41, 46, 55, 88, 91, 113, 141]) func8 rfl (by kernel_rfl) (by simp [ntmps8]) fun _ => ?_
  rw [ntmps8, results8]
  refine EvC.seq (EvC.rg (by (simp only [go_sem, Nat.reduceLT, Nat.reduceLeDiff, Nat.reduceEqDiff, Nat.reduceAdd, Nat.reduceSub, Nat.reduceMul, Nat.reduceBEq, Int.reduceToNat, Int.reduceEq, Int.reduceLT, Int.reduceLE, Int.reduceAdd, ↓reduceIte, reduceCtorEq, Mach.cells]) <;> rfl) (by simp) ?_)
  refine EvC.frzB 1 (by (simp only [go_sem, Nat.reduceLT, Nat.reduceLeDiff, Nat.reduceEqDiff, Nat.reduceAdd, Nat.reduceSub, Nat.reduceMul, Nat.reduceBEq, Int.reduceToNat, Int.reduceEq, Int.reduceLT, Int.reduceLE, Int.reduceAdd, ↓reduceIte, reduceCtorEq]) <;> rfl) ?_
  refine EvC.frzB 0 (by (simp only [go_sem, Nat.reduceLT, Nat.reduceLeDiff, Nat.reduceEqDiff, Nat.reduceAdd, Nat.reduceSub, Nat.reduceMul, Nat.reduceBEq, Int.reduceToNat, Int.reduceEq, Int.reduceLT, Int.reduceLE, Int.reduceAdd, ↓reduceIte, reduceCtorEq]) <;> rfl) ?_
  refine EvC.seq ?_
  apply EvC.seq
  apply EvC.trd
  · (simp only [go_sem, Nat.reduceLT, Nat.reduceLeDiff, Nat.reduceEqDiff, Nat.reduceAdd, Nat.reduceSub, Nat.reduceMul, Nat.reduceBEq, Int.reduceToNat, Int.reduceEq, Int.reduceLT, Int.reduceLE, Int.reduceAdd, ↓reduceIte, reduceCtorEq]) <;> rfl
  · simp
  refine EvC.cond (by (simp only [go_sem, Nat.reduceLT, Nat.reduceLeDiff, Nat.reduceEqDiff, Nat.reduceAdd, Nat.reduceSub, Nat.reduceMul, Nat.reduceBEq, Int.reduceToNat, Int.reduceEq, Int.reduceLT, Int.reduceLE, Int.reduceAdd, ↓reduceIte, reduceCtorEq]) <;> rfl) (fun hc => ?_) (fun hc => ?_)
  · -- then
    refine EvC.seq (EvC.rg (by (simp only [go_sem, Nat.reduceLT, Nat.reduceLeDiff, Nat.reduceEqDiff, Nat.reduceAdd, Nat.reduceSub, Nat.reduceMul, Nat.reduceBEq, Int.reduceToNat, Int.reduceEq, Int.reduceLT, Int.reduceLE, Int.reduceAdd, ↓reduceIte, reduceCtorEq]) <;> rfl) (by simp) ?_)
    refine EvC.ret ⟨.inl rfl, _, (by (simp only [go_sem, Nat.reduceLT, Nat.reduceLeDiff, Nat.reduceEqDiff, Nat.reduceAdd, Nat.reduceSub, Nat.reduceMul, Nat.reduceBEq, Int.reduceToNat, Int.reduceEq, Int.reduceLT, Int.reduceLE, Int.reduceAdd, ↓reduceIte, reduceCtorEq]) <;> rfl), ?_, rfl⟩
    simp only [go_sem, Nat.reduceLT, Nat.reduceLeDiff, Nat.reduceEqDiff, Nat.reduceAdd, Nat.reduceSub, Nat.reduceMul, Nat.reduceBEq, Int.reduceToNat, Int.reduceEq, Int.reduceLT, Int.reduceLE, Int.reduceAdd, ↓reduceIte, reduceCtorEq]
  have hb : m.rows.length ≤ 70 ∧ w.length ≤ 300 := by
    by_cases h1 : m.rows.length ≤ 20 <;> by_cases h2 : m.rows.length < 65 <;> by_cases h3 : m.rows.length ≤ 70 <;> by_cases h4 : w.length ≤ 300 <;> simp_all <;> omega
  clear hc
  obtain ⟨hml, hwl'⟩ := hb
  have hw6 : w.length < 1000000 := by omega
  refine EvC.skip ?_
  refine EvC.seq ?_
  refine EvC.seq (EvC.rg (by (simp only [go_sem, Nat.reduceLT, Nat.reduceLeDiff, Nat.reduceEqDiff, Nat.reduceAdd, Nat.reduceSub, Nat.reduceMul, Nat.reduceBEq, Int.reduceToNat, Int.reduceEq, Int.reduceLT, Int.reduceLE, Int.reduceAdd, ↓reduceIte, reduceCtorEq]) <;> rfl) (by simp) ?_)
  refine EvC.block ?_  -- 0
  refine EvC.loopS (σ := Nat) (fun i => ⟨[(1, .sl nl (w.map intC) c), (3, .ia m.cells), (5, .ia [.sc (.int .i64 s), .sc (.int .i64 t)]), (6, .sc (.bool false)), (7, .sc (.int .i64 i))], [], [], 0⟩) (fun i => m.rows.length - i) (fun i => i ≤ m.rows.length ∧ ∀ r ∈ m.rows.take i, r.2.length ≤ 20) [1, 3, 5, 6, 7] 0 ?_ ?_
  · refine ⟨[], 0, rfl, (by (simp only [go_sem, Nat.reduceLT, Nat.reduceLeDiff, Nat.reduceEqDiff, Nat.reduceAdd, Nat.reduceSub, Nat.reduceMul, Nat.reduceBEq, Int.reduceToNat, Int.reduceEq, Int.reduceLT, Int.reduceLE, Int.reduceAdd, ↓reduceIte, reduceCtorEq, Mach.cells]) <;> rfl), Nat.zero_le _, by simp⟩
  rintro i ⟨h1, h2⟩
  refine EvC.seq ?_
  refine EvC.seq (EvC.rg (by (simp only [go_sem, Nat.reduceLT, Nat.reduceLeDiff, Nat.reduceEqDiff, Nat.reduceAdd, Nat.reduceSub, Nat.reduceMul, Nat.reduceBEq, Int.reduceToNat, Int.reduceEq, Int.reduceLT, Int.reduceLE, Int.reduceAdd, ↓reduceIte, reduceCtorEq, Mach.cells]) <;> rfl) (by simp) ?_)
  refine EvC.cond (by (simp only [go_sem, Nat.reduceLT, Nat.reduceLeDiff, Nat.reduceEqDiff, Nat.reduceAdd, Nat.reduceSub, Nat.reduceMul, Nat.reduceBEq, Int.reduceToNat, Int.reduceEq, Int.reduceLT, Int.reduceLE, Int.reduceAdd, ↓reduceIte, reduceCtorEq]) <;> rfl) (fun hc => ?_) (fun hc => ?_)
  rotate_left
  · refine EvC.exit ?_  -- 0
    have hi : ¬ i < m.rows.length := by simpa using hc
    rw [List.take_of_length_le (by omega)] at h2
    clear hc hi h1
    have hr : ∀ r ∈ m.rows, r.2.length < 1000000 := fun r h => by have := h2 r h; omega
    clear h2
    apply EvC.seq
    apply EvC.tr
    · apply Tr.run
      · (simp only [go_sem, Nat.reduceLT, Nat.reduceLeDiff, Nat.reduceEqDiff, Nat.reduceAdd, Nat.reduceSub, Nat.reduceMul, Nat.reduceBEq, Int.reduceToNat, Int.reduceEq, Int.reduceLT, Int.reduceLE, Int.reduceAdd, ↓reduceIte, reduceCtorEq, Mach.cells]) <;> rfl
      · simp
      apply Tr.cons
      · exact .call rfl rfl (by (simp only [go_sem, Nat.reduceLT, Nat.reduceLeDiff, Nat.reduceEqDiff, Nat.reduceAdd, Nat.reduceSub, Nat.reduceMul, Nat.reduceBEq, Int.reduceToNat, Int.reduceEq, Int.reduceLT, Int.reduceLE, Int.reduceAdd, ↓reduceIte, reduceCtorEq]) <;> rfl) (by (simp only [go_sem, Nat.reduceLT, Nat.reduceLeDiff, Nat.reduceEqDiff, Nat.reduceAdd, Nat.reduceSub, Nat.reduceMul, Nat.reduceBEq, Int.reduceToNat, Int.reduceEq, Int.reduceLT, Int.reduceLE, Int.reduceAdd, ↓reduceIte, reduceCtorEq]) <;> rfl) (by (simp only [go_sem, Nat.reduceLT, Nat.reduceLeDiff, Nat.reduceEqDiff, Nat.reduceAdd, Nat.reduceSub, Nat.reduceMul, Nat.reduceBEq, Int.reduceToNat, Int.reduceEq, Int.reduceLT, Int.reduceLE, Int.reduceAdd, ↓reduceIte, reduceCtorEq]) <;> rfl) (by (simp only [go_sem, Nat.reduceLT, Nat.reduceLeDiff, Nat.reduceEqDiff, Nat.reduceAdd, Nat.reduceSub, Nat.reduceMul, Nat.reduceBEq, Int.reduceToNat, Int.reduceEq, Int.reduceLT, Int.reduceLE, Int.reduceAdd, ↓reduceIte, reduceCtorEq]) <;> rfl) (by (simp only [go_sem, Nat.reduceLT, Nat.reduceLeDiff, Nat.reduceEqDiff, Nat.reduceAdd, Nat.reduceSub, Nat.reduceMul, Nat.reduceBEq, Int.reduceToNat, Int.reduceEq, Int.reduceLT, Int.reduceLE, Int.reduceAdd, ↓reduceIte, reduceCtorEq]) <;> rfl) (check27_is m hr)
      apply Tr.done
      · (simp only [go_sem, Nat.reduceLT, Nat.reduceLeDiff, Nat.reduceEqDiff, Nat.reduceAdd, Nat.reduceSub, Nat.reduceMul, Nat.reduceBEq, Int.reduceToNat, Int.reduceEq, Int.reduceLT, Int.reduceLE, Int.reduceAdd, ↓reduceIte, reduceCtorEq]) <;> rfl
      · simp
    by_cases h0 : checkM m = 0
    rotate_left
    · have ht := table_is m hr
      rw [tableA, if_pos h0] at ht
      have hh := height_is m hr
      rw [heightA, if_pos h0] at hh
      have ha := splitsAfter_is m hr nl w c hw6
      rw [afterA, if_pos h0] at ha
      have hse := stateErr_chk h0 [s, t]
      have hsp := separate_bad hr hse h0
      have hss := separates_bad1 hr nl w c hw6 hse h0
      clear hse
      generalize checkM m = k at ht hh ha hsp hss h0 ⊢
      have h0' : decide (k = 0) = false := decide_eq_false h0
      have h0d : decide (¬ k = 0) = true := decide_eq_true h0
      clear h0
      apply EvC.seq
      apply EvC.tr
      · apply Tr.run
        · (simp only [go_sem, Nat.reduceLT, Nat.reduceLeDiff, Nat.reduceEqDiff, Nat.reduceAdd, Nat.reduceSub, Nat.reduceMul, Nat.reduceBEq, Int.reduceToNat, Int.reduceEq, Int.reduceLT, Int.reduceLE, Int.reduceAdd, ↓reduceIte, reduceCtorEq, Mach.cells]) <;> rfl
        · simp
        apply Tr.cons
        · exact .call rfl rfl (by (simp only [go_sem, Nat.reduceLT, Nat.reduceLeDiff, Nat.reduceEqDiff, Nat.reduceAdd, Nat.reduceSub, Nat.reduceMul, Nat.reduceBEq, Int.reduceToNat, Int.reduceEq, Int.reduceLT, Int.reduceLE, Int.reduceAdd, ↓reduceIte, reduceCtorEq]) <;> rfl) (by (simp only [go_sem, Nat.reduceLT, Nat.reduceLeDiff, Nat.reduceEqDiff, Nat.reduceAdd, Nat.reduceSub, Nat.reduceMul, Nat.reduceBEq, Int.reduceToNat, Int.reduceEq, Int.reduceLT, Int.reduceLE, Int.reduceAdd, ↓reduceIte, reduceCtorEq]) <;> rfl) (by (simp only [go_sem, Nat.reduceLT, Nat.reduceLeDiff, Nat.reduceEqDiff, Nat.reduceAdd, Nat.reduceSub, Nat.reduceMul, Nat.reduceBEq, Int.reduceToNat, Int.reduceEq, Int.reduceLT, Int.reduceLE, Int.reduceAdd, ↓reduceIte, reduceCtorEq]) <;> rfl) (by (simp only [go_sem, Nat.reduceLT, Nat.reduceLeDiff, Nat.reduceEqDiff, Nat.reduceAdd, Nat.reduceSub, Nat.reduceMul, Nat.reduceBEq, Int.reduceToNat, Int.reduceEq, Int.reduceLT, Int.reduceLE, Int.reduceAdd, ↓reduceIte, reduceCtorEq]) <;> rfl) (by (simp only [go_sem, Nat.reduceLT, Nat.reduceLeDiff, Nat.reduceEqDiff, Nat.reduceAdd, Nat.reduceSub, Nat.reduceMul, Nat.reduceBEq, Int.reduceToNat, Int.reduceEq, Int.reduceLT, Int.reduceLE, Int.reduceAdd, ↓reduceIte, reduceCtorEq]) <;> rfl) (ht)
        apply Tr.done
        · (simp only [go_sem, Nat.reduceLT, Nat.reduceLeDiff, Nat.reduceEqDiff, Nat.reduceAdd, Nat.reduceSub, Nat.reduceMul, Nat.reduceBEq, Int.reduceToNat, Int.reduceEq, Int.reduceLT, Int.reduceLE, Int.reduceAdd, ↓reduceIte, reduceCtorEq]) <;> rfl
        · simp
      apply EvC.seq
      apply EvC.tr
      · apply Tr.run
        · (simp only [go_sem, Nat.reduceLT, Nat.reduceLeDiff, Nat.reduceEqDiff, Nat.reduceAdd, Nat.reduceSub, Nat.reduceMul, Nat.reduceBEq, Int.reduceToNat, Int.reduceEq, Int.reduceLT, Int.reduceLE, Int.reduceAdd, ↓reduceIte, reduceCtorEq, Mach.cells]) <;> rfl
        · simp
        apply Tr.cons
        · exact .call rfl rfl (by (simp only [go_sem, Nat.reduceLT, Nat.reduceLeDiff, Nat.reduceEqDiff, Nat.reduceAdd, Nat.reduceSub, Nat.reduceMul, Nat.reduceBEq, Int.reduceToNat, Int.reduceEq, Int.reduceLT, Int.reduceLE, Int.reduceAdd, ↓reduceIte, reduceCtorEq]) <;> rfl) (by (simp only [go_sem, Nat.reduceLT, Nat.reduceLeDiff, Nat.reduceEqDiff, Nat.reduceAdd, Nat.reduceSub, Nat.reduceMul, Nat.reduceBEq, Int.reduceToNat, Int.reduceEq, Int.reduceLT, Int.reduceLE, Int.reduceAdd, ↓reduceIte, reduceCtorEq]) <;> rfl) (by (simp only [go_sem, Nat.reduceLT, Nat.reduceLeDiff, Nat.reduceEqDiff, Nat.reduceAdd, Nat.reduceSub, Nat.reduceMul, Nat.reduceBEq, Int.reduceToNat, Int.reduceEq, Int.reduceLT, Int.reduceLE, Int.reduceAdd, ↓reduceIte, reduceCtorEq]) <;> rfl) (by (simp only [go_sem, Nat.reduceLT, Nat.reduceLeDiff, Nat.reduceEqDiff, Nat.reduceAdd, Nat.reduceSub, Nat.reduceMul, Nat.reduceBEq, Int.reduceToNat, Int.reduceEq, Int.reduceLT, Int.reduceLE, Int.reduceAdd, ↓reduceIte, reduceCtorEq]) <;> rfl) (by (simp only [go_sem, Nat.reduceLT, Nat.reduceLeDiff, Nat.reduceEqDiff, Nat.reduceAdd, Nat.reduceSub, Nat.reduceMul, Nat.reduceBEq, Int.reduceToNat, Int.reduceEq, Int.reduceLT, Int.reduceLE, Int.reduceAdd, ↓reduceIte, reduceCtorEq]) <;> rfl) (hh)
        apply Tr.done
        · (simp only [go_sem, Nat.reduceLT, Nat.reduceLeDiff, Nat.reduceEqDiff, Nat.reduceAdd, Nat.reduceSub, Nat.reduceMul, Nat.reduceBEq, Int.reduceToNat, Int.reduceEq, Int.reduceLT, Int.reduceLE, Int.reduceAdd, ↓reduceIte, reduceCtorEq]) <;> rfl
        · simp
      refine EvC.seq ?_
      apply EvC.seq
      apply EvC.trd
      · (simp only [go_sem, Nat.reduceLT, Nat.reduceLeDiff, Nat.reduceEqDiff, Nat.reduceAdd, Nat.reduceSub, Nat.reduceMul, Nat.reduceBEq, Int.reduceToNat, Int.reduceEq, Int.reduceLT, Int.reduceLE, Int.reduceAdd, ↓reduceIte, reduceCtorEq, h0', h0d, Mach.cells, decide_true, decide_false, decide_not]) <;> rfl
      · simp
      refine EvC.cond_false (by (simp only [go_sem, Nat.reduceLT, Nat.reduceLeDiff, Nat.reduceEqDiff, Nat.reduceAdd, Nat.reduceSub, Nat.reduceMul, Nat.reduceBEq, Int.reduceToNat, Int.reduceEq, Int.reduceLT, Int.reduceLE, Int.reduceAdd, ↓reduceIte, reduceCtorEq, h0', h0d]) <;> rfl) ?_
      refine EvC.skip ?_
      refine EvC.seq (EvC.rg (by (simp only [go_sem, Nat.reduceLT, Nat.reduceLeDiff, Nat.reduceEqDiff, Nat.reduceAdd, Nat.reduceSub, Nat.reduceMul, Nat.reduceBEq, Int.reduceToNat, Int.reduceEq, Int.reduceLT, Int.reduceLE, Int.reduceAdd, ↓reduceIte, reduceCtorEq]) <;> rfl) (by simp) ?_)
      refine EvC.seq ?_
      refine EvC.seq (EvC.rg (by (simp only [go_sem, Nat.reduceLT, Nat.reduceLeDiff, Nat.reduceEqDiff, Nat.reduceAdd, Nat.reduceSub, Nat.reduceMul, Nat.reduceBEq, Int.reduceToNat, Int.reduceEq, Int.reduceLT, Int.reduceLE, Int.reduceAdd, ↓reduceIte, reduceCtorEq, h0']) <;> rfl) (by simp) ?_)
      refine EvC.cond_false (by (simp only [go_sem, Nat.reduceLT, Nat.reduceLeDiff, Nat.reduceEqDiff, Nat.reduceAdd, Nat.reduceSub, Nat.reduceMul, Nat.reduceBEq, Int.reduceToNat, Int.reduceEq, Int.reduceLT, Int.reduceLE, Int.reduceAdd, ↓reduceIte, reduceCtorEq]) <;> rfl) ?_
      refine EvC.skip ?_
      apply EvC.seq
      apply EvC.tr
      · apply Tr.run
        · (simp only [go_sem, Nat.reduceLT, Nat.reduceLeDiff, Nat.reduceEqDiff, Nat.reduceAdd, Nat.reduceSub, Nat.reduceMul, Nat.reduceBEq, Int.reduceToNat, Int.reduceEq, Int.reduceLT, Int.reduceLE, Int.reduceAdd, ↓reduceIte, reduceCtorEq, Mach.cells]) <;> rfl
        · simp
        apply Tr.cons
        · exact .call rfl rfl (by (simp only [go_sem, Nat.reduceLT, Nat.reduceLeDiff, Nat.reduceEqDiff, Nat.reduceAdd, Nat.reduceSub, Nat.reduceMul, Nat.reduceBEq, Int.reduceToNat, Int.reduceEq, Int.reduceLT, Int.reduceLE, Int.reduceAdd, ↓reduceIte, reduceCtorEq]) <;> rfl) (by (simp only [go_sem, Nat.reduceLT, Nat.reduceLeDiff, Nat.reduceEqDiff, Nat.reduceAdd, Nat.reduceSub, Nat.reduceMul, Nat.reduceBEq, Int.reduceToNat, Int.reduceEq, Int.reduceLT, Int.reduceLE, Int.reduceAdd, ↓reduceIte, reduceCtorEq]) <;> rfl) (by (simp only [go_sem, Nat.reduceLT, Nat.reduceLeDiff, Nat.reduceEqDiff, Nat.reduceAdd, Nat.reduceSub, Nat.reduceMul, Nat.reduceBEq, Int.reduceToNat, Int.reduceEq, Int.reduceLT, Int.reduceLE, Int.reduceAdd, ↓reduceIte, reduceCtorEq]) <;> rfl) (by (simp only [go_sem, Nat.reduceLT, Nat.reduceLeDiff, Nat.reduceEqDiff, Nat.reduceAdd, Nat.reduceSub, Nat.reduceMul, Nat.reduceBEq, Int.reduceToNat, Int.reduceEq, Int.reduceLT, Int.reduceLE, Int.reduceAdd, ↓reduceIte, reduceCtorEq]) <;> rfl) (by (simp only [go_sem, Nat.reduceLT, Nat.reduceLeDiff, Nat.reduceEqDiff, Nat.reduceAdd, Nat.reduceSub, Nat.reduceMul, Nat.reduceBEq, Int.reduceToNat, Int.reduceEq, Int.reduceLT, Int.reduceLE, Int.reduceAdd, ↓reduceIte, reduceCtorEq]) <;> rfl) (ha)
        apply Tr.done
        · (simp only [go_sem, Nat.reduceLT, Nat.reduceLeDiff, Nat.reduceEqDiff, Nat.reduceAdd, Nat.reduceSub, Nat.reduceMul, Nat.reduceBEq, Int.reduceToNat, Int.reduceEq, Int.reduceLT, Int.reduceLE, Int.reduceAdd, ↓reduceIte, reduceCtorEq]) <;> rfl
        · simp
      refine EvC.seq ?_
      apply EvC.seq
      apply EvC.trd
      · (simp only [go_sem, Nat.reduceLT, Nat.reduceLeDiff, Nat.reduceEqDiff, Nat.reduceAdd, Nat.reduceSub, Nat.reduceMul, Nat.reduceBEq, Int.reduceToNat, Int.reduceEq, Int.reduceLT, Int.reduceLE, Int.reduceAdd, ↓reduceIte, reduceCtorEq, h0', h0d, decide_not]) <;> rfl
      · simp
      refine EvC.cond_false (by (simp only [go_sem, Nat.reduceLT, Nat.reduceLeDiff, Nat.reduceEqDiff, Nat.reduceAdd, Nat.reduceSub, Nat.reduceMul, Nat.reduceBEq, Int.reduceToNat, Int.reduceEq, Int.reduceLT, Int.reduceLE, Int.reduceAdd, ↓reduceIte, reduceCtorEq, h0', h0d]) <;> rfl) ?_
      refine EvC.skip ?_
      refine EvC.seq ?_
      apply EvC.seq
      apply EvC.trd
      · (simp only [go_sem, Nat.reduceLT, Nat.reduceLeDiff, Nat.reduceEqDiff, Nat.reduceAdd, Nat.reduceSub, Nat.reduceMul, Nat.reduceBEq, Int.reduceToNat, Int.reduceEq, Int.reduceLT, Int.reduceLE, Int.reduceAdd, ↓reduceIte, reduceCtorEq, h0', h0d, Mach.cells]) <;> rfl
      · simp
      refine EvC.cond_false (by (simp only [go_sem, Nat.reduceLT, Nat.reduceLeDiff, Nat.reduceEqDiff, Nat.reduceAdd, Nat.reduceSub, Nat.reduceMul, Nat.reduceBEq, Int.reduceToNat, Int.reduceEq, Int.reduceLT, Int.reduceLE, Int.reduceAdd, ↓reduceIte, reduceCtorEq, h0', h0d]) <;> rfl) ?_
      refine EvC.skip ?_
      apply EvC.seq
      apply EvC.tr
      · apply Tr.run
        · (simp only [go_sem, Nat.reduceLT, Nat.reduceLeDiff, Nat.reduceEqDiff, Nat.reduceAdd, Nat.reduceSub, Nat.reduceMul, Nat.reduceBEq, Int.reduceToNat, Int.reduceEq, Int.reduceLT, Int.reduceLE, Int.reduceAdd, ↓reduceIte, reduceCtorEq, Mach.cells]) <;> rfl
        · simp
        apply Tr.cons
        · exact .call rfl rfl (by (simp only [go_sem, Nat.reduceLT, Nat.reduceLeDiff, Nat.reduceEqDiff, Nat.reduceAdd, Nat.reduceSub, Nat.reduceMul, Nat.reduceBEq, Int.reduceToNat, Int.reduceEq, Int.reduceLT, Int.reduceLE, Int.reduceAdd, ↓reduceIte, reduceCtorEq]) <;> rfl) (by (simp only [go_sem, Nat.reduceLT, Nat.reduceLeDiff, Nat.reduceEqDiff, Nat.reduceAdd, Nat.reduceSub, Nat.reduceMul, Nat.reduceBEq, Int.reduceToNat, Int.reduceEq, Int.reduceLT, Int.reduceLE, Int.reduceAdd, ↓reduceIte, reduceCtorEq]) <;> rfl) (by (simp only [go_sem, Nat.reduceLT, Nat.reduceLeDiff, Nat.reduceEqDiff, Nat.reduceAdd, Nat.reduceSub, Nat.reduceMul, Nat.reduceBEq, Int.reduceToNat, Int.reduceEq, Int.reduceLT, Int.reduceLE, Int.reduceAdd, ↓reduceIte, reduceCtorEq]) <;> rfl) (by (simp only [go_sem, Nat.reduceLT, Nat.reduceLeDiff, Nat.reduceEqDiff, Nat.reduceAdd, Nat.reduceSub, Nat.reduceMul, Nat.reduceBEq, Int.reduceToNat, Int.reduceEq, Int.reduceLT, Int.reduceLE, Int.reduceAdd, ↓reduceIte, reduceCtorEq]) <;> rfl) (by (simp only [go_sem, Nat.reduceLT, Nat.reduceLeDiff, Nat.reduceEqDiff, Nat.reduceAdd, Nat.reduceSub, Nat.reduceMul, Nat.reduceBEq, Int.reduceToNat, Int.reduceEq, Int.reduceLT, Int.reduceLE, Int.reduceAdd, ↓reduceIte, reduceCtorEq]) <;> rfl) (hsp)
        apply Tr.done
        · (simp only [go_sem, Nat.reduceLT, Nat.reduceLeDiff, Nat.reduceEqDiff, Nat.reduceAdd, Nat.reduceSub, Nat.reduceMul, Nat.reduceBEq, Int.reduceToNat, Int.reduceEq, Int.reduceLT, Int.reduceLE, Int.reduceAdd, ↓reduceIte, reduceCtorEq]) <;> rfl
        · simp
      apply EvC.seq
      apply EvC.tr
      · apply Tr.run
        · (simp only [go_sem, Nat.reduceLT, Nat.reduceLeDiff, Nat.reduceEqDiff, Nat.reduceAdd, Nat.reduceSub, Nat.reduceMul, Nat.reduceBEq, Int.reduceToNat, Int.reduceEq, Int.reduceLT, Int.reduceLE, Int.reduceAdd, ↓reduceIte, reduceCtorEq, Mach.cells]) <;> rfl
        · simp
        apply Tr.cons
        · exact .call rfl rfl (by (simp only [go_sem, Nat.reduceLT, Nat.reduceLeDiff, Nat.reduceEqDiff, Nat.reduceAdd, Nat.reduceSub, Nat.reduceMul, Nat.reduceBEq, Int.reduceToNat, Int.reduceEq, Int.reduceLT, Int.reduceLE, Int.reduceAdd, ↓reduceIte, reduceCtorEq]) <;> rfl) (by (simp only [go_sem, Nat.reduceLT, Nat.reduceLeDiff, Nat.reduceEqDiff, Nat.reduceAdd, Nat.reduceSub, Nat.reduceMul, Nat.reduceBEq, Int.reduceToNat, Int.reduceEq, Int.reduceLT, Int.reduceLE, Int.reduceAdd, ↓reduceIte, reduceCtorEq]) <;> rfl) (by (simp only [go_sem, Nat.reduceLT, Nat.reduceLeDiff, Nat.reduceEqDiff, Nat.reduceAdd, Nat.reduceSub, Nat.reduceMul, Nat.reduceBEq, Int.reduceToNat, Int.reduceEq, Int.reduceLT, Int.reduceLE, Int.reduceAdd, ↓reduceIte, reduceCtorEq]) <;> rfl) (by (simp only [go_sem, Nat.reduceLT, Nat.reduceLeDiff, Nat.reduceEqDiff, Nat.reduceAdd, Nat.reduceSub, Nat.reduceMul, Nat.reduceBEq, Int.reduceToNat, Int.reduceEq, Int.reduceLT, Int.reduceLE, Int.reduceAdd, ↓reduceIte, reduceCtorEq]) <;> rfl) (by (simp only [go_sem, Nat.reduceLT, Nat.reduceLeDiff, Nat.reduceEqDiff, Nat.reduceAdd, Nat.reduceSub, Nat.reduceMul, Nat.reduceBEq, Int.reduceToNat, Int.reduceEq, Int.reduceLT, Int.reduceLE, Int.reduceAdd, ↓reduceIte, reduceCtorEq]) <;> rfl) (hss)
        apply Tr.done
        · (simp only [go_sem, Nat.reduceLT, Nat.reduceLeDiff, Nat.reduceEqDiff, Nat.reduceAdd, Nat.reduceSub, Nat.reduceMul, Nat.reduceBEq, Int.reduceToNat, Int.reduceEq, Int.reduceLT, Int.reduceLE, Int.reduceAdd, ↓reduceIte, reduceCtorEq]) <;> rfl
        · simp
      apply EvC.seq
      apply EvC.tr
      · apply Tr.run
        · (simp only [go_sem, Nat.reduceLT, Nat.reduceLeDiff, Nat.reduceEqDiff, Nat.reduceAdd, Nat.reduceSub, Nat.reduceMul, Nat.reduceBEq, Int.reduceToNat, Int.reduceEq, Int.reduceLT, Int.reduceLE, Int.reduceAdd, ↓reduceIte, reduceCtorEq, h0', h0d, decide_true]) <;> rfl
        · simp
        apply Tr.cons
        · exact .callG rfl rfl (by (simp only [go_sem, Nat.reduceLT, Nat.reduceLeDiff, Nat.reduceEqDiff, Nat.reduceAdd, Nat.reduceSub, Nat.reduceMul, Nat.reduceBEq, Int.reduceToNat, Int.reduceEq, Int.reduceLT, Int.reduceLE, Int.reduceAdd, ↓reduceIte, reduceCtorEq]) <;> rfl) rfl (by (simp only [go_sem, Nat.reduceLT, Nat.reduceLeDiff, Nat.reduceEqDiff, Nat.reduceAdd, Nat.reduceSub, Nat.reduceMul, Nat.reduceBEq, Int.reduceToNat, Int.reduceEq, Int.reduceLT, Int.reduceLE, Int.reduceAdd, ↓reduceIte, reduceCtorEq]) <;> rfl) (by (simp only [go_sem, Nat.reduceLT, Nat.reduceLeDiff, Nat.reduceEqDiff, Nat.reduceAdd, Nat.reduceSub, Nat.reduceMul, Nat.reduceBEq, Int.reduceToNat, Int.reduceEq, Int.reduceLT, Int.reduceLE, Int.reduceAdd, ↓reduceIte, reduceCtorEq]) <;> rfl) (by (simp only [go_sem, Nat.reduceLT, Nat.reduceLeDiff, Nat.reduceEqDiff, Nat.reduceAdd, Nat.reduceSub, Nat.reduceMul, Nat.reduceBEq, Int.reduceToNat, Int.reduceEq, Int.reduceLT, Int.reduceLE, Int.reduceAdd, ↓reduceIte, reduceCtorEq]) <;> rfl) (by (simp only [go_sem, Nat.reduceLT, Nat.reduceLeDiff, Nat.reduceEqDiff, Nat.reduceAdd, Nat.reduceSub, Nat.reduceMul, Nat.reduceBEq, Int.reduceToNat, Int.reduceEq, Int.reduceLT, Int.reduceLE, Int.reduceAdd, ↓reduceIte, reduceCtorEq]) <;> rfl) (by (simp only [go_sem, Nat.reduceLT, Nat.reduceLeDiff, Nat.reduceEqDiff, Nat.reduceAdd, Nat.reduceSub, Nat.reduceMul, Nat.reduceBEq, Int.reduceToNat, Int.reduceEq, Int.reduceLT, Int.reduceLE, Int.reduceAdd, ↓reduceIte, reduceCtorEq]) <;> rfl) (lives_is)
        apply Tr.done
        · (simp only [go_sem, Nat.reduceLT, Nat.reduceLeDiff, Nat.reduceEqDiff, Nat.reduceAdd, Nat.reduceSub, Nat.reduceMul, Nat.reduceBEq, Int.reduceToNat, Int.reduceEq, Int.reduceLT, Int.reduceLE, Int.reduceAdd, ↓reduceIte, reduceCtorEq]) <;> rfl
        · simp
      refine EvC.ret ⟨.inl rfl, _, (by (simp only [go_sem, Nat.reduceLT, Nat.reduceLeDiff, Nat.reduceEqDiff, Nat.reduceAdd, Nat.reduceSub, Nat.reduceMul, Nat.reduceBEq, Int.reduceToNat, Int.reduceEq, Int.reduceLT, Int.reduceLE, Int.reduceAdd, ↓reduceIte, reduceCtorEq]) <;> rfl), ?_, rfl⟩
      simp only [go_sem, Nat.reduceLT, Nat.reduceLeDiff, Nat.reduceEqDiff, Nat.reduceAdd, Nat.reduceSub, Nat.reduceMul, Nat.reduceBEq, Int.reduceToNat, Int.reduceEq, Int.reduceLT, Int.reduceLE, Int.reduceAdd, ↓reduceIte, reduceCtorEq]
      try rfl
    · have ht := table_is m hr
      rw [tableA, if_neg (by simp [h0])] at ht
      have hh := height_is m hr
      rw [heightA, if_neg (by simp [h0])] at hh
      have ha := splitsAfter_is m hr nl w c hw6
      rw [afterA, if_neg (by simp [h0])] at ha
      have hst := stateErr_two m h0 s t
      have hch := check28_is nl w c m.ins hw6
      rw [h0]
      generalize tblL m = T at ht hh
      generalize maxLen T = mx at hh
      apply EvC.seq
      apply EvC.tr
      · apply Tr.run
        · (simp only [go_sem, Nat.reduceLT, Nat.reduceLeDiff, Nat.reduceEqDiff, Nat.reduceAdd, Nat.reduceSub, Nat.reduceMul, Nat.reduceBEq, Int.reduceToNat, Int.reduceEq, Int.reduceLT, Int.reduceLE, Int.reduceAdd, ↓reduceIte, reduceCtorEq, Mach.cells]) <;> rfl
        · simp
        apply Tr.cons
        · exact .call rfl rfl (by (simp only [go_sem, Nat.reduceLT, Nat.reduceLeDiff, Nat.reduceEqDiff, Nat.reduceAdd, Nat.reduceSub, Nat.reduceMul, Nat.reduceBEq, Int.reduceToNat, Int.reduceEq, Int.reduceLT, Int.reduceLE, Int.reduceAdd, ↓reduceIte, reduceCtorEq]) <;> rfl) (by (simp only [go_sem, Nat.reduceLT, Nat.reduceLeDiff, Nat.reduceEqDiff, Nat.reduceAdd, Nat.reduceSub, Nat.reduceMul, Nat.reduceBEq, Int.reduceToNat, Int.reduceEq, Int.reduceLT, Int.reduceLE, Int.reduceAdd, ↓reduceIte, reduceCtorEq]) <;> rfl) (by (simp only [go_sem, Nat.reduceLT, Nat.reduceLeDiff, Nat.reduceEqDiff, Nat.reduceAdd, Nat.reduceSub, Nat.reduceMul, Nat.reduceBEq, Int.reduceToNat, Int.reduceEq, Int.reduceLT, Int.reduceLE, Int.reduceAdd, ↓reduceIte, reduceCtorEq]) <;> rfl) (by (simp only [go_sem, Nat.reduceLT, Nat.reduceLeDiff, Nat.reduceEqDiff, Nat.reduceAdd, Nat.reduceSub, Nat.reduceMul, Nat.reduceBEq, Int.reduceToNat, Int.reduceEq, Int.reduceLT, Int.reduceLE, Int.reduceAdd, ↓reduceIte, reduceCtorEq]) <;> rfl) (by (simp only [go_sem, Nat.reduceLT, Nat.reduceLeDiff, Nat.reduceEqDiff, Nat.reduceAdd, Nat.reduceSub, Nat.reduceMul, Nat.reduceBEq, Int.reduceToNat, Int.reduceEq, Int.reduceLT, Int.reduceLE, Int.reduceAdd, ↓reduceIte, reduceCtorEq]) <;> rfl) (ht)
        apply Tr.done
        · (simp only [go_sem, Nat.reduceLT, Nat.reduceLeDiff, Nat.reduceEqDiff, Nat.reduceAdd, Nat.reduceSub, Nat.reduceMul, Nat.reduceBEq, Int.reduceToNat, Int.reduceEq, Int.reduceLT, Int.reduceLE, Int.reduceAdd, ↓reduceIte, reduceCtorEq]) <;> rfl
        · simp
      apply EvC.seq
      apply EvC.tr
      · apply Tr.run
        · (simp only [go_sem, Nat.reduceLT, Nat.reduceLeDiff, Nat.reduceEqDiff, Nat.reduceAdd, Nat.reduceSub, Nat.reduceMul, Nat.reduceBEq, Int.reduceToNat, Int.reduceEq, Int.reduceLT, Int.reduceLE, Int.reduceAdd, ↓reduceIte, reduceCtorEq, Mach.cells]) <;> rfl
        · simp
        apply Tr.cons
        · exact .call rfl rfl (by (simp only [go_sem, Nat.reduceLT, Nat.reduceLeDiff, Nat.reduceEqDiff, Nat.reduceAdd, Nat.reduceSub, Nat.reduceMul, Nat.reduceBEq, Int.reduceToNat, Int.reduceEq, Int.reduceLT, Int.reduceLE, Int.reduceAdd, ↓reduceIte, reduceCtorEq]) <;> rfl) (by (simp only [go_sem, Nat.reduceLT, Nat.reduceLeDiff, Nat.reduceEqDiff, Nat.reduceAdd, Nat.reduceSub, Nat.reduceMul, Nat.reduceBEq, Int.reduceToNat, Int.reduceEq, Int.reduceLT, Int.reduceLE, Int.reduceAdd, ↓reduceIte, reduceCtorEq]) <;> rfl) (by (simp only [go_sem, Nat.reduceLT, Nat.reduceLeDiff, Nat.reduceEqDiff, Nat.reduceAdd, Nat.reduceSub, Nat.reduceMul, Nat.reduceBEq, Int.reduceToNat, Int.reduceEq, Int.reduceLT, Int.reduceLE, Int.reduceAdd, ↓reduceIte, reduceCtorEq]) <;> rfl) (by (simp only [go_sem, Nat.reduceLT, Nat.reduceLeDiff, Nat.reduceEqDiff, Nat.reduceAdd, Nat.reduceSub, Nat.reduceMul, Nat.reduceBEq, Int.reduceToNat, Int.reduceEq, Int.reduceLT, Int.reduceLE, Int.reduceAdd, ↓reduceIte, reduceCtorEq]) <;> rfl) (by (simp only [go_sem, Nat.reduceLT, Nat.reduceLeDiff, Nat.reduceEqDiff, Nat.reduceAdd, Nat.reduceSub, Nat.reduceMul, Nat.reduceBEq, Int.reduceToNat, Int.reduceEq, Int.reduceLT, Int.reduceLE, Int.reduceAdd, ↓reduceIte, reduceCtorEq]) <;> rfl) (hh)
        apply Tr.done
        · (simp only [go_sem, Nat.reduceLT, Nat.reduceLeDiff, Nat.reduceEqDiff, Nat.reduceAdd, Nat.reduceSub, Nat.reduceMul, Nat.reduceBEq, Int.reduceToNat, Int.reduceEq, Int.reduceLT, Int.reduceLE, Int.reduceAdd, ↓reduceIte, reduceCtorEq]) <;> rfl
        · simp
      refine EvC.seq ?_
      apply EvC.seq
      apply EvC.trd
      · (simp only [go_sem, Nat.reduceLT, Nat.reduceLeDiff, Nat.reduceEqDiff, Nat.reduceAdd, Nat.reduceSub, Nat.reduceMul, Nat.reduceBEq, Int.reduceToNat, Int.reduceEq, Int.reduceLT, Int.reduceLE, Int.reduceAdd, ↓reduceIte, reduceCtorEq, Mach.cells, decide_true, decide_false, decide_not]) <;> rfl
      · simp
      refine EvC.cond_false (by (simp only [go_sem, Nat.reduceLT, Nat.reduceLeDiff, Nat.reduceEqDiff, Nat.reduceAdd, Nat.reduceSub, Nat.reduceMul, Nat.reduceBEq, Int.reduceToNat, Int.reduceEq, Int.reduceLT, Int.reduceLE, Int.reduceAdd, ↓reduceIte, reduceCtorEq]) <;> rfl) ?_
      refine EvC.skip ?_
      refine EvC.seq (EvC.rg (by (simp only [go_sem, Nat.reduceLT, Nat.reduceLeDiff, Nat.reduceEqDiff, Nat.reduceAdd, Nat.reduceSub, Nat.reduceMul, Nat.reduceBEq, Int.reduceToNat, Int.reduceEq, Int.reduceLT, Int.reduceLE, Int.reduceAdd, ↓reduceIte, reduceCtorEq]) <;> rfl) (by simp) ?_)
      refine EvC.seq ?_
      refine EvC.seq (EvC.rg (by (simp only [go_sem, Nat.reduceLT, Nat.reduceLeDiff, Nat.reduceEqDiff, Nat.reduceAdd, Nat.reduceSub, Nat.reduceMul, Nat.reduceBEq, Int.reduceToNat, Int.reduceEq, Int.reduceLT, Int.reduceLE, Int.reduceAdd, ↓reduceIte, reduceCtorEq]) <;> rfl) (by simp) ?_)
      refine EvC.cond_true (by (simp only [go_sem, Nat.reduceLT, Nat.reduceLeDiff, Nat.reduceEqDiff, Nat.reduceAdd, Nat.reduceSub, Nat.reduceMul, Nat.reduceBEq, Int.reduceToNat, Int.reduceEq, Int.reduceLT, Int.reduceLE, Int.reduceAdd, ↓reduceIte, reduceCtorEq]) <;> rfl) ?_
      apply EvC.tr
      · apply Tr.run
        · (simp only [go_sem, Nat.reduceLT, Nat.reduceLeDiff, Nat.reduceEqDiff, Nat.reduceAdd, Nat.reduceSub, Nat.reduceMul, Nat.reduceBEq, Int.reduceToNat, Int.reduceEq, Int.reduceLT, Int.reduceLE, Int.reduceAdd, ↓reduceIte, reduceCtorEq, Mach.cells]) <;> rfl
        · simp
        apply Tr.cons
        · exact .call rfl rfl (by (simp only [go_sem, Nat.reduceLT, Nat.reduceLeDiff, Nat.reduceEqDiff, Nat.reduceAdd, Nat.reduceSub, Nat.reduceMul, Nat.reduceBEq, Int.reduceToNat, Int.reduceEq, Int.reduceLT, Int.reduceLE, Int.reduceAdd, ↓reduceIte, reduceCtorEq]) <;> rfl) (by (simp only [go_sem, Nat.reduceLT, Nat.reduceLeDiff, Nat.reduceEqDiff, Nat.reduceAdd, Nat.reduceSub, Nat.reduceMul, Nat.reduceBEq, Int.reduceToNat, Int.reduceEq, Int.reduceLT, Int.reduceLE, Int.reduceAdd, ↓reduceIte, reduceCtorEq]) <;> rfl) (by (simp only [go_sem, Nat.reduceLT, Nat.reduceLeDiff, Nat.reduceEqDiff, Nat.reduceAdd, Nat.reduceSub, Nat.reduceMul, Nat.reduceBEq, Int.reduceToNat, Int.reduceEq, Int.reduceLT, Int.reduceLE, Int.reduceAdd, ↓reduceIte, reduceCtorEq]) <;> rfl) (by (simp only [go_sem, Nat.reduceLT, Nat.reduceLeDiff, Nat.reduceEqDiff, Nat.reduceAdd, Nat.reduceSub, Nat.reduceMul, Nat.reduceBEq, Int.reduceToNat, Int.reduceEq, Int.reduceLT, Int.reduceLE, Int.reduceAdd, ↓reduceIte, reduceCtorEq]) <;> rfl) (by (simp only [go_sem, Nat.reduceLT, Nat.reduceLeDiff, Nat.reduceEqDiff, Nat.reduceAdd, Nat.reduceSub, Nat.reduceMul, Nat.reduceBEq, Int.reduceToNat, Int.reduceEq, Int.reduceLT, Int.reduceLE, Int.reduceAdd, ↓reduceIte, reduceCtorEq]) <;> rfl) (hch)
        apply Tr.done
        · (simp only [go_sem, Nat.reduceLT, Nat.reduceLeDiff, Nat.reduceEqDiff, Nat.reduceAdd, Nat.reduceSub, Nat.reduceMul, Nat.reduceBEq, Int.reduceToNat, Int.reduceEq, Int.reduceLT, Int.reduceLE, Int.reduceAdd, ↓reduceIte, reduceCtorEq]) <;> rfl
        · simp
      by_cases hw0 : wordErr m.ins w = 0
      · rw [if_neg (by simp [hw0])] at ha
        rw [hw0]
        generalize nm (namesR m w) = nw at ha
        apply EvC.seq
        apply EvC.tr
        · apply Tr.run
          · (simp only [go_sem, Nat.reduceLT, Nat.reduceLeDiff, Nat.reduceEqDiff, Nat.reduceAdd, Nat.reduceSub, Nat.reduceMul, Nat.reduceBEq, Int.reduceToNat, Int.reduceEq, Int.reduceLT, Int.reduceLE, Int.reduceAdd, ↓reduceIte, reduceCtorEq, Mach.cells]) <;> rfl
          · simp
          apply Tr.cons
          · exact .call rfl rfl (by (simp only [go_sem, Nat.reduceLT, Nat.reduceLeDiff, Nat.reduceEqDiff, Nat.reduceAdd, Nat.reduceSub, Nat.reduceMul, Nat.reduceBEq, Int.reduceToNat, Int.reduceEq, Int.reduceLT, Int.reduceLE, Int.reduceAdd, ↓reduceIte, reduceCtorEq]) <;> rfl) (by (simp only [go_sem, Nat.reduceLT, Nat.reduceLeDiff, Nat.reduceEqDiff, Nat.reduceAdd, Nat.reduceSub, Nat.reduceMul, Nat.reduceBEq, Int.reduceToNat, Int.reduceEq, Int.reduceLT, Int.reduceLE, Int.reduceAdd, ↓reduceIte, reduceCtorEq]) <;> rfl) (by (simp only [go_sem, Nat.reduceLT, Nat.reduceLeDiff, Nat.reduceEqDiff, Nat.reduceAdd, Nat.reduceSub, Nat.reduceMul, Nat.reduceBEq, Int.reduceToNat, Int.reduceEq, Int.reduceLT, Int.reduceLE, Int.reduceAdd, ↓reduceIte, reduceCtorEq]) <;> rfl) (by (simp only [go_sem, Nat.reduceLT, Nat.reduceLeDiff, Nat.reduceEqDiff, Nat.reduceAdd, Nat.reduceSub, Nat.reduceMul, Nat.reduceBEq, Int.reduceToNat, Int.reduceEq, Int.reduceLT, Int.reduceLE, Int.reduceAdd, ↓reduceIte, reduceCtorEq]) <;> rfl) (by (simp only [go_sem, Nat.reduceLT, Nat.reduceLeDiff, Nat.reduceEqDiff, Nat.reduceAdd, Nat.reduceSub, Nat.reduceMul, Nat.reduceBEq, Int.reduceToNat, Int.reduceEq, Int.reduceLT, Int.reduceLE, Int.reduceAdd, ↓reduceIte, reduceCtorEq]) <;> rfl) (ha)
          apply Tr.done
          · (simp only [go_sem, Nat.reduceLT, Nat.reduceLeDiff, Nat.reduceEqDiff, Nat.reduceAdd, Nat.reduceSub, Nat.reduceMul, Nat.reduceBEq, Int.reduceToNat, Int.reduceEq, Int.reduceLT, Int.reduceLE, Int.reduceAdd, ↓reduceIte, reduceCtorEq]) <;> rfl
          · simp
        refine EvC.seq ?_
        apply EvC.seq
        apply EvC.trd
        · (simp only [go_sem, Nat.reduceLT, Nat.reduceLeDiff, Nat.reduceEqDiff, Nat.reduceAdd, Nat.reduceSub, Nat.reduceMul, Nat.reduceBEq, Int.reduceToNat, Int.reduceEq, Int.reduceLT, Int.reduceLE, Int.reduceAdd, ↓reduceIte, reduceCtorEq, decide_true]) <;> rfl
        · simp
        refine EvC.cond_false (by (simp only [go_sem, Nat.reduceLT, Nat.reduceLeDiff, Nat.reduceEqDiff, Nat.reduceAdd, Nat.reduceSub, Nat.reduceMul, Nat.reduceBEq, Int.reduceToNat, Int.reduceEq, Int.reduceLT, Int.reduceLE, Int.reduceAdd, ↓reduceIte, reduceCtorEq, decide_true]) <;> rfl) ?_
        refine EvC.skip ?_
        refine EvC.seq ?_
        apply EvC.seq
        apply EvC.trd
        · (simp only [go_sem, Nat.reduceLT, Nat.reduceLeDiff, Nat.reduceEqDiff, Nat.reduceAdd, Nat.reduceSub, Nat.reduceMul, Nat.reduceBEq, Int.reduceToNat, Int.reduceEq, Int.reduceLT, Int.reduceLE, Int.reduceAdd, ↓reduceIte, reduceCtorEq, Mach.cells, decide_true]) <;> rfl
        · simp
        refine EvC.cond (by (simp only [go_sem, Nat.reduceLT, Nat.reduceLeDiff, Nat.reduceEqDiff, Nat.reduceAdd, Nat.reduceSub, Nat.reduceMul, Nat.reduceBEq, Int.reduceToNat, Int.reduceEq, Int.reduceLT, Int.reduceLE, Int.reduceAdd, ↓reduceIte, reduceCtorEq, decide_true]) <;> rfl) (fun hc => ?_) (fun hc => ?_)
        · have ho : (s < 0 ∨ t < 0 ∨ (m.rows.length : Int) ≤ s ∨ (m.rows.length : Int) ≤ t) := by
            by_cases k1 : s < 0 <;> by_cases k2 : t < 0 <;> by_cases k3 : (m.rows.length : Int) ≤ s <;> by_cases k4 : (m.rows.length : Int) ≤ t <;> simp_all <;> omega
          rw [if_pos ho] at hst
          clear hc
          refine EvC.rg (by (simp only [go_sem, Nat.reduceLT, Nat.reduceLeDiff, Nat.reduceEqDiff, Nat.reduceAdd, Nat.reduceSub, Nat.reduceMul, Nat.reduceBEq, Int.reduceToNat, Int.reduceEq, Int.reduceLT, Int.reduceLE, Int.reduceAdd, ↓reduceIte, reduceCtorEq]) <;> rfl) (by simp) ?_
          apply EvC.seq
          apply EvC.tr
          · apply Tr.run
            · (simp only [go_sem, Nat.reduceLT, Nat.reduceLeDiff, Nat.reduceEqDiff, Nat.reduceAdd, Nat.reduceSub, Nat.reduceMul, Nat.reduceBEq, Int.reduceToNat, Int.reduceEq, Int.reduceLT, Int.reduceLE, Int.reduceAdd, ↓reduceIte, reduceCtorEq, Mach.cells]) <;> rfl
            · simp
            apply Tr.cons
            · exact .call rfl rfl (by (simp only [go_sem, Nat.reduceLT, Nat.reduceLeDiff, Nat.reduceEqDiff, Nat.reduceAdd, Nat.reduceSub, Nat.reduceMul, Nat.reduceBEq, Int.reduceToNat, Int.reduceEq, Int.reduceLT, Int.reduceLE, Int.reduceAdd, ↓reduceIte, reduceCtorEq]) <;> rfl) (by (simp only [go_sem, Nat.reduceLT, Nat.reduceLeDiff, Nat.reduceEqDiff, Nat.reduceAdd, Nat.reduceSub, Nat.reduceMul, Nat.reduceBEq, Int.reduceToNat, Int.reduceEq, Int.reduceLT, Int.reduceLE, Int.reduceAdd, ↓reduceIte, reduceCtorEq]) <;> rfl) (by (simp only [go_sem, Nat.reduceLT, Nat.reduceLeDiff, Nat.reduceEqDiff, Nat.reduceAdd, Nat.reduceSub, Nat.reduceMul, Nat.reduceBEq, Int.reduceToNat, Int.reduceEq, Int.reduceLT, Int.reduceLE, Int.reduceAdd, ↓reduceIte, reduceCtorEq]) <;> rfl) (by (simp only [go_sem, Nat.reduceLT, Nat.reduceLeDiff, Nat.reduceEqDiff, Nat.reduceAdd, Nat.reduceSub, Nat.reduceMul, Nat.reduceBEq, Int.reduceToNat, Int.reduceEq, Int.reduceLT, Int.reduceLE, Int.reduceAdd, ↓reduceIte, reduceCtorEq]) <;> rfl) (by (simp only [go_sem, Nat.reduceLT, Nat.reduceLeDiff, Nat.reduceEqDiff, Nat.reduceAdd, Nat.reduceSub, Nat.reduceMul, Nat.reduceBEq, Int.reduceToNat, Int.reduceEq, Int.reduceLT, Int.reduceLE, Int.reduceAdd, ↓reduceIte, reduceCtorEq]) <;> rfl) (separate_bad hr hst (by decide))
            apply Tr.done
            · (simp only [go_sem, Nat.reduceLT, Nat.reduceLeDiff, Nat.reduceEqDiff, Nat.reduceAdd, Nat.reduceSub, Nat.reduceMul, Nat.reduceBEq, Int.reduceToNat, Int.reduceEq, Int.reduceLT, Int.reduceLE, Int.reduceAdd, ↓reduceIte, reduceCtorEq]) <;> rfl
            · simp
          apply EvC.seq
          apply EvC.tr
          · apply Tr.run
            · (simp only [go_sem, Nat.reduceLT, Nat.reduceLeDiff, Nat.reduceEqDiff, Nat.reduceAdd, Nat.reduceSub, Nat.reduceMul, Nat.reduceBEq, Int.reduceToNat, Int.reduceEq, Int.reduceLT, Int.reduceLE, Int.reduceAdd, ↓reduceIte, reduceCtorEq, Mach.cells]) <;> rfl
            · simp
            apply Tr.cons
            · exact .call rfl rfl (by (simp only [go_sem, Nat.reduceLT, Nat.reduceLeDiff, Nat.reduceEqDiff, Nat.reduceAdd, Nat.reduceSub, Nat.reduceMul, Nat.reduceBEq, Int.reduceToNat, Int.reduceEq, Int.reduceLT, Int.reduceLE, Int.reduceAdd, ↓reduceIte, reduceCtorEq]) <;> rfl) (by (simp only [go_sem, Nat.reduceLT, Nat.reduceLeDiff, Nat.reduceEqDiff, Nat.reduceAdd, Nat.reduceSub, Nat.reduceMul, Nat.reduceBEq, Int.reduceToNat, Int.reduceEq, Int.reduceLT, Int.reduceLE, Int.reduceAdd, ↓reduceIte, reduceCtorEq]) <;> rfl) (by (simp only [go_sem, Nat.reduceLT, Nat.reduceLeDiff, Nat.reduceEqDiff, Nat.reduceAdd, Nat.reduceSub, Nat.reduceMul, Nat.reduceBEq, Int.reduceToNat, Int.reduceEq, Int.reduceLT, Int.reduceLE, Int.reduceAdd, ↓reduceIte, reduceCtorEq]) <;> rfl) (by (simp only [go_sem, Nat.reduceLT, Nat.reduceLeDiff, Nat.reduceEqDiff, Nat.reduceAdd, Nat.reduceSub, Nat.reduceMul, Nat.reduceBEq, Int.reduceToNat, Int.reduceEq, Int.reduceLT, Int.reduceLE, Int.reduceAdd, ↓reduceIte, reduceCtorEq]) <;> rfl) (by (simp only [go_sem, Nat.reduceLT, Nat.reduceLeDiff, Nat.reduceEqDiff, Nat.reduceAdd, Nat.reduceSub, Nat.reduceMul, Nat.reduceBEq, Int.reduceToNat, Int.reduceEq, Int.reduceLT, Int.reduceLE, Int.reduceAdd, ↓reduceIte, reduceCtorEq]) <;> rfl) (separates_bad1 hr nl w c hw6 hst (by decide))
            apply Tr.done
            · (simp only [go_sem, Nat.reduceLT, Nat.reduceLeDiff, Nat.reduceEqDiff, Nat.reduceAdd, Nat.reduceSub, Nat.reduceMul, Nat.reduceBEq, Int.reduceToNat, Int.reduceEq, Int.reduceLT, Int.reduceLE, Int.reduceAdd, ↓reduceIte, reduceCtorEq]) <;> rfl
            · simp
          apply EvC.seq
          apply EvC.tr
          · apply Tr.run
            · (simp only [go_sem, Nat.reduceLT, Nat.reduceLeDiff, Nat.reduceEqDiff, Nat.reduceAdd, Nat.reduceSub, Nat.reduceMul, Nat.reduceBEq, Int.reduceToNat, Int.reduceEq, Int.reduceLT, Int.reduceLE, Int.reduceAdd, ↓reduceIte, reduceCtorEq, decide_true]) <;> rfl
            · simp
            apply Tr.cons
            · exact .callG rfl rfl (by (simp only [go_sem, Nat.reduceLT, Nat.reduceLeDiff, Nat.reduceEqDiff, Nat.reduceAdd, Nat.reduceSub, Nat.reduceMul, Nat.reduceBEq, Int.reduceToNat, Int.reduceEq, Int.reduceLT, Int.reduceLE, Int.reduceAdd, ↓reduceIte, reduceCtorEq]) <;> rfl) rfl (by (simp only [go_sem, Nat.reduceLT, Nat.reduceLeDiff, Nat.reduceEqDiff, Nat.reduceAdd, Nat.reduceSub, Nat.reduceMul, Nat.reduceBEq, Int.reduceToNat, Int.reduceEq, Int.reduceLT, Int.reduceLE, Int.reduceAdd, ↓reduceIte, reduceCtorEq]) <;> rfl) (by (simp only [go_sem, Nat.reduceLT, Nat.reduceLeDiff, Nat.reduceEqDiff, Nat.reduceAdd, Nat.reduceSub, Nat.reduceMul, Nat.reduceBEq, Int.reduceToNat, Int.reduceEq, Int.reduceLT, Int.reduceLE, Int.reduceAdd, ↓reduceIte, reduceCtorEq]) <;> rfl) (by (simp only [go_sem, Nat.reduceLT, Nat.reduceLeDiff, Nat.reduceEqDiff, Nat.reduceAdd, Nat.reduceSub, Nat.reduceMul, Nat.reduceBEq, Int.reduceToNat, Int.reduceEq, Int.reduceLT, Int.reduceLE, Int.reduceAdd, ↓reduceIte, reduceCtorEq]) <;> rfl) (by (simp only [go_sem, Nat.reduceLT, Nat.reduceLeDiff, Nat.reduceEqDiff, Nat.reduceAdd, Nat.reduceSub, Nat.reduceMul, Nat.reduceBEq, Int.reduceToNat, Int.reduceEq, Int.reduceLT, Int.reduceLE, Int.reduceAdd, ↓reduceIte, reduceCtorEq]) <;> rfl) (by (simp only [go_sem, Nat.reduceLT, Nat.reduceLeDiff, Nat.reduceEqDiff, Nat.reduceAdd, Nat.reduceSub, Nat.reduceMul, Nat.reduceBEq, Int.reduceToNat, Int.reduceEq, Int.reduceLT, Int.reduceLE, Int.reduceAdd, ↓reduceIte, reduceCtorEq]) <;> rfl) (lives_is)
            apply Tr.done
            · (simp only [go_sem, Nat.reduceLT, Nat.reduceLeDiff, Nat.reduceEqDiff, Nat.reduceAdd, Nat.reduceSub, Nat.reduceMul, Nat.reduceBEq, Int.reduceToNat, Int.reduceEq, Int.reduceLT, Int.reduceLE, Int.reduceAdd, ↓reduceIte, reduceCtorEq]) <;> rfl
            · simp
          refine EvC.ret ⟨.inl rfl, _, (by (simp only [go_sem, Nat.reduceLT, Nat.reduceLeDiff, Nat.reduceEqDiff, Nat.reduceAdd, Nat.reduceSub, Nat.reduceMul, Nat.reduceBEq, Int.reduceToNat, Int.reduceEq, Int.reduceLT, Int.reduceLE, Int.reduceAdd, ↓reduceIte, reduceCtorEq]) <;> rfl), ?_, rfl⟩
          simp only [go_sem, Nat.reduceLT, Nat.reduceLeDiff, Nat.reduceEqDiff, Nat.reduceAdd, Nat.reduceSub, Nat.reduceMul, Nat.reduceBEq, Int.reduceToNat, Int.reduceEq, Int.reduceLT, Int.reduceLE, Int.reduceAdd, ↓reduceIte, reduceCtorEq]
          try rfl
        · have ho : ¬ (s < 0 ∨ t < 0 ∨ (m.rows.length : Int) ≤ s ∨ (m.rows.length : Int) ≤ t) := by
            by_cases k1 : s < 0 <;> by_cases k2 : t < 0 <;> by_cases k3 : (m.rows.length : Int) ≤ s <;> by_cases k4 : (m.rows.length : Int) ≤ t <;> simp_all <;> omega
          rw [if_neg ho] at hst
          clear hc
          refine EvC.skip ?_
          obtain ⟨b1, hb1⟩ : ∃ b, decide (0 < ((sepW m s.toNat t.toNat).length : Int)) = b := ⟨_, rfl⟩
          have hsg := separate_good hr hst rfl hb1
          generalize sepW m s.toNat t.toNat = sw at hsg
          apply EvC.seq
          apply EvC.tr
          · apply Tr.run
            · (simp only [go_sem, Nat.reduceLT, Nat.reduceLeDiff, Nat.reduceEqDiff, Nat.reduceAdd, Nat.reduceSub, Nat.reduceMul, Nat.reduceBEq, Int.reduceToNat, Int.reduceEq, Int.reduceLT, Int.reduceLE, Int.reduceAdd, ↓reduceIte, reduceCtorEq, Mach.cells]) <;> rfl
            · simp
            apply Tr.cons
            · exact .call rfl rfl (by (simp only [go_sem, Nat.reduceLT, Nat.reduceLeDiff, Nat.reduceEqDiff, Nat.reduceAdd, Nat.reduceSub, Nat.reduceMul, Nat.reduceBEq, Int.reduceToNat, Int.reduceEq, Int.reduceLT, Int.reduceLE, Int.reduceAdd, ↓reduceIte, reduceCtorEq]) <;> rfl) (by (simp only [go_sem, Nat.reduceLT, Nat.reduceLeDiff, Nat.reduceEqDiff, Nat.reduceAdd, Nat.reduceSub, Nat.reduceMul, Nat.reduceBEq, Int.reduceToNat, Int.reduceEq, Int.reduceLT, Int.reduceLE, Int.reduceAdd, ↓reduceIte, reduceCtorEq]) <;> rfl) (by (simp only [go_sem, Nat.reduceLT, Nat.reduceLeDiff, Nat.reduceEqDiff, Nat.reduceAdd, Nat.reduceSub, Nat.reduceMul, Nat.reduceBEq, Int.reduceToNat, Int.reduceEq, Int.reduceLT, Int.reduceLE, Int.reduceAdd, ↓reduceIte, reduceCtorEq]) <;> rfl) (by (simp only [go_sem, Nat.reduceLT, Nat.reduceLeDiff, Nat.reduceEqDiff, Nat.reduceAdd, Nat.reduceSub, Nat.reduceMul, Nat.reduceBEq, Int.reduceToNat, Int.reduceEq, Int.reduceLT, Int.reduceLE, Int.reduceAdd, ↓reduceIte, reduceCtorEq]) <;> rfl) (by (simp only [go_sem, Nat.reduceLT, Nat.reduceLeDiff, Nat.reduceEqDiff, Nat.reduceAdd, Nat.reduceSub, Nat.reduceMul, Nat.reduceBEq, Int.reduceToNat, Int.reduceEq, Int.reduceLT, Int.reduceLE, Int.reduceAdd, ↓reduceIte, reduceCtorEq]) <;> rfl) (hsg)
            apply Tr.done
            · (simp only [go_sem, Nat.reduceLT, Nat.reduceLeDiff, Nat.reduceEqDiff, Nat.reduceAdd, Nat.reduceSub, Nat.reduceMul, Nat.reduceBEq, Int.reduceToNat, Int.reduceEq, Int.reduceLT, Int.reduceLE, Int.reduceAdd, ↓reduceIte, reduceCtorEq]) <;> rfl
            · simp
          obtain ⟨b2, hb2⟩ : ∃ b, (!decide (runR m s w = runR m t w)) = b := ⟨_, rfl⟩
          apply EvC.seq
          apply EvC.tr
          · apply Tr.run
            · (simp only [go_sem, Nat.reduceLT, Nat.reduceLeDiff, Nat.reduceEqDiff, Nat.reduceAdd, Nat.reduceSub, Nat.reduceMul, Nat.reduceBEq, Int.reduceToNat, Int.reduceEq, Int.reduceLT, Int.reduceLE, Int.reduceAdd, ↓reduceIte, reduceCtorEq, Mach.cells]) <;> rfl
            · simp
            apply Tr.cons
            · exact .call rfl rfl (by (simp only [go_sem, Nat.reduceLT, Nat.reduceLeDiff, Nat.reduceEqDiff, Nat.reduceAdd, Nat.reduceSub, Nat.reduceMul, Nat.reduceBEq, Int.reduceToNat, Int.reduceEq, Int.reduceLT, Int.reduceLE, Int.reduceAdd, ↓reduceIte, reduceCtorEq]) <;> rfl) (by (simp only [go_sem, Nat.reduceLT, Nat.reduceLeDiff, Nat.reduceEqDiff, Nat.reduceAdd, Nat.reduceSub, Nat.reduceMul, Nat.reduceBEq, Int.reduceToNat, Int.reduceEq, Int.reduceLT, Int.reduceLE, Int.reduceAdd, ↓reduceIte, reduceCtorEq]) <;> rfl) (by (simp only [go_sem, Nat.reduceLT, Nat.reduceLeDiff, Nat.reduceEqDiff, Nat.reduceAdd, Nat.reduceSub, Nat.reduceMul, Nat.reduceBEq, Int.reduceToNat, Int.reduceEq, Int.reduceLT, Int.reduceLE, Int.reduceAdd, ↓reduceIte, reduceCtorEq]) <;> rfl) (by (simp only [go_sem, Nat.reduceLT, Nat.reduceLeDiff, Nat.reduceEqDiff, Nat.reduceAdd, Nat.reduceSub, Nat.reduceMul, Nat.reduceBEq, Int.reduceToNat, Int.reduceEq, Int.reduceLT, Int.reduceLE, Int.reduceAdd, ↓reduceIte, reduceCtorEq]) <;> rfl) (by (simp only [go_sem, Nat.reduceLT, Nat.reduceLeDiff, Nat.reduceEqDiff, Nat.reduceAdd, Nat.reduceSub, Nat.reduceMul, Nat.reduceBEq, Int.reduceToNat, Int.reduceEq, Int.reduceLT, Int.reduceLE, Int.reduceAdd, ↓reduceIte, reduceCtorEq]) <;> rfl) (separates_good hr nl w c hw6 hst hw0 hb2)
            apply Tr.done
            · (simp only [go_sem, Nat.reduceLT, Nat.reduceLeDiff, Nat.reduceEqDiff, Nat.reduceAdd, Nat.reduceSub, Nat.reduceMul, Nat.reduceBEq, Int.reduceToNat, Int.reduceEq, Int.reduceLT, Int.reduceLE, Int.reduceAdd, ↓reduceIte, reduceCtorEq]) <;> rfl
            · simp
          apply EvC.seq
          apply EvC.tr
          · apply Tr.run
            · (simp only [go_sem, Nat.reduceLT, Nat.reduceLeDiff, Nat.reduceEqDiff, Nat.reduceAdd, Nat.reduceSub, Nat.reduceMul, Nat.reduceBEq, Int.reduceToNat, Int.reduceEq, Int.reduceLT, Int.reduceLE, Int.reduceAdd, ↓reduceIte, reduceCtorEq, decide_true]) <;> rfl
            · simp
            apply Tr.cons
            · exact .callG rfl rfl (by (simp only [go_sem, Nat.reduceLT, Nat.reduceLeDiff, Nat.reduceEqDiff, Nat.reduceAdd, Nat.reduceSub, Nat.reduceMul, Nat.reduceBEq, Int.reduceToNat, Int.reduceEq, Int.reduceLT, Int.reduceLE, Int.reduceAdd, ↓reduceIte, reduceCtorEq]) <;> rfl) rfl (by (simp only [go_sem, Nat.reduceLT, Nat.reduceLeDiff, Nat.reduceEqDiff, Nat.reduceAdd, Nat.reduceSub, Nat.reduceMul, Nat.reduceBEq, Int.reduceToNat, Int.reduceEq, Int.reduceLT, Int.reduceLE, Int.reduceAdd, ↓reduceIte, reduceCtorEq]) <;> rfl) (by (simp only [go_sem, Nat.reduceLT, Nat.reduceLeDiff, Nat.reduceEqDiff, Nat.reduceAdd, Nat.reduceSub, Nat.reduceMul, Nat.reduceBEq, Int.reduceToNat, Int.reduceEq, Int.reduceLT, Int.reduceLE, Int.reduceAdd, ↓reduceIte, reduceCtorEq]) <;> rfl) (by (simp only [go_sem, Nat.reduceLT, Nat.reduceLeDiff, Nat.reduceEqDiff, Nat.reduceAdd, Nat.reduceSub, Nat.reduceMul, Nat.reduceBEq, Int.reduceToNat, Int.reduceEq, Int.reduceLT, Int.reduceLE, Int.reduceAdd, ↓reduceIte, reduceCtorEq]) <;> rfl) (by (simp only [go_sem, Nat.reduceLT, Nat.reduceLeDiff, Nat.reduceEqDiff, Nat.reduceAdd, Nat.reduceSub, Nat.reduceMul, Nat.reduceBEq, Int.reduceToNat, Int.reduceEq, Int.reduceLT, Int.reduceLE, Int.reduceAdd, ↓reduceIte, reduceCtorEq]) <;> rfl) (by (simp only [go_sem, Nat.reduceLT, Nat.reduceLeDiff, Nat.reduceEqDiff, Nat.reduceAdd, Nat.reduceSub, Nat.reduceMul, Nat.reduceBEq, Int.reduceToNat, Int.reduceEq, Int.reduceLT, Int.reduceLE, Int.reduceAdd, ↓reduceIte, reduceCtorEq]) <;> rfl) (lives_is)
            apply Tr.done
            · (simp only [go_sem, Nat.reduceLT, Nat.reduceLeDiff, Nat.reduceEqDiff, Nat.reduceAdd, Nat.reduceSub, Nat.reduceMul, Nat.reduceBEq, Int.reduceToNat, Int.reduceEq, Int.reduceLT, Int.reduceLE, Int.reduceAdd, ↓reduceIte, reduceCtorEq]) <;> rfl
            · simp
          refine EvC.ret ⟨.inl rfl, _, (by (simp only [go_sem, Nat.reduceLT, Nat.reduceLeDiff, Nat.reduceEqDiff, Nat.reduceAdd, Nat.reduceSub, Nat.reduceMul, Nat.reduceBEq, Int.reduceToNat, Int.reduceEq, Int.reduceLT, Int.reduceLE, Int.reduceAdd, ↓reduceIte, reduceCtorEq]) <;> rfl), ?_, rfl⟩
          simp only [go_sem, Nat.reduceLT, Nat.reduceLeDiff, Nat.reduceEqDiff, Nat.reduceAdd, Nat.reduceSub, Nat.reduceMul, Nat.reduceBEq, Int.reduceToNat, Int.reduceEq, Int.reduceLT, Int.reduceLE, Int.reduceAdd, ↓reduceIte, reduceCtorEq]
          try rfl
      · rw [if_pos (by simp [hw0])] at ha
        have k0' : decide (wordErr m.ins w = 0) = false := decide_eq_false hw0
        apply EvC.seq
        apply EvC.tr
        · apply Tr.run
          · (simp only [go_sem, Nat.reduceLT, Nat.reduceLeDiff, Nat.reduceEqDiff, Nat.reduceAdd, Nat.reduceSub, Nat.reduceMul, Nat.reduceBEq, Int.reduceToNat, Int.reduceEq, Int.reduceLT, Int.reduceLE, Int.reduceAdd, ↓reduceIte, reduceCtorEq, Mach.cells]) <;> rfl
          · simp
          apply Tr.cons
          · exact .call rfl rfl (by (simp only [go_sem, Nat.reduceLT, Nat.reduceLeDiff, Nat.reduceEqDiff, Nat.reduceAdd, Nat.reduceSub, Nat.reduceMul, Nat.reduceBEq, Int.reduceToNat, Int.reduceEq, Int.reduceLT, Int.reduceLE, Int.reduceAdd, ↓reduceIte, reduceCtorEq]) <;> rfl) (by (simp only [go_sem, Nat.reduceLT, Nat.reduceLeDiff, Nat.reduceEqDiff, Nat.reduceAdd, Nat.reduceSub, Nat.reduceMul, Nat.reduceBEq, Int.reduceToNat, Int.reduceEq, Int.reduceLT, Int.reduceLE, Int.reduceAdd, ↓reduceIte, reduceCtorEq]) <;> rfl) (by (simp only [go_sem, Nat.reduceLT, Nat.reduceLeDiff, Nat.reduceEqDiff, Nat.reduceAdd, Nat.reduceSub, Nat.reduceMul, Nat.reduceBEq, Int.reduceToNat, Int.reduceEq, Int.reduceLT, Int.reduceLE, Int.reduceAdd, ↓reduceIte, reduceCtorEq]) <;> rfl) (by (simp only [go_sem, Nat.reduceLT, Nat.reduceLeDiff, Nat.reduceEqDiff, Nat.reduceAdd, Nat.reduceSub, Nat.reduceMul, Nat.reduceBEq, Int.reduceToNat, Int.reduceEq, Int.reduceLT, Int.reduceLE, Int.reduceAdd, ↓reduceIte, reduceCtorEq]) <;> rfl) (by (simp only [go_sem, Nat.reduceLT, Nat.reduceLeDiff, Nat.reduceEqDiff, Nat.reduceAdd, Nat.reduceSub, Nat.reduceMul, Nat.reduceBEq, Int.reduceToNat, Int.reduceEq, Int.reduceLT, Int.reduceLE, Int.reduceAdd, ↓reduceIte, reduceCtorEq]) <;> rfl) (ha)
          apply Tr.done
          · (simp only [go_sem, Nat.reduceLT, Nat.reduceLeDiff, Nat.reduceEqDiff, Nat.reduceAdd, Nat.reduceSub, Nat.reduceMul, Nat.reduceBEq, Int.reduceToNat, Int.reduceEq, Int.reduceLT, Int.reduceLE, Int.reduceAdd, ↓reduceIte, reduceCtorEq]) <;> rfl
          · simp
        refine EvC.seq ?_
        apply EvC.seq
        apply EvC.trd
        · (simp only [go_sem, Nat.reduceLT, Nat.reduceLeDiff, Nat.reduceEqDiff, Nat.reduceAdd, Nat.reduceSub, Nat.reduceMul, Nat.reduceBEq, Int.reduceToNat, Int.reduceEq, Int.reduceLT, Int.reduceLE, Int.reduceAdd, ↓reduceIte, reduceCtorEq, k0', decide_not]) <;> rfl
        · simp
        refine EvC.cond_false (by (simp only [go_sem, Nat.reduceLT, Nat.reduceLeDiff, Nat.reduceEqDiff, Nat.reduceAdd, Nat.reduceSub, Nat.reduceMul, Nat.reduceBEq, Int.reduceToNat, Int.reduceEq, Int.reduceLT, Int.reduceLE, Int.reduceAdd, ↓reduceIte, reduceCtorEq, k0', decide_not]) <;> rfl) ?_
        refine EvC.skip ?_
        refine EvC.seq ?_
        apply EvC.seq
        apply EvC.trd
        · (simp only [go_sem, Nat.reduceLT, Nat.reduceLeDiff, Nat.reduceEqDiff, Nat.reduceAdd, Nat.reduceSub, Nat.reduceMul, Nat.reduceBEq, Int.reduceToNat, Int.reduceEq, Int.reduceLT, Int.reduceLE, Int.reduceAdd, ↓reduceIte, reduceCtorEq, Mach.cells, decide_true]) <;> rfl
        · simp
        refine EvC.cond (by (simp only [go_sem, Nat.reduceLT, Nat.reduceLeDiff, Nat.reduceEqDiff, Nat.reduceAdd, Nat.reduceSub, Nat.reduceMul, Nat.reduceBEq, Int.reduceToNat, Int.reduceEq, Int.reduceLT, Int.reduceLE, Int.reduceAdd, ↓reduceIte, reduceCtorEq, decide_true]) <;> rfl) (fun hc => ?_) (fun hc => ?_)
        · have ho : (s < 0 ∨ t < 0 ∨ (m.rows.length : Int) ≤ s ∨ (m.rows.length : Int) ≤ t) := by
            by_cases k1 : s < 0 <;> by_cases k2 : t < 0 <;> by_cases k3 : (m.rows.length : Int) ≤ s <;> by_cases k4 : (m.rows.length : Int) ≤ t <;> simp_all <;> omega
          rw [if_pos ho] at hst
          clear hc
          refine EvC.rg (by (simp only [go_sem, Nat.reduceLT, Nat.reduceLeDiff, Nat.reduceEqDiff, Nat.reduceAdd, Nat.reduceSub, Nat.reduceMul, Nat.reduceBEq, Int.reduceToNat, Int.reduceEq, Int.reduceLT, Int.reduceLE, Int.reduceAdd, ↓reduceIte, reduceCtorEq]) <;> rfl) (by simp) ?_
          apply EvC.seq
          apply EvC.tr
          · apply Tr.run
            · (simp only [go_sem, Nat.reduceLT, Nat.reduceLeDiff, Nat.reduceEqDiff, Nat.reduceAdd, Nat.reduceSub, Nat.reduceMul, Nat.reduceBEq, Int.reduceToNat, Int.reduceEq, Int.reduceLT, Int.reduceLE, Int.reduceAdd, ↓reduceIte, reduceCtorEq, Mach.cells]) <;> rfl
            · simp
            apply Tr.cons
            · exact .call rfl rfl (by (simp only [go_sem, Nat.reduceLT, Nat.reduceLeDiff, Nat.reduceEqDiff, Nat.reduceAdd, Nat.reduceSub, Nat.reduceMul, Nat.reduceBEq, Int.reduceToNat, Int.reduceEq, Int.reduceLT, Int.reduceLE, Int.reduceAdd, ↓reduceIte, reduceCtorEq]) <;> rfl) (by (simp only [go_sem, Nat.reduceLT, Nat.reduceLeDiff, Nat.reduceEqDiff, Nat.reduceAdd, Nat.reduceSub, Nat.reduceMul, Nat.reduceBEq, Int.reduceToNat, Int.reduceEq, Int.reduceLT, Int.reduceLE, Int.reduceAdd, ↓reduceIte, reduceCtorEq]) <;> rfl) (by (simp only [go_sem, Nat.reduceLT, Nat.reduceLeDiff, Nat.reduceEqDiff, Nat.reduceAdd, Nat.reduceSub, Nat.reduceMul, Nat.reduceBEq, Int.reduceToNat, Int.reduceEq, Int.reduceLT, Int.reduceLE, Int.reduceAdd, ↓reduceIte, reduceCtorEq]) <;> rfl) (by (simp only [go_sem, Nat.reduceLT, Nat.reduceLeDiff, Nat.reduceEqDiff, Nat.reduceAdd, Nat.reduceSub, Nat.reduceMul, Nat.reduceBEq, Int.reduceToNat, Int.reduceEq, Int.reduceLT, Int.reduceLE, Int.reduceAdd, ↓reduceIte, reduceCtorEq]) <;> rfl) (by (simp only [go_sem, Nat.reduceLT, Nat.reduceLeDiff, Nat.reduceEqDiff, Nat.reduceAdd, Nat.reduceSub, Nat.reduceMul, Nat.reduceBEq, Int.reduceToNat, Int.reduceEq, Int.reduceLT, Int.reduceLE, Int.reduceAdd, ↓reduceIte, reduceCtorEq]) <;> rfl) (separate_bad hr hst (by decide))
            apply Tr.done
            · (simp only [go_sem, Nat.reduceLT, Nat.reduceLeDiff, Nat.reduceEqDiff, Nat.reduceAdd, Nat.reduceSub, Nat.reduceMul, Nat.reduceBEq, Int.reduceToNat, Int.reduceEq, Int.reduceLT, Int.reduceLE, Int.reduceAdd, ↓reduceIte, reduceCtorEq]) <;> rfl
            · simp
          apply EvC.seq
          apply EvC.tr
          · apply Tr.run
            · (simp only [go_sem, Nat.reduceLT, Nat.reduceLeDiff, Nat.reduceEqDiff, Nat.reduceAdd, Nat.reduceSub, Nat.reduceMul, Nat.reduceBEq, Int.reduceToNat, Int.reduceEq, Int.reduceLT, Int.reduceLE, Int.reduceAdd, ↓reduceIte, reduceCtorEq, Mach.cells]) <;> rfl
            · simp
            apply Tr.cons
            · exact .call rfl rfl (by (simp only [go_sem, Nat.reduceLT, Nat.reduceLeDiff, Nat.reduceEqDiff, Nat.reduceAdd, Nat.reduceSub, Nat.reduceMul, Nat.reduceBEq, Int.reduceToNat, Int.reduceEq, Int.reduceLT, Int.reduceLE, Int.reduceAdd, ↓reduceIte, reduceCtorEq]) <;> rfl) (by (simp only [go_sem, Nat.reduceLT, Nat.reduceLeDiff, Nat.reduceEqDiff, Nat.reduceAdd, Nat.reduceSub, Nat.reduceMul, Nat.reduceBEq, Int.reduceToNat, Int.reduceEq, Int.reduceLT, Int.reduceLE, Int.reduceAdd, ↓reduceIte, reduceCtorEq]) <;> rfl) (by (simp only [go_sem, Nat.reduceLT, Nat.reduceLeDiff, Nat.reduceEqDiff, Nat.reduceAdd, Nat.reduceSub, Nat.reduceMul, Nat.reduceBEq, Int.reduceToNat, Int.reduceEq, Int.reduceLT, Int.reduceLE, Int.reduceAdd, ↓reduceIte, reduceCtorEq]) <;> rfl) (by (simp only [go_sem, Nat.reduceLT, Nat.reduceLeDiff, Nat.reduceEqDiff, Nat.reduceAdd, Nat.reduceSub, Nat.reduceMul, Nat.reduceBEq, Int.reduceToNat, Int.reduceEq, Int.reduceLT, Int.reduceLE, Int.reduceAdd, ↓reduceIte, reduceCtorEq]) <;> rfl) (by (simp only [go_sem, Nat.reduceLT, Nat.reduceLeDiff, Nat.reduceEqDiff, Nat.reduceAdd, Nat.reduceSub, Nat.reduceMul, Nat.reduceBEq, Int.reduceToNat, Int.reduceEq, Int.reduceLT, Int.reduceLE, Int.reduceAdd, ↓reduceIte, reduceCtorEq]) <;> rfl) (separates_bad1 hr nl w c hw6 hst (by decide))
            apply Tr.done
            · (simp only [go_sem, Nat.reduceLT, Nat.reduceLeDiff, Nat.reduceEqDiff, Nat.reduceAdd, Nat.reduceSub, Nat.reduceMul, Nat.reduceBEq, Int.reduceToNat, Int.reduceEq, Int.reduceLT, Int.reduceLE, Int.reduceAdd, ↓reduceIte, reduceCtorEq]) <;> rfl
            · simp
          apply EvC.seq
          apply EvC.tr
          · apply Tr.run
            · (simp only [go_sem, Nat.reduceLT, Nat.reduceLeDiff, Nat.reduceEqDiff, Nat.reduceAdd, Nat.reduceSub, Nat.reduceMul, Nat.reduceBEq, Int.reduceToNat, Int.reduceEq, Int.reduceLT, Int.reduceLE, Int.reduceAdd, ↓reduceIte, reduceCtorEq, decide_true]) <;> rfl
            · simp
            apply Tr.cons
            · exact .callG rfl rfl (by (simp only [go_sem, Nat.reduceLT, Nat.reduceLeDiff, Nat.reduceEqDiff, Nat.reduceAdd, Nat.reduceSub, Nat.reduceMul, Nat.reduceBEq, Int.reduceToNat, Int.reduceEq, Int.reduceLT, Int.reduceLE, Int.reduceAdd, ↓reduceIte, reduceCtorEq]) <;> rfl) rfl (by (simp only [go_sem, Nat.reduceLT, Nat.reduceLeDiff, Nat.reduceEqDiff, Nat.reduceAdd, Nat.reduceSub, Nat.reduceMul, Nat.reduceBEq, Int.reduceToNat, Int.reduceEq, Int.reduceLT, Int.reduceLE, Int.reduceAdd, ↓reduceIte, reduceCtorEq]) <;> rfl) (by (simp only [go_sem, Nat.reduceLT, Nat.reduceLeDiff, Nat.reduceEqDiff, Nat.reduceAdd, Nat.reduceSub, Nat.reduceMul, Nat.reduceBEq, Int.reduceToNat, Int.reduceEq, Int.reduceLT, Int.reduceLE, Int.reduceAdd, ↓reduceIte, reduceCtorEq]) <;> rfl) (by (simp only [go_sem, Nat.reduceLT, Nat.reduceLeDiff, Nat.reduceEqDiff, Nat.reduceAdd, Nat.reduceSub, Nat.reduceMul, Nat.reduceBEq, Int.reduceToNat, Int.reduceEq, Int.reduceLT, Int.reduceLE, Int.reduceAdd, ↓reduceIte, reduceCtorEq]) <;> rfl) (by (simp only [go_sem, Nat.reduceLT, Nat.reduceLeDiff, Nat.reduceEqDiff, Nat.reduceAdd, Nat.reduceSub, Nat.reduceMul, Nat.reduceBEq, Int.reduceToNat, Int.reduceEq, Int.reduceLT, Int.reduceLE, Int.reduceAdd, ↓reduceIte, reduceCtorEq]) <;> rfl) (by (simp only [go_sem, Nat.reduceLT, Nat.reduceLeDiff, Nat.reduceEqDiff, Nat.reduceAdd, Nat.reduceSub, Nat.reduceMul, Nat.reduceBEq, Int.reduceToNat, Int.reduceEq, Int.reduceLT, Int.reduceLE, Int.reduceAdd, ↓reduceIte, reduceCtorEq]) <;> rfl) (lives_is)
            apply Tr.done
            · (simp only [go_sem, Nat.reduceLT, Nat.reduceLeDiff, Nat.reduceEqDiff, Nat.reduceAdd, Nat.reduceSub, Nat.reduceMul, Nat.reduceBEq, Int.reduceToNat, Int.reduceEq, Int.reduceLT, Int.reduceLE, Int.reduceAdd, ↓reduceIte, reduceCtorEq]) <;> rfl
            · simp
          refine EvC.ret ⟨.inl rfl, _, (by (simp only [go_sem, Nat.reduceLT, Nat.reduceLeDiff, Nat.reduceEqDiff, Nat.reduceAdd, Nat.reduceSub, Nat.reduceMul, Nat.reduceBEq, Int.reduceToNat, Int.reduceEq, Int.reduceLT, Int.reduceLE, Int.reduceAdd, ↓reduceIte, reduceCtorEq]) <;> rfl), ?_, rfl⟩
          simp only [go_sem, Nat.reduceLT, Nat.reduceLeDiff, Nat.reduceEqDiff, Nat.reduceAdd, Nat.reduceSub, Nat.reduceMul, Nat.reduceBEq, Int.reduceToNat, Int.reduceEq, Int.reduceLT, Int.reduceLE, Int.reduceAdd, ↓reduceIte, reduceCtorEq]
          try rfl
        · have ho : ¬ (s < 0 ∨ t < 0 ∨ (m.rows.length : Int) ≤ s ∨ (m.rows.length : Int) ≤ t) := by
            by_cases k1 : s < 0 <;> by_cases k2 : t < 0 <;> by_cases k3 : (m.rows.length : Int) ≤ s <;> by_cases k4 : (m.rows.length : Int) ≤ t <;> simp_all <;> omega
          rw [if_neg ho] at hst
          clear hc
          refine EvC.skip ?_
          obtain ⟨b1, hb1⟩ : ∃ b, decide (0 < ((sepW m s.toNat t.toNat).length : Int)) = b := ⟨_, rfl⟩
          have hsg := separate_good hr hst rfl hb1
          generalize sepW m s.toNat t.toNat = sw at hsg
          apply EvC.seq
          apply EvC.tr
          · apply Tr.run
            · (simp only [go_sem, Nat.reduceLT, Nat.reduceLeDiff, Nat.reduceEqDiff, Nat.reduceAdd, Nat.reduceSub, Nat.reduceMul, Nat.reduceBEq, Int.reduceToNat, Int.reduceEq, Int.reduceLT, Int.reduceLE, Int.reduceAdd, ↓reduceIte, reduceCtorEq, Mach.cells]) <;> rfl
            · simp
            apply Tr.cons
            · exact .call rfl rfl (by (simp only [go_sem, Nat.reduceLT, Nat.reduceLeDiff, Nat.reduceEqDiff, Nat.reduceAdd, Nat.reduceSub, Nat.reduceMul, Nat.reduceBEq, Int.reduceToNat, Int.reduceEq, Int.reduceLT, Int.reduceLE, Int.reduceAdd, ↓reduceIte, reduceCtorEq]) <;> rfl) (by (simp only [go_sem, Nat.reduceLT, Nat.reduceLeDiff, Nat.reduceEqDiff, Nat.reduceAdd, Nat.reduceSub, Nat.reduceMul, Nat.reduceBEq, Int.reduceToNat, Int.reduceEq, Int.reduceLT, Int.reduceLE, Int.reduceAdd, ↓reduceIte, reduceCtorEq]) <;> rfl) (by (simp only [go_sem, Nat.reduceLT, Nat.reduceLeDiff, Nat.reduceEqDiff, Nat.reduceAdd, Nat.reduceSub, Nat.reduceMul, Nat.reduceBEq, Int.reduceToNat, Int.reduceEq, Int.reduceLT, Int.reduceLE, Int.reduceAdd, ↓reduceIte, reduceCtorEq]) <;> rfl) (by (simp only [go_sem, Nat.reduceLT, Nat.reduceLeDiff, Nat.reduceEqDiff, Nat.reduceAdd, Nat.reduceSub, Nat.reduceMul, Nat.reduceBEq, Int.reduceToNat, Int.reduceEq, Int.reduceLT, Int.reduceLE, Int.reduceAdd, ↓reduceIte, reduceCtorEq]) <;> rfl) (by (simp only [go_sem, Nat.reduceLT, Nat.reduceLeDiff, Nat.reduceEqDiff, Nat.reduceAdd, Nat.reduceSub, Nat.reduceMul, Nat.reduceBEq, Int.reduceToNat, Int.reduceEq, Int.reduceLT, Int.reduceLE, Int.reduceAdd, ↓reduceIte, reduceCtorEq]) <;> rfl) (hsg)
            apply Tr.done
            · (simp only [go_sem, Nat.reduceLT, Nat.reduceLeDiff, Nat.reduceEqDiff, Nat.reduceAdd, Nat.reduceSub, Nat.reduceMul, Nat.reduceBEq, Int.reduceToNat, Int.reduceEq, Int.reduceLT, Int.reduceLE, Int.reduceAdd, ↓reduceIte, reduceCtorEq]) <;> rfl
            · simp
          apply EvC.seq
          apply EvC.tr
          · apply Tr.run
            · (simp only [go_sem, Nat.reduceLT, Nat.reduceLeDiff, Nat.reduceEqDiff, Nat.reduceAdd, Nat.reduceSub, Nat.reduceMul, Nat.reduceBEq, Int.reduceToNat, Int.reduceEq, Int.reduceLT, Int.reduceLE, Int.reduceAdd, ↓reduceIte, reduceCtorEq, Mach.cells]) <;> rfl
            · simp
            apply Tr.cons
            · exact .call rfl rfl (by (simp only [go_sem, Nat.reduceLT, Nat.reduceLeDiff, Nat.reduceEqDiff, Nat.reduceAdd, Nat.reduceSub, Nat.reduceMul, Nat.reduceBEq, Int.reduceToNat, Int.reduceEq, Int.reduceLT, Int.reduceLE, Int.reduceAdd, ↓reduceIte, reduceCtorEq]) <;> rfl) (by (simp only [go_sem, Nat.reduceLT, Nat.reduceLeDiff, Nat.reduceEqDiff, Nat.reduceAdd, Nat.reduceSub, Nat.reduceMul, Nat.reduceBEq, Int.reduceToNat, Int.reduceEq, Int.reduceLT, Int.reduceLE, Int.reduceAdd, ↓reduceIte, reduceCtorEq]) <;> rfl) (by (simp only [go_sem, Nat.reduceLT, Nat.reduceLeDiff, Nat.reduceEqDiff, Nat.reduceAdd, Nat.reduceSub, Nat.reduceMul, Nat.reduceBEq, Int.reduceToNat, Int.reduceEq, Int.reduceLT, Int.reduceLE, Int.reduceAdd, ↓reduceIte, reduceCtorEq]) <;> rfl) (by (simp only [go_sem, Nat.reduceLT, Nat.reduceLeDiff, Nat.reduceEqDiff, Nat.reduceAdd, Nat.reduceSub, Nat.reduceMul, Nat.reduceBEq, Int.reduceToNat, Int.reduceEq, Int.reduceLT, Int.reduceLE, Int.reduceAdd, ↓reduceIte, reduceCtorEq]) <;> rfl) (by (simp only [go_sem, Nat.reduceLT, Nat.reduceLeDiff, Nat.reduceEqDiff, Nat.reduceAdd, Nat.reduceSub, Nat.reduceMul, Nat.reduceBEq, Int.reduceToNat, Int.reduceEq, Int.reduceLT, Int.reduceLE, Int.reduceAdd, ↓reduceIte, reduceCtorEq]) <;> rfl) (separates_bad2 hr nl w c hw6 hst rfl hw0)
            apply Tr.done
            · (simp only [go_sem, Nat.reduceLT, Nat.reduceLeDiff, Nat.reduceEqDiff, Nat.reduceAdd, Nat.reduceSub, Nat.reduceMul, Nat.reduceBEq, Int.reduceToNat, Int.reduceEq, Int.reduceLT, Int.reduceLE, Int.reduceAdd, ↓reduceIte, reduceCtorEq]) <;> rfl
            · simp
          apply EvC.seq
          apply EvC.tr
          · apply Tr.run
            · (simp only [go_sem, Nat.reduceLT, Nat.reduceLeDiff, Nat.reduceEqDiff, Nat.reduceAdd, Nat.reduceSub, Nat.reduceMul, Nat.reduceBEq, Int.reduceToNat, Int.reduceEq, Int.reduceLT, Int.reduceLE, Int.reduceAdd, ↓reduceIte, reduceCtorEq, decide_true, k0']) <;> rfl
            · simp
            apply Tr.cons
            · exact .callG rfl rfl (by (simp only [go_sem, Nat.reduceLT, Nat.reduceLeDiff, Nat.reduceEqDiff, Nat.reduceAdd, Nat.reduceSub, Nat.reduceMul, Nat.reduceBEq, Int.reduceToNat, Int.reduceEq, Int.reduceLT, Int.reduceLE, Int.reduceAdd, ↓reduceIte, reduceCtorEq]) <;> rfl) rfl (by (simp only [go_sem, Nat.reduceLT, Nat.reduceLeDiff, Nat.reduceEqDiff, Nat.reduceAdd, Nat.reduceSub, Nat.reduceMul, Nat.reduceBEq, Int.reduceToNat, Int.reduceEq, Int.reduceLT, Int.reduceLE, Int.reduceAdd, ↓reduceIte, reduceCtorEq]) <;> rfl) (by (simp only [go_sem, Nat.reduceLT, Nat.reduceLeDiff, Nat.reduceEqDiff, Nat.reduceAdd, Nat.reduceSub, Nat.reduceMul, Nat.reduceBEq, Int.reduceToNat, Int.reduceEq, Int.reduceLT, Int.reduceLE, Int.reduceAdd, ↓reduceIte, reduceCtorEq]) <;> rfl) (by (simp only [go_sem, Nat.reduceLT, Nat.reduceLeDiff, Nat.reduceEqDiff, Nat.reduceAdd, Nat.reduceSub, Nat.reduceMul, Nat.reduceBEq, Int.reduceToNat, Int.reduceEq, Int.reduceLT, Int.reduceLE, Int.reduceAdd, ↓reduceIte, reduceCtorEq]) <;> rfl) (by (simp only [go_sem, Nat.reduceLT, Nat.reduceLeDiff, Nat.reduceEqDiff, Nat.reduceAdd, Nat.reduceSub, Nat.reduceMul, Nat.reduceBEq, Int.reduceToNat, Int.reduceEq, Int.reduceLT, Int.reduceLE, Int.reduceAdd, ↓reduceIte, reduceCtorEq]) <;> rfl) (by (simp only [go_sem, Nat.reduceLT, Nat.reduceLeDiff, Nat.reduceEqDiff, Nat.reduceAdd, Nat.reduceSub, Nat.reduceMul, Nat.reduceBEq, Int.reduceToNat, Int.reduceEq, Int.reduceLT, Int.reduceLE, Int.reduceAdd, ↓reduceIte, reduceCtorEq]) <;> rfl) (lives_is)
            apply Tr.done
            · (simp only [go_sem, Nat.reduceLT, Nat.reduceLeDiff, Nat.reduceEqDiff, Nat.reduceAdd, Nat.reduceSub, Nat.reduceMul, Nat.reduceBEq, Int.reduceToNat, Int.reduceEq, Int.reduceLT, Int.reduceLE, Int.reduceAdd, ↓reduceIte, reduceCtorEq]) <;> rfl
            · simp
          refine EvC.ret ⟨.inl rfl, _, (by (simp only [go_sem, Nat.reduceLT, Nat.reduceLeDiff, Nat.reduceEqDiff, Nat.reduceAdd, Nat.reduceSub, Nat.reduceMul, Nat.reduceBEq, Int.reduceToNat, Int.reduceEq, Int.reduceLT, Int.reduceLE, Int.reduceAdd, ↓reduceIte, reduceCtorEq]) <;> rfl), ?_, rfl⟩
          simp only [go_sem, Nat.reduceLT, Nat.reduceLeDiff, Nat.reduceEqDiff, Nat.reduceAdd, Nat.reduceSub, Nat.reduceMul, Nat.reduceBEq, Int.reduceToNat, Int.reduceEq, Int.reduceLT, Int.reduceLE, Int.reduceAdd, ↓reduceIte, reduceCtorEq]
          try rfl
  have hi : i < m.rows.length := by simpa using hc
  have he : m.rows[i]? = some m.rows[i] := List.getElem?_eq_getElem hi
  have htk : m.rows.take (i + 1) = m.rows.take i ++ [m.rows[i]] := by rw [List.take_add_one, he]; rfl
  generalize m.rows[i] = r at he htk
  refine EvC.skip ?_
  refine EvC.seq ?_
  refine EvC.block ?_  -- 1
  refine EvC.seq (EvC.rg (by (simp only [go_sem, Nat.reduceLT, Nat.reduceLeDiff, Nat.reduceEqDiff, Nat.reduceAdd, Nat.reduceSub, Nat.reduceMul, Nat.reduceBEq, Int.reduceToNat, Int.reduceEq, Int.reduceLT, Int.reduceLE, Int.reduceAdd, ↓reduceIte, reduceCtorEq, Mach.cells, he, rowC]) <;> rfl) (by simp) ?_)
  refine EvC.cond (by (simp only [go_sem, Nat.reduceLT, Nat.reduceLeDiff, Nat.reduceEqDiff, Nat.reduceAdd, Nat.reduceSub, Nat.reduceMul, Nat.reduceBEq, Int.reduceToNat, Int.reduceEq, Int.reduceLT, Int.reduceLE, Int.reduceAdd, ↓reduceIte, reduceCtorEq]) <;> rfl) (fun hc => ?_) (fun hc => ?_)
  · -- then
    refine EvC.seq (EvC.rg (by (simp only [go_sem, Nat.reduceLT, Nat.reduceLeDiff, Nat.reduceEqDiff, Nat.reduceAdd, Nat.reduceSub, Nat.reduceMul, Nat.reduceBEq, Int.reduceToNat, Int.reduceEq, Int.reduceLT, Int.reduceLE, Int.reduceAdd, ↓reduceIte, reduceCtorEq]) <;> rfl) (by simp) ?_)
    refine EvC.ret ⟨.inl rfl, _, (by (simp only [go_sem, Nat.reduceLT, Nat.reduceLeDiff, Nat.reduceEqDiff, Nat.reduceAdd, Nat.reduceSub, Nat.reduceMul, Nat.reduceBEq, Int.reduceToNat, Int.reduceEq, Int.reduceLT, Int.reduceLE, Int.reduceAdd, ↓reduceIte, reduceCtorEq]) <;> rfl), ?_, rfl⟩
    simp only [go_sem, Nat.reduceLT, Nat.reduceLeDiff, Nat.reduceEqDiff, Nat.reduceAdd, Nat.reduceSub, Nat.reduceMul, Nat.reduceBEq, Int.reduceToNat, Int.reduceEq, Int.reduceLT, Int.reduceLE, Int.reduceAdd, ↓reduceIte, reduceCtorEq]
  have hl : (r.2.length : Int) ≤ 20 := by simpa using hc
  refine EvC.skip ?_
  have hI1 : inI64 ((i : Int) + 1) = true := inI64_of (by omega) (by omega)
  refine EvC.rg (by (simp only [go_sem, Nat.reduceLT, Nat.reduceLeDiff, Nat.reduceEqDiff, Nat.reduceAdd, Nat.reduceSub, Nat.reduceMul, Nat.reduceBEq, Int.reduceToNat, Int.reduceEq, Int.reduceLT, Int.reduceLE, Int.reduceAdd, ↓reduceIte, reduceCtorEq, hI1]) <;> rfl) (by simp) ?_
  refine ⟨[], i + 1, rfl, (by (simp only [go_sem, Nat.reduceLT, Nat.reduceLeDiff, Nat.reduceEqDiff, Nat.reduceAdd, Nat.reduceSub, Nat.reduceMul, Nat.reduceBEq, Int.reduceToNat, Int.reduceEq, Int.reduceLT, Int.reduceLE, Int.reduceAdd, ↓reduceIte, reduceCtorEq, Mach.cells]) <;> rfl), ⟨by omega, ?_⟩, by omega⟩
  rw [htk]
  intro r' hr'
  rcases List.mem_append.1 hr' with h | h
  · exact h2 r' h
  · simp at h; subst h; omega
end Go.Avl
namespace Go.Avl
open Go Go.Proofs.Try
set_option maxRecDepth 10000
set_option linter.unusedSimpArgs false

/-- The number of words that are shorter than n. -/
def sumK (k : Nat) : Nat → Nat
  | 0 => 0
  | n + 1 => sumK k n + k ^ n
/-- The place of a word, the shorter ones first. -/
def rank (k : Nat) : List Int → Nat
  | [] => 0
  | a :: w => (a.toNat + 1) * k ^ w.length + rank k w
def WOk (k : Nat) (w : List Int) : Prop := ∀ a ∈ w, 0 ≤ a ∧ a < k
theorem WOk.tail {k : Nat} {a : Int} {w : List Int} (h : WOk k (a :: w)) : WOk k w := fun x hx => h x (List.mem_cons_of_mem _ hx)
theorem WOk.head {k : Nat} {a : Int} {w : List Int} (h : WOk k (a :: w)) : 0 ≤ a ∧ a < k := h a List.mem_cons_self
theorem WOk.cons {k : Nat} {a : Int} {w : List Int} (ha : 0 ≤ a ∧ a < k) (h : WOk k w) : WOk k (a :: w) := fun x hx => by
  rcases List.mem_cons.1 hx with rfl | hx
  · exact ha
  · exact h x hx
theorem rank_ge {k : Nat} : ∀ (w : List Int), sumK k w.length ≤ rank k w
  | [] => Nat.le_refl _
  | a :: w => by
    have h1 := rank_ge (k := k) w
    have h2 : 1 * k ^ w.length ≤ (a.toNat + 1) * k ^ w.length := Nat.mul_le_mul_right _ (by omega)
    simp only [rank, List.length_cons, sumK]
    omega
theorem rank_lt {k : Nat} : ∀ {w : List Int}, WOk k w → rank k w < sumK k (w.length + 1)
  | [], _ => by simp [rank, sumK]
  | a :: w, h => by
    have h1 := rank_lt h.tail
    have h2 : (a.toNat + 1) * k ^ w.length ≤ k * k ^ w.length := Nat.mul_le_mul_right _ (by have := h.head; omega)
    have h3 : k ^ (w.length + 1) = k * k ^ w.length := by rw [Nat.pow_succ, Nat.mul_comm]
    rw [List.length_cons, sumK, h3]
    simp only [rank]
    omega
theorem sumK_mono {k : Nat} : ∀ {a b : Nat}, a ≤ b → sumK k a ≤ sumK k b
  | a, 0, h => by obtain rfl : a = 0 := by omega
                  exact Nat.le_refl _
  | a, b + 1, h => by
    by_cases h1 : a = b + 1
    · rw [h1]; exact Nat.le_refl _
    · have := sumK_mono (k := k) (show a ≤ b by omega)
      simp only [sumK]; omega
theorem rank_len {k : Nat} {w v : List Int} (hw : WOk k w) (h : w.length < v.length) : rank k w < rank k v :=
  Nat.lt_of_lt_of_le (rank_lt hw) (Nat.le_trans (sumK_mono h) (rank_ge v))
theorem rank_head {k : Nat} {a b : Int} {w v : List Int} (hl : w.length = v.length) (hw : WOk k w) (hab : a.toNat < b.toNat) : rank k (a :: w) < rank k (b :: v) := by
  have h1 := rank_lt hw
  have h2 := rank_ge (k := k) v
  simp only [rank]
  rw [hl] at h1 ⊢
  rw [sumK] at h1
  have h3 : (a.toNat + 1 + 1) * k ^ v.length ≤ (b.toNat + 1) * k ^ v.length := Nat.mul_le_mul_right _ (by omega)
  rw [Nat.succ_mul] at h3
  omega
theorem rank_cons {k : Nat} {a : Int} {w v : List Int} (hl : w.length = v.length) (h : rank k w ≤ rank k v) : rank k (a :: w) ≤ rank k (a :: v) := by
  simp only [rank, hl]; omega
theorem rank_inj {k : Nat} : ∀ {w v : List Int}, WOk k w → WOk k v → rank k w = rank k v → w = v
  | w, v, hw, hv, h => by
    have hl : w.length = v.length := by
      by_cases h1 : w.length < v.length
      · have := rank_len hw h1; omega
      · by_cases h2 : v.length < w.length
        · have := rank_len hv h2; omega
        · omega
    match w, v with
    | [], [] => rfl
    | [], _ :: _ => simp at hl
    | _ :: _, [] => simp at hl
    | a :: w, b :: v =>
      have hl' : w.length = v.length := by simpa using hl
      have h1 : ¬ a.toNat < b.toNat := fun h1 => by have := rank_head hl' hw.tail h1; omega
      have h2 : ¬ b.toNat < a.toNat := fun h2 => by have := rank_head hl'.symm hv.tail h2; omega
      have hab : a = b := by have := hw.head; have := hv.head; omega
      subst hab
      have : rank k w = rank k v := by simp only [rank, hl'] at h; omega
      rw [rank_inj hw.tail hv.tail this]
theorem rank_zeros {k : Nat} : ∀ (n : Nat), rank k (List.replicate n 0) = sumK k n
  | 0 => rfl
  | n + 1 => by simp [List.replicate_succ, rank, rank_zeros n, sumK]; omega
theorem rank_incr {k : Nat} (hk : 1 ≤ k) : ∀ {w : List Int}, WOk k w →
    ((incrW k w).2 = true → (incrW k w).1 = List.replicate w.length 0 ∧ rank k w + 1 = sumK k (w.length + 1)) ∧ ((incrW k w).2 = false → (incrW k w).1.length = w.length ∧ rank k (incrW k w).1 = rank k w + 1)
  | [], _ => by simp [incrW, rank, sumK]
  | x :: w, h => by
    obtain ⟨h1, h2⟩ := rank_incr hk h.tail
    have hx := h.head
    unfold incrW
    by_cases hc : (incrW k w).2 = true
    · obtain ⟨e1, e2⟩ := h1 hc
      rw [if_pos hc]
      rw [sumK] at e2
      by_cases hx1 : x + 1 < k
      · rw [if_pos hx1]
        refine ⟨fun h => (by cases h), fun _ => ?_⟩
        simp only [e1]
        refine ⟨by simp, ?_⟩
        have : (x + 1).toNat = x.toNat + 1 := by omega
        simp only [rank, List.length_replicate, rank_zeros, this]
        rw [Nat.succ_mul (x.toNat + 1)]
        omega
      · rw [if_neg hx1]
        refine ⟨fun _ => ?_, fun h => by cases h⟩
        simp only [e1]
        refine ⟨by simp [List.replicate_succ], ?_⟩
        have : x.toNat + 1 = k := by omega
        simp only [rank, this, List.length_cons, sumK]
        rw [Nat.pow_succ, Nat.mul_comm (k ^ w.length) k]
        omega
    · rw [if_neg hc]
      refine ⟨fun h => (by cases h), fun _ => ?_⟩
      obtain ⟨e1, e2⟩ := h2 (by simpa using hc)
      simp only [rank, List.length_cons, e1, e2]
      exact ⟨trivial, by omega⟩
theorem rank_next {k : Nat} (hk : 1 ≤ k) {w : List Int} (h : WOk k w) : rank k (nextW k w) = rank k w + 1 := by
  obtain ⟨h1, h2⟩ := rank_incr hk h
  unfold nextW
  by_cases hc : (incrW k w).2 = true
  · obtain ⟨e1, e2⟩ := h1 hc
    rw [if_pos hc, e1, e2, show ([0] : List Int) = List.replicate 1 0 from rfl, List.replicate_append_replicate, rank_zeros]
  · rw [if_neg hc]; exact (h2 (by simpa using hc)).2
theorem rank_at {k : Nat} (hk : 1 ≤ k) : ∀ n, WOk k (wordAt k n) ∧ rank k (wordAt k n) = n
  | 0 => ⟨by simp [WOk, wordAt], rfl⟩
  | n + 1 => by
    obtain ⟨h1, h2⟩ := rank_at hk n
    refine ⟨wordAt_ok (by omega) (n + 1), ?_⟩
    rw [wordAt, rank_next hk h1, h2]
theorem at_rank {k : Nat} (hk : 1 ≤ k) {w : List Int} (h : WOk k w) : wordAt k (rank k w) = w := by
  obtain ⟨h1, h2⟩ := rank_at hk (rank k w)
  exact rank_inj h1 h h2
def boolC (b : Bool) : List AV := [.sc (.bool b)]
@[go_sem] theorem norefs_bool (l : List Bool) : (l.map boolC).all AV.norefs = true := by simp [List.all_eq_true, boolC, AV.norefs, AV.noref]
end Go.Avl
namespace Go.Avl
open Go Go.Proofs.Try
set_option maxRecDepth 10000
set_option linter.unusedSimpArgs false

/-- The first separating word. -/
def Least (m : Mach) (s t : Nat) (w : List Int) : Prop :=
  WOk m.ins.toNat w ∧ runR m s w ≠ runR m t w ∧ ∀ v, WOk m.ins.toNat v → runR m s v ≠ runR m t v → rank m.ins.toNat w ≤ rank m.ins.toNat v
def Good (m : Mach) (k s t : Nat) (w : List Int) : Prop :=
  (w = [] ∧ ∀ v, WOk m.ins.toNat v → v.length ≤ k → runR m s v = runR m t v) ∨ (w ≠ [] ∧ Least m s t w)
theorem Least.symm {m : Mach} {s t : Nat} {w : List Int} (h : Least m s t w) : Least m t s w := ⟨h.1, h.2.1.symm, fun v h1 h2 => h.2.2 v h1 h2.symm⟩
theorem Good.symm {m : Mach} {k s t : Nat} {w : List Int} (h : Good m k s t w) : Good m k t s w :=
  h.imp (fun h => ⟨h.1, fun v h1 h2 => (h.2 v h1 h2).symm⟩) (fun h => ⟨h.1, h.2.symm⟩)
def CondW (W : WT) (n : Nat) (x y : Int × Int) : Prop := x.2 ≠ y.2 ∨ (1 < n ∧ x.1 ≠ -1 ∧ (W x.1.toNat y.1.toNat).length + 1 = n)
def valW (W : WT) (i : Nat) (x y : Int × Int) : List Int := if x.2 ≠ y.2 then [(i : Int)] else (i : Int) :: W x.1.toNat y.1.toNat
def ex (xs : List (Int × Int)) (a : Nat) : Int × Int := xs[a]?.getD (-1, -1)
theorem srch_spec {W : WT} {n : Nat} : ∀ (xs ys : List (Int × Int)) (i : Nat), xs.length = ys.length →
    (∃ a, a < xs.length ∧ CondW W n (ex xs a) (ex ys a) ∧ (∀ b < a, ¬ CondW W n (ex xs b) (ex ys b)) ∧ srchW W n xs ys i = valW W (i + a) (ex xs a) (ex ys a)) ∨
    (srchW W n xs ys i = [] ∧ ∀ a < xs.length, ¬ CondW W n (ex xs a) (ex ys a))
  | [], ys, i, h => .inr ⟨by cases ys <;> simp [srchW], fun a ha => by simp at ha⟩
  | x :: xs, [], i, h => by simp at h
  | x :: xs, y :: ys, i, h => by
    by_cases hc : CondW W n x y
    · refine .inl ⟨0, by simp, hc, fun b hb => by omega, ?_⟩
      show srchW W n (x :: xs) (y :: ys) i = valW W (i + 0) x y
      unfold srchW valW
      by_cases h1 : x.2 ≠ y.2
      · rw [if_pos h1, if_pos h1]; rfl
      · rw [if_neg h1, if_neg h1, if_pos (hc.resolve_left h1)]; rfl
    · have h1 : ¬ x.2 ≠ y.2 := fun h => hc (.inl h)
      have h2 : ¬ (1 < n ∧ x.1 ≠ -1 ∧ (W x.1.toNat y.1.toNat).length + 1 = n) := fun h => hc (.inr h)
      have he : srchW W n (x :: xs) (y :: ys) i = srchW W n xs ys (i + 1) := by
        conv => lhs; unfold srchW
        rw [if_neg h1, if_neg h2]
      rcases srch_spec xs ys (i + 1) (by simpa using h) with ⟨a, k1, k2, k3, k4⟩ | ⟨k1, k2⟩
      · refine .inl ⟨a + 1, by simp; omega, k2, fun b hb => ?_, by rw [he, k4, show i + 1 + a = i + (a + 1) by omega]; rfl⟩
        match b with
        | 0 => exact hc
        | b + 1 => exact k3 b (by omega)
      · refine .inr ⟨he.trans k1, fun a ha => ?_⟩
        match a with
        | 0 => exact hc
        | a + 1 => exact k2 a (by simpa using ha)
theorem step_ex (m : Mach) (s a : Nat) : stepR m s a = ex (rowAt m s) a := by
  rw [stepR, if_neg (by omega)]; simp [ex, rowAt]
theorem row_len {m : Mach} (hv : Valid m) {s : Nat} (hs : s < m.rows.length) : (rowAt m s).length = m.ins.toNat := by
  have h1 : m.rows[s]? = some m.rows[s] := List.getElem?_eq_getElem hs
  have := (hv.row _ (List.getElem_mem hs)).1
  simp only [rowAt, h1, Option.map_some, Option.getD_some]; omega
theorem ex_fits {m : Mach} (hv : Valid m) {s a : Nat} (hs : s < m.rows.length) (ha : a < m.ins.toNat) :
    ((ex (rowAt m s) a).1 = -1 ∧ (ex (rowAt m s) a).2 = -1) ∨ (0 ≤ (ex (rowAt m s) a).1 ∧ (ex (rowAt m s) a).1 < m.rows.length ∧ 0 ≤ (ex (rowAt m s) a).2 ∧ (ex (rowAt m s) a).2 < m.outs) := by
  obtain ⟨r, e, _, _, h3, h4⟩ := stepR_get hv (s := (s : Int)) (a := (a : Int)) (by omega) (by omega) (by omega)
  rw [step_ex] at h3
  rw [h3]
  exact fits_cases h4
theorem run_cons (m : Mach) (s a : Nat) (w : List Int) : runR m s ((a : Int) :: w) = (ex (rowAt m s) a).2 :: runR m (ex (rowAt m s) a).1 w := by
  rw [runR, step_ex]
/-- Both edges are there, or neither. -/
theorem ex_both {m : Mach} (hv : Valid m) {s t a : Nat} (hs : s < m.rows.length) (ht : t < m.rows.length) (ha : a < m.ins.toNat) (h : (ex (rowAt m s) a).2 = (ex (rowAt m t) a).2) :
    ((ex (rowAt m s) a).1 = -1 ∧ (ex (rowAt m t) a).1 = -1) ∨ ∃ p q : Nat, (ex (rowAt m s) a).1 = (p : Int) ∧ (ex (rowAt m t) a).1 = (q : Int) ∧ p < m.rows.length ∧ q < m.rows.length := by
  have h1 := ex_fits hv hs ha
  have h2 := ex_fits hv ht ha
  rcases h1 with h1 | h1 <;> rcases h2 with h2 | h2
  · exact .inl ⟨h1.1, h2.1⟩
  · omega
  · omega
  · exact .inr ⟨(ex (rowAt m s) a).1.toNat, (ex (rowAt m t) a).1.toNat, by omega, by omega, by omega, by omega⟩
theorem cond_of {m : Mach} (hv : Valid m) {k : Nat} {W : WT} (hW : ∀ s t, s < m.rows.length → t < m.rows.length → Good m k s t (W s t)) {s t b : Nat} (hs : s < m.rows.length) (ht : t < m.rows.length)
    (hno : ∀ v, WOk m.ins.toNat v → v.length ≤ k → runR m s v = runR m t v) (hb : b < m.ins.toNat) {v : List Int} (hvo : WOk m.ins.toNat v) (hl : v.length = k) (hd : runR m s ((b : Int) :: v) ≠ runR m t ((b : Int) :: v)) :
    CondW W (k + 1) (ex (rowAt m s) b) (ex (rowAt m t) b) := by
  by_cases ho : (ex (rowAt m s) b).2 = (ex (rowAt m t) b).2
  · right
    rw [run_cons, run_cons, ho] at hd
    have hd' : runR m (ex (rowAt m s) b).1 v ≠ runR m (ex (rowAt m t) b).1 v := fun h => hd (by rw [h])
    rcases ex_both hv hs ht hb ho with ⟨h1, h2⟩ | ⟨p, q, h1, h2, hp, hq⟩
    · rw [h1, h2] at hd'; exact absurd rfl hd'
    · rw [h1, h2] at hd' ⊢
      have hk : k ≠ 0 := fun h => by
        obtain rfl : v = [] := List.length_eq_zero_iff.1 (by omega)
        exact hd' rfl
      refine ⟨by omega, by omega, ?_⟩
      simp only [Int.toNat_natCast]
      rcases hW p q hp hq with ⟨_, h4⟩ | ⟨_, h4⟩
      · exact absurd (h4 v hvo (by omega)) hd'
      · have h5 := h4.2.2 v hvo hd'
        have h6 : ¬ v.length < (W p q).length := fun h => by have := rank_len hvo h; omega
        have h7 : ¬ (W p q).length < k := fun h => by
          have := hno ((b : Int) :: W p q) (h4.1.cons (by omega)) (by simp; omega)
          rw [run_cons, run_cons, ho, h1, h2] at this
          exact h4.2.1 (List.cons.inj this).2
        omega
  · exact .inl ho
theorem step_good {m : Mach} (hv : Valid m) {k : Nat} {W : WT} (hW : ∀ s t, s < m.rows.length → t < m.rows.length → Good m k s t (W s t)) {s t : Nat} (hs : s < m.rows.length) (ht : t < m.rows.length)
    (hno : ∀ v, WOk m.ins.toNat v → v.length ≤ k → runR m s v = runR m t v) : Good m (k + 1) s t (stepW m W s t (k + 1)) := by
  have hls := row_len hv hs
  have hlt := row_len hv ht
  have hins := hv.ins
  unfold stepW
  rcases srch_spec (W := W) (n := k + 1) (rowAt m s) (rowAt m t) 0 (by rw [hls, hlt]) with ⟨a, k1, k2, k3, k4⟩ | ⟨k1, k2⟩
  · rw [hls] at k1
    rw [k4, Nat.zero_add]
    have hmin : ∀ b : Nat, ∀ v, b < m.ins.toNat → WOk m.ins.toNat v → v.length = k → runR m s ((b : Int) :: v) ≠ runR m t ((b : Int) :: v) → a ≤ b := fun b v hb h1 h2 h3 => by
      by_cases hab : b < a
      · exact absurd (cond_of hv hW hs ht hno hb h1 h2 h3) (k3 b hab)
      · omega
    -- a word of a's least length that separates, and no later one
    have fin : ∀ u, WOk m.ins.toNat u → u.length = k → runR m s ((a : Int) :: u) ≠ runR m t ((a : Int) :: u) →
        (∀ v, WOk m.ins.toNat v → v.length = k → runR m s ((a : Int) :: v) ≠ runR m t ((a : Int) :: v) → rank m.ins.toNat u ≤ rank m.ins.toNat v) → Least m s t ((a : Int) :: u) := fun u hu hul hud hum => by
      refine ⟨hu.cons (by omega), hud, fun v hvo hvd => ?_⟩
      match v, hvo, hvd with
      | [], _, hvd => exact absurd rfl hvd
      | b :: v, hvo, hvd =>
        have hb := hvo.head
        obtain ⟨b, rfl⟩ : ∃ n : Nat, b = (n : Int) := ⟨b.toNat, by omega⟩
        by_cases h1 : v.length < k
        · exact absurd (hno _ hvo (by simp; omega)) hvd
        · by_cases h2 : k < v.length
          · exact Nat.le_of_lt (rank_len (hu.cons (by omega)) (by simp; omega))
          · have hvl : v.length = k := by omega
            have hab := hmin b v (by omega) hvo.tail hvl hvd
            by_cases he : a = b
            · subst he
              exact rank_cons (by omega) (hum v hvo.tail hvl hvd)
            · exact Nat.le_of_lt (rank_head (by omega) hu (by omega))
    by_cases ho : (ex (rowAt m s) a).2 = (ex (rowAt m t) a).2
    · rcases k2 with k2 | ⟨k2, k5, k6⟩
      · exact absurd ho k2
      · rw [show valW W a (ex (rowAt m s) a) (ex (rowAt m t) a) = (a : Int) :: W (ex (rowAt m s) a).1.toNat (ex (rowAt m t) a).1.toNat by simp [valW, ho]]
        rcases ex_both hv hs ht k1 ho with ⟨h1, h2⟩ | ⟨p, q, h1, h2, hp, hq⟩
        · exact absurd h1 k5
        · rw [h1, h2] at k6 ⊢
          simp only [Int.toNat_natCast] at k6 ⊢
          rw [if_pos (by simpa using k6)]
          rcases hW p q hp hq with ⟨h3, _⟩ | ⟨h3, h4⟩
          · rw [h3] at k6; simp at k6; omega
          · have hrun : ∀ v, runR m s ((a : Int) :: v) ≠ runR m t ((a : Int) :: v) ↔ runR m p v ≠ runR m q v := fun v => by
              rw [run_cons, run_cons, ho, h1, h2]; simp
            exact .inr ⟨by simp, fin _ h4.1 (by omega) ((hrun _).2 h4.2.1) fun v hvo _ hvd => h4.2.2 v hvo ((hrun v).1 hvd)⟩
    · rw [show valW W a (ex (rowAt m s) a) (ex (rowAt m t) a) = [(a : Int)] by simp [valW, ho]]
      have hd : runR m s [(a : Int)] ≠ runR m t [(a : Int)] := by rw [run_cons, run_cons]; intro h; exact ho (List.cons.inj h).1
      have hk : k = 0 := by
        by_cases h : k = 0
        · exact h
        · exact absurd (hno [(a : Int)] (fun x hx => by simp at hx; omega) (by simp; omega)) hd
      subst hk
      rw [if_pos (by simp)]
      refine .inr ⟨by simp, fin [] (fun x hx => by simp at hx) rfl hd fun v _ hvl _ => ?_⟩
      obtain rfl : v = [] := List.length_eq_zero_iff.1 hvl
      exact Nat.le_refl _
  · rw [k1, if_neg (by simp)]
    refine .inl ⟨rfl, fun v hvo hvl => ?_⟩
    by_cases h : v.length ≤ k
    · exact hno v hvo h
    · match v, hvo with
      | [], _ => rfl
      | b :: v, hvo =>
        have hb := hvo.head
        obtain ⟨b, rfl⟩ : ∃ n : Nat, b = (n : Int) := ⟨b.toNat, by omega⟩
        by_cases hd : runR m s ((b : Int) :: v) = runR m t ((b : Int) :: v)
        · exact hd
        · exact absurd (cond_of hv hW hs ht hno (by omega) hvo.tail (by simp at h hvl; omega) hd) (k2 b (by omega))
end Go.Avl
namespace Go.Avl
open Go Go.Proofs.Try
set_option maxRecDepth 10000
set_option linter.unusedSimpArgs false

theorem putOne_at (W : WT) {s t : Nat} (w : List Int) (h : s < t) (a b : Nat) : putOne W ((s, t), w) a b = if (a = s ∧ b = t) ∨ (a = t ∧ b = s) then w else W a b := by
  unfold putOne updW
  by_cases h1 : a = t ∧ b = s
  · rw [if_pos h1, if_pos (.inr h1)]
  · by_cases h2 : a = s ∧ b = t
    · rw [if_neg h1, if_pos h2, if_pos (.inl h2)]
    · rw [if_neg h1, if_neg h2, if_neg (by rintro (h | h) <;> contradiction)]
theorem putAll_spec (f : Nat → Nat → List Int) : ∀ (l : NowT) (W : WT), (∀ p ∈ l, p.1.1 < p.1.2 ∧ p.2 = f p.1.1 p.1.2) → ∀ a b : Nat,
    ((∃ p ∈ l, p.1 = (a, b)) → putAll W l a b = f a b) ∧ ((∃ p ∈ l, p.1 = (b, a)) → putAll W l a b = f b a) ∧ ((∀ p ∈ l, p.1 ≠ (a, b) ∧ p.1 ≠ (b, a)) → putAll W l a b = W a b)
  | [], W, _, a, b => ⟨fun ⟨p, h, _⟩ => (by cases h), fun ⟨p, h, _⟩ => (by cases h), fun _ => rfl⟩
  | ((s, t), w) :: l, W, hl, a, b => by
    have hl' : ∀ p ∈ l, p.1.1 < p.1.2 ∧ p.2 = f p.1.1 p.1.2 := fun p hp => hl p (List.mem_cons_of_mem _ hp)
    obtain ⟨hst, hw⟩ := hl _ List.mem_cons_self
    simp only at hst hw
    obtain ⟨i1, i2, i3⟩ := putAll_spec f l (putOne W ((s, t), w)) hl' a b
    have he : putAll W (((s, t), w) :: l) a b = putAll (putOne W ((s, t), w)) l a b := rfl
    rw [he]
    refine ⟨fun ⟨p, hp, e⟩ => ?_, fun ⟨p, hp, e⟩ => ?_, fun h => ?_⟩
    · by_cases h1 : ∃ p ∈ l, p.1 = (a, b)
      · exact i1 h1
      · rcases List.mem_cons.1 hp with rfl | hp
        · simp only [Prod.mk.injEq] at e
          obtain ⟨rfl, rfl⟩ := e
          rw [i3 fun q hq => ⟨fun e => h1 ⟨q, hq, e⟩, fun e => by have := (hl' q hq).1; rw [e] at this; simp at this; omega⟩, putOne_at W w hst, if_pos (.inl ⟨rfl, rfl⟩), hw]
        · exact absurd ⟨p, hp, e⟩ h1
    · by_cases h1 : ∃ p ∈ l, p.1 = (b, a)
      · exact i2 h1
      · rcases List.mem_cons.1 hp with rfl | hp
        · simp only [Prod.mk.injEq] at e
          obtain ⟨rfl, rfl⟩ := e
          rw [i3 fun q hq => ⟨fun e => by have := (hl' q hq).1; rw [e] at this; simp at this; omega, fun e => h1 ⟨q, hq, e⟩⟩, putOne_at W w hst, if_pos (.inr ⟨rfl, rfl⟩), hw]
        · exact absurd ⟨p, hp, e⟩ h1
    · rw [i3 fun q hq => h q (List.mem_cons_of_mem _ hq), putOne_at W w hst, if_neg]
      have := h _ List.mem_cons_self
      simp only [ne_eq, Prod.mk.injEq] at this
      omega
theorem inP_mem {s q : Nat} : ∀ {k t : Nat}, t ≤ q → q < t + k → (s, q) ∈ inP s k t
  | 0, t, h1, h2 => by omega
  | k + 1, t, h1, h2 => by
    by_cases h : q = t
    · subst h; exact List.mem_cons_self
    · exact List.mem_cons_of_mem _ (inP_mem (by omega) (by omega))
theorem outP_mem {n p q : Nat} (hpq : p < q) (hq : q < n) : ∀ {k s : Nat}, s ≤ p → p < s + k → (p, q) ∈ outP n k s
  | 0, s, h1, h2 => by omega
  | k + 1, s, h1, h2 => by
    by_cases h : p = s
    · subst h; exact List.mem_append_left _ (inP_mem (by omega) (by omega))
    · exact List.mem_append_right _ (outP_mem hpq hq (by omega) (by omega))
theorem nowL_mem {m : Mach} {W : WT} {n s t : Nat} (hst : s < t) (ht : t < m.rows.length) (h1 : W s t = []) (h2 : stepW m W s t n ≠ []) : ((s, t), stepW m W s t n) ∈ nowL m W n (pairsN m.rows.length) :=
  List.mem_filterMap.2 ⟨(s, t), outP_mem hst ht (Nat.zero_le _) (by omega), by simp [nowOf, h1, h2]⟩
theorem Good.none {m : Mach} {k s t : Nat} {w : List Int} (h : Good m k s t w) (hl : w.length ≤ k) (hw : w = []) : ∀ v, WOk m.ins.toNat v → v.length ≤ k → runR m s v = runR m t v := by
  rcases h with h | h
  · exact h.2
  · exact absurd hw h.1
theorem tab_good {m : Mach} (hv : Valid m) : ∀ (k s t : Nat), s < m.rows.length → t < m.rows.length → Good m k s t (tabAt m k s t)
  | 0, s, t, _, _ => .inl ⟨rfl, fun v _ hl => by obtain rfl : v = [] := List.length_eq_zero_iff.1 (by omega); rfl⟩
  | k + 1, a, b, ha, hb => by
    have hW : ∀ s t, s < m.rows.length → t < m.rows.length → Good m k s t (tabAt m k s t) := tab_good hv k
    have hlen := tabAt_len m k
    obtain ⟨W, hWe⟩ : ∃ W, W = tabAt m k := ⟨_, rfl⟩
    rw [show tabAt m (k + 1) = putAll (tabAt m k) (nowL m (tabAt m k) (k + 1) (pairsN m.rows.length)) from rfl]
    rw [← hWe] at hW hlen ⊢
    obtain ⟨i1, i2, i3⟩ := putAll_spec (fun s t => stepW m W s t (k + 1)) (nowL m W (k + 1) (pairsN m.rows.length)) W (fun p hp => by
      have := mem_nowL hp
      exact ⟨this.1, this.2.2.2.1⟩) a b
    -- one order of the two
    have key : ∀ s t, s < t → t < m.rows.length → ((∃ p ∈ nowL m W (k + 1) (pairsN m.rows.length), p.1 = (s, t)) ∧ Good m (k + 1) s t (stepW m W s t (k + 1))) ∨ ((∀ p ∈ nowL m W (k + 1) (pairsN m.rows.length), p.1 ≠ (s, t)) ∧ ∀ w, Good m k s t w → w.length ≤ k → Good m (k + 1) s t w) := fun s t hst ht => by
      by_cases h1 : W s t = []
      · have hno := (hW s t (by omega) ht).none (hlen s t) h1
        have hg := step_good hv hW (by omega) ht hno
        by_cases h2 : stepW m W s t (k + 1) = []
        · refine .inr ⟨fun p hp e => ?_, fun w hgw hwl => ?_⟩
          · obtain ⟨_, _, _, h4, h5⟩ := mem_nowL hp
            rw [e] at h4
            exact h5 (h4.trans h2)
          · rcases hgw with ⟨h3, _⟩ | ⟨_, h4⟩
            · subst h3; rw [h2] at hg; exact hg
            · exact absurd (hno w h4.1 hwl) h4.2.1
        · exact .inl ⟨⟨_, nowL_mem hst ht h1 h2, rfl⟩, hg⟩
      · refine .inr ⟨fun p hp e => ?_, fun w hgw hwl => ?_⟩
        · obtain ⟨_, _, h3, _⟩ := mem_nowL hp
          rw [e] at h3; exact h1 h3
        · rcases hgw with ⟨h3, h4⟩ | h4
          · rcases hW s t (by omega) ht with ⟨h5, _⟩ | ⟨_, h5⟩
            · exact absurd h5 h1
            · exact absurd (h4 _ h5.1 (hlen s t)) h5.2.1
          · exact .inr h4
    by_cases h1 : a < b
    · rcases key a b h1 hb with ⟨h2, h3⟩ | ⟨h2, h3⟩
      · rw [i1 h2]; exact h3
      · rw [i3 fun p hp => ⟨h2 p hp, fun e => by have := (mem_nowL hp).1; rw [e] at this; simp at this; omega⟩]
        exact h3 _ (hW a b ha hb) (hlen a b)
    · by_cases h2 : b < a
      · rcases key b a h2 ha with ⟨h3, h4⟩ | ⟨h3, h4⟩
        · rw [i2 h3]; exact h4.symm
        · rw [i3 fun p hp => ⟨fun e => by have := (mem_nowL hp).1; rw [e] at this; simp at this; omega, h3 p hp⟩]
          exact (h4 _ (hW a b ha hb).symm (hlen a b)).symm
      · obtain rfl : a = b := by omega
        rw [i3 fun p hp => by have := (mem_nowL hp).1; exact ⟨fun e => by rw [e] at this; simp at this, fun e => by rw [e] at this; simp at this⟩]
        rcases hW a a ha hb with ⟨h3, _⟩ | h3
        · exact .inl ⟨h3, fun v _ _ => rfl⟩
        · exact .inr h3

/-- No word of up to k symbols separates. -/
def Alike (m : Mach) (k s t : Nat) : Prop := ∀ v, WOk m.ins.toNat v → v.length ≤ k → runR m s v = runR m t v
theorem alike_succ {m : Mach} (hv : Valid m) {k : Nat} (hk : ∀ s t, s < m.rows.length → t < m.rows.length → Alike m k s t → Alike m (k + 1) s t) {s t : Nat} (hs : s < m.rows.length) (ht : t < m.rows.length) (h : Alike m k s t) : ∀ j, Alike m (k + j) s t
  | 0 => h
  | j + 1 => by
    intro v hvo hvl
    have h1 := hk s t hs ht h
    match v, hvo with
    | [], _ => rfl
    | b :: v, hvo =>
      have hb := hvo.head
      obtain ⟨b, rfl⟩ : ∃ n : Nat, b = (n : Int) := ⟨b.toNat, by omega⟩
      have hbl : b < m.ins.toNat := by omega
      have ho : (ex (rowAt m s) b).2 = (ex (rowAt m t) b).2 := by
        have := h1 [(b : Int)] (fun x hx => by simp at hx; omega) (by simp)
        rw [run_cons, run_cons] at this
        exact (List.cons.inj this).1
      rw [run_cons, run_cons, ho]
      congr 1
      rcases ex_both hv hs ht hbl ho with ⟨e1, e2⟩ | ⟨p, q, e1, e2, hp, hq⟩
      · rw [e1, e2]
      · rw [e1, e2]
        have h2 : Alike m k p q := fun u hu hul => by
          have := h1 ((b : Int) :: u) (hu.cons (by omega)) (by simp; omega)
          rw [run_cons, run_cons, e1, e2] at this
          exact (List.cons.inj this).2
        exact alike_succ hv hk hp hq h2 j v hvo.tail (by simp at hvl; omega)
end Go.Avl
namespace Go.Avl
open Go Go.Proofs.Try
set_option maxRecDepth 10000
set_option linter.unusedSimpArgs false

theorem countP_lt {α : Type} {p q : α → Bool} : ∀ {l : List α}, (∀ x ∈ l, p x = true → q x = true) → (∃ x ∈ l, q x = true ∧ p x = false) → l.countP p < l.countP q
  | [], _, ⟨x, h, _⟩ => by cases h
  | y :: l, hpq, ⟨x, hx, h1, h2⟩ => by
    have hm : l.countP p ≤ l.countP q := List.countP_mono_left fun x hx => hpq x (List.mem_cons_of_mem _ hx)
    rw [List.countP_cons, List.countP_cons]
    rcases List.mem_cons.1 hx with rfl | hx
    · rw [h1, h2]; simp; omega
    · have := countP_lt (fun x hx => hpq x (List.mem_cons_of_mem _ hx)) ⟨x, hx, h1, h2⟩
      have h3 := hpq y List.mem_cons_self
      by_cases h4 : p y = true
      · rw [if_pos h4, if_pos (h3 h4)]; omega
      · rw [if_neg h4]; split <;> omega
open Classical in
noncomputable def leadB (m : Mach) (k : Nat) (s : Nat) : Bool := decide (∀ t < s, ¬ Alike m k t s)
noncomputable def cntL (m : Mach) (k : Nat) : Nat := (List.range m.rows.length).countP (leadB m k)
theorem Alike.symm {m : Mach} {k s t : Nat} (h : Alike m k s t) : Alike m k t s := fun v h1 h2 => (h v h1 h2).symm
theorem Alike.trans {m : Mach} {k s t u : Nat} (h : Alike m k s t) (h' : Alike m k t u) : Alike m k s u := fun v h1 h2 => (h v h1 h2).trans (h' v h1 h2)
theorem Alike.le {m : Mach} {k j s t : Nat} (h : Alike m k s t) (hj : j ≤ k) : Alike m j s t := fun v h1 h2 => h v h1 (by omega)
/-- The least state of a class. -/
theorem lead_of (m : Mach) (k : Nat) : ∀ s, ∃ c, c ≤ s ∧ Alike m k c s ∧ leadB m k c = true := fun s => by
  induction s using Nat.strongRecOn with
  | _ s ih =>
    by_cases h : ∃ t, t < s ∧ Alike m k t s
    · obtain ⟨t, h1, h2⟩ := h
      obtain ⟨c, h3, h4, h5⟩ := ih t h1
      exact ⟨c, by omega, h4.trans h2, h5⟩
    · exact ⟨s, Nat.le_refl _, fun _ _ _ => rfl, by simp only [leadB, decide_eq_true_eq]; exact fun t h1 h2 => h ⟨t, h1, h2⟩⟩
theorem cntL_grows {m : Mach} {k : Nat} (h : ¬ ∀ s t, s < m.rows.length → t < m.rows.length → Alike m k s t → Alike m (k + 1) s t) : cntL m k < cntL m (k + 1) := by
  refine countP_lt (fun s _ hs => ?_) ?_
  · simp only [leadB, decide_eq_true_eq] at hs ⊢
    exact fun t h1 h2 => hs t h1 (h2.le (by omega))
  · simp only [Classical.not_forall] at h
    obtain ⟨s, t, hs, ht, h1, h2⟩ := h
    obtain ⟨c, c1, c2, c3⟩ := lead_of m k s
    -- one of the two is no longer like c
    have : ∃ u, u < m.rows.length ∧ Alike m k c u ∧ ¬ Alike m (k + 1) c u := by
      by_cases h3 : Alike m (k + 1) c s
      · exact ⟨t, ht, c2.trans h1, fun h4 => h2 (h3.symm.trans h4)⟩
      · exact ⟨s, hs, c2, h3⟩
    obtain ⟨u, hu, u1, u2⟩ := this
    obtain ⟨d, d1, d2, d3⟩ := lead_of m (k + 1) u
    have hcd : Alike m k c d := u1.trans (d2.le (by omega)).symm
    have hne : c ≠ d := fun e => u2 (by rw [e]; exact d2)
    refine ⟨d, List.mem_range.2 (by omega), d3, ?_⟩
    have hlt : c < d := by
      by_cases h5 : c < d
      · exact h5
      · have h6 : d < c := by omega
        simp only [leadB, decide_eq_true_eq] at c3
        exact absurd hcd.symm (c3 d h6)
    rw [Bool.eq_false_iff]
    intro h7
    simp only [leadB, decide_eq_true_eq] at h7
    exact h7 c hlt hcd
theorem alike_all {m : Mach} (hv : Valid m) {k s t : Nat} (hk : m.rows.length ≤ k + 1) (hs : s < m.rows.length) (ht : t < m.rows.length) (h : Alike m k s t) : ∀ v, WOk m.ins.toNat v → runR m s v = runR m t v := by
  have hN := hv.rows
  have hex : ∃ j, j + 1 ≤ m.rows.length ∧ ∀ s t, s < m.rows.length → t < m.rows.length → Alike m j s t → Alike m (j + 1) s t := by
    by_cases hx : ∃ j, j + 1 ≤ m.rows.length ∧ ∀ s t, s < m.rows.length → t < m.rows.length → Alike m j s t → Alike m (j + 1) s t
    · exact hx
    · exfalso
      have hg : ∀ j, j ≤ m.rows.length → j + 1 ≤ cntL m j := fun j => by
        induction j with
        | zero =>
          intro _
          have : 0 < cntL m 0 := List.countP_pos_iff.2 ⟨0, List.mem_range.2 (by omega), by simp [leadB]⟩
          omega
        | succ j ih =>
          intro hj
          have h1 := ih (by omega)
          have h2 := cntL_grows (m := m) (k := j) fun h => hx ⟨j, hj, h⟩
          omega
      have h1 := hg m.rows.length (Nat.le_refl _)
      have h2 : cntL m m.rows.length ≤ m.rows.length := by
        have := List.countP_le_length (p := leadB m m.rows.length) (l := List.range m.rows.length)
        simpa [cntL] using this
      omega
  obtain ⟨j, hj, hst⟩ := hex
  intro v hvo
  exact alike_succ hv hst hs ht (h.le (by omega)) v.length v hvo (by omega)
/-- The separating word, or none. -/
theorem sepW_spec {m : Mach} (hv : Valid m) {s t : Nat} (hs : s < m.rows.length) (ht : t < m.rows.length) :
    (sepW m s t = [] ∧ ∀ v, WOk m.ins.toNat v → runR m s v = runR m t v) ∨ (sepW m s t ≠ [] ∧ Least m s t (sepW m s t)) := by
  have hN := hv.rows
  rcases tab_good hv (max m.rows.length 2 - 1) s t hs ht with ⟨h1, h2⟩ | h
  · exact .inl ⟨h1, alike_all hv (k := max m.rows.length 2 - 1) (by omega) hs ht h2⟩
  · exact .inr h
theorem sepW_lt (m : Mach) (s t : Nat) : (sepW m s t).length < max m.rows.length 2 := by
  have := tabAt_len m (max m.rows.length 2 - 1) s t
  unfold sepW; omega
theorem sepW_symm {m : Mach} (hv : Valid m) {s t : Nat} (hs : s < m.rows.length) (ht : t < m.rows.length) : sepW m s t = sepW m t s := by
  rcases sepW_spec hv hs ht with ⟨h1, h2⟩ | ⟨h1, h2⟩ <;> rcases sepW_spec hv ht hs with ⟨h3, h4⟩ | ⟨h3, h4⟩
  · rw [h1, h3]
  · exact absurd (h2 _ h4.1).symm h4.2.1
  · exact absurd (h4 _ h2.1).symm h2.2.1
  · exact rank_inj h2.1 h4.1 (Nat.le_antisymm (h2.2.2 _ h4.1 h4.2.1.symm) (h4.2.2 _ h2.1 h2.2.1.symm))
theorem rank_lt_len {k : Nat} {v w : List Int} (hw : WOk k w) (h : rank k v ≤ rank k w) : v.length ≤ w.length := by
  by_cases h1 : w.length < v.length
  · have := rank_len hw h1; omega
  · omega
theorem refSep_is {m : Mach} (hv : Valid m) (s t : Nat) (hs : s < m.rows.length) (ht : t < m.rows.length) {w : List Int} (hw : sepW m s t = w) :
    PureIs prog 12 [.ag m.cells, .sc (.int .i64 s), .sc (.int .i64 t)] (.tu [.sl w.isEmpty (w.map intC) .unk, .sc (.bool (!w.isEmpty))]) := by
  have hins := hv.ins
  have hlt := sepW_lt m s t
  have hK : (m.ins.toNat : Int) = m.ins := by omega
  have h1 : 1 ≤ m.ins.toNat := by omega
  rcases sepW_spec hv hs ht with ⟨h2, h3⟩ | ⟨h2, h3⟩
  · rw [hw] at h2; subst h2
    refine refsep_is hv s t (by omega) (by omega) (sumK m.ins.toNat (max m.rows.length 2)) (fun j hj => ?_) [] (.inr ⟨?_, rfl⟩)
    · rw [← hK]
      obtain ⟨k1, k2⟩ := rank_at h1 j
      refine ⟨?_, h3 _ k1⟩
      by_cases h4 : (wordAt m.ins.toNat j).length < max m.rows.length 2
      · exact h4
      · have := rank_ge (k := m.ins.toNat) (wordAt m.ins.toNat j)
        have := sumK_mono (k := m.ins.toNat) (show max m.rows.length 2 ≤ (wordAt m.ins.toNat j).length by omega)
        omega
    · rw [← hK]
      obtain ⟨k1, k2⟩ := rank_at h1 (sumK m.ins.toNat (max m.rows.length 2))
      by_cases h4 : max m.rows.length 2 ≤ (wordAt m.ins.toNat (sumK m.ins.toNat (max m.rows.length 2))).length
      · exact h4
      · have := rank_lt k1
        have := sumK_mono (k := m.ins.toNat) (show (wordAt m.ins.toNat (sumK m.ins.toNat (max m.rows.length 2))).length + 1 ≤ max m.rows.length 2 by omega)
        omega
  · rw [hw] at h2 h3 hlt
    have hat : wordAt m.ins (rank m.ins.toNat w) = w := by rw [← hK]; exact at_rank h1 h3.1
    refine refsep_is hv s t (by omega) (by omega) (rank m.ins.toNat w) (fun j hj => ?_) w (.inl ⟨by rw [hat]; exact hlt, h3.2.1, hat.symm⟩)
    rw [← hK]
    obtain ⟨k1, k2⟩ := rank_at h1 j
    refine ⟨?_, ?_⟩
    · have := rank_lt_len (v := wordAt m.ins.toNat j) h3.1 (by omega)
      omega
    · by_cases h4 : runR m s (wordAt m.ins.toNat j) = runR m t (wordAt m.ins.toNat j)
      · exact h4
      · have := h3.2.2 _ k1 h4; omega
end Go.Avl
namespace Go.Avl
open Go Go.Proofs.Try
set_option maxRecDepth 10000
set_option linter.unusedSimpArgs false

set_option maxHeartbeats 4000000 in
theorem refAfter_is {m : Mach} (hv : Valid m) (nl : Bool) (w : List Int) (c : Cp) (hw : ∀ a ∈ w, 0 ≤ a ∧ a < m.ins) (hl : w.length < 1000000) :
    PureIs prog 24 [.ag m.cells, .sl nl (w.map intC) c] (.sl (nm (namesR m w)).isEmpty ((nm (namesR m w)).map intC) .unk) := by
  have hrw := hv.rows
  refine PureIs.of (nv := 3) (hid := [4, 5, 6, 7, 12, 20]) func24 rfl (by kernel_rfl) (by simp [ntmps24]) fun _ => ?_
  rw [ntmps24, results24]
  refine EvC.seq (EvC.rg (by (simp only [go_sem, Nat.reduceLT, Nat.reduceLeDiff, Nat.reduceEqDiff, Nat.reduceAdd, Nat.reduceSub, Nat.reduceMul, Nat.reduceBEq, Int.reduceToNat, Int.reduceEq, Int.reduceLT, Int.reduceLE, Int.reduceAdd, ↓reduceIte, reduceCtorEq, Mach.cells]) <;> rfl) (by simp) ?_)
  refine EvC.frzB 0 (by (simp only [go_sem, Nat.reduceLT, Nat.reduceLeDiff, Nat.reduceEqDiff, Nat.reduceAdd, Nat.reduceSub, Nat.reduceMul, Nat.reduceBEq, Int.reduceToNat, Int.reduceEq, Int.reduceLT, Int.reduceLE, Int.reduceAdd, ↓reduceIte, reduceCtorEq]) <;> rfl) ?_
  refine EvC.seq (EvC.rg (by (simp only [go_sem, Nat.reduceLT, Nat.reduceLeDiff, Nat.reduceEqDiff, Nat.reduceAdd, Nat.reduceSub, Nat.reduceMul, Nat.reduceBEq, Int.reduceToNat, Int.reduceEq, Int.reduceLT, Int.reduceLE, Int.reduceAdd, ↓reduceIte, reduceCtorEq]) <;> rfl) (by simp) ?_)
  refine EvC.seq ?_
  refine EvC.seq (EvC.rg (by (simp only [go_sem, Nat.reduceLT, Nat.reduceLeDiff, Nat.reduceEqDiff, Nat.reduceAdd, Nat.reduceSub, Nat.reduceMul, Nat.reduceBEq, Int.reduceToNat, Int.reduceEq, Int.reduceLT, Int.reduceLE, Int.reduceAdd, ↓reduceIte, reduceCtorEq]) <;> rfl) (by simp) ?_)
  refine EvC.block ?_  -- 0
  refine EvC.loopS (σ := Nat × List Int) (fun g => ⟨[(1, .sl nl (w.map intC) c), (2, .ia m.cells), (5, .tl 0 g.2.length (g.2.length == 0)), (6, .sc (.int .i64 g.1))], [], [(0, .arr 1 (g.2.map intC) true)], 1⟩) (fun g => m.rows.length - g.1)
    (fun g => g.1 ≤ m.rows.length ∧ g.2 = (List.range g.1).map fun s => ((leastEq (fun k => runR m k w) s : Nat) : Int)) [1, 2, 5, 6] 1 ?_ ?_
  · exact ⟨[(2, 0)], (0, []), rfl, (by (simp only [go_sem, Nat.reduceLT, Nat.reduceLeDiff, Nat.reduceEqDiff, Nat.reduceAdd, Nat.reduceSub, Nat.reduceMul, Nat.reduceBEq, Int.reduceToNat, Int.reduceEq, Int.reduceLT, Int.reduceLE, Int.reduceAdd, ↓reduceIte, reduceCtorEq, Mach.cells, List.length_nil]) <;> rfl), Nat.zero_le _, rfl⟩
  rintro ⟨s, ns⟩ ⟨h1, h2⟩
  simp only at h1 h2
  have hnl : ns.length = s := by rw [h2]; simp
  refine EvC.seq ?_
  refine EvC.seq (EvC.rg (by (simp only [go_sem, Nat.reduceLT, Nat.reduceLeDiff, Nat.reduceEqDiff, Nat.reduceAdd, Nat.reduceSub, Nat.reduceMul, Nat.reduceBEq, Int.reduceToNat, Int.reduceEq, Int.reduceLT, Int.reduceLE, Int.reduceAdd, ↓reduceIte, reduceCtorEq, Mach.cells]) <;> rfl) (by simp) ?_)
  refine EvC.cond (by (simp only [go_sem, Nat.reduceLT, Nat.reduceLeDiff, Nat.reduceEqDiff, Nat.reduceAdd, Nat.reduceSub, Nat.reduceMul, Nat.reduceBEq, Int.reduceToNat, Int.reduceEq, Int.reduceLT, Int.reduceLE, Int.reduceAdd, ↓reduceIte, reduceCtorEq]) <;> rfl) (fun hc => ?_) (fun hc => ?_)
  rotate_left
  · refine EvC.exit ?_  -- 0
    obtain rfl : s = m.rows.length := by have : ¬ s < m.rows.length := by simpa using hc
                                         omega
    have hn : ns = namesR m w := h2
    refine EvC.frz 0 (by (simp only [go_sem, Nat.reduceLT, Nat.reduceLeDiff, Nat.reduceEqDiff, Nat.reduceAdd, Nat.reduceSub, Nat.reduceMul, Nat.reduceBEq, Int.reduceToNat, Int.reduceEq, Int.reduceLT, Int.reduceLE, Int.reduceAdd, ↓reduceIte, reduceCtorEq, List.length_map]) <;> rfl) ?_
    rw [hn]
    apply EvC.seq
    apply EvC.tr
    · apply Tr.run
      · (simp only [go_sem, Nat.reduceLT, Nat.reduceLeDiff, Nat.reduceEqDiff, Nat.reduceAdd, Nat.reduceSub, Nat.reduceMul, Nat.reduceBEq, Int.reduceToNat, Int.reduceEq, Int.reduceLT, Int.reduceLE, Int.reduceAdd, ↓reduceIte, reduceCtorEq]) <;> rfl
      · simp
      apply Tr.cons
      · exact .call rfl rfl (by (simp only [go_sem, Nat.reduceLT, Nat.reduceLeDiff, Nat.reduceEqDiff, Nat.reduceAdd, Nat.reduceSub, Nat.reduceMul, Nat.reduceBEq, Int.reduceToNat, Int.reduceEq, Int.reduceLT, Int.reduceLE, Int.reduceAdd, ↓reduceIte, reduceCtorEq]) <;> rfl) (by (simp only [go_sem, Nat.reduceLT, Nat.reduceLeDiff, Nat.reduceEqDiff, Nat.reduceAdd, Nat.reduceSub, Nat.reduceMul, Nat.reduceBEq, Int.reduceToNat, Int.reduceEq, Int.reduceLT, Int.reduceLE, Int.reduceAdd, ↓reduceIte, reduceCtorEq]) <;> rfl) (by (simp only [go_sem, Nat.reduceLT, Nat.reduceLeDiff, Nat.reduceEqDiff, Nat.reduceAdd, Nat.reduceSub, Nat.reduceMul, Nat.reduceBEq, Int.reduceToNat, Int.reduceEq, Int.reduceLT, Int.reduceLE, Int.reduceAdd, ↓reduceIte, reduceCtorEq]) <;> rfl) (by (simp only [go_sem, Nat.reduceLT, Nat.reduceLeDiff, Nat.reduceEqDiff, Nat.reduceAdd, Nat.reduceSub, Nat.reduceMul, Nat.reduceBEq, Int.reduceToNat, Int.reduceEq, Int.reduceLT, Int.reduceLE, Int.reduceAdd, ↓reduceIte, reduceCtorEq]) <;> rfl) (by (simp only [go_sem, Nat.reduceLT, Nat.reduceLeDiff, Nat.reduceEqDiff, Nat.reduceAdd, Nat.reduceSub, Nat.reduceMul, Nat.reduceBEq, Int.reduceToNat, Int.reduceEq, Int.reduceLT, Int.reduceLE, Int.reduceAdd, ↓reduceIte, reduceCtorEq]) <;> rfl) (of48_is _ (namesR m w) _ (by rw [← hn, hnl]; omega))
      apply Tr.done
      · (simp only [go_sem, Nat.reduceLT, Nat.reduceLeDiff, Nat.reduceEqDiff, Nat.reduceAdd, Nat.reduceSub, Nat.reduceMul, Nat.reduceBEq, Int.reduceToNat, Int.reduceEq, Int.reduceLT, Int.reduceLE, Int.reduceAdd, ↓reduceIte, reduceCtorEq]) <;> rfl
      · simp
    refine EvC.ret ⟨.inl rfl, _, (by (simp only [go_sem, Nat.reduceLT, Nat.reduceLeDiff, Nat.reduceEqDiff, Nat.reduceAdd, Nat.reduceSub, Nat.reduceMul, Nat.reduceBEq, Int.reduceToNat, Int.reduceEq, Int.reduceLT, Int.reduceLE, Int.reduceAdd, ↓reduceIte, reduceCtorEq]) <;> rfl), ?_, rfl⟩
    simp only [go_sem, Nat.reduceLT, Nat.reduceLeDiff, Nat.reduceEqDiff, Nat.reduceAdd, Nat.reduceSub, Nat.reduceMul, Nat.reduceBEq, Int.reduceToNat, Int.reduceEq, Int.reduceLT, Int.reduceLE, Int.reduceAdd, ↓reduceIte, reduceCtorEq]
  have hs : s < m.rows.length := by simpa using hc
  clear hc
  obtain ⟨kk, kk1, kk2, kk3, kk4⟩ := leastEq_ex (fun k : Nat => runR m k w) s
  refine EvC.skip ?_
  refine EvC.seq ?_
  refine EvC.block ?_  -- 1
  refine EvC.seq (EvC.rg (by (simp only [go_sem, Nat.reduceLT, Nat.reduceLeDiff, Nat.reduceEqDiff, Nat.reduceAdd, Nat.reduceSub, Nat.reduceMul, Nat.reduceBEq, Int.reduceToNat, Int.reduceEq, Int.reduceLT, Int.reduceLE, Int.reduceAdd, ↓reduceIte, reduceCtorEq]) <;> rfl) (by simp) ?_)
  refine EvC.seq ?_
  refine EvC.block ?_  -- 2
  refine EvC.loopS (σ := Nat) (fun k => ⟨[(1, .sl nl (w.map intC) c), (2, .ia m.cells), (5, .tl 0 ns.length (ns.length == 0)), (6, .sc (.int .i64 s)), (7, .sc (.int .i64 k))], [], [(0, .arr 1 (ns.map intC) true)], 1⟩) (fun k => kk - k) (fun k => k ≤ kk) [1, 2, 5, 6, 7] 1 ?_ ?_
  · exact ⟨[(0, 0)], 0, rfl, (by (simp only [go_sem, Nat.reduceLT, Nat.reduceLeDiff, Nat.reduceEqDiff, Nat.reduceAdd, Nat.reduceSub, Nat.reduceMul, Nat.reduceBEq, Int.reduceToNat, Int.reduceEq, Int.reduceLT, Int.reduceLE, Int.reduceAdd, ↓reduceIte, reduceCtorEq, Mach.cells]) <;> rfl), Nat.zero_le _⟩
  intro k hk
  refine EvC.seq ?_
  have hsp := splits_is hv s k (by omega) (by omega) nl w c hw hl
  by_cases hd : runR m s w = runR m k w
  · rw [if_pos hd] at hsp
    have hkk : k = kk := by
      by_cases h : k < kk
      · exact absurd hd.symm (kk3 k h)
      · omega
    subst hkk
    apply EvC.seq
    apply EvC.tr
    · apply Tr.run
      · (simp only [go_sem, Nat.reduceLT, Nat.reduceLeDiff, Nat.reduceEqDiff, Nat.reduceAdd, Nat.reduceSub, Nat.reduceMul, Nat.reduceBEq, Int.reduceToNat, Int.reduceEq, Int.reduceLT, Int.reduceLE, Int.reduceAdd, ↓reduceIte, reduceCtorEq, Mach.cells]) <;> rfl
      · simp
      apply Tr.cons
      · exact .call rfl rfl (by (simp only [go_sem, Nat.reduceLT, Nat.reduceLeDiff, Nat.reduceEqDiff, Nat.reduceAdd, Nat.reduceSub, Nat.reduceMul, Nat.reduceBEq, Int.reduceToNat, Int.reduceEq, Int.reduceLT, Int.reduceLE, Int.reduceAdd, ↓reduceIte, reduceCtorEq]) <;> rfl) (by (simp only [go_sem, Nat.reduceLT, Nat.reduceLeDiff, Nat.reduceEqDiff, Nat.reduceAdd, Nat.reduceSub, Nat.reduceMul, Nat.reduceBEq, Int.reduceToNat, Int.reduceEq, Int.reduceLT, Int.reduceLE, Int.reduceAdd, ↓reduceIte, reduceCtorEq]) <;> rfl) (by (simp only [go_sem, Nat.reduceLT, Nat.reduceLeDiff, Nat.reduceEqDiff, Nat.reduceAdd, Nat.reduceSub, Nat.reduceMul, Nat.reduceBEq, Int.reduceToNat, Int.reduceEq, Int.reduceLT, Int.reduceLE, Int.reduceAdd, ↓reduceIte, reduceCtorEq]) <;> rfl) (by (simp only [go_sem, Nat.reduceLT, Nat.reduceLeDiff, Nat.reduceEqDiff, Nat.reduceAdd, Nat.reduceSub, Nat.reduceMul, Nat.reduceBEq, Int.reduceToNat, Int.reduceEq, Int.reduceLT, Int.reduceLE, Int.reduceAdd, ↓reduceIte, reduceCtorEq]) <;> rfl) (by (simp only [go_sem, Nat.reduceLT, Nat.reduceLeDiff, Nat.reduceEqDiff, Nat.reduceAdd, Nat.reduceSub, Nat.reduceMul, Nat.reduceBEq, Int.reduceToNat, Int.reduceEq, Int.reduceLT, Int.reduceLE, Int.reduceAdd, ↓reduceIte, reduceCtorEq]) <;> rfl) (hsp)
      apply Tr.done
      · (simp only [go_sem, Nat.reduceLT, Nat.reduceLeDiff, Nat.reduceEqDiff, Nat.reduceAdd, Nat.reduceSub, Nat.reduceMul, Nat.reduceBEq, Int.reduceToNat, Int.reduceEq, Int.reduceLT, Int.reduceLE, Int.reduceAdd, ↓reduceIte, reduceCtorEq]) <;> rfl
      · simp
    refine EvC.cond_false (by (simp only [go_sem, Nat.reduceLT, Nat.reduceLeDiff, Nat.reduceEqDiff, Nat.reduceAdd, Nat.reduceSub, Nat.reduceMul, Nat.reduceBEq, Int.reduceToNat, Int.reduceEq, Int.reduceLT, Int.reduceLE, Int.reduceAdd, ↓reduceIte, reduceCtorEq]) <;> rfl) ?_
    refine EvC.exit ?_  -- 2
    have hI1 : inI64 ((s : Int) + 1) = true := inI64_of (by omega) (by omega)
    refine EvC.rg (by (simp only [go_sem, Nat.reduceLT, Nat.reduceLeDiff, Nat.reduceEqDiff, Nat.reduceAdd, Nat.reduceSub, Nat.reduceMul, Nat.reduceBEq, Int.reduceToNat, Int.reduceEq, Int.reduceLT, Int.reduceLE, Int.reduceAdd, ↓reduceIte, reduceCtorEq, List.length_map]) <;> rfl) (by simp [room_eq, AV.norefs, AV.noref, hnl]; omega) ?_
    refine EvC.rg (by (simp only [go_sem, Nat.reduceLT, Nat.reduceLeDiff, Nat.reduceEqDiff, Nat.reduceAdd, Nat.reduceSub, Nat.reduceMul, Nat.reduceBEq, Int.reduceToNat, Int.reduceEq, Int.reduceLT, Int.reduceLE, Int.reduceAdd, ↓reduceIte, reduceCtorEq]) <;> rfl) (by simpa using hI1) ?_
    have hne : (ns.length + 1 == 0) = false := by simp
    refine ⟨[(0, 0)], (s + 1, ns ++ [(k : Int)]), rfl, (by (simp only [go_sem, Nat.reduceLT, Nat.reduceLeDiff, Nat.reduceEqDiff, Nat.reduceAdd, Nat.reduceSub, Nat.reduceMul, Nat.reduceBEq, Int.reduceToNat, Int.reduceEq, Int.reduceLT, Int.reduceLE, Int.reduceAdd, ↓reduceIte, reduceCtorEq, Mach.cells, Int.natCast_add, Int.natCast_one, List.length_append, List.length_map, List.length_cons, List.length_nil, Nat.zero_add, intC, hne]) <;> rfl), ⟨by simp only; omega, ?_⟩, by simp only; omega⟩
    simp only
    rw [List.range_succ, List.map_append, ← h2]
    simp [kk4]
  · rw [if_neg hd] at hsp
    have hkk : k < kk := by
      by_cases h : k < kk
      · exact h
      · obtain rfl : k = kk := by omega
        exact absurd kk2.symm hd
    apply EvC.seq
    apply EvC.tr
    · apply Tr.run
      · (simp only [go_sem, Nat.reduceLT, Nat.reduceLeDiff, Nat.reduceEqDiff, Nat.reduceAdd, Nat.reduceSub, Nat.reduceMul, Nat.reduceBEq, Int.reduceToNat, Int.reduceEq, Int.reduceLT, Int.reduceLE, Int.reduceAdd, ↓reduceIte, reduceCtorEq, Mach.cells]) <;> rfl
      · simp
      apply Tr.cons
      · exact .call rfl rfl (by (simp only [go_sem, Nat.reduceLT, Nat.reduceLeDiff, Nat.reduceEqDiff, Nat.reduceAdd, Nat.reduceSub, Nat.reduceMul, Nat.reduceBEq, Int.reduceToNat, Int.reduceEq, Int.reduceLT, Int.reduceLE, Int.reduceAdd, ↓reduceIte, reduceCtorEq]) <;> rfl) (by (simp only [go_sem, Nat.reduceLT, Nat.reduceLeDiff, Nat.reduceEqDiff, Nat.reduceAdd, Nat.reduceSub, Nat.reduceMul, Nat.reduceBEq, Int.reduceToNat, Int.reduceEq, Int.reduceLT, Int.reduceLE, Int.reduceAdd, ↓reduceIte, reduceCtorEq]) <;> rfl) (by (simp only [go_sem, Nat.reduceLT, Nat.reduceLeDiff, Nat.reduceEqDiff, Nat.reduceAdd, Nat.reduceSub, Nat.reduceMul, Nat.reduceBEq, Int.reduceToNat, Int.reduceEq, Int.reduceLT, Int.reduceLE, Int.reduceAdd, ↓reduceIte, reduceCtorEq]) <;> rfl) (by (simp only [go_sem, Nat.reduceLT, Nat.reduceLeDiff, Nat.reduceEqDiff, Nat.reduceAdd, Nat.reduceSub, Nat.reduceMul, Nat.reduceBEq, Int.reduceToNat, Int.reduceEq, Int.reduceLT, Int.reduceLE, Int.reduceAdd, ↓reduceIte, reduceCtorEq]) <;> rfl) (by (simp only [go_sem, Nat.reduceLT, Nat.reduceLeDiff, Nat.reduceEqDiff, Nat.reduceAdd, Nat.reduceSub, Nat.reduceMul, Nat.reduceBEq, Int.reduceToNat, Int.reduceEq, Int.reduceLT, Int.reduceLE, Int.reduceAdd, ↓reduceIte, reduceCtorEq]) <;> rfl) (hsp)
      apply Tr.done
      · (simp only [go_sem, Nat.reduceLT, Nat.reduceLeDiff, Nat.reduceEqDiff, Nat.reduceAdd, Nat.reduceSub, Nat.reduceMul, Nat.reduceBEq, Int.reduceToNat, Int.reduceEq, Int.reduceLT, Int.reduceLE, Int.reduceAdd, ↓reduceIte, reduceCtorEq]) <;> rfl
      · simp
    refine EvC.cond_true (by (simp only [go_sem, Nat.reduceLT, Nat.reduceLeDiff, Nat.reduceEqDiff, Nat.reduceAdd, Nat.reduceSub, Nat.reduceMul, Nat.reduceBEq, Int.reduceToNat, Int.reduceEq, Int.reduceLT, Int.reduceLE, Int.reduceAdd, ↓reduceIte, reduceCtorEq]) <;> rfl) ?_
    refine EvC.skip ?_
    refine EvC.block ?_  -- 3
    have hI2 : inI64 ((k : Int) + 1) = true := inI64_of (by omega) (by omega)
    refine EvC.rg (by (simp only [go_sem, Nat.reduceLT, Nat.reduceLeDiff, Nat.reduceEqDiff, Nat.reduceAdd, Nat.reduceSub, Nat.reduceMul, Nat.reduceBEq, Int.reduceToNat, Int.reduceEq, Int.reduceLT, Int.reduceLE, Int.reduceAdd, ↓reduceIte, reduceCtorEq]) <;> rfl) (by simpa using hI2) ?_
    exact ⟨[(0, 0)], k + 1, rfl, (by (simp only [go_sem, Nat.reduceLT, Nat.reduceLeDiff, Nat.reduceEqDiff, Nat.reduceAdd, Nat.reduceSub, Nat.reduceMul, Nat.reduceBEq, Int.reduceToNat, Int.reduceEq, Int.reduceLT, Int.reduceLE, Int.reduceAdd, ↓reduceIte, reduceCtorEq, Mach.cells, Int.natCast_add, Int.natCast_one]) <;> rfl), by omega, by omega⟩
end Go.Avl
namespace Go.Avl
open Go Go.Proofs.Try
set_option maxRecDepth 10000
set_option linter.unusedSimpArgs false

abbrev Mtx := Nat → Nat → Bool
def mrow (cp : Cp) (n : Nat) (M : Mtx) (i : Nat) : List AV := [.sl false (((List.range n).map (M i)).map boolC) cp]
@[go_sem] theorem norefs_mrow (cp : Cp) (n : Nat) (M : Mtx) (l : List Nat) : (l.map (mrow cp n M)).all AV.norefs = true := by
  rw [List.all_eq_true]
  intro y hy
  obtain ⟨i, _, rfl⟩ := List.mem_map.1 hy
  simp only [mrow, AV.norefs, AV.noref, norefs_bool, Bool.and_self]
def condM (M : Mtx) (x y : Int × Int) : Bool := !decide (x.2 = y.2) || (decide (0 ≤ x.1) && decide (0 ≤ y.1) && M x.1.toNat y.1.toNat)
def apartB (m : Mach) (M : Mtx) (s t : Nat) : Bool := (List.range m.ins.toNat).any fun a => condM M (ex (rowAt m s) a) (ex (rowAt m t) a)
theorem any_range {n i : Nat} {p : Nat → Bool} (hi : i < n) (hp : p i = true) : (List.range n).any p = true := List.any_eq_true.2 ⟨i, List.mem_range.2 hi, hp⟩

set_option maxHeartbeats 4000000 in
theorem apart_is {m : Mach} (hv : Valid m) (M : Mtx) (cp cq : Cp) (nl : Bool) (s t : Nat) (hs : s < m.rows.length) (ht : t < m.rows.length) :
    PureIs prog 66 [.ag m.cells, .sl nl ((List.range m.rows.length).map (mrow cp m.rows.length M)) cq, .sc (.int .i64 s), .sc (.int .i64 t)] (.sc (.int .i64 (if apartB m M s t = true then 1 else 0))) := by
  have hins := hv.ins
  have hes : m.rows[s]? = some m.rows[s] := List.getElem?_eq_getElem hs
  have het : m.rows[t]? = some m.rows[t] := List.getElem?_eq_getElem ht
  have hls := row_len hv hs
  have hlt := row_len hv ht
  have hrs : rowAt m s = m.rows[s].2 := by simp [rowAt, hes]
  have hrt : rowAt m t = m.rows[t].2 := by simp [rowAt, het]
  generalize m.rows[s] = r at hes hrs
  generalize m.rows[t] = q at het hrt
  refine PureIs.of (nv := 5) (hid := [8, 9, 10, 11, 15, 59]) func66 rfl (by kernel_rfl) (by simp [ntmps66]) fun _ => ?_
  rw [ntmps66, results66]
  refine EvC.seq (EvC.rg (by (simp only [go_sem, Nat.reduceLT, Nat.reduceLeDiff, Nat.reduceEqDiff, Nat.reduceAdd, Nat.reduceSub, Nat.reduceMul, Nat.reduceBEq, Int.reduceToNat, Int.reduceEq, Int.reduceLT, Int.reduceLE, Int.reduceAdd, ↓reduceIte, reduceCtorEq, Mach.cells]) <;> rfl) (by simp) ?_)
  refine EvC.frzB 0 (by (simp only [go_sem, Nat.reduceLT, Nat.reduceLeDiff, Nat.reduceEqDiff, Nat.reduceAdd, Nat.reduceSub, Nat.reduceMul, Nat.reduceBEq, Int.reduceToNat, Int.reduceEq, Int.reduceLT, Int.reduceLE, Int.reduceAdd, ↓reduceIte, reduceCtorEq]) <;> rfl) ?_
  refine EvC.seq ?_
  refine EvC.seq (EvC.rg (by (simp only [go_sem, Nat.reduceLT, Nat.reduceLeDiff, Nat.reduceEqDiff, Nat.reduceAdd, Nat.reduceSub, Nat.reduceMul, Nat.reduceBEq, Int.reduceToNat, Int.reduceEq, Int.reduceLT, Int.reduceLE, Int.reduceAdd, ↓reduceIte, reduceCtorEq]) <;> rfl) (by simp) ?_)
  refine EvC.block ?_  -- 0
  refine EvC.loopS (σ := Nat) (fun a => ⟨[(1, .sl nl ((List.range m.rows.length).map (mrow cp m.rows.length M)) cq), (2, .sc (.int .i64 s)), (3, .sc (.int .i64 t)), (4, .ia m.cells), (9, .sc (.int .i64 a))], [], [], 0⟩) (fun a => m.ins.toNat - a)
    (fun a => a ≤ m.ins.toNat ∧ ∀ b < a, condM M (ex (rowAt m s) b) (ex (rowAt m t) b) = false) [1, 2, 3, 4, 9] 0 ?_ ?_
  · exact ⟨[], 0, rfl, (by (simp only [go_sem, Nat.reduceLT, Nat.reduceLeDiff, Nat.reduceEqDiff, Nat.reduceAdd, Nat.reduceSub, Nat.reduceMul, Nat.reduceBEq, Int.reduceToNat, Int.reduceEq, Int.reduceLT, Int.reduceLE, Int.reduceAdd, ↓reduceIte, reduceCtorEq, Mach.cells]) <;> rfl), Nat.zero_le _, fun b hb => by omega⟩
  rintro a ⟨h1, h2⟩
  refine EvC.seq ?_
  refine EvC.seq (EvC.rg (by (simp only [go_sem, Nat.reduceLT, Nat.reduceLeDiff, Nat.reduceEqDiff, Nat.reduceAdd, Nat.reduceSub, Nat.reduceMul, Nat.reduceBEq, Int.reduceToNat, Int.reduceEq, Int.reduceLT, Int.reduceLE, Int.reduceAdd, ↓reduceIte, reduceCtorEq, Mach.cells]) <;> rfl) (by simp) ?_)
  refine EvC.cond (by (simp only [go_sem, Nat.reduceLT, Nat.reduceLeDiff, Nat.reduceEqDiff, Nat.reduceAdd, Nat.reduceSub, Nat.reduceMul, Nat.reduceBEq, Int.reduceToNat, Int.reduceEq, Int.reduceLT, Int.reduceLE, Int.reduceAdd, ↓reduceIte, reduceCtorEq]) <;> rfl) (fun hc => ?_) (fun hc => ?_)
  rotate_left
  · refine EvC.exit ?_  -- 0
    have ha : ¬ (a : Int) < m.ins := by simpa using hc
    refine EvC.seq (EvC.rg (by (simp only [go_sem, Nat.reduceLT, Nat.reduceLeDiff, Nat.reduceEqDiff, Nat.reduceAdd, Nat.reduceSub, Nat.reduceMul, Nat.reduceBEq, Int.reduceToNat, Int.reduceEq, Int.reduceLT, Int.reduceLE, Int.reduceAdd, ↓reduceIte, reduceCtorEq]) <;> rfl) (by simp) ?_)
    refine EvC.ret ⟨.inl rfl, _, (by (simp only [go_sem, Nat.reduceLT, Nat.reduceLeDiff, Nat.reduceEqDiff, Nat.reduceAdd, Nat.reduceSub, Nat.reduceMul, Nat.reduceBEq, Int.reduceToNat, Int.reduceEq, Int.reduceLT, Int.reduceLE, Int.reduceAdd, ↓reduceIte, reduceCtorEq]) <;> rfl), ?_, rfl⟩
    simp only [go_sem, Nat.reduceLT, Nat.reduceLeDiff, Nat.reduceEqDiff, Nat.reduceAdd, Nat.reduceSub, Nat.reduceMul, Nat.reduceBEq, Int.reduceToNat, Int.reduceEq, Int.reduceLT, Int.reduceLE, Int.reduceAdd, ↓reduceIte, reduceCtorEq]
    rw [if_neg]
    rw [apartB, Bool.not_eq_true, List.any_eq_false]
    intro b hb
    rw [h2 b (by have := List.mem_range.1 hb; omega)]; simp
  have ha : a < m.ins.toNat := by have : (a : Int) < m.ins := by simpa using hc
                                  omega
  clear hc
  have hxs : r.2[a]? = some (ex (rowAt m s) a) := by
    rw [hrs] at hls ⊢
    rw [ex, List.getElem?_eq_getElem (by omega)]; rfl
  have hxt : q.2[a]? = some (ex (rowAt m t) a) := by
    rw [hrt] at hlt ⊢
    rw [ex, List.getElem?_eq_getElem (by omega)]; rfl
  have hI1 : inI64 ((a : Int) + 1) = true := inI64_of (by omega) (by omega)
  have hbo := fun h => ex_both hv hs ht ha h
  have hxf := ex_fits hv hs ha
  have hyf := ex_fits hv ht ha
  have hap : condM M (ex (rowAt m s) a) (ex (rowAt m t) a) = true → apartB m M s t = true := fun h => any_range ha h
  have hnx : condM M (ex (rowAt m s) a) (ex (rowAt m t) a) = false → ∀ b < a + 1, condM M (ex (rowAt m s) b) (ex (rowAt m t) b) = false := fun h b hb => by
    by_cases e : b = a
    · subst e; exact h
    · exact h2 b (by omega)
  generalize ex (rowAt m s) a = x at hxs hbo hap hnx hxf
  generalize ex (rowAt m t) a = y at hxt hbo hap hnx hyf
  refine EvC.skip ?_
  refine EvC.seq ?_
  refine EvC.block ?_  -- 1
  apply EvC.seq
  apply EvC.drd mixed
  · (simp only [go_sem, Nat.reduceLT, Nat.reduceLeDiff, Nat.reduceEqDiff, Nat.reduceAdd, Nat.reduceSub, Nat.reduceMul, Nat.reduceBEq, Int.reduceToNat, Int.reduceEq, Int.reduceLT, Int.reduceLE, Int.reduceAdd, ↓reduceIte, reduceCtorEq, Mach.cells, Int.toNat_natCast, hes, het, hxs, hxt, rowC, edgeC]) <;> rfl
  · simp; try omega
  · kernel_rfl
  by_cases ho : x.2 = y.2
  · have ho' : decide (x.2 = y.2) = true := decide_eq_true ho
    have hbo := hbo ho
    rcases hbo with ⟨e1, e2⟩ | ⟨p, u, e1, e2, hp, hu⟩
    · have d1 : decide (0 ≤ x.1) = false := decide_eq_false (by omega)
      have t1 : x.1.toNat = 0 := by omega
      have t2 : y.1.toNat = 0 := by omega
      have hpg : (List.range m.rows.length)[0]? = some 0 := List.getElem?_range (by omega)
      apply EvC.seq
      apply EvC.drd mixed
      · (simp only [go_sem, Nat.reduceLT, Nat.reduceLeDiff, Nat.reduceEqDiff, Nat.reduceAdd, Nat.reduceSub, Nat.reduceMul, Nat.reduceBEq, Int.reduceToNat, Int.reduceEq, Int.reduceLT, Int.reduceLE, Int.reduceAdd, ↓reduceIte, reduceCtorEq, ho, ho', d1, decide_not, t1, t2, hpg, mrow, boolC, List.length_map, List.length_range]) <;> rfl
      · simp; try omega
      · kernel_rfl
      refine EvC.cond_false (by (simp only [go_sem, Nat.reduceLT, Nat.reduceLeDiff, Nat.reduceEqDiff, Nat.reduceAdd, Nat.reduceSub, Nat.reduceMul, Nat.reduceBEq, Int.reduceToNat, Int.reduceEq, Int.reduceLT, Int.reduceLE, Int.reduceAdd, ↓reduceIte, reduceCtorEq, ho, d1]) <;> rfl) ?_
      refine EvC.skip ?_
      refine EvC.rg (by (simp only [go_sem, Nat.reduceLT, Nat.reduceLeDiff, Nat.reduceEqDiff, Nat.reduceAdd, Nat.reduceSub, Nat.reduceMul, Nat.reduceBEq, Int.reduceToNat, Int.reduceEq, Int.reduceLT, Int.reduceLE, Int.reduceAdd, ↓reduceIte, reduceCtorEq]) <;> rfl) (by simpa using hI1) ?_
      exact ⟨[], a + 1, rfl, (by (simp only [go_sem, Nat.reduceLT, Nat.reduceLeDiff, Nat.reduceEqDiff, Nat.reduceAdd, Nat.reduceSub, Nat.reduceMul, Nat.reduceBEq, Int.reduceToNat, Int.reduceEq, Int.reduceLT, Int.reduceLE, Int.reduceAdd, ↓reduceIte, reduceCtorEq, Mach.cells, Int.natCast_add, Int.natCast_one]) <;> rfl), ⟨by omega, hnx (by simp [condM, ho, e1])⟩, by omega⟩
    · have d1 : decide (0 ≤ x.1) = true := decide_eq_true (by omega)
      have d2 : decide (0 ≤ y.1) = true := decide_eq_true (by omega)
      have hpg : (List.range m.rows.length)[p]? = some p := List.getElem?_range hp
      have hug : (List.range m.rows.length)[u]? = some u := List.getElem?_range hu
      obtain ⟨b, hb⟩ : ∃ b, M p u = b := ⟨_, rfl⟩
      have hcd : condM M x y = b := by simp [condM, ho, e1, e2, hb]
      have t1 : x.1.toNat = p := by omega
      have t2 : y.1.toNat = u := by omega
      apply EvC.seq
      apply EvC.drd mixed
      · (simp only [go_sem, Nat.reduceLT, Nat.reduceLeDiff, Nat.reduceEqDiff, Nat.reduceAdd, Nat.reduceSub, Nat.reduceMul, Nat.reduceBEq, Int.reduceToNat, Int.reduceEq, Int.reduceLT, Int.reduceLE, Int.reduceAdd, ↓reduceIte, reduceCtorEq, ho, ho', d1, d2, decide_not, t1, t2, hpg, hug, mrow, boolC, hb, List.length_map, List.length_range]) <;> rfl
      · simp; try omega
      · kernel_rfl
      cases b
      · refine EvC.cond_false (by (simp only [go_sem, Nat.reduceLT, Nat.reduceLeDiff, Nat.reduceEqDiff, Nat.reduceAdd, Nat.reduceSub, Nat.reduceMul, Nat.reduceBEq, Int.reduceToNat, Int.reduceEq, Int.reduceLT, Int.reduceLE, Int.reduceAdd, ↓reduceIte, reduceCtorEq, ho, d1, d2, hb]) <;> rfl) ?_
        refine EvC.skip ?_
        refine EvC.rg (by (simp only [go_sem, Nat.reduceLT, Nat.reduceLeDiff, Nat.reduceEqDiff, Nat.reduceAdd, Nat.reduceSub, Nat.reduceMul, Nat.reduceBEq, Int.reduceToNat, Int.reduceEq, Int.reduceLT, Int.reduceLE, Int.reduceAdd, ↓reduceIte, reduceCtorEq]) <;> rfl) (by simpa using hI1) ?_
        exact ⟨[], a + 1, rfl, (by (simp only [go_sem, Nat.reduceLT, Nat.reduceLeDiff, Nat.reduceEqDiff, Nat.reduceAdd, Nat.reduceSub, Nat.reduceMul, Nat.reduceBEq, Int.reduceToNat, Int.reduceEq, Int.reduceLT, Int.reduceLE, Int.reduceAdd, ↓reduceIte, reduceCtorEq, Mach.cells, Int.natCast_add, Int.natCast_one]) <;> rfl), ⟨by omega, hnx hcd⟩, by omega⟩
      · refine EvC.cond_true (by (simp only [go_sem, Nat.reduceLT, Nat.reduceLeDiff, Nat.reduceEqDiff, Nat.reduceAdd, Nat.reduceSub, Nat.reduceMul, Nat.reduceBEq, Int.reduceToNat, Int.reduceEq, Int.reduceLT, Int.reduceLE, Int.reduceAdd, ↓reduceIte, reduceCtorEq, ho, d1, d2, hb]) <;> rfl) ?_
        refine EvC.seq (EvC.rg (by (simp only [go_sem, Nat.reduceLT, Nat.reduceLeDiff, Nat.reduceEqDiff, Nat.reduceAdd, Nat.reduceSub, Nat.reduceMul, Nat.reduceBEq, Int.reduceToNat, Int.reduceEq, Int.reduceLT, Int.reduceLE, Int.reduceAdd, ↓reduceIte, reduceCtorEq]) <;> rfl) (by simp) ?_)
        refine EvC.ret ⟨.inl rfl, _, (by (simp only [go_sem, Nat.reduceLT, Nat.reduceLeDiff, Nat.reduceEqDiff, Nat.reduceAdd, Nat.reduceSub, Nat.reduceMul, Nat.reduceBEq, Int.reduceToNat, Int.reduceEq, Int.reduceLT, Int.reduceLE, Int.reduceAdd, ↓reduceIte, reduceCtorEq]) <;> rfl), ?_, rfl⟩
        simp only [go_sem, Nat.reduceLT, Nat.reduceLeDiff, Nat.reduceEqDiff, Nat.reduceAdd, Nat.reduceSub, Nat.reduceMul, Nat.reduceBEq, Int.reduceToNat, Int.reduceEq, Int.reduceLT, Int.reduceLE, Int.reduceAdd, ↓reduceIte, reduceCtorEq]
        rw [if_pos (hap hcd)]
  · have ho' : decide (x.2 = y.2) = false := decide_eq_false ho
    clear hbo
    have hpg : (List.range m.rows.length)[x.1.toNat]? = some x.1.toNat := List.getElem?_range (by omega)
    have hug : (List.range m.rows.length)[y.1.toNat]? = some y.1.toNat := List.getElem?_range (by omega)
    apply EvC.seq
    apply EvC.drd mixed
    · (simp only [go_sem, Nat.reduceLT, Nat.reduceLeDiff, Nat.reduceEqDiff, Nat.reduceAdd, Nat.reduceSub, Nat.reduceMul, Nat.reduceBEq, Int.reduceToNat, Int.reduceEq, Int.reduceLT, Int.reduceLE, Int.reduceAdd, ↓reduceIte, reduceCtorEq, ho, ho', decide_not, hpg, hug, mrow, boolC, List.length_map, List.length_range]) <;> rfl
    · simp; try omega
    · kernel_rfl
    refine EvC.cond_true (by (simp only [go_sem, Nat.reduceLT, Nat.reduceLeDiff, Nat.reduceEqDiff, Nat.reduceAdd, Nat.reduceSub, Nat.reduceMul, Nat.reduceBEq, Int.reduceToNat, Int.reduceEq, Int.reduceLT, Int.reduceLE, Int.reduceAdd, ↓reduceIte, reduceCtorEq, ho]) <;> rfl) ?_
    refine EvC.seq (EvC.rg (by (simp only [go_sem, Nat.reduceLT, Nat.reduceLeDiff, Nat.reduceEqDiff, Nat.reduceAdd, Nat.reduceSub, Nat.reduceMul, Nat.reduceBEq, Int.reduceToNat, Int.reduceEq, Int.reduceLT, Int.reduceLE, Int.reduceAdd, ↓reduceIte, reduceCtorEq]) <;> rfl) (by simp) ?_)
    refine EvC.ret ⟨.inl rfl, _, (by (simp only [go_sem, Nat.reduceLT, Nat.reduceLeDiff, Nat.reduceEqDiff, Nat.reduceAdd, Nat.reduceSub, Nat.reduceMul, Nat.reduceBEq, Int.reduceToNat, Int.reduceEq, Int.reduceLT, Int.reduceLE, Int.reduceAdd, ↓reduceIte, reduceCtorEq]) <;> rfl), ?_, rfl⟩
    simp only [go_sem, Nat.reduceLT, Nat.reduceLeDiff, Nat.reduceEqDiff, Nat.reduceAdd, Nat.reduceSub, Nat.reduceMul, Nat.reduceBEq, Int.reduceToNat, Int.reduceEq, Int.reduceLT, Int.reduceLE, Int.reduceAdd, ↓reduceIte, reduceCtorEq]
    rw [if_pos (hap (by simp [condM, ho]))]
end Go.Avl
namespace Go.Avl
open Go

def St.thaw (i : Nat) (st : St) : Option St :=
  match mlook st.mem i with
  | some (.arr esz [] _) => some ⟨st.vars, st.tmps, mset st.mem i (.arr esz [] false), st.nx⟩
  | _ => none

/-- Row k of object j, with what it points at read by its contents where that is frozen. -/
def St.snapE (j k : Nat) (st : St) : Option St :=
  match mlook st.mem j with
  | some (.arr esz es false) => match es[k]? with
    | some c => some ⟨st.vars, st.tmps, mset st.mem j (.arr esz (es.set k (c.map (AV.deep (snap st.mem)))) false), st.nx⟩
    | none => none
  | _ => none

section
variable {P : Program} {fr : Fr} {ro : Option Nat} {ds : DS} {st st' : St} {Q Q' : Exit → St → Prop} {G G' : Nat → Option Value} {F F' : Nat → Nat → Prop} {a : Act} {w w' : World} {x y c : Code} {M : Mem}

theorem simM_thaw {nx i esz : Nat} {fz : Bool} (hm : SimM P G F M nx w) (ho : mlook M i = some (.arr esz [] fz)) :
    SimM P G F (mset M i (.arr esz [] false)) nx w ∧ Step All G F M w G F (mset M i (.arr esz [] false)) w := by
  have hold := (hm.obj i _ ho).2
  have S : Step All G F M w G F (mset M i (.arr esz [] false)) w :=
    { kept := .refl
      size := Nat.le_refl _
      out := fun _ _ _ => rfl
      F1 := fun _ _ h => h
      F2 := fun _ _ _ => rfl
      F3 := fun b o h => .inl h
      own := fun b ⟨id, o, v, h3, h4, h5⟩ => by
        rw [mlook_mset] at h3
        by_cases hi : id = i
        · subst hi; exact .inr ⟨id, _, v, ho, h4, h5⟩
        · rw [if_neg hi] at h3; exact .inr ⟨id, o, v, h3, h4, h5⟩
      some' := fun _ _ h => h
      same := fun _ _ _ h _ => h
      keep := fun id o' _ hG h3 => by
        obtain ⟨v, hv⟩ := Option.ne_none_iff_exists'.1 hG
        rw [mlook_mset] at h3
        by_cases hi : id = i
        · subst hi
          rw [if_pos rfl] at h3; cases h3
          exact ⟨_, v, v, ho, hv, hv, ⟨rfl, .inl ⟨rfl, rfl⟩⟩⟩
        · rw [if_neg hi] at h3
          exact ⟨o', v, v, h3, hv, hv, objKeep.refl v o'⟩ }
  have hinj : ∀ id id' v v' b, mlook (mset M i (.arr esz [] false)) id ≠ none → mlook (mset M i (.arr esz [] false)) id' ≠ none → G id = some v → G id' = some v' → blkOf v = some b → blkOf v' = some b → id = id' := by
    intro id id' v v' b h1 h2
    refine hm.inj id id' v v' b ?_ ?_
    · rw [mlook_mset] at h1; by_cases hi : id = i
      · subst hi; rw [ho]; simp
      · rwa [if_neg hi] at h1
    · rw [mlook_mset] at h2; by_cases hi : id' = i
      · subst hi; rw [ho]; simp
      · rwa [if_neg hi] at h2
  refine ⟨simM_gen hm S (fun id o' h => ?_) hinj hm.inF, S⟩
  rw [mlook_mset] at h
  by_cases hi : id = i
  · subst hi; rw [if_pos rfl] at h; cases h
    refine ⟨(hm.obj id _ ho).1, .inl ?_⟩
    rcases hold with h | ⟨b, c, cc, e, h1, h2, h3, h4, h5, h6, h7, h8, h9⟩
    · exact .inl h
    · exact .inr ⟨b, c, cc, e, h1, h2, h3, h4, h5, h6, fun k j hk => absurd hk (Nat.not_lt_zero _), fun o h => absurd (h8 o h).2 (by simp), fun h => (by cases h)⟩
  · rw [if_neg hi] at h
    exact ⟨(hm.obj id _ h).1, .inr ⟨h, rfl, fun b v hG hb => ⟨rfl, fun _ h => h⟩⟩⟩
theorem SimA.thaw {i : Nat} (s : SimA P fr ds G F st a w) (h : st.thaw i = some st') : SimA P fr ds G F st' a w ∧ Step (· < fr.base) G F st.mem w G F st'.mem w := by
  unfold St.thaw at h
  split at h
  · rename_i esz fz ho
    cases h
    obtain ⟨hm', S'⟩ := simM_thaw s.sim.mem ho
    exact ⟨⟨⟨hm', fun k => (s.sim.slots k).step S' (fun _ _ => trivial), s.sim.size⟩, s.fresh, s.defers⟩, S'.mono fun _ _ => trivial⟩
  · cases h
theorem EvC.thaw (i : Nat) (h : st.thaw i = some st') (hc : EvC P fr ro ds c st' Q) : EvC P fr ro ds c st Q :=
  EvC.conv (fun _ _ _ _ s => let ⟨s', S'⟩ := s.thaw h; ⟨_, _, s', S'⟩) hc
theorem simM_snapE {nx j esz k : Nat} {es : List (List AV)} {c0 : List AV} (hm : SimM P G F M nx w) (ho : mlook M j = some (.arr esz es false)) (hk : es[k]? = some c0) :
    SimM P G F (mset M j (.arr esz (es.set k (c0.map (AV.deep (snap M)))) false)) nx w ∧ Step All G F M w G F (mset M j (.arr esz (es.set k (c0.map (AV.deep (snap M)))) false)) w := by
  obtain ⟨es', hes⟩ : ∃ es', es' = es.set k (c0.map (AV.deep (snap M))) := ⟨_, rfl⟩
  rw [← hes]
  have hle : es'.length = es.length := by rw [hes, List.length_set]
  have hold := (hm.obj j _ ho).2
  have S : Step All G F M w G F (mset M j (.arr esz es' false)) w :=
    { kept := .refl
      size := Nat.le_refl _
      out := fun _ _ _ => rfl
      F1 := fun _ _ h => h
      F2 := fun _ _ _ => rfl
      F3 := fun b o h => .inl h
      own := fun b ⟨id, o, v, h3, h4, h5⟩ => by
        rw [mlook_mset] at h3
        by_cases hi : id = j
        · subst hi; exact .inr ⟨id, _, v, ho, h4, h5⟩
        · rw [if_neg hi] at h3; exact .inr ⟨id, o, v, h3, h4, h5⟩
      some' := fun _ _ h => h
      same := fun _ _ _ h _ => h
      keep := fun id o' _ hG h3 => by
        obtain ⟨v, hv⟩ := Option.ne_none_iff_exists'.1 hG
        rw [mlook_mset] at h3
        by_cases hi : id = j
        · subst hi
          rw [if_pos rfl] at h3; cases h3
          exact ⟨_, v, v, ho, hv, hv, ⟨rfl, .inl ⟨hle, rfl⟩⟩⟩
        · rw [if_neg hi] at h3
          exact ⟨o', v, v, h3, hv, hv, objKeep.refl v o'⟩ }
  have hinj : ∀ id id' v v' b, mlook (mset M j (.arr esz es' false)) id ≠ none → mlook (mset M j (.arr esz es' false)) id' ≠ none → G id = some v → G id' = some v' → blkOf v = some b → blkOf v' = some b → id = id' := by
    intro id id' v v' b h1 h2
    refine hm.inj id id' v v' b ?_ ?_
    · rw [mlook_mset] at h1; by_cases hi : id = j
      · subst hi; rw [ho]; simp
      · rwa [if_neg hi] at h1
    · rw [mlook_mset] at h2; by_cases hi : id' = j
      · subst hi; rw [ho]; simp
      · rwa [if_neg hi] at h2
  refine ⟨simM_gen hm S (fun id o' h => ?_) hinj hm.inF, S⟩
  rw [mlook_mset] at h
  by_cases hi : id = j
  · subst hi; rw [if_pos rfl] at h; cases h
    refine ⟨(hm.obj id _ ho).1, .inl ?_⟩
    have hkl : k < es.length := (List.getElem?_eq_some_iff.1 hk).1
    have hke : es[k] = c0 := by rw [List.getElem?_eq_getElem hkl] at hk; exact Option.some.inj hk
    rcases hold with ⟨h0, _⟩ | ⟨b, c, cc, e, h1, h2, h3, h4, h5, h6, h7, h8, h9⟩
    · rw [h0] at hkl; exact absurd hkl (Nat.not_lt_zero _)
    · refine .inr ⟨b, c, cc, e, by rw [hle]; exact h1, h2, h3, by rw [hle]; exact h4, h5, fun i hi' => ?_, fun i l hi' hl' => ?_, fun o h => absurd (h8 o h).1 (by simp), fun h => (by cases h)⟩
      · have hi2 : i < es.length := by rw [← hle]; exact hi'
        simp only [hes, List.getElem_set]
        split
        · rename_i e1; subst e1; rw [List.length_map, ← hke]; exact h6 _ hi2
        · exact h6 _ hi2
      · have hi2 : i < es.length := by rw [← hle]; exact hi'
        by_cases e1 : k = i
        · subst e1
          have e2 : es'[k] = es[k].map (AV.deep (snap M)) := by simp [hes, hke]
          have hl2 : l < es[k].length := by rw [e2, List.length_map] at hl'; exact hl'
          obtain ⟨v, k1, k2, k3⟩ := h7 k l hi2 hl2
          refine ⟨v, k1, k2, ?_⟩
          have e3 : es'[k][l] = AV.deep (snap M) es[k][l] := by simp [e2]
          rw [e3]
          exact (k3.deep fun v y h => h.snap hm).step S fun _ _ => trivial
        · have e2 : es'[i] = es[i] := by simp [hes, e1]
          have hl2 : l < es[i].length := by rw [e2] at hl'; exact hl'
          obtain ⟨v, k1, k2, k3⟩ := h7 i l hi2 hl2
          have e3 : es'[i][l] = es[i][l] := by simp [e2]
          exact ⟨v, k1, k2, by rw [e3]; exact k3.step S fun _ _ => trivial⟩
  · rw [if_neg hi] at h
    exact ⟨(hm.obj id _ h).1, .inr ⟨h, rfl, fun b v hG hb => ⟨rfl, fun _ h => h⟩⟩⟩
theorem SimA.snapE {j k : Nat} (s : SimA P fr ds G F st a w) (h : st.snapE j k = some st') : SimA P fr ds G F st' a w ∧ Step (· < fr.base) G F st.mem w G F st'.mem w := by
  unfold St.snapE at h
  split at h
  · rename_i esz es ho
    split at h
    · rename_i c0 hk
      cases h
      obtain ⟨hm', S'⟩ := simM_snapE s.sim.mem ho hk
      exact ⟨⟨⟨hm', fun k => (s.sim.slots k).step S' (fun _ _ => trivial), s.sim.size⟩, s.fresh, s.defers⟩, S'.mono fun _ _ => trivial⟩
    · cases h
  · cases h
theorem EvC.snapE (j k : Nat) (h : st.snapE j k = some st') (hc : EvC P fr ro ds c st' Q) : EvC P fr ro ds c st Q :=
  EvC.conv (fun _ _ _ _ s => let ⟨s', S'⟩ := s.snapE h; ⟨_, _, s', S'⟩) hc
end
attribute [go_sem] St.snapE
attribute [go_sem] St.thaw
end Go.Avl
