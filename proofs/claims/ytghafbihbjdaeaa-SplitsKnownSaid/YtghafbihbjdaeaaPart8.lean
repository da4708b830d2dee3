/-
  Lemmas.
  Lemmas.
  Lemmas.
  Lemmas.
  Lemmas.
  Lemmas.
  Lemmas.
  Lemmas.
  Lemmas.
  Lemmas.
  An empty object, to be grown by rows that are still written.
  Lemmas.
  Lemmas.
  Lemmas.
  Lemmas.
  Lemmas.
-/
import Derived.Test.YtghafbihbjdaeaaPart7
set_option linter.unusedSimpArgs false
set_option linter.unusedVariables false
set_option linter.unnecessarySimpa false
set_option linter.deprecated false
namespace Go.Avl
open Go Go.Proofs.Try
set_option maxRecDepth 10000
set_option linter.unusedSimpArgs false

theorem separate_bad {m : Mach} (hr : ∀ r ∈ m.rows, r.2.length < 1000000) {s t e : Int} (h : stateErr m [s, t] = e) (h0 : e ≠ 0) : PureIs prog 11 [.ag m.cells, .sc (.int .i64 s), .sc (.int .i64 t)] (.tu [.sl true [] .unk, .sc (.bool false), .sc (.int .i64 e)]) := by
  have := separate_is m hr s t
  rw [separateA, if_pos (by rw [h]; exact h0), h] at this
  exact this
theorem separate_good {m : Mach} (hr : ∀ r ∈ m.rows, r.2.length < 1000000) {s t : Int} (h : stateErr m [s, t] = 0) {w : List Int} {b : Bool} (hw : sepW m s.toNat t.toNat = w) (hb : decide (0 < (w.length : Int)) = b) : PureIs prog 11 [.ag m.cells, .sc (.int .i64 s), .sc (.int .i64 t)] (.tu [.sl w.isEmpty (w.map intC) .full, .sc (.bool b), .sc (.int .i64 0)]) := by
  have := separate_is m hr s t
  rw [separateA, if_neg (by simp [h]), hw, hb] at this
  exact this
theorem separates_bad1 {m : Mach} (hr : ∀ r ∈ m.rows, r.2.length < 1000000) (nl : Bool) (w : List Int) (c : Cp) (hl : w.length < 1000000) {s t e : Int} (h : stateErr m [s, t] = e) (h0 : e ≠ 0) : PureIs prog 18 [.ag m.cells, .sl nl (w.map intC) c, .sc (.int .i64 s), .sc (.int .i64 t)] (.tu [.sc (.bool false), .sc (.int .i64 e)]) := by
  have := separates_is m hr nl w c hl s t
  rw [sepsA, if_pos (by rw [h]; exact h0), h] at this
  exact this
theorem separates_bad2 {m : Mach} (hr : ∀ r ∈ m.rows, r.2.length < 1000000) (nl : Bool) (w : List Int) (c : Cp) (hl : w.length < 1000000) {s t e : Int} (h : stateErr m [s, t] = 0) (h1 : wordErr m.ins w = e) (h0 : e ≠ 0) : PureIs prog 18 [.ag m.cells, .sl nl (w.map intC) c, .sc (.int .i64 s), .sc (.int .i64 t)] (.tu [.sc (.bool false), .sc (.int .i64 e)]) := by
  have := separates_is m hr nl w c hl s t
  rw [sepsA, if_neg (by simp [h]), if_pos (by rw [h1]; exact h0), h1] at this
  exact this
theorem separates_good {m : Mach} (hr : ∀ r ∈ m.rows, r.2.length < 1000000) (nl : Bool) (w : List Int) (c : Cp) (hl : w.length < 1000000) {s t : Int} (h : stateErr m [s, t] = 0) (h1 : wordErr m.ins w = 0) {b : Bool} (hb : (!decide (runR m s w = runR m t w)) = b) : PureIs prog 18 [.ag m.cells, .sl nl (w.map intC) c, .sc (.int .i64 s), .sc (.int .i64 t)] (.tu [.sc (.bool b), .sc (.int .i64 0)]) := by
  have := separates_is m hr nl w c hl s t
  rw [sepsA, if_neg (by simp [h]), if_neg (by simp [h1]), hb] at this
  exact this
theorem stateErr_two (m : Mach) (h : checkM m = 0) (s t : Int) : stateErr m [s, t] = if (s < 0 ∨ t < 0 ∨ (m.rows.length : Int) ≤ s ∨ (m.rows.length : Int) ≤ t) then 1 else 0 := by
  rw [stateErr, if_neg (by simp [h])]
  by_cases h' : (s < 0 ∨ t < 0 ∨ (m.rows.length : Int) ≤ s ∨ (m.rows.length : Int) ≤ t)
  · rw [if_pos h', if_pos (by simp; omega)]
  · rw [if_neg h', if_neg (by simp; omega)]
theorem stateErr_chk {m : Mach} (h : checkM m ≠ 0) (l : List Int) : stateErr m l = checkM m := by rw [stateErr, if_pos h]

set_option maxHeartbeats 8000000 in
theorem splitsErrors_is (m : Mach) (nl : Bool) (w : List Int) (c : Cp) (s t : Int) (hm : (m.rows.length : Int) ≤ 140737488355328) (hwl : (w.length : Int) ≤ 140737488355328) :
    PureIs prog 8 [.ag m.cells, .sl nl (w.map intC) c, .ag [.sc (.int .i64 s), .sc (.int .i64 t)]] (.sc (.bool true)) := by
  refine PureIs.of (nv := 4) (hid := [5, 6, 7, 8, 9, 10, 11, 12, 13, 14, 15, 16, 17, 18, 19, 20, 41, 46, 55, 88, 91, 113, 141]) func8 rfl (by kernel_rfl) (by simp [ntmps8]) fun _ => ?_
  rw [ntmps8, results8]
  refine EvC.seq (EvC.rg (by (simp only [go_sem, Mach.cells]) <;> rfl) (by simp) ?_)
  refine EvC.frzB 1 (by (simp only [go_sem]) <;> rfl) ?_
  refine EvC.frzB 0 (by (simp only [go_sem]) <;> rfl) ?_
  refine EvC.seq ?_
  apply EvC.seq
  apply EvC.trd
  · (simp only [go_sem]) <;> rfl
  · simp
  refine EvC.cond (by (simp only [go_sem]) <;> rfl) (fun hc => ?_) (fun hc => ?_)
  · -- then
    refine EvC.seq (EvC.rg (by (simp only [go_sem]) <;> rfl) (by simp) ?_)
    refine EvC.ret ⟨.inl rfl, _, (by (simp only [go_sem]) <;> rfl), ?_, rfl⟩
    simp only [go_sem]
  have hb : m.rows.length ≤ 70 ∧ w.length ≤ 300 := by
    by_cases h1 : m.rows.length ≤ 20 <;> by_cases h2 : m.rows.length < 65 <;> by_cases h3 : m.rows.length ≤ 70 <;> by_cases h4 : w.length ≤ 300 <;> simp_all <;> omega
  clear hc
  obtain ⟨hml, hwl'⟩ := hb
  have hw6 : w.length < 1000000 := by omega
  refine EvC.skip ?_
  refine EvC.seq ?_
  refine EvC.seq (EvC.rg (by (simp only [go_sem]) <;> rfl) (by simp) ?_)
  refine EvC.block ?_  -- 0
  refine EvC.loopS (σ := Nat) (fun i => ⟨[(1, .sl nl (w.map intC) c), (3, .ia m.cells), (5, .ia [.sc (.int .i64 s), .sc (.int .i64 t)]), (6, .sc (.bool false)), (7, .sc (.int .i64 i))], [], [], 0⟩) (fun i => m.rows.length - i) (fun i => i ≤ m.rows.length ∧ ∀ r ∈ m.rows.take i, r.2.length ≤ 20) [1, 3, 5, 6, 7] 0 ?_ ?_
  · refine ⟨[], 0, rfl, (by (simp only [go_sem, Mach.cells]) <;> rfl), Nat.zero_le _, by simp⟩
  rintro i ⟨h1, h2⟩
  refine EvC.seq ?_
  refine EvC.seq (EvC.rg (by (simp only [go_sem, Mach.cells]) <;> rfl) (by simp) ?_)
  refine EvC.cond (by (simp only [go_sem]) <;> rfl) (fun hc => ?_) (fun hc => ?_)
  rotate_left
  · refine EvC.exit ?_  -- 0
    have hi : ¬ i < m.rows.length := by simpa using hc
    rw [List.take_of_length_le (by omega)] at h2
    clear hc hi h1
    have hr : ∀ r ∈ m.rows, r.2.length < 1000000 := fun r h => by have := h2 r h; omega
    clear h2
    apply EvC.seq
    apply EvC.tr
    · apply Tr.run
      · (simp only [go_sem, Mach.cells]) <;> rfl
      · simp
      apply Tr.cons
      · exact .call rfl rfl (by (simp only [go_sem]) <;> rfl) (by (simp only [go_sem]) <;> rfl) (by (simp only [go_sem]) <;> rfl) (by (simp only [go_sem]) <;> rfl) (by (simp only [go_sem]) <;> rfl) (check27_is m hr)
      apply Tr.done
      · (simp only [go_sem]) <;> rfl
      · simp
    by_cases h0 : checkM m = 0
    rotate_left
    · have ht := table_is m hr
      rw [tableA, if_pos h0] at ht
      have hh := height_is m hr
      rw [heightA, if_pos h0] at hh
      have ha := splitsAfter_is m hr nl w c hw6
      rw [afterA, if_pos h0] at ha
      have hse := stateErr_chk h0 [s, t]
      have hsp := separate_bad hr hse h0
      have hss := separates_bad1 hr nl w c hw6 hse h0
      clear hse
      generalize checkM m = k at ht hh ha hsp hss h0 ⊢
      have h0' : decide (k = 0) = false := decide_eq_false h0
      have h0d : decide (¬ k = 0) = true := decide_eq_true h0
      clear h0
      apply EvC.seq
      apply EvC.tr
      · apply Tr.run
        · (simp only [go_sem, Mach.cells]) <;> rfl
        · simp
        apply Tr.cons
        · exact .call rfl rfl (by (simp only [go_sem]) <;> rfl) (by (simp only [go_sem]) <;> rfl) (by (simp only [go_sem]) <;> rfl) (by (simp only [go_sem]) <;> rfl) (by (simp only [go_sem]) <;> rfl) (ht)
        apply Tr.done
        · (simp only [go_sem]) <;> rfl
        · simp
      apply EvC.seq
      apply EvC.tr
      · apply Tr.run
        · (simp only [go_sem, Mach.cells]) <;> rfl
        · simp
        apply Tr.cons
        · exact .call rfl rfl (by (simp only [go_sem]) <;> rfl) (by (simp only [go_sem]) <;> rfl) (by (simp only [go_sem]) <;> rfl) (by (simp only [go_sem]) <;> rfl) (by (simp only [go_sem]) <;> rfl) (hh)
        apply Tr.done
        · (simp only [go_sem]) <;> rfl
        · simp
      refine EvC.seq ?_
      apply EvC.seq
      apply EvC.trd
      · (simp only [go_sem, h0', h0d, Mach.cells, decide_true, decide_false, decide_not]) <;> rfl
      · simp
      refine EvC.cond_false (by (simp only [go_sem, h0', h0d]) <;> rfl) ?_
      refine EvC.skip ?_
      refine EvC.seq (EvC.rg (by (simp only [go_sem]) <;> rfl) (by simp) ?_)
      refine EvC.seq ?_
      refine EvC.seq (EvC.rg (by (simp only [go_sem, h0']) <;> rfl) (by simp) ?_)
      refine EvC.cond_false (by (simp only [go_sem]) <;> rfl) ?_
      refine EvC.skip ?_
      apply EvC.seq
      apply EvC.tr
      · apply Tr.run
        · (simp only [go_sem, Mach.cells]) <;> rfl
        · simp
        apply Tr.cons
        · exact .call rfl rfl (by (simp only [go_sem]) <;> rfl) (by (simp only [go_sem]) <;> rfl) (by (simp only [go_sem]) <;> rfl) (by (simp only [go_sem]) <;> rfl) (by (simp only [go_sem]) <;> rfl) (ha)
        apply Tr.done
        · (simp only [go_sem]) <;> rfl
        · simp
      refine EvC.seq ?_
      apply EvC.seq
      apply EvC.trd
      · (simp only [go_sem, h0', h0d, decide_not]) <;> rfl
      · simp
      refine EvC.cond_false (by (simp only [go_sem, h0', h0d]) <;> rfl) ?_
      refine EvC.skip ?_
      refine EvC.seq ?_
      apply EvC.seq
      apply EvC.trd
      · (simp only [go_sem, h0', h0d, Mach.cells]) <;> rfl
      · simp
      refine EvC.cond_false (by (simp only [go_sem, h0', h0d]) <;> rfl) ?_
      refine EvC.skip ?_
      apply EvC.seq
      apply EvC.tr
      · apply Tr.run
        · (simp only [go_sem, Mach.cells]) <;> rfl
        · simp
        apply Tr.cons
        · exact .call rfl rfl (by (simp only [go_sem]) <;> rfl) (by (simp only [go_sem]) <;> rfl) (by (simp only [go_sem]) <;> rfl) (by (simp only [go_sem]) <;> rfl) (by (simp only [go_sem]) <;> rfl) (hsp)
        apply Tr.done
        · (simp only [go_sem]) <;> rfl
        · simp
      apply EvC.seq
      apply EvC.tr
      · apply Tr.run
        · (simp only [go_sem, Mach.cells]) <;> rfl
        · simp
        apply Tr.cons
        · exact .call rfl rfl (by (simp only [go_sem]) <;> rfl) (by (simp only [go_sem]) <;> rfl) (by (simp only [go_sem]) <;> rfl) (by (simp only [go_sem]) <;> rfl) (by (simp only [go_sem]) <;> rfl) (hss)
        apply Tr.done
        · (simp only [go_sem]) <;> rfl
        · simp
      apply EvC.seq
      apply EvC.tr
      · apply Tr.run
        · (simp only [go_sem, h0', h0d, decide_true]) <;> rfl
        · simp
        apply Tr.cons
        · exact .callG rfl rfl (by (simp only [go_sem]) <;> rfl) rfl (by (simp only [go_sem]) <;> rfl) (by (simp only [go_sem]) <;> rfl) (by (simp only [go_sem]) <;> rfl) (by (simp only [go_sem]) <;> rfl) (by (simp only [go_sem]) <;> rfl) (lives_is)
        apply Tr.done
        · (simp only [go_sem]) <;> rfl
        · simp
      refine EvC.ret ⟨.inl rfl, _, (by (simp only [go_sem]) <;> rfl), ?_, rfl⟩
      simp only [go_sem]
      try rfl
    · have ht := table_is m hr
      rw [tableA, if_neg (by simp [h0])] at ht
      have hh := height_is m hr
      rw [heightA, if_neg (by simp [h0])] at hh
      have ha := splitsAfter_is m hr nl w c hw6
      rw [afterA, if_neg (by simp [h0])] at ha
      have hst := stateErr_two m h0 s t
      have hch := check28_is nl w c m.ins hw6
      rw [h0]
      generalize tblL m = T at ht hh
      generalize maxLen T = mx at hh
      apply EvC.seq
      apply EvC.tr
      · apply Tr.run
        · (simp only [go_sem, Mach.cells]) <;> rfl
        · simp
        apply Tr.cons
        · exact .call rfl rfl (by (simp only [go_sem]) <;> rfl) (by (simp only [go_sem]) <;> rfl) (by (simp only [go_sem]) <;> rfl) (by (simp only [go_sem]) <;> rfl) (by (simp only [go_sem]) <;> rfl) (ht)
        apply Tr.done
        · (simp only [go_sem]) <;> rfl
        · simp
      apply EvC.seq
      apply EvC.tr
      · apply Tr.run
        · (simp only [go_sem, Mach.cells]) <;> rfl
        · simp
        apply Tr.cons
        · exact .call rfl rfl (by (simp only [go_sem]) <;> rfl) (by (simp only [go_sem]) <;> rfl) (by (simp only [go_sem]) <;> rfl) (by (simp only [go_sem]) <;> rfl) (by (simp only [go_sem]) <;> rfl) (hh)
        apply Tr.done
        · (simp only [go_sem]) <;> rfl
        · simp
      refine EvC.seq ?_
      apply EvC.seq
      apply EvC.trd
      · (simp only [go_sem, Mach.cells, decide_true, decide_false, decide_not]) <;> rfl
      · simp
      refine EvC.cond_false (by (simp only [go_sem]) <;> rfl) ?_
      refine EvC.skip ?_
      refine EvC.seq (EvC.rg (by (simp only [go_sem]) <;> rfl) (by simp) ?_)
      refine EvC.seq ?_
      refine EvC.seq (EvC.rg (by (simp only [go_sem]) <;> rfl) (by simp) ?_)
      refine EvC.cond_true (by (simp only [go_sem]) <;> rfl) ?_
      apply EvC.tr
      · apply Tr.run
        · (simp only [go_sem, Mach.cells]) <;> rfl
        · simp
        apply Tr.cons
        · exact .call rfl rfl (by (simp only [go_sem]) <;> rfl) (by (simp only [go_sem]) <;> rfl) (by (simp only [go_sem]) <;> rfl) (by (simp only [go_sem]) <;> rfl) (by (simp only [go_sem]) <;> rfl) (hch)
        apply Tr.done
        · (simp only [go_sem]) <;> rfl
        · simp
      by_cases hw0 : wordErr m.ins w = 0
      · rw [if_neg (by simp [hw0])] at ha
        rw [hw0]
        generalize nm (namesR m w) = nw at ha
        apply EvC.seq
        apply EvC.tr
        · apply Tr.run
          · (simp only [go_sem, Mach.cells]) <;> rfl
          · simp
          apply Tr.cons
          · exact .call rfl rfl (by (simp only [go_sem]) <;> rfl) (by (simp only [go_sem]) <;> rfl) (by (simp only [go_sem]) <;> rfl) (by (simp only [go_sem]) <;> rfl) (by (simp only [go_sem]) <;> rfl) (ha)
          apply Tr.done
          · (simp only [go_sem]) <;> rfl
          · simp
        refine EvC.seq ?_
        apply EvC.seq
        apply EvC.trd
        · (simp only [go_sem, decide_true]) <;> rfl
        · simp
        refine EvC.cond_false (by (simp only [go_sem, decide_true]) <;> rfl) ?_
        refine EvC.skip ?_
        refine EvC.seq ?_
        apply EvC.seq
        apply EvC.trd
        · (simp only [go_sem, Mach.cells, decide_true]) <;> rfl
        · simp
        refine EvC.cond (by (simp only [go_sem, decide_true]) <;> rfl) (fun hc => ?_) (fun hc => ?_)
        · have ho : (s < 0 ∨ t < 0 ∨ (m.rows.length : Int) ≤ s ∨ (m.rows.length : Int) ≤ t) := by
            by_cases k1 : s < 0 <;> by_cases k2 : t < 0 <;> by_cases k3 : (m.rows.length : Int) ≤ s <;> by_cases k4 : (m.rows.length : Int) ≤ t <;> simp_all <;> omega
          rw [if_pos ho] at hst
          clear hc
          refine EvC.rg (by (simp only [go_sem]) <;> rfl) (by simp) ?_
          apply EvC.seq
          apply EvC.tr
          · apply Tr.run
            · (simp only [go_sem, Mach.cells]) <;> rfl
            · simp
            apply Tr.cons
            · exact .call rfl rfl (by (simp only [go_sem]) <;> rfl) (by (simp only [go_sem]) <;> rfl) (by (simp only [go_sem]) <;> rfl) (by (simp only [go_sem]) <;> rfl) (by (simp only [go_sem]) <;> rfl) (separate_bad hr hst (by decide))
            apply Tr.done
            · (simp only [go_sem]) <;> rfl
            · simp
          apply EvC.seq
          apply EvC.tr
          · apply Tr.run
            · (simp only [go_sem, Mach.cells]) <;> rfl
            · simp
            apply Tr.cons
            · exact .call rfl rfl (by (simp only [go_sem]) <;> rfl) (by (simp only [go_sem]) <;> rfl) (by (simp only [go_sem]) <;> rfl) (by (simp only [go_sem]) <;> rfl) (by (simp only [go_sem]) <;> rfl) (separates_bad1 hr nl w c hw6 hst (by decide))
            apply Tr.done
            · (simp only [go_sem]) <;> rfl
            · simp
          apply EvC.seq
          apply EvC.tr
          · apply Tr.run
            · (simp only [go_sem, decide_true]) <;> rfl
            · simp
            apply Tr.cons
            · exact .callG rfl rfl (by (simp only [go_sem]) <;> rfl) rfl (by (simp only [go_sem]) <;> rfl) (by (simp only [go_sem]) <;> rfl) (by (simp only [go_sem]) <;> rfl) (by (simp only [go_sem]) <;> rfl) (by (simp only [go_sem]) <;> rfl) (lives_is)
            apply Tr.done
            · (simp only [go_sem]) <;> rfl
            · simp
          refine EvC.ret ⟨.inl rfl, _, (by (simp only [go_sem]) <;> rfl), ?_, rfl⟩
          simp only [go_sem]
          try rfl
        · have ho : ¬ (s < 0 ∨ t < 0 ∨ (m.rows.length : Int) ≤ s ∨ (m.rows.length : Int) ≤ t) := by
            by_cases k1 : s < 0 <;> by_cases k2 : t < 0 <;> by_cases k3 : (m.rows.length : Int) ≤ s <;> by_cases k4 : (m.rows.length : Int) ≤ t <;> simp_all <;> omega
          rw [if_neg ho] at hst
          clear hc
          refine EvC.skip ?_
          obtain ⟨b1, hb1⟩ : ∃ b, decide (0 < ((sepW m s.toNat t.toNat).length : Int)) = b := ⟨_, rfl⟩
          have hsg := separate_good hr hst rfl hb1
          generalize sepW m s.toNat t.toNat = sw at hsg
          apply EvC.seq
          apply EvC.tr
          · apply Tr.run
            · (simp only [go_sem, Mach.cells]) <;> rfl
            · simp
            apply Tr.cons
            · exact .call rfl rfl (by (simp only [go_sem]) <;> rfl) (by (simp only [go_sem]) <;> rfl) (by (simp only [go_sem]) <;> rfl) (by (simp only [go_sem]) <;> rfl) (by (simp only [go_sem]) <;> rfl) (hsg)
            apply Tr.done
            · (simp only [go_sem]) <;> rfl
            · simp
          obtain ⟨b2, hb2⟩ : ∃ b, (!decide (runR m s w = runR m t w)) = b := ⟨_, rfl⟩
          apply EvC.seq
          apply EvC.tr
          · apply Tr.run
            · (simp only [go_sem, Mach.cells]) <;> rfl
            · simp
            apply Tr.cons
            · exact .call rfl rfl (by (simp only [go_sem]) <;> rfl) (by (simp only [go_sem]) <;> rfl) (by (simp only [go_sem]) <;> rfl) (by (simp only [go_sem]) <;> rfl) (by (simp only [go_sem]) <;> rfl) (separates_good hr nl w c hw6 hst hw0 hb2)
            apply Tr.done
            · (simp only [go_sem]) <;> rfl
            · simp
          apply EvC.seq
          apply EvC.tr
          · apply Tr.run
            · (simp only [go_sem, decide_true]) <;> rfl
            · simp
            apply Tr.cons
            · exact .callG rfl rfl (by (simp only [go_sem]) <;> rfl) rfl (by (simp only [go_sem]) <;> rfl) (by (simp only [go_sem]) <;> rfl) (by (simp only [go_sem]) <;> rfl) (by (simp only [go_sem]) <;> rfl) (by (simp only [go_sem]) <;> rfl) (lives_is)
            apply Tr.done
            · (simp only [go_sem]) <;> rfl
            · simp
          refine EvC.ret ⟨.inl rfl, _, (by (simp only [go_sem]) <;> rfl), ?_, rfl⟩
          simp only [go_sem]
          try rfl
      · rw [if_pos (by simp [hw0])] at ha
        have k0' : decide (wordErr m.ins w = 0) = false := decide_eq_false hw0
        apply EvC.seq
        apply EvC.tr
        · apply Tr.run
          · (simp only [go_sem, Mach.cells]) <;> rfl
          · simp
          apply Tr.cons
          · exact .call rfl rfl (by (simp only [go_sem]) <;> rfl) (by (simp only [go_sem]) <;> rfl) (by (simp only [go_sem]) <;> rfl) (by (simp only [go_sem]) <;> rfl) (by (simp only [go_sem]) <;> rfl) (ha)
          apply Tr.done
          · (simp only [go_sem]) <;> rfl
          · simp
        refine EvC.seq ?_
        apply EvC.seq
        apply EvC.trd
        · (simp only [go_sem, k0', decide_not]) <;> rfl
        · simp
        refine EvC.cond_false (by (simp only [go_sem, k0', decide_not]) <;> rfl) ?_
        refine EvC.skip ?_
        refine EvC.seq ?_
        apply EvC.seq
        apply EvC.trd
        · (simp only [go_sem, Mach.cells, decide_true]) <;> rfl
        · simp
        refine EvC.cond (by (simp only [go_sem, decide_true]) <;> rfl) (fun hc => ?_) (fun hc => ?_)
        · have ho : (s < 0 ∨ t < 0 ∨ (m.rows.length : Int) ≤ s ∨ (m.rows.length : Int) ≤ t) := by
            by_cases k1 : s < 0 <;> by_cases k2 : t < 0 <;> by_cases k3 : (m.rows.length : Int) ≤ s <;> by_cases k4 : (m.rows.length : Int) ≤ t <;> simp_all <;> omega
          rw [if_pos ho] at hst
          clear hc
          refine EvC.rg (by (simp only [go_sem]) <;> rfl) (by simp) ?_
          apply EvC.seq
          apply EvC.tr
          · apply Tr.run
            · (simp only [go_sem, Mach.cells]) <;> rfl
            · simp
            apply Tr.cons
            · exact .call rfl rfl (by (simp only [go_sem]) <;> rfl) (by (simp only [go_sem]) <;> rfl) (by (simp only [go_sem]) <;> rfl) (by (simp only [go_sem]) <;> rfl) (by (simp only [go_sem]) <;> rfl) (separate_bad hr hst (by decide))
            apply Tr.done
            · (simp only [go_sem]) <;> rfl
            · simp
          apply EvC.seq
          apply EvC.tr
          · apply Tr.run
            · (simp only [go_sem, Mach.cells]) <;> rfl
            · simp
            apply Tr.cons
            · exact .call rfl rfl (by (simp only [go_sem]) <;> rfl) (by (simp only [go_sem]) <;> rfl) (by (simp only [go_sem]) <;> rfl) (by (simp only [go_sem]) <;> rfl) (by (simp only [go_sem]) <;> rfl) (separates_bad1 hr nl w c hw6 hst (by decide))
            apply Tr.done
            · (simp only [go_sem]) <;> rfl
            · simp
          apply EvC.seq
          apply EvC.tr
          · apply Tr.run
            · (simp only [go_sem, decide_true]) <;> rfl
            · simp
            apply Tr.cons
            · exact .callG rfl rfl (by (simp only [go_sem]) <;> rfl) rfl (by (simp only [go_sem]) <;> rfl) (by (simp only [go_sem]) <;> rfl) (by (simp only [go_sem]) <;> rfl) (by (simp only [go_sem]) <;> rfl) (by (simp only [go_sem]) <;> rfl) (lives_is)
            apply Tr.done
            · (simp only [go_sem]) <;> rfl
            · simp
          refine EvC.ret ⟨.inl rfl, _, (by (simp only [go_sem]) <;> rfl), ?_, rfl⟩
          simp only [go_sem]
          try rfl
        · have ho : ¬ (s < 0 ∨ t < 0 ∨ (m.rows.length : Int) ≤ s ∨ (m.rows.length : Int) ≤ t) := by
            by_cases k1 : s < 0 <;> by_cases k2 : t < 0 <;> by_cases k3 : (m.rows.length : Int) ≤ s <;> by_cases k4 : (m.rows.length : Int) ≤ t <;> simp_all <;> omega
          rw [if_neg ho] at hst
          clear hc
          refine EvC.skip ?_
          obtain ⟨b1, hb1⟩ : ∃ b, decide (0 < ((sepW m s.toNat t.toNat).length : Int)) = b := ⟨_, rfl⟩
          have hsg := separate_good hr hst rfl hb1
          generalize sepW m s.toNat t.toNat = sw at hsg
          apply EvC.seq
          apply EvC.tr
          · apply Tr.run
            · (simp only [go_sem, Mach.cells]) <;> rfl
            · simp
            apply Tr.cons
            · exact .call rfl rfl (by (simp only [go_sem]) <;> rfl) (by (simp only [go_sem]) <;> rfl) (by (simp only [go_sem]) <;> rfl) (by (simp only [go_sem]) <;> rfl) (by (simp only [go_sem]) <;> rfl) (hsg)
            apply Tr.done
            · (simp only [go_sem]) <;> rfl
            · simp
          apply EvC.seq
          apply EvC.tr
          · apply Tr.run
            · (simp only [go_sem, Mach.cells]) <;> rfl
            · simp
            apply Tr.cons
            · exact .call rfl rfl (by (simp only [go_sem]) <;> rfl) (by (simp only [go_sem]) <;> rfl) (by (simp only [go_sem]) <;> rfl) (by (simp only [go_sem]) <;> rfl) (by (simp only [go_sem]) <;> rfl) (separates_bad2 hr nl w c hw6 hst rfl hw0)
            apply Tr.done
            · (simp only [go_sem]) <;> rfl
            · simp
          apply EvC.seq
          apply EvC.tr
          · apply Tr.run
            · (simp only [go_sem, decide_true, k0']) <;> rfl
            · simp
            apply Tr.cons
            · exact .callG rfl rfl (by (simp only [go_sem]) <;> rfl) rfl (by (simp only [go_sem]) <;> rfl) (by (simp only [go_sem]) <;> rfl) (by (simp only [go_sem]) <;> rfl) (by (simp only [go_sem]) <;> rfl) (by (simp only [go_sem]) <;> rfl) (lives_is)
            apply Tr.done
            · (simp only [go_sem]) <;> rfl
            · simp
          refine EvC.ret ⟨.inl rfl, _, (by (simp only [go_sem]) <;> rfl), ?_, rfl⟩
          simp only [go_sem]
          try rfl
  have hi : i < m.rows.length := by simpa using hc
  have he : m.rows[i]? = some m.rows[i] := List.getElem?_eq_getElem hi
  have htk : m.rows.take (i + 1) = m.rows.take i ++ [m.rows[i]] := by rw [List.take_add_one, he]; rfl
  generalize m.rows[i] = r at he htk
  refine EvC.skip ?_
  refine EvC.seq ?_
  refine EvC.block ?_  -- 1
  refine EvC.seq (EvC.rg (by (simp only [go_sem, Mach.cells, he, rowC]) <;> rfl) (by simp) ?_)
  refine EvC.cond (by (simp only [go_sem]) <;> rfl) (fun hc => ?_) (fun hc => ?_)
  · -- then
    refine EvC.seq (EvC.rg (by (simp only [go_sem]) <;> rfl) (by simp) ?_)
    refine EvC.ret ⟨.inl rfl, _, (by (simp only [go_sem]) <;> rfl), ?_, rfl⟩
    simp only [go_sem]
  have hl : (r.2.length : Int) ≤ 20 := by simpa using hc
  refine EvC.skip ?_
  have hI1 : inI64 ((i : Int) + 1) = true := inI64_of (by omega) (by omega)
  refine EvC.rg (by (simp only [go_sem, hI1]) <;> rfl) (by simp) ?_
  refine ⟨[], i + 1, rfl, (by (simp only [go_sem, Mach.cells]) <;> rfl), ⟨by omega, ?_⟩, by omega⟩
  rw [htk]
  intro r' hr'
  rcases List.mem_append.1 hr' with h | h
  · exact h2 r' h
  · simp at h; subst h; omega
end Go.Avl
namespace Go.Avl
open Go Go.Proofs.Try
set_option maxRecDepth 10000
set_option linter.unusedSimpArgs false

/-- The number of words that are shorter than n. -/
def sumK (k : Nat) : Nat → Nat
  | 0 => 0
  | n + 1 => sumK k n + k ^ n
/-- The place of a word, the shorter ones first. -/
def rank (k : Nat) : List Int → Nat
  | [] => 0
  | a :: w => (a.toNat + 1) * k ^ w.length + rank k w
def WOk (k : Nat) (w : List Int) : Prop := ∀ a ∈ w, 0 ≤ a ∧ a < k
theorem WOk.tail {k : Nat} {a : Int} {w : List Int} (h : WOk k (a :: w)) : WOk k w := fun x hx => h x (List.mem_cons_of_mem _ hx)
theorem WOk.head {k : Nat} {a : Int} {w : List Int} (h : WOk k (a :: w)) : 0 ≤ a ∧ a < k := h a List.mem_cons_self
theorem WOk.cons {k : Nat} {a : Int} {w : List Int} (ha : 0 ≤ a ∧ a < k) (h : WOk k w) : WOk k (a :: w) := fun x hx => by
  rcases List.mem_cons.1 hx with rfl | hx
  · exact ha
  · exact h x hx
theorem rank_ge {k : Nat} : ∀ (w : List Int), sumK k w.length ≤ rank k w
  | [] => Nat.le_refl _
  | a :: w => by
    have h1 := rank_ge (k := k) w
    have h2 : 1 * k ^ w.length ≤ (a.toNat + 1) * k ^ w.length := Nat.mul_le_mul_right _ (by omega)
    simp only [rank, List.length_cons, sumK]
    omega
theorem rank_lt {k : Nat} : ∀ {w : List Int}, WOk k w → rank k w < sumK k (w.length + 1)
  | [], _ => by simp [rank, sumK]
  | a :: w, h => by
    have h1 := rank_lt h.tail
    have h2 : (a.toNat + 1) * k ^ w.length ≤ k * k ^ w.length := Nat.mul_le_mul_right _ (by have := h.head; omega)
    have h3 : k ^ (w.length + 1) = k * k ^ w.length := by rw [Nat.pow_succ, Nat.mul_comm]
    rw [List.length_cons, sumK, h3]
    simp only [rank]
    omega
theorem sumK_mono {k : Nat} : ∀ {a b : Nat}, a ≤ b → sumK k a ≤ sumK k b
  | a, 0, h => by obtain rfl : a = 0 := by omega
                  exact Nat.le_refl _
  | a, b + 1, h => by
    by_cases h1 : a = b + 1
    · rw [h1]; exact Nat.le_refl _
    · have := sumK_mono (k := k) (show a ≤ b by omega)
      simp only [sumK]; omega
theorem rank_len {k : Nat} {w v : List Int} (hw : WOk k w) (h : w.length < v.length) : rank k w < rank k v :=
  Nat.lt_of_lt_of_le (rank_lt hw) (Nat.le_trans (sumK_mono h) (rank_ge v))
theorem rank_head {k : Nat} {a b : Int} {w v : List Int} (hl : w.length = v.length) (hw : WOk k w) (hab : a.toNat < b.toNat) : rank k (a :: w) < rank k (b :: v) := by
  have h1 := rank_lt hw
  have h2 := rank_ge (k := k) v
  simp only [rank]
  rw [hl] at h1 ⊢
  rw [sumK] at h1
  have h3 : (a.toNat + 1 + 1) * k ^ v.length ≤ (b.toNat + 1) * k ^ v.length := Nat.mul_le_mul_right _ (by omega)
  rw [Nat.succ_mul] at h3
  omega
theorem rank_cons {k : Nat} {a : Int} {w v : List Int} (hl : w.length = v.length) (h : rank k w ≤ rank k v) : rank k (a :: w) ≤ rank k (a :: v) := by
  simp only [rank, hl]; omega
theorem rank_inj {k : Nat} : ∀ {w v : List Int}, WOk k w → WOk k v → rank k w = rank k v → w = v
  | w, v, hw, hv, h => by
    have hl : w.length = v.length := by
      by_cases h1 : w.length < v.length
      · have := rank_len hw h1; omega
      · by_cases h2 : v.length < w.length
        · have := rank_len hv h2; omega
        · omega
    match w, v with
    | [], [] => rfl
    | [], _ :: _ => simp at hl
    | _ :: _, [] => simp at hl
    | a :: w, b :: v =>
      have hl' : w.length = v.length := by simpa using hl
      have h1 : ¬ a.toNat < b.toNat := fun h1 => by have := rank_head hl' hw.tail h1; omega
      have h2 : ¬ b.toNat < a.toNat := fun h2 => by have := rank_head hl'.symm hv.tail h2; omega
      have hab : a = b := by have := hw.head; have := hv.head; omega
      subst hab
      have : rank k w = rank k v := by simp only [rank, hl'] at h; omega
      rw [rank_inj hw.tail hv.tail this]
theorem rank_zeros {k : Nat} : ∀ (n : Nat), rank k (List.replicate n 0) = sumK k n
  | 0 => rfl
  | n + 1 => by simp [List.replicate_succ, rank, rank_zeros n, sumK]; omega
theorem rank_incr {k : Nat} (hk : 1 ≤ k) : ∀ {w : List Int}, WOk k w →
    ((incrW k w).2 = true → (incrW k w).1 = List.replicate w.length 0 ∧ rank k w + 1 = sumK k (w.length + 1)) ∧ ((incrW k w).2 = false → (incrW k w).1.length = w.length ∧ rank k (incrW k w).1 = rank k w + 1)
  | [], _ => by simp [incrW, rank, sumK]
  | x :: w, h => by
    obtain ⟨h1, h2⟩ := rank_incr hk h.tail
    have hx := h.head
    unfold incrW
    by_cases hc : (incrW k w).2 = true
    · obtain ⟨e1, e2⟩ := h1 hc
      rw [if_pos hc]
      rw [sumK] at e2
      by_cases hx1 : x + 1 < k
      · rw [if_pos hx1]
        refine ⟨fun h => (by cases h), fun _ => ?_⟩
        simp only [e1]
        refine ⟨by simp, ?_⟩
        have : (x + 1).toNat = x.toNat + 1 := by omega
        simp only [rank, List.length_replicate, rank_zeros, this]
        rw [Nat.succ_mul (x.toNat + 1)]
        omega
      · rw [if_neg hx1]
        refine ⟨fun _ => ?_, fun h => by cases h⟩
        simp only [e1]
        refine ⟨by simp [List.replicate_succ], ?_⟩
        have : x.toNat + 1 = k := by omega
        simp only [rank, this, List.length_cons, sumK]
        rw [Nat.pow_succ, Nat.mul_comm (k ^ w.length) k]
        omega
    · rw [if_neg hc]
      refine ⟨fun h => (by cases h), fun _ => ?_⟩
      obtain ⟨e1, e2⟩ := h2 (by simpa using hc)
      simp only [rank, List.length_cons, e1, e2]
      exact ⟨trivial, by omega⟩
theorem rank_next {k : Nat} (hk : 1 ≤ k) {w : List Int} (h : WOk k w) : rank k (nextW k w) = rank k w + 1 := by
  obtain ⟨h1, h2⟩ := rank_incr hk h
  unfold nextW
  by_cases hc : (incrW k w).2 = true
  · obtain ⟨e1, e2⟩ := h1 hc
    rw [if_pos hc, e1, e2, show ([0] : List Int) = List.replicate 1 0 from rfl, List.replicate_append_replicate, rank_zeros]
  · rw [if_neg hc]; exact (h2 (by simpa using hc)).2
theorem rank_at {k : Nat} (hk : 1 ≤ k) : ∀ n, WOk k (wordAt k n) ∧ rank k (wordAt k n) = n
  | 0 => ⟨by simp [WOk, wordAt], rfl⟩
  | n + 1 => by
    obtain ⟨h1, h2⟩ := rank_at hk n
    refine ⟨wordAt_ok (by omega) (n + 1), ?_⟩
    rw [wordAt, rank_next hk h1, h2]
theorem at_rank {k : Nat} (hk : 1 ≤ k) {w : List Int} (h : WOk k w) : wordAt k (rank k w) = w := by
  obtain ⟨h1, h2⟩ := rank_at hk (rank k w)
  exact rank_inj h1 h h2
def boolC (b : Bool) : List AV := [.sc (.bool b)]
@[go_sem] theorem norefs_bool (l : List Bool) : (l.map boolC).all AV.norefs = true := by simp [List.all_eq_true, boolC, AV.norefs, AV.noref]
end Go.Avl
namespace Go.Avl
open Go Go.Proofs.Try
set_option maxRecDepth 10000
set_option linter.unusedSimpArgs false

/-- The first separating word. -/
def Least (m : Mach) (s t : Nat) (w : List Int) : Prop :=
  WOk m.ins.toNat w ∧ runR m s w ≠ runR m t w ∧ ∀ v, WOk m.ins.toNat v → runR m s v ≠ runR m t v → rank m.ins.toNat w ≤ rank m.ins.toNat v
def Good (m : Mach) (k s t : Nat) (w : List Int) : Prop :=
  (w = [] ∧ ∀ v, WOk m.ins.toNat v → v.length ≤ k → runR m s v = runR m t v) ∨ (w ≠ [] ∧ Least m s t w)
theorem Least.symm {m : Mach} {s t : Nat} {w : List Int} (h : Least m s t w) : Least m t s w := ⟨h.1, h.2.1.symm, fun v h1 h2 => h.2.2 v h1 h2.symm⟩
theorem Good.symm {m : Mach} {k s t : Nat} {w : List Int} (h : Good m k s t w) : Good m k t s w :=
  h.imp (fun h => ⟨h.1, fun v h1 h2 => (h.2 v h1 h2).symm⟩) (fun h => ⟨h.1, h.2.symm⟩)
def CondW (W : WT) (n : Nat) (x y : Int × Int) : Prop := x.2 ≠ y.2 ∨ (1 < n ∧ x.1 ≠ -1 ∧ (W x.1.toNat y.1.toNat).length + 1 = n)
def valW (W : WT) (i : Nat) (x y : Int × Int) : List Int := if x.2 ≠ y.2 then [(i : Int)] else (i : Int) :: W x.1.toNat y.1.toNat
def ex (xs : List (Int × Int)) (a : Nat) : Int × Int := xs[a]?.getD (-1, -1)
theorem srch_spec {W : WT} {n : Nat} : ∀ (xs ys : List (Int × Int)) (i : Nat), xs.length = ys.length →
    (∃ a, a < xs.length ∧ CondW W n (ex xs a) (ex ys a) ∧ (∀ b < a, ¬ CondW W n (ex xs b) (ex ys b)) ∧ srchW W n xs ys i = valW W (i + a) (ex xs a) (ex ys a)) ∨
    (srchW W n xs ys i = [] ∧ ∀ a < xs.length, ¬ CondW W n (ex xs a) (ex ys a))
  | [], ys, i, h => .inr ⟨by cases ys <;> simp [srchW], fun a ha => by simp at ha⟩
  | x :: xs, [], i, h => by simp at h
  | x :: xs, y :: ys, i, h => by
    by_cases hc : CondW W n x y
    · refine .inl ⟨0, by simp, hc, fun b hb => by omega, ?_⟩
      show srchW W n (x :: xs) (y :: ys) i = valW W (i + 0) x y
      unfold srchW valW
      by_cases h1 : x.2 ≠ y.2
      · rw [if_pos h1, if_pos h1]; rfl
      · rw [if_neg h1, if_neg h1, if_pos (hc.resolve_left h1)]; rfl
    · have h1 : ¬ x.2 ≠ y.2 := fun h => hc (.inl h)
      have h2 : ¬ (1 < n ∧ x.1 ≠ -1 ∧ (W x.1.toNat y.1.toNat).length + 1 = n) := fun h => hc (.inr h)
      have he : srchW W n (x :: xs) (y :: ys) i = srchW W n xs ys (i + 1) := by
        conv => lhs; unfold srchW
        rw [if_neg h1, if_neg h2]
      rcases srch_spec xs ys (i + 1) (by simpa using h) with ⟨a, k1, k2, k3, k4⟩ | ⟨k1, k2⟩
      · refine .inl ⟨a + 1, by simp; omega, k2, fun b hb => ?_, by rw [he, k4, show i + 1 + a = i + (a + 1) by omega]; rfl⟩
        match b with
        | 0 => exact hc
        | b + 1 => exact k3 b (by omega)
      · refine .inr ⟨he.trans k1, fun a ha => ?_⟩
        match a with
        | 0 => exact hc
        | a + 1 => exact k2 a (by simpa using ha)
theorem step_ex (m : Mach) (s a : Nat) : stepR m s a = ex (rowAt m s) a := by
  rw [stepR, if_neg (by omega)]; simp [ex, rowAt]
theorem row_len {m : Mach} (hv : Valid m) {s : Nat} (hs : s < m.rows.length) : (rowAt m s).length = m.ins.toNat := by
  have h1 : m.rows[s]? = some m.rows[s] := List.getElem?_eq_getElem hs
  have := (hv.row _ (List.getElem_mem hs)).1
  simp only [rowAt, h1, Option.map_some, Option.getD_some]; omega
theorem ex_fits {m : Mach} (hv : Valid m) {s a : Nat} (hs : s < m.rows.length) (ha : a < m.ins.toNat) :
    ((ex (rowAt m s) a).1 = -1 ∧ (ex (rowAt m s) a).2 = -1) ∨ (0 ≤ (ex (rowAt m s) a).1 ∧ (ex (rowAt m s) a).1 < m.rows.length ∧ 0 ≤ (ex (rowAt m s) a).2 ∧ (ex (rowAt m s) a).2 < m.outs) := by
  obtain ⟨r, e, _, _, h3, h4⟩ := stepR_get hv (s := (s : Int)) (a := (a : Int)) (by omega) (by omega) (by omega)
  rw [step_ex] at h3
  rw [h3]
  exact fits_cases h4
theorem run_cons (m : Mach) (s a : Nat) (w : List Int) : runR m s ((a : Int) :: w) = (ex (rowAt m s) a).2 :: runR m (ex (rowAt m s) a).1 w := by
  rw [runR, step_ex]
/-- Both edges are there, or neither. -/
theorem ex_both {m : Mach} (hv : Valid m) {s t a : Nat} (hs : s < m.rows.length) (ht : t < m.rows.length) (ha : a < m.ins.toNat) (h : (ex (rowAt m s) a).2 = (ex (rowAt m t) a).2) :
    ((ex (rowAt m s) a).1 = -1 ∧ (ex (rowAt m t) a).1 = -1) ∨ ∃ p q : Nat, (ex (rowAt m s) a).1 = (p : Int) ∧ (ex (rowAt m t) a).1 = (q : Int) ∧ p < m.rows.length ∧ q < m.rows.length := by
  have h1 := ex_fits hv hs ha
  have h2 := ex_fits hv ht ha
  rcases h1 with h1 | h1 <;> rcases h2 with h2 | h2
  · exact .inl ⟨h1.1, h2.1⟩
  · omega
  · omega
  · exact .inr ⟨(ex (rowAt m s) a).1.toNat, (ex (rowAt m t) a).1.toNat, by omega, by omega, by omega, by omega⟩
theorem cond_of {m : Mach} (hv : Valid m) {k : Nat} {W : WT} (hW : ∀ s t, s < m.rows.length → t < m.rows.length → Good m k s t (W s t)) {s t b : Nat} (hs : s < m.rows.length) (ht : t < m.rows.length)
    (hno : ∀ v, WOk m.ins.toNat v → v.length ≤ k → runR m s v = runR m t v) (hb : b < m.ins.toNat) {v : List Int} (hvo : WOk m.ins.toNat v) (hl : v.length = k) (hd : runR m s ((b : Int) :: v) ≠ runR m t ((b : Int) :: v)) :
    CondW W (k + 1) (ex (rowAt m s) b) (ex (rowAt m t) b) := by
  by_cases ho : (ex (rowAt m s) b).2 = (ex (rowAt m t) b).2
  · right
    rw [run_cons, run_cons, ho] at hd
    have hd' : runR m (ex (rowAt m s) b).1 v ≠ runR m (ex (rowAt m t) b).1 v := fun h => hd (by rw [h])
    rcases ex_both hv hs ht hb ho with ⟨h1, h2⟩ | ⟨p, q, h1, h2, hp, hq⟩
    · rw [h1, h2] at hd'; exact absurd rfl hd'
    · rw [h1, h2] at hd' ⊢
      have hk : k ≠ 0 := fun h => by
        obtain rfl : v = [] := List.length_eq_zero_iff.1 (by omega)
        exact hd' rfl
      refine ⟨by omega, by omega, ?_⟩
      simp only [Int.toNat_natCast]
      rcases hW p q hp hq with ⟨_, h4⟩ | ⟨_, h4⟩
      · exact absurd (h4 v hvo (by omega)) hd'
      · have h5 := h4.2.2 v hvo hd'
        have h6 : ¬ v.length < (W p q).length := fun h => by have := rank_len hvo h; omega
        have h7 : ¬ (W p q).length < k := fun h => by
          have := hno ((b : Int) :: W p q) (h4.1.cons (by omega)) (by simp; omega)
          rw [run_cons, run_cons, ho, h1, h2] at this
          exact h4.2.1 (List.cons.inj this).2
        omega
  · exact .inl ho
theorem step_good {m : Mach} (hv : Valid m) {k : Nat} {W : WT} (hW : ∀ s t, s < m.rows.length → t < m.rows.length → Good m k s t (W s t)) {s t : Nat} (hs : s < m.rows.length) (ht : t < m.rows.length)
    (hno : ∀ v, WOk m.ins.toNat v → v.length ≤ k → runR m s v = runR m t v) : Good m (k + 1) s t (stepW m W s t (k + 1)) := by
  have hls := row_len hv hs
  have hlt := row_len hv ht
  have hins := hv.ins
  unfold stepW
  rcases srch_spec (W := W) (n := k + 1) (rowAt m s) (rowAt m t) 0 (by rw [hls, hlt]) with ⟨a, k1, k2, k3, k4⟩ | ⟨k1, k2⟩
  · rw [hls] at k1
    rw [k4, Nat.zero_add]
    have hmin : ∀ b : Nat, ∀ v, b < m.ins.toNat → WOk m.ins.toNat v → v.length = k → runR m s ((b : Int) :: v) ≠ runR m t ((b : Int) :: v) → a ≤ b := fun b v hb h1 h2 h3 => by
      by_cases hab : b < a
      · exact absurd (cond_of hv hW hs ht hno hb h1 h2 h3) (k3 b hab)
      · omega
    -- a word of a's least length that separates, and no later one
    have fin : ∀ u, WOk m.ins.toNat u → u.length = k → runR m s ((a : Int) :: u) ≠ runR m t ((a : Int) :: u) →
        (∀ v, WOk m.ins.toNat v → v.length = k → runR m s ((a : Int) :: v) ≠ runR m t ((a : Int) :: v) → rank m.ins.toNat u ≤ rank m.ins.toNat v) → Least m s t ((a : Int) :: u) := fun u hu hul hud hum => by
      refine ⟨hu.cons (by omega), hud, fun v hvo hvd => ?_⟩
      match v, hvo, hvd with
      | [], _, hvd => exact absurd rfl hvd
      | b :: v, hvo, hvd =>
        have hb := hvo.head
        obtain ⟨b, rfl⟩ : ∃ n : Nat, b = (n : Int) := ⟨b.toNat, by omega⟩
        by_cases h1 : v.length < k
        · exact absurd (hno _ hvo (by simp; omega)) hvd
        · by_cases h2 : k < v.length
          · exact Nat.le_of_lt (rank_len (hu.cons (by omega)) (by simp; omega))
          · have hvl : v.length = k := by omega
            have hab := hmin b v (by omega) hvo.tail hvl hvd
            by_cases he : a = b
            · subst he
              exact rank_cons (by omega) (hum v hvo.tail hvl hvd)
            · exact Nat.le_of_lt (rank_head (by omega) hu (by omega))
    by_cases ho : (ex (rowAt m s) a).2 = (ex (rowAt m t) a).2
    · rcases k2 with k2 | ⟨k2, k5, k6⟩
      · exact absurd ho k2
      · rw [show valW W a (ex (rowAt m s) a) (ex (rowAt m t) a) = (a : Int) :: W (ex (rowAt m s) a).1.toNat (ex (rowAt m t) a).1.toNat by simp [valW, ho]]
        rcases ex_both hv hs ht k1 ho with ⟨h1, h2⟩ | ⟨p, q, h1, h2, hp, hq⟩
        · exact absurd h1 k5
        · rw [h1, h2] at k6 ⊢
          simp only [Int.toNat_natCast] at k6 ⊢
          rw [if_pos (by simpa using k6)]
          rcases hW p q hp hq with ⟨h3, _⟩ | ⟨h3, h4⟩
          · rw [h3] at k6; simp at k6; omega
          · have hrun : ∀ v, runR m s ((a : Int) :: v) ≠ runR m t ((a : Int) :: v) ↔ runR m p v ≠ runR m q v := fun v => by
              rw [run_cons, run_cons, ho, h1, h2]; simp
            exact .inr ⟨by simp, fin _ h4.1 (by omega) ((hrun _).2 h4.2.1) fun v hvo _ hvd => h4.2.2 v hvo ((hrun v).1 hvd)⟩
    · rw [show valW W a (ex (rowAt m s) a) (ex (rowAt m t) a) = [(a : Int)] by simp [valW, ho]]
      have hd : runR m s [(a : Int)] ≠ runR m t [(a : Int)] := by rw [run_cons, run_cons]; intro h; exact ho (List.cons.inj h).1
      have hk : k = 0 := by
        by_cases h : k = 0
        · exact h
        · exact absurd (hno [(a : Int)] (fun x hx => by simp at hx; omega) (by simp; omega)) hd
      subst hk
      rw [if_pos (by simp)]
      refine .inr ⟨by simp, fin [] (fun x hx => by simp at hx) rfl hd fun v _ hvl _ => ?_⟩
      obtain rfl : v = [] := List.length_eq_zero_iff.1 hvl
      exact Nat.le_refl _
  · rw [k1, if_neg (by simp)]
    refine .inl ⟨rfl, fun v hvo hvl => ?_⟩
    by_cases h : v.length ≤ k
    · exact hno v hvo h
    · match v, hvo with
      | [], _ => rfl
      | b :: v, hvo =>
        have hb := hvo.head
        obtain ⟨b, rfl⟩ : ∃ n : Nat, b = (n : Int) := ⟨b.toNat, by omega⟩
        by_cases hd : runR m s ((b : Int) :: v) = runR m t ((b : Int) :: v)
        · exact hd
        · exact absurd (cond_of hv hW hs ht hno (by omega) hvo.tail (by simp at h hvl; omega) hd) (k2 b (by omega))
end Go.Avl
namespace Go.Avl
open Go Go.Proofs.Try
set_option maxRecDepth 10000
set_option linter.unusedSimpArgs false

theorem putOne_at (W : WT) {s t : Nat} (w : List Int) (h : s < t) (a b : Nat) : putOne W ((s, t), w) a b = if (a = s ∧ b = t) ∨ (a = t ∧ b = s) then w else W a b := by
  unfold putOne updW
  by_cases h1 : a = t ∧ b = s
  · rw [if_pos h1, if_pos (.inr h1)]
  · by_cases h2 : a = s ∧ b = t
    · rw [if_neg h1, if_pos h2, if_pos (.inl h2)]
    · rw [if_neg h1, if_neg h2, if_neg (by rintro (h | h) <;> contradiction)]
theorem putAll_spec (f : Nat → Nat → List Int) : ∀ (l : NowT) (W : WT), (∀ p ∈ l, p.1.1 < p.1.2 ∧ p.2 = f p.1.1 p.1.2) → ∀ a b : Nat,
    ((∃ p ∈ l, p.1 = (a, b)) → putAll W l a b = f a b) ∧ ((∃ p ∈ l, p.1 = (b, a)) → putAll W l a b = f b a) ∧ ((∀ p ∈ l, p.1 ≠ (a, b) ∧ p.1 ≠ (b, a)) → putAll W l a b = W a b)
  | [], W, _, a, b => ⟨fun ⟨p, h, _⟩ => (by cases h), fun ⟨p, h, _⟩ => (by cases h), fun _ => rfl⟩
  | ((s, t), w) :: l, W, hl, a, b => by
    have hl' : ∀ p ∈ l, p.1.1 < p.1.2 ∧ p.2 = f p.1.1 p.1.2 := fun p hp => hl p (List.mem_cons_of_mem _ hp)
    obtain ⟨hst, hw⟩ := hl _ List.mem_cons_self
    simp only at hst hw
    obtain ⟨i1, i2, i3⟩ := putAll_spec f l (putOne W ((s, t), w)) hl' a b
    have he : putAll W (((s, t), w) :: l) a b = putAll (putOne W ((s, t), w)) l a b := rfl
    rw [he]
    refine ⟨fun ⟨p, hp, e⟩ => ?_, fun ⟨p, hp, e⟩ => ?_, fun h => ?_⟩
    · by_cases h1 : ∃ p ∈ l, p.1 = (a, b)
      · exact i1 h1
      · rcases List.mem_cons.1 hp with rfl | hp
        · simp only [Prod.mk.injEq] at e
          obtain ⟨rfl, rfl⟩ := e
          rw [i3 fun q hq => ⟨fun e => h1 ⟨q, hq, e⟩, fun e => by have := (hl' q hq).1; rw [e] at this; simp at this; omega⟩, putOne_at W w hst, if_pos (.inl ⟨rfl, rfl⟩), hw]
        · exact absurd ⟨p, hp, e⟩ h1
    · by_cases h1 : ∃ p ∈ l, p.1 = (b, a)
      · exact i2 h1
      · rcases List.mem_cons.1 hp with rfl | hp
        · simp only [Prod.mk.injEq] at e
          obtain ⟨rfl, rfl⟩ := e
          rw [i3 fun q hq => ⟨fun e => by have := (hl' q hq).1; rw [e] at this; simp at this; omega, fun e => h1 ⟨q, hq, e⟩⟩, putOne_at W w hst, if_pos (.inr ⟨rfl, rfl⟩), hw]
        · exact absurd ⟨p, hp, e⟩ h1
    · rw [i3 fun q hq => h q (List.mem_cons_of_mem _ hq), putOne_at W w hst, if_neg]
      have := h _ List.mem_cons_self
      simp only [ne_eq, Prod.mk.injEq] at this
      omega
theorem inP_mem {s q : Nat} : ∀ {k t : Nat}, t ≤ q → q < t + k → (s, q) ∈ inP s k t
  | 0, t, h1, h2 => by omega
  | k + 1, t, h1, h2 => by
    by_cases h : q = t
    · subst h; exact List.mem_cons_self
    · exact List.mem_cons_of_mem _ (inP_mem (by omega) (by omega))
theorem outP_mem {n p q : Nat} (hpq : p < q) (hq : q < n) : ∀ {k s : Nat}, s ≤ p → p < s + k → (p, q) ∈ outP n k s
  | 0, s, h1, h2 => by omega
  | k + 1, s, h1, h2 => by
    by_cases h : p = s
    · subst h; exact List.mem_append_left _ (inP_mem (by omega) (by omega))
    · exact List.mem_append_right _ (outP_mem hpq hq (by omega) (by omega))
theorem nowL_mem {m : Mach} {W : WT} {n s t : Nat} (hst : s < t) (ht : t < m.rows.length) (h1 : W s t = []) (h2 : stepW m W s t n ≠ []) : ((s, t), stepW m W s t n) ∈ nowL m W n (pairsN m.rows.length) :=
  List.mem_filterMap.2 ⟨(s, t), outP_mem hst ht (Nat.zero_le _) (by omega), by simp [nowOf, h1, h2]⟩
theorem Good.none {m : Mach} {k s t : Nat} {w : List Int} (h : Good m k s t w) (hl : w.length ≤ k) (hw : w = []) : ∀ v, WOk m.ins.toNat v → v.length ≤ k → runR m s v = runR m t v := by
  rcases h with h | h
  · exact h.2
  · exact absurd hw h.1
theorem tab_good {m : Mach} (hv : Valid m) : ∀ (k s t : Nat), s < m.rows.length → t < m.rows.length → Good m k s t (tabAt m k s t)
  | 0, s, t, _, _ => .inl ⟨rfl, fun v _ hl => by obtain rfl : v = [] := List.length_eq_zero_iff.1 (by omega); rfl⟩
  | k + 1, a, b, ha, hb => by
    have hW : ∀ s t, s < m.rows.length → t < m.rows.length → Good m k s t (tabAt m k s t) := tab_good hv k
    have hlen := tabAt_len m k
    obtain ⟨W, hWe⟩ : ∃ W, W = tabAt m k := ⟨_, rfl⟩
    rw [show tabAt m (k + 1) = putAll (tabAt m k) (nowL m (tabAt m k) (k + 1) (pairsN m.rows.length)) from rfl]
    rw [← hWe] at hW hlen ⊢
    obtain ⟨i1, i2, i3⟩ := putAll_spec (fun s t => stepW m W s t (k + 1)) (nowL m W (k + 1) (pairsN m.rows.length)) W (fun p hp => by
      have := mem_nowL hp
      exact ⟨this.1, this.2.2.2.1⟩) a b
    -- one order of the two
    have key : ∀ s t, s < t → t < m.rows.length → ((∃ p ∈ nowL m W (k + 1) (pairsN m.rows.length), p.1 = (s, t)) ∧ Good m (k + 1) s t (stepW m W s t (k + 1))) ∨ ((∀ p ∈ nowL m W (k + 1) (pairsN m.rows.length), p.1 ≠ (s, t)) ∧ ∀ w, Good m k s t w → w.length ≤ k → Good m (k + 1) s t w) := fun s t hst ht => by
      by_cases h1 : W s t = []
      · have hno := (hW s t (by omega) ht).none (hlen s t) h1
        have hg := step_good hv hW (by omega) ht hno
        by_cases h2 : stepW m W s t (k + 1) = []
        · refine .inr ⟨fun p hp e => ?_, fun w hgw hwl => ?_⟩
          · obtain ⟨_, _, _, h4, h5⟩ := mem_nowL hp
            rw [e] at h4
            exact h5 (h4.trans h2)
          · rcases hgw with ⟨h3, _⟩ | ⟨_, h4⟩
            · subst h3; rw [h2] at hg; exact hg
            · exact absurd (hno w h4.1 hwl) h4.2.1
        · exact .inl ⟨⟨_, nowL_mem hst ht h1 h2, rfl⟩, hg⟩
      · refine .inr ⟨fun p hp e => ?_, fun w hgw hwl => ?_⟩
        · obtain ⟨_, _, h3, _⟩ := mem_nowL hp
          rw [e] at h3; exact h1 h3
        · rcases hgw with ⟨h3, h4⟩ | h4
          · rcases hW s t (by omega) ht with ⟨h5, _⟩ | ⟨_, h5⟩
            · exact absurd h5 h1
            · exact absurd (h4 _ h5.1 (hlen s t)) h5.2.1
          · exact .inr h4
    by_cases h1 : a < b
    · rcases key a b h1 hb with ⟨h2, h3⟩ | ⟨h2, h3⟩
      · rw [i1 h2]; exact h3
      · rw [i3 fun p hp => ⟨h2 p hp, fun e => by have := (mem_nowL hp).1; rw [e] at this; simp at this; omega⟩]
        exact h3 _ (hW a b ha hb) (hlen a b)
    · by_cases h2 : b < a
      · rcases key b a h2 ha with ⟨h3, h4⟩ | ⟨h3, h4⟩
        · rw [i2 h3]; exact h4.symm
        · rw [i3 fun p hp => ⟨fun e => by have := (mem_nowL hp).1; rw [e] at this; simp at this; omega, h3 p hp⟩]
          exact (h4 _ (hW a b ha hb).symm (hlen a b)).symm
      · obtain rfl : a = b := by omega
        rw [i3 fun p hp => by have := (mem_nowL hp).1; exact ⟨fun e => by rw [e] at this; simp at this, fun e => by rw [e] at this; simp at this⟩]
        rcases hW a a ha hb with ⟨h3, _⟩ | h3
        · exact .inl ⟨h3, fun v _ _ => rfl⟩
        · exact .inr h3

/-- No word of up to k symbols separates. -/
def Alike (m : Mach) (k s t : Nat) : Prop := ∀ v, WOk m.ins.toNat v → v.length ≤ k → runR m s v = runR m t v
theorem alike_succ {m : Mach} (hv : Valid m) {k : Nat} (hk : ∀ s t, s < m.rows.length → t < m.rows.length → Alike m k s t → Alike m (k + 1) s t) {s t : Nat} (hs : s < m.rows.length) (ht : t < m.rows.length) (h : Alike m k s t) : ∀ j, Alike m (k + j) s t
  | 0 => h
  | j + 1 => by
    intro v hvo hvl
    have h1 := hk s t hs ht h
    match v, hvo with
    | [], _ => rfl
    | b :: v, hvo =>
      have hb := hvo.head
      obtain ⟨b, rfl⟩ : ∃ n : Nat, b = (n : Int) := ⟨b.toNat, by omega⟩
      have hbl : b < m.ins.toNat := by omega
      have ho : (ex (rowAt m s) b).2 = (ex (rowAt m t) b).2 := by
        have := h1 [(b : Int)] (fun x hx => by simp at hx; omega) (by simp)
        rw [run_cons, run_cons] at this
        exact (List.cons.inj this).1
      rw [run_cons, run_cons, ho]
      congr 1
      rcases ex_both hv hs ht hbl ho with ⟨e1, e2⟩ | ⟨p, q, e1, e2, hp, hq⟩
      · rw [e1, e2]
      · rw [e1, e2]
        have h2 : Alike m k p q := fun u hu hul => by
          have := h1 ((b : Int) :: u) (hu.cons (by omega)) (by simp; omega)
          rw [run_cons, run_cons, e1, e2] at this
          exact (List.cons.inj this).2
        exact alike_succ hv hk hp hq h2 j v hvo.tail (by simp at hvl; omega)
end Go.Avl
namespace Go.Avl
open Go Go.Proofs.Try
set_option maxRecDepth 10000
set_option linter.unusedSimpArgs false

theorem countP_lt {α : Type} {p q : α → Bool} : ∀ {l : List α}, (∀ x ∈ l, p x = true → q x = true) → (∃ x ∈ l, q x = true ∧ p x = false) → l.countP p < l.countP q
  | [], _, ⟨x, h, _⟩ => by cases h
  | y :: l, hpq, ⟨x, hx, h1, h2⟩ => by
    have hm : l.countP p ≤ l.countP q := List.countP_mono_left fun x hx => hpq x (List.mem_cons_of_mem _ hx)
    rw [List.countP_cons, List.countP_cons]
    rcases List.mem_cons.1 hx with rfl | hx
    · rw [h1, h2]; simp; omega
    · have := countP_lt (fun x hx => hpq x (List.mem_cons_of_mem _ hx)) ⟨x, hx, h1, h2⟩
      have h3 := hpq y List.mem_cons_self
      by_cases h4 : p y = true
      · rw [if_pos h4, if_pos (h3 h4)]; omega
      · rw [if_neg h4]; split <;> omega
open Classical in
noncomputable def leadB (m : Mach) (k : Nat) (s : Nat) : Bool := decide (∀ t < s, ¬ Alike m k t s)
noncomputable def cntL (m : Mach) (k : Nat) : Nat := (List.range m.rows.length).countP (leadB m k)
theorem Alike.symm {m : Mach} {k s t : Nat} (h : Alike m k s t) : Alike m k t s := fun v h1 h2 => (h v h1 h2).symm
theorem Alike.trans {m : Mach} {k s t u : Nat} (h : Alike m k s t) (h' : Alike m k t u) : Alike m k s u := fun v h1 h2 => (h v h1 h2).trans (h' v h1 h2)
theorem Alike.le {m : Mach} {k j s t : Nat} (h : Alike m k s t) (hj : j ≤ k) : Alike m j s t := fun v h1 h2 => h v h1 (by omega)
/-- The least state of a class. -/
theorem lead_of (m : Mach) (k : Nat) : ∀ s, ∃ c, c ≤ s ∧ Alike m k c s ∧ leadB m k c = true := fun s => by
  induction s using Nat.strongRecOn with
  | _ s ih =>
    by_cases h : ∃ t, t < s ∧ Alike m k t s
    · obtain ⟨t, h1, h2⟩ := h
      obtain ⟨c, h3, h4, h5⟩ := ih t h1
      exact ⟨c, by omega, h4.trans h2, h5⟩
    · exact ⟨s, Nat.le_refl _, fun _ _ _ => rfl, by simp only [leadB, decide_eq_true_eq]; exact fun t h1 h2 => h ⟨t, h1, h2⟩⟩
theorem cntL_grows {m : Mach} {k : Nat} (h : ¬ ∀ s t, s < m.rows.length → t < m.rows.length → Alike m k s t → Alike m (k + 1) s t) : cntL m k < cntL m (k + 1) := by
  refine countP_lt (fun s _ hs => ?_) ?_
  · simp only [leadB, decide_eq_true_eq] at hs ⊢
    exact fun t h1 h2 => hs t h1 (h2.le (by omega))
  · simp only [Classical.not_forall] at h
    obtain ⟨s, t, hs, ht, h1, h2⟩ := h
    obtain ⟨c, c1, c2, c3⟩ := lead_of m k s
    -- one of the two is no longer like c
    have : ∃ u, u < m.rows.length ∧ Alike m k c u ∧ ¬ Alike m (k + 1) c u := by
      by_cases h3 : Alike m (k + 1) c s
      · exact ⟨t, ht, c2.trans h1, fun h4 => h2 (h3.symm.trans h4)⟩
      · exact ⟨s, hs, c2, h3⟩
    obtain ⟨u, hu, u1, u2⟩ := this
    obtain ⟨d, d1, d2, d3⟩ := lead_of m (k + 1) u
    have hcd : Alike m k c d := u1.trans (d2.le (by omega)).symm
    have hne : c ≠ d := fun e => u2 (by rw [e]; exact d2)
    refine ⟨d, List.mem_range.2 (by omega), d3, ?_⟩
    have hlt : c < d := by
      by_cases h5 : c < d
      · exact h5
      · have h6 : d < c := by omega
        simp only [leadB, decide_eq_true_eq] at c3
        exact absurd hcd.symm (c3 d h6)
    rw [Bool.eq_false_iff]
    intro h7
    simp only [leadB, decide_eq_true_eq] at h7
    exact h7 c hlt hcd
theorem alike_all {m : Mach} (hv : Valid m) {k s t : Nat} (hk : m.rows.length ≤ k + 1) (hs : s < m.rows.length) (ht : t < m.rows.length) (h : Alike m k s t) : ∀ v, WOk m.ins.toNat v → runR m s v = runR m t v := by
  have hN := hv.rows
  have hex : ∃ j, j + 1 ≤ m.rows.length ∧ ∀ s t, s < m.rows.length → t < m.rows.length → Alike m j s t → Alike m (j + 1) s t := by
    by_cases hx : ∃ j, j + 1 ≤ m.rows.length ∧ ∀ s t, s < m.rows.length → t < m.rows.length → Alike m j s t → Alike m (j + 1) s t
    · exact hx
    · exfalso
      have hg : ∀ j, j ≤ m.rows.length → j + 1 ≤ cntL m j := fun j => by
        induction j with
        | zero =>
          intro _
          have : 0 < cntL m 0 := List.countP_pos_iff.2 ⟨0, List.mem_range.2 (by omega), by simp [leadB]⟩
          omega
        | succ j ih =>
          intro hj
          have h1 := ih (by omega)
          have h2 := cntL_grows (m := m) (k := j) fun h => hx ⟨j, hj, h⟩
          omega
      have h1 := hg m.rows.length (Nat.le_refl _)
      have h2 : cntL m m.rows.length ≤ m.rows.length := by
        have := List.countP_le_length (p := leadB m m.rows.length) (l := List.range m.rows.length)
        simpa [cntL] using this
      omega
  obtain ⟨j, hj, hst⟩ := hex
  intro v hvo
  exact alike_succ hv hst hs ht (h.le (by omega)) v.length v hvo (by omega)
/-- The separating word, or none. -/
theorem sepW_spec {m : Mach} (hv : Valid m) {s t : Nat} (hs : s < m.rows.length) (ht : t < m.rows.length) :
    (sepW m s t = [] ∧ ∀ v, WOk m.ins.toNat v → runR m s v = runR m t v) ∨ (sepW m s t ≠ [] ∧ Least m s t (sepW m s t)) := by
  have hN := hv.rows
  rcases tab_good hv (max m.rows.length 2 - 1) s t hs ht with ⟨h1, h2⟩ | h
  · exact .inl ⟨h1, alike_all hv (k := max m.rows.length 2 - 1) (by omega) hs ht h2⟩
  · exact .inr h
theorem sepW_lt (m : Mach) (s t : Nat) : (sepW m s t).length < max m.rows.length 2 := by
  have := tabAt_len m (max m.rows.length 2 - 1) s t
  unfold sepW; omega
theorem sepW_symm {m : Mach} (hv : Valid m) {s t : Nat} (hs : s < m.rows.length) (ht : t < m.rows.length) : sepW m s t = sepW m t s := by
  rcases sepW_spec hv hs ht with ⟨h1, h2⟩ | ⟨h1, h2⟩ <;> rcases sepW_spec hv ht hs with ⟨h3, h4⟩ | ⟨h3, h4⟩
  · rw [h1, h3]
  · exact absurd (h2 _ h4.1).symm h4.2.1
  · exact absurd (h4 _ h2.1).symm h2.2.1
  · exact rank_inj h2.1 h4.1 (Nat.le_antisymm (h2.2.2 _ h4.1 h4.2.1.symm) (h4.2.2 _ h2.1 h2.2.1.symm))
theorem rank_lt_len {k : Nat} {v w : List Int} (hw : WOk k w) (h : rank k v ≤ rank k w) : v.length ≤ w.length := by
  by_cases h1 : w.length < v.length
  · have := rank_len hw h1; omega
  · omega
theorem refSep_is {m : Mach} (hv : Valid m) (s t : Nat) (hs : s < m.rows.length) (ht : t < m.rows.length) {w : List Int} (hw : sepW m s t = w) :
    PureIs prog 12 [.ag m.cells, .sc (.int .i64 s), .sc (.int .i64 t)] (.tu [.sl w.isEmpty (w.map intC) .unk, .sc (.bool (!w.isEmpty))]) := by
  have hins := hv.ins
  have hlt := sepW_lt m s t
  have hK : (m.ins.toNat : Int) = m.ins := by omega
  have h1 : 1 ≤ m.ins.toNat := by omega
  rcases sepW_spec hv hs ht with ⟨h2, h3⟩ | ⟨h2, h3⟩
  · rw [hw] at h2; subst h2
    refine refsep_is hv s t (by omega) (by omega) (sumK m.ins.toNat (max m.rows.length 2)) (fun j hj => ?_) [] (.inr ⟨?_, rfl⟩)
    · rw [← hK]
      obtain ⟨k1, k2⟩ := rank_at h1 j
      refine ⟨?_, h3 _ k1⟩
      by_cases h4 : (wordAt m.ins.toNat j).length < max m.rows.length 2
      · exact h4
      · have := rank_ge (k := m.ins.toNat) (wordAt m.ins.toNat j)
        have := sumK_mono (k := m.ins.toNat) (show max m.rows.length 2 ≤ (wordAt m.ins.toNat j).length by omega)
        omega
    · rw [← hK]
      obtain ⟨k1, k2⟩ := rank_at h1 (sumK m.ins.toNat (max m.rows.length 2))
      by_cases h4 : max m.rows.length 2 ≤ (wordAt m.ins.toNat (sumK m.ins.toNat (max m.rows.length 2))).length
      · exact h4
      · have := rank_lt k1
        have := sumK_mono (k := m.ins.toNat) (show (wordAt m.ins.toNat (sumK m.ins.toNat (max m.rows.length 2))).length + 1 ≤ max m.rows.length 2 by omega)
        omega
  · rw [hw] at h2 h3 hlt
    have hat : wordAt m.ins (rank m.ins.toNat w) = w := by rw [← hK]; exact at_rank h1 h3.1
    refine refsep_is hv s t (by omega) (by omega) (rank m.ins.toNat w) (fun j hj => ?_) w (.inl ⟨by rw [hat]; exact hlt, h3.2.1, hat.symm⟩)
    rw [← hK]
    obtain ⟨k1, k2⟩ := rank_at h1 j
    refine ⟨?_, ?_⟩
    · have := rank_lt_len (v := wordAt m.ins.toNat j) h3.1 (by omega)
      omega
    · by_cases h4 : runR m s (wordAt m.ins.toNat j) = runR m t (wordAt m.ins.toNat j)
      · exact h4
      · have := h3.2.2 _ k1 h4; omega
end Go.Avl
namespace Go.Avl
open Go Go.Proofs.Try
set_option maxRecDepth 10000
set_option linter.unusedSimpArgs false

set_option maxHeartbeats 4000000 in
theorem splitsTable_is {x : LM} (hx : x.Ok) : PureIs prog 5 [.ag x.cells] (.sc (.bool true)) := by
  obtain ⟨b1, b2, b3, b4, b5, b6, -, -⟩ := LM.bounds hx
  have hv := LM.valid hx
  have hn : x.mach.rows.length = x.n := by simp [LM.mach]
  obtain ⟨m, hm⟩ : ∃ m, m = x.mach := ⟨_, rfl⟩
  have hmo := mOf_is hx
  rw [← hm] at hv hn hmo
  have h0 := checkM_of hv
  have ht := table_is m hv.small
  rw [tableA, if_neg (by simp [h0])] at ht
  have hh := height_is m hv.small
  rw [heightA, if_neg (by simp [h0])] at hh
  refine PureIs.of (nv := 14) (hid := [38, 43, 52, 102]) func5 rfl (by kernel_rfl) (by simp [ntmps5]) fun _ => ?_
  rw [ntmps5, results5]
  refine EvC.seq (EvC.rg (by (simp only [go_sem, LM.cells]) <;> rfl) (by simp) ?_)
  apply EvC.seq
  apply EvC.tr
  · apply Tr.run
    · (simp only [go_sem, LM.cells]) <;> rfl
    · simp
    apply Tr.cons
    · exact .call rfl rfl (by (simp only [go_sem]) <;> rfl) (by (simp only [go_sem]) <;> rfl) (by (simp only [go_sem]) <;> rfl) (by (simp only [go_sem]) <;> rfl) (by (simp only [go_sem]) <;> rfl) (hmo)
    apply Tr.done
    · (simp only [go_sem, Mach.cells]) <;> rfl
    · simp
  refine EvC.frzB 4 (by (simp only [go_sem]) <;> rfl) ?_
  have hPl : (pairsN m.rows.length).length ≤ 36 := by
    have := pairsN_len m.rows.length
    have : m.rows.length * m.rows.length ≤ 6 * 6 := Nat.mul_le_mul (by omega) (by omega)
    omega
  obtain ⟨P, hP⟩ : ∃ P, P = pairsN m.rows.length := ⟨_, rfl⟩
  obtain ⟨T, hT⟩ : ∃ T, T = tblL m := ⟨_, rfl⟩
  have hTP : T = P.map fun p => (p, sepW m p.1 p.2) := by rw [hT, hP]; rfl
  have hTl : T.length = P.length := by rw [hTP, List.length_map]
  rw [← hT] at ht hh
  rw [← hP] at hPl
  apply EvC.seq
  apply EvC.tr
  · apply Tr.run
    · (simp only [go_sem, Mach.cells]) <;> rfl
    · simp
    apply Tr.cons
    · exact .call rfl rfl (by (simp only [go_sem]) <;> rfl) (by (simp only [go_sem]) <;> rfl) (by (simp only [go_sem]) <;> rfl) (by (simp only [go_sem]) <;> rfl) (by (simp only [go_sem]) <;> rfl) (ht)
    apply Tr.done
    · (simp only [go_sem]) <;> rfl
    · simp
  apply EvC.seq
  apply EvC.tr
  · apply Tr.run
    · (simp only [go_sem, Mach.cells]) <;> rfl
    · simp
    apply Tr.cons
    · exact .call rfl rfl (by (simp only [go_sem]) <;> rfl) (by (simp only [go_sem]) <;> rfl) (by (simp only [go_sem]) <;> rfl) (by (simp only [go_sem]) <;> rfl) (by (simp only [go_sem]) <;> rfl) (hh)
    apply Tr.done
    · (simp only [go_sem]) <;> rfl
    · simp
  refine EvC.seq ?_
  apply EvC.seq
  apply EvC.trd
  · (simp only [go_sem, decide_true, decide_false, decide_not]) <;> rfl
  · simp
  refine EvC.cond_false (by (simp only [go_sem]) <;> rfl) ?_
  refine EvC.skip ?_
  refine EvC.seq (EvC.rg (by (simp only [go_sem]) <;> rfl) (by simp) ?_)
  refine EvC.seq ?_
  refine EvC.seq (EvC.rg (by (simp only [go_sem]) <;> rfl) (by simp) ?_)
  refine EvC.block ?_  -- 0
  refine EvC.loopS (σ := Nat × Nat × List (Nat × Nat)) (fun g => ⟨[(3, .ia m.cells), (4, .sl T.isEmpty (T.map tblC) .full), (6, .sc (.int .i64 (maxLen T))), (8, .sc (.int .i64 g.2.2.length)), (9, .sc (.int .i64 (maxLen (T.take g.2.2.length)))), (10, .sc (.int .i64 g.2.1))], [], [], 0⟩) (fun g => g.1)
    (fun g => g.1 + g.2.1 = m.rows.length ∧ P = g.2.2 ++ outP m.rows.length g.1 g.2.1) [3, 4, 6, 8, 9, 10] 0 ?_ ?_
  · exact ⟨[], (m.rows.length, 0, []), rfl, (by (simp only [go_sem, Mach.cells, List.length_nil, List.take_zero, maxLen, List.foldl_nil, Int.natCast_zero]) <;> rfl), rfl, hP⟩
  rintro ⟨k, s, pre⟩ ⟨h1, h2⟩
  simp only at h1 h2
  refine EvC.seq ?_
  refine EvC.seq (EvC.rg (by (simp only [go_sem, Mach.cells]) <;> rfl) (by simp) ?_)
  refine EvC.cond (by (simp only [go_sem]) <;> rfl) (fun hc => ?_) (fun hc => ?_)
  rotate_left
  · refine EvC.exit ?_  -- 0
    have hs : ¬ s < m.rows.length := by simpa using hc
    obtain rfl : k = 0 := by omega
    have hpl : pre.length = T.length := by rw [hTl, h2]; simp [outP]
    have h3 : T.take pre.length = T := by rw [hpl, List.take_length]
    rw [h3, hpl]
    apply EvC.seq
    apply EvC.tr
    · apply Tr.run
      · (simp only [go_sem, decide_true]) <;> rfl
      · simp
      apply Tr.cons
      · exact .callG rfl rfl (by (simp only [go_sem]) <;> rfl) rfl (by (simp only [go_sem]) <;> rfl) (by (simp only [go_sem]) <;> rfl) (by (simp only [go_sem]) <;> rfl) (by (simp only [go_sem]) <;> rfl) (by (simp only [go_sem]) <;> rfl) (lives_is)
      apply Tr.done
      · (simp only [go_sem]) <;> rfl
      · simp
    refine EvC.ret ⟨.inl rfl, _, (by (simp only [go_sem]) <;> rfl), ?_, rfl⟩
    simp only [go_sem]
    try rfl
  have hs : s < m.rows.length := by simpa using hc
  clear hc
  obtain ⟨k, rfl⟩ : ∃ j, k = j + 1 := ⟨k - 1, by omega⟩
  rw [outP] at h2
  refine EvC.skip ?_
  refine EvC.seq ?_
  refine EvC.block ?_  -- 1
  have hI1 : inI64 ((s : Int) + 1) = true := inI64_of (by omega) (by omega)
  refine EvC.seq (EvC.rg (by (simp only [go_sem]) <;> rfl) (by simpa using hI1) ?_)
  refine EvC.block ?_  -- 2
  refine EvC.loopS (σ := Nat × Nat × List (Nat × Nat)) (fun g => ⟨[(3, .ia m.cells), (4, .sl T.isEmpty (T.map tblC) .full), (6, .sc (.int .i64 (maxLen T))), (8, .sc (.int .i64 g.2.2.length)), (9, .sc (.int .i64 (maxLen (T.take g.2.2.length)))), (10, .sc (.int .i64 s)), (11, .sc (.int .i64 g.2.1))], [], [], 0⟩) (fun g => g.1)
    (fun g => g.1 + g.2.1 = m.rows.length ∧ P = g.2.2 ++ (inP s g.1 g.2.1 ++ outP m.rows.length k (s + 1))) [3, 4, 6, 8, 9, 10, 11] 0 ?_ ?_
  · exact ⟨[], (m.rows.length - (s + 1), s + 1, pre), rfl, (by (simp only [go_sem, Mach.cells, Int.natCast_add, Int.natCast_one]) <;> rfl), by simp only; omega, h2⟩
  clear h2
  rintro ⟨j, t, pre⟩ ⟨h3, h2⟩
  simp only at h3 h2
  refine EvC.seq ?_
  refine EvC.seq (EvC.rg (by (simp only [go_sem, Mach.cells]) <;> rfl) (by simp) ?_)
  refine EvC.cond (by (simp only [go_sem]) <;> rfl) (fun hc => ?_) (fun hc => ?_)
  rotate_left
  · refine EvC.exit ?_  -- 2
    have ht : ¬ t < m.rows.length := by simpa using hc
    obtain rfl : j = 0 := by omega
    refine EvC.rg (by (simp only [go_sem]) <;> rfl) (by simpa using hI1) ?_
    exact ⟨[], (k, s + 1, pre), rfl, (by (simp only [go_sem, Mach.cells, Int.natCast_add, Int.natCast_one]) <;> rfl), ⟨by simp only; omega, by simpa [inP] using h2⟩, by simp only; omega⟩
  have ht' : t < m.rows.length := by simpa using hc
  clear hc
  obtain ⟨j, rfl⟩ : ∃ i, j = i + 1 := ⟨j - 1, by omega⟩
  rw [inP] at h2
  have hpl : pre.length < T.length := by rw [hTl, h2]; simp
  have hTg : T[pre.length]? = some ((s, t), sepW m s t) := by
    rw [hTP, List.getElem?_map, h2, List.getElem?_append_right (Nat.le_refl _), Nat.sub_self]; rfl
  have htk : T.take (pre.length + 1) = T.take pre.length ++ [((s, t), sepW m s t)] := by rw [List.take_add_one, hTg]; rfl
  have hrs := refSep_is hv s t hs ht' rfl
  have hwl := sepW_lt m s t
  generalize sepW m s t = w at hTg htk hrs hwl
  have hmx : maxLen (T.take (pre.length + 1)) = if maxLen (T.take pre.length) ≤ (w.length : Int) then (w.length : Int) else maxLen (T.take pre.length) := by
    rw [htk, maxLen, List.foldl_append]; show max (maxLen (T.take pre.length)) (w.length : Int) = _; omega
  have hwe : decide (0 < (w.length : Int)) = !w.isEmpty := by cases w <;> simp
  refine EvC.skip ?_
  refine EvC.seq ?_
  refine EvC.block ?_  -- 3
  apply EvC.seq
  apply EvC.tr
  · apply Tr.run
    · (simp only [go_sem, Mach.cells]) <;> rfl
    · simp
    apply Tr.cons
    · exact .call rfl rfl (by (simp only [go_sem]) <;> rfl) (by (simp only [go_sem]) <;> rfl) (by (simp only [go_sem]) <;> rfl) (by (simp only [go_sem]) <;> rfl) (by (simp only [go_sem]) <;> rfl) (hrs)
    apply Tr.done
    · (simp only [go_sem]) <;> rfl
    · simp
  refine EvC.seq ?_
  have hne : decide ((pre.length : Int) = (T.length : Int)) = false := decide_eq_false (by omega)
  apply EvC.seq
  apply EvC.tr
  · apply Tr.run
    · (simp only [go_sem, hne, hTg, tblC, hwe, decide_true, decide_not, Int.toNat_natCast, beq_self_eq_true]) <;> rfl
    · simp
    apply Tr.cons
    · exact .callG rfl rfl (by (simp only [go_sem]) <;> rfl) rfl (by (simp only [go_sem]) <;> rfl) (by (simp only [go_sem]) <;> rfl) (by (simp only [go_sem]) <;> rfl) (by (simp only [go_sem]) <;> rfl) (by (simp only [go_sem]) <;> rfl) (by simpa using list_is w.isEmpty w w.isEmpty w .unk 0 0 (by omega))
    apply Tr.done
    · (simp only [go_sem]) <;> rfl
    · simp
  refine EvC.cond_false (by (simp only [go_sem]) <;> rfl) ?_
  refine EvC.skip ?_
  refine EvC.seq (EvC.rg (by (simp only [go_sem]) <;> rfl) (by simp) ?_)
  have hI2 : inI64 ((pre.length : Int) + 1) = true := inI64_of (by omega) (by omega)
  refine EvC.rg (by (simp only [go_sem]) <;> rfl) (by simpa using hI2) ?_
  have hI3 : inI64 ((t : Int) + 1) = true := inI64_of (by omega) (by omega)
  refine EvC.rg (by (simp only [go_sem]) <;> rfl) (by simpa using hI3) ?_
  exact ⟨[], (j, t + 1, pre ++ [(s, t)]), rfl, (by (simp only [go_sem, Mach.cells, Int.natCast_add, Int.natCast_one, List.length_append, List.length_cons, List.length_nil, Nat.zero_add, hmx]) <;> rfl), ⟨by simp only; omega, by rw [h2]; simp⟩, by simp only; omega⟩
end Go.Avl
namespace Go.Avl
open Go Go.Proofs.Try
set_option maxRecDepth 10000
set_option linter.unusedSimpArgs false

theorem ladder_step {m : Mach} (hv : Valid m) {s t : Nat} (hs : s < m.rows.length) (ht : t < m.rows.length) {a : Int} {u : List Int} (h : sepW m s t = a :: u) (hu : u ≠ []) :
    ∃ p q : Nat, p < m.rows.length ∧ q < m.rows.length ∧ afterR m s [a] = p ∧ afterR m t [a] = q ∧ sepW m p q = u := by
  have hins := hv.ins
  rcases sepW_spec hv hs ht with ⟨h1, _⟩ | ⟨_, h1⟩
  · rw [h] at h1; cases h1
  rw [h] at h1
  obtain ⟨k1, k2, k3⟩ := h1
  have ha := k1.head
  obtain ⟨a, rfl⟩ : ∃ n : Nat, a = (n : Int) := ⟨a.toNat, by omega⟩
  have hal : a < m.ins.toNat := by omega
  have hul : 0 < u.length := List.length_pos_iff.2 hu
  have ho : (ex (rowAt m s) a).2 = (ex (rowAt m t) a).2 := by
    by_cases ho : (ex (rowAt m s) a).2 = (ex (rowAt m t) a).2
    · exact ho
    · have h4 := k3 [(a : Int)] (fun x hx => by simp at hx; omega) (by rw [run_cons, run_cons]; intro h; exact ho (List.cons.inj h).1)
      have := rank_len (k := m.ins.toNat) (w := [(a : Int)]) (v := (a : Int) :: u) (fun x hx => by simp at hx; omega) (by simp; omega)
      omega
  have hrun : ∀ v, runR m s ((a : Int) :: v) ≠ runR m t ((a : Int) :: v) ↔ runR m (ex (rowAt m s) a).1 v ≠ runR m (ex (rowAt m t) a).1 v := fun v => by
    rw [run_cons, run_cons, ho]; simp
  have hd := (hrun u).1 k2
  rcases ex_both hv hs ht hal ho with ⟨e1, e2⟩ | ⟨p, q, e1, e2, hp, hq⟩
  · rw [e1, e2] at hd; exact absurd rfl hd
  · refine ⟨p, q, hp, hq, ?_, ?_, ?_⟩
    · show (stepR m s a).1 = p
      rw [step_ex, e1]
    · show (stepR m t a).1 = q
      rw [step_ex, e2]
    · rw [e1, e2] at hd
      rcases sepW_spec hv hp hq with ⟨_, h5⟩ | ⟨_, h5⟩
      · exact absurd (h5 u k1.tail) hd
      · obtain ⟨l1, l2, l3⟩ := h5
        have h6 := l3 u k1.tail hd
        have h7 := k3 ((a : Int) :: sepW m p q) (l1.cons (by omega)) ((hrun _).2 (by rw [e1, e2]; exact l2))
        have h8 := rank_lt_len k1.tail h6
        have h9 := rank_lt_len (l1.cons ha) h7
        have h10 : u.length = (sepW m p q).length := by simp at h9; omega
        refine rank_inj l1 k1.tail (Nat.le_antisymm h6 ?_)
        simp only [rank, h10] at h7
        omega
theorem maxLen_ge : ∀ {T : List TRow} {p : TRow}, p ∈ T → (p.2.length : Int) ≤ maxLen T := fun {T p} hp => by
  have key : ∀ (l : List TRow) (n : Int), n ≤ l.foldl (fun n p => max n (p.2.length : Int)) n ∧ ∀ p ∈ l, (p.2.length : Int) ≤ l.foldl (fun n p => max n (p.2.length : Int)) n := fun l => by
    induction l with
    | nil => intro n; exact ⟨Int.le_refl _, fun p hp => by cases hp⟩
    | cons x l ih =>
      intro n
      obtain ⟨h1, h2⟩ := ih (max n (x.2.length : Int))
      refine ⟨by rw [List.foldl_cons]; omega, fun p hp => ?_⟩
      rw [List.foldl_cons]
      rcases List.mem_cons.1 hp with rfl | hp
      · omega
      · exact h2 p hp
  exact (key T 0).2 p hp
theorem maxLen_ex (T : List TRow) : maxLen T = 0 ∨ ∃ p ∈ T, (p.2.length : Int) = maxLen T := by
  have key : ∀ (l : List TRow) (n : Int), l.foldl (fun n p => max n (p.2.length : Int)) n = n ∨ ∃ p ∈ l, (p.2.length : Int) = l.foldl (fun n p => max n (p.2.length : Int)) n := fun l => by
    induction l with
    | nil => intro n; exact .inl rfl
    | cons x l ih =>
      intro n
      rw [List.foldl_cons]
      rcases ih (max n (x.2.length : Int)) with h | ⟨p, h1, h2⟩
      · by_cases h3 : n ≤ (x.2.length : Int)
        · exact .inr ⟨x, List.mem_cons_self, by rw [h]; omega⟩
        · exact .inl (by rw [h]; omega)
      · exact .inr ⟨p, List.mem_cons_of_mem _ h1, h2⟩
  exact key T 0
theorem tblL_mem {m : Mach} {p : TRow} : p ∈ tblL m ↔ p.1.1 < p.1.2 ∧ p.1.2 < m.rows.length ∧ p.2 = sepW m p.1.1 p.1.2 := by
  unfold tblL
  rw [List.mem_map]
  constructor
  · rintro ⟨q, h1, rfl⟩
    have := mem_pairsN h1
    exact ⟨this.1, this.2, rfl⟩
  · rintro ⟨h1, h2, h3⟩
    exact ⟨p.1, outP_mem h1 h2 (Nat.zero_le _) (by omega), by rw [← h3]⟩
theorem sepW_refl {m : Mach} (hv : Valid m) {s : Nat} (hs : s < m.rows.length) : sepW m s s = [] := by
  rcases sepW_spec hv hs hs with ⟨h, _⟩ | ⟨_, h⟩
  · exact h
  · exact absurd rfl h.2.1
/-- A pair's separating word stands in the table. -/
theorem sepW_tbl {m : Mach} (hv : Valid m) {s t : Nat} (hs : s < m.rows.length) (ht : t < m.rows.length) (h : sepW m s t ≠ []) : ∃ p ∈ tblL m, p.2 = sepW m s t := by
  by_cases h1 : s < t
  · exact ⟨((s, t), sepW m s t), tblL_mem.2 ⟨h1, ht, rfl⟩, rfl⟩
  · by_cases h2 : t < s
    · exact ⟨((t, s), sepW m t s), tblL_mem.2 ⟨h2, hs, rfl⟩, sepW_symm hv ht hs⟩
    · obtain rfl : s = t := by omega
      exact absurd (sepW_refl hv hs) h
theorem ladder_all {m : Mach} (hv : Valid m) : ∀ (d n : Nat), 1 ≤ n → ((n + d : Nat) : Int) = maxLen (tblL m) → ∃ p ∈ tblL m, p.2.length = n
  | 0, n, h1, h2 => by
    rcases maxLen_ex (tblL m) with h | ⟨p, h3, h4⟩
    · omega
    · exact ⟨p, h3, by omega⟩
  | d + 1, n, h1, h2 => by
    obtain ⟨p, h3, h4⟩ := ladder_all hv d (n + 1) (by omega) (by omega)
    obtain ⟨k1, k2, k3⟩ := tblL_mem.1 h3
    match hw : p.2, h4 with
    | a :: u, h4 =>
      have hul : u.length = n := by simpa using h4
      obtain ⟨x, y, hx, hy, _, _, h5⟩ := ladder_step hv (by omega) k2 (k3.symm.trans hw) (fun e => by rw [e] at hul; simp at hul; omega)
      obtain ⟨q, h6, h7⟩ := sepW_tbl hv hx hy (by rw [h5]; intro e; rw [e] at hul; simp at hul; omega)
      exact ⟨q, h6, by rw [h7, h5, hul]⟩
end Go.Avl
namespace Go.Avl
open Go Go.Proofs.Try
set_option maxRecDepth 10000
set_option linter.unusedSimpArgs false

set_option maxHeartbeats 8000000 in
theorem splitsLadder_is {x : LM} (hx : x.Ok) : PureIs prog 6 [.ag x.cells] (.sc (.bool true)) := by
  obtain ⟨b1, b2, b3, b4, b5, b6, -, -⟩ := LM.bounds hx
  have hv := LM.valid hx
  have hn : x.mach.rows.length = x.n := by simp [LM.mach]
  obtain ⟨m, hm⟩ : ∃ m, m = x.mach := ⟨_, rfl⟩
  have hmo := mOf_is hx
  rw [← hm] at hv hn hmo
  have h0 := checkM_of hv
  have hins := hv.ins
  have ht := table_is m hv.small
  rw [tableA, if_neg (by simp [h0])] at ht
  have hh := height_is m hv.small
  rw [heightA, if_neg (by simp [h0])] at hh
  obtain ⟨T, hT⟩ : ∃ T, T = tblL m := ⟨_, rfl⟩
  have hTl : T.length ≤ 36 := by
    have := pairsN_len m.rows.length
    have : m.rows.length * m.rows.length ≤ 6 * 6 := Nat.mul_le_mul (by omega) (by omega)
    rw [hT, tblL, List.length_map]; omega
  have hge : ∀ p ∈ T, (p.2.length : Int) ≤ maxLen T := fun p hp => maxLen_ge hp
  have hmem : ∀ p ∈ T, p.1.1 < p.1.2 ∧ p.1.2 < m.rows.length ∧ p.2 = sepW m p.1.1 p.1.2 := fun p hp => tblL_mem.1 (by rw [← hT]; exact hp)
  have hlad : ∀ d n : Nat, 1 ≤ n → ((n + d : Nat) : Int) = maxLen T → ∃ p ∈ T, p.2.length = n := fun d n h1 h2 => by
    rw [hT] at h2 ⊢
    exact ladder_all hv d n h1 h2
  have hmx : maxLen T = 0 ∨ (0 < maxLen T ∧ maxLen T < m.rows.length) := by
    rcases maxLen_ex T with h | ⟨p, h1, h2⟩
    · exact .inl h
    · obtain ⟨k1, k2, k3⟩ := hmem p h1
      have := sepW_lt m p.1.1 p.1.2
      rw [← k3] at this
      omega
  rw [← hT] at ht hh
  clear hT
  obtain ⟨H, hH⟩ : ∃ H : Nat, maxLen T = (H : Int) := ⟨(maxLen T).toNat, by omega⟩
  rw [hH] at hh hge hlad hmx
  clear hH
  refine PureIs.of (nv := 17) (hid := [49, 56, 78, 85, 109, 127, 130, 137]) func6 rfl (by kernel_rfl) (by simp [ntmps6]) fun _ => ?_
  rw [ntmps6, results6]
  refine EvC.seq (EvC.rg (by (simp only [go_sem, LM.cells]) <;> rfl) (by simp) ?_)
  apply EvC.seq
  apply EvC.tr
  · apply Tr.run
    · (simp only [go_sem, LM.cells]) <;> rfl
    · simp
    apply Tr.cons
    · exact .call rfl rfl (by (simp only [go_sem]) <;> rfl) (by (simp only [go_sem]) <;> rfl) (by (simp only [go_sem]) <;> rfl) (by (simp only [go_sem]) <;> rfl) (by (simp only [go_sem]) <;> rfl) (hmo)
    apply Tr.done
    · (simp only [go_sem, Mach.cells]) <;> rfl
    · simp
  refine EvC.frzB 4 (by (simp only [go_sem]) <;> rfl) ?_
  apply EvC.seq
  apply EvC.tr
  · apply Tr.run
    · (simp only [go_sem, Mach.cells]) <;> rfl
    · simp
    apply Tr.cons
    · exact .call rfl rfl (by (simp only [go_sem]) <;> rfl) (by (simp only [go_sem]) <;> rfl) (by (simp only [go_sem]) <;> rfl) (by (simp only [go_sem]) <;> rfl) (by (simp only [go_sem]) <;> rfl) (ht)
    apply Tr.done
    · (simp only [go_sem]) <;> rfl
    · simp
  apply EvC.seq
  apply EvC.tr
  · apply Tr.run
    · (simp only [go_sem, Mach.cells]) <;> rfl
    · simp
    apply Tr.cons
    · exact .call rfl rfl (by (simp only [go_sem]) <;> rfl) (by (simp only [go_sem]) <;> rfl) (by (simp only [go_sem]) <;> rfl) (by (simp only [go_sem]) <;> rfl) (by (simp only [go_sem]) <;> rfl) (hh)
    apply Tr.done
    · (simp only [go_sem]) <;> rfl
    · simp
  refine EvC.seq ?_
  apply EvC.seq
  apply EvC.trd
  · (simp only [go_sem, decide_true, decide_false, decide_not, Mach.cells]) <;> rfl
  · simp
  refine EvC.cond (by (simp only [go_sem]) <;> rfl) (fun hc => ?_) (fun hc => ?_)
  · exfalso
    by_cases h1 : (H : Int) < 0 <;> by_cases h2 : (m.rows.length : Int) ≤ H <;> by_cases h3 : (0 : Int) < H <;> simp_all <;> omega
  clear hc
  refine EvC.skip ?_
  have hzb : ∀ n : Nat, List.replicate n [AV.sc (.bool false)] = (List.replicate n false).map boolC := fun n => by simp [boolC]
  have hI0 : inI64 ((H : Int) + 1) = true := inI64_of (by omega) (by omega)
  have ht1 : ((H : Int) + 1).toNat = H + 1 := by omega
  refine EvC.seq (EvC.rg (by (simp only [go_sem, ht1, hzb]) <;> rfl) (by simp [room_eq, hI0]; omega) ?_)
  refine EvC.seq ?_
  refine EvC.seq (EvC.rg (by (simp only [go_sem]) <;> rfl) (by simp) ?_)
  refine EvC.block ?_  -- 0
  refine EvC.loopS (σ := Nat × List Bool) (fun g => ⟨[(3, .ia m.cells), (4, .sl T.isEmpty (T.map tblC) .full), (6, .sc (.int .i64 H)), (8, .tl 0 (H + 1) false), (9, .sc (.int .i64 g.1))], [], [(0, .arr 1 (g.2.map boolC) false)], 1⟩) (fun g => T.length - g.1)
    (fun g => g.1 ≤ T.length ∧ g.2.length = H + 1 ∧ ∀ p ∈ T.take g.1, g.2[p.2.length]? = some true) [3, 4, 6, 8, 9] 1 ?_ ?_
  · exact ⟨[(43, 0)], (0, List.replicate (H + 1) false), rfl, (by (simp only [go_sem, Mach.cells]) <;> rfl), Nat.zero_le _, by simp, by simp⟩
  rintro ⟨i, B⟩ ⟨h1, h2, h3⟩
  simp only at h1 h2 h3
  refine EvC.seq ?_
  refine EvC.seq (EvC.rg (by (simp only [go_sem]) <;> rfl) (by simp) ?_)
  refine EvC.cond (by (simp only [go_sem]) <;> rfl) (fun hc => ?_) (fun hc => ?_)
  rotate_left
  · refine EvC.exit ?_  -- 0
    have hi : ¬ i < T.length := by simpa using hc
    rw [List.take_of_length_le (by omega)] at h3
    clear hc
    refine EvC.seq ?_
    refine EvC.seq (EvC.rg (by (simp only [go_sem]) <;> rfl) (by simp) ?_)
    refine EvC.block ?_  -- 2
    refine EvC.loopS (σ := Nat) (fun n => ⟨[(6, .sc (.int .i64 H)), (8, .tl 0 (H + 1) false), (16, .sc (.int .i64 ((n + 1 : Nat) : Int)))], [], [(0, .arr 1 (B.map boolC) false)], 1⟩) (fun n => H - n) (fun n => n ≤ H) [6, 8, 16] 1 ?_ ?_
    · exact ⟨[(0, 0)], 0, rfl, (by (simp only [go_sem]) <;> rfl), Nat.zero_le _⟩
    intro n hn1
    refine EvC.seq ?_
    refine EvC.seq (EvC.rg (by (simp only [go_sem]) <;> rfl) (by simp) ?_)
    refine EvC.cond (by (simp only [go_sem]) <;> rfl) (fun hc => ?_) (fun hc => ?_)
    rotate_left
    · refine EvC.exit ?_  -- 2
      apply EvC.seq
      apply EvC.tr
      · apply Tr.run
        · (simp only [go_sem]) <;> rfl
        · simp
        apply Tr.cons
        · exact .call rfl rfl (by (simp only [go_sem]) <;> rfl) (by (simp only [go_sem]) <;> rfl) (by (simp only [go_sem]) <;> rfl) (by (simp only [go_sem]) <;> rfl) (by (simp only [go_sem]) <;> rfl) (lives_is)
        apply Tr.done
        · (simp only [go_sem]) <;> rfl
        · simp
      refine EvC.ret ⟨.inl rfl, _, (by (simp only [go_sem]) <;> rfl), ?_, rfl⟩
      simp only [go_sem]
    have hn2 : n + 1 ≤ H := by have : ((n + 1 : Nat) : Int) ≤ H := by simpa using hc
                               omega
    clear hc
    obtain ⟨p, hp1, hp2⟩ := hlad (H - (n + 1)) (n + 1) (by omega) (by omega)
    have hB := h3 p hp1
    rw [hp2] at hB
    refine EvC.skip ?_
    refine EvC.seq ?_
    refine EvC.block ?_  -- 3
    have hI4 : inI64 (((n + 1 : Nat) : Int) + 1) = true := inI64_of (by omega) (by omega)
    have htn : ((n : Int) + ((1 : Nat) : Int)).toNat = n + 1 := by omega
    refine EvC.seq (EvC.rg (by (simp only [go_sem, htn, hB, boolC, h2, List.length_map]) <;> rfl) (by simp [h2]; omega) ?_)
    refine EvC.cond_false (by (simp only [go_sem]) <;> rfl) ?_
    refine EvC.skip ?_
    refine EvC.rg (by (simp only [go_sem]) <;> rfl) (by simpa using hI4) ?_
    exact ⟨[(0, 0)], n + 1, rfl, (by (simp only [go_sem, Int.natCast_add, Int.natCast_one]) <;> rfl), hn2, by omega⟩
  have hi : i < T.length := by simpa using hc
  clear hc
  have he : T[i]? = some T[i] := List.getElem?_eq_getElem hi
  have hpm : T[i] ∈ T := List.getElem_mem hi
  have htk := pair_take hi
  generalize T[i] = p at he htk hpm
  obtain ⟨k1, k2, k3⟩ := hmem p hpm
  have hle := hge p hpm
  obtain ⟨⟨s, t⟩, w⟩ := p
  simp only at k1 k2 k3 hle
  have hs : s < m.rows.length := by omega
  have hlt : decide ((H : Int) < (w.length : Int)) = false := decide_eq_false (by omega)
  have hBl : w.length < B.length := by omega
  obtain ⟨b, hb⟩ : ∃ b, B[w.length]? = some b := ⟨_, List.getElem?_eq_getElem hBl⟩
  have hset : (B.map boolC).set w.length [.sc (.bool true)] = (B.set w.length true).map boolC := by
    rw [show [AV.sc (.bool true)] = boolC true from rfl, ← List.map_set]
  have hI1 : inI64 ((i : Int) + 1) = true := inI64_of (by omega) (by omega)
  have hnew : ∀ q ∈ T.take (i + 1), (B.set w.length true)[q.2.length]? = some true := fun q hq => by
    rw [htk] at hq
    rcases List.mem_append.1 hq with hq | hq
    · by_cases e : q.2.length = w.length
      · rw [e]; simp [hBl]
      · rw [List.getElem?_set_ne (by omega)]; exact h3 q hq
    · simp at hq; subst hq; simp [hBl]
  refine EvC.skip ?_
  refine EvC.seq ?_
  refine EvC.block ?_  -- 1
  refine EvC.seq (EvC.rg (by (simp only [go_sem, he, tblC, Int.toNat_natCast]) <;> rfl) (by simp) ?_)
  refine EvC.seq ?_
  apply EvC.seq
  apply EvC.trd
  · (simp only [go_sem, he, tblC, Int.toNat_natCast, hlt, beq_self_eq_true, decide_not]) <;> rfl
  · simp
  refine EvC.cond_false (by (simp only [go_sem]) <;> rfl) ?_
  refine EvC.skip ?_
  refine EvC.seq (EvC.rg (by (simp only [go_sem, hb, hset, boolC, Int.toNat_natCast, List.length_map, h2]) <;> rfl) (by simp [h2]; omega) ?_)
  obtain ⟨B', hB'⟩ : ∃ B', B' = B.set w.length true := ⟨_, rfl⟩
  have hBl' : B'.length = H + 1 := by rw [hB']; simpa using h2
  rw [← hB'] at hnew ⊢
  refine EvC.seq ?_
  refine EvC.seq (EvC.rg (by (simp only [go_sem]) <;> rfl) (by simp) ?_)
  refine EvC.cond (by (simp only [go_sem]) <;> rfl) (fun hc => ?_) (fun hc => ?_)
  · refine EvC.exit ?_  -- 1
    refine EvC.rg (by (simp only [go_sem]) <;> rfl) (by simpa using hI1) ?_
    exact ⟨[(0, 0)], (i + 1, B'), rfl, (by (simp only [go_sem, Mach.cells, Int.natCast_add, Int.natCast_one]) <;> rfl), ⟨by simp only; omega, hBl', hnew⟩, by simp only; omega⟩
  have hw2 : ¬ (w.length : Int) < 2 := by simpa using hc
  clear hc
  refine EvC.skip ?_
  match w, hw2 with
  | [], hw2 => simp at hw2
  | [_], hw2 => simp at hw2
  | a :: c :: u', hw2 => ?_
  obtain ⟨y, z, hy, hz, ha1, ha2, hsp⟩ := ladder_step hv hs k2 k3.symm (by simp)
  have hao : ∀ e ∈ [a], 0 ≤ e ∧ e < m.ins := by
    rcases sepW_spec hv hs k2 with ⟨h, _⟩ | ⟨_, h⟩
    · rw [← k3] at h; cases h
    · rw [← k3] at h
      have := h.1.head
      intro e he
      simp at he; omega
  have hA1 : ∀ cp, PureIs prog 22 [.ag m.cells, .sc (.int .i64 s), .sl false [[.sc (.int .i64 a)]] cp] (.sc (.int .i64 y)) := fun cp => by
    have := after22_is hv [a] s false cp (by omega) hao (by simp)
    rw [ha1] at this
    exact this
  have hA2 : ∀ cp, PureIs prog 22 [.ag m.cells, .sc (.int .i64 t), .sl false [[.sc (.int .i64 a)]] cp] (.sc (.int .i64 z)) := fun cp => by
    have := after22_is hv [a] t false cp (by omega) hao (by simp)
    rw [ha2] at this
    exact this
  have hse : stateErr m [(y : Int), (z : Int)] = 0 := stateErr_of hv (by simp; omega)
  have hsg := separate_good hv.small hse (w := c :: u') (b := true) (by simpa using hsp) (by simp; try omega)
  have hln : (c :: u').length < 1000000 := by simp at hle; simp; omega
  have hls := list_is (c :: u').isEmpty (c :: u') false (c :: u') .full 0 0 hln
  simp only [decide_true, Bool.and_true] at hls
  apply EvC.seq
  apply EvC.drw mixed
  · apply Tr.run
    · (simp only [go_sem, Mach.cells, he, tblC, Int.toNat_natCast]) <;> rfl
    · simp [intC]; try omega
    apply Tr.cons
    · exact .call rfl rfl (by (simp only [go_sem]) <;> rfl) (by (simp only [go_sem]) <;> rfl) (by (simp only [go_sem]) <;> rfl) (by (simp only [go_sem]) <;> rfl) (by (simp only [go_sem]) <;> rfl) (hA1 _)
    apply Tr.run
    · (simp only [go_sem, Mach.cells, he, tblC, Int.toNat_natCast]) <;> rfl
    · simp [intC]; try omega
    apply Tr.cons
    · exact .call rfl rfl (by (simp only [go_sem]) <;> rfl) (by (simp only [go_sem]) <;> rfl) (by (simp only [go_sem]) <;> rfl) (by (simp only [go_sem]) <;> rfl) (by (simp only [go_sem]) <;> rfl) (hA2 _)
    apply Tr.done
    · (simp only [go_sem]) <;> rfl
    · simp
  · kernel_rfl
  refine EvC.seq ?_
  have hny : decide ((y : Int) < 0) = false := decide_eq_false (by omega)
  have hnz : decide ((z : Int) < 0) = false := decide_eq_false (by omega)
  apply EvC.seq
  apply EvC.trd
  · (simp only [go_sem, hny, hnz]) <;> rfl
  · simp
  refine EvC.cond_false (by (simp only [go_sem]) <;> rfl) ?_
  refine EvC.skip ?_
  apply EvC.seq
  apply EvC.tr
  · apply Tr.run
    · (simp only [go_sem, Mach.cells]) <;> rfl
    · simp
    apply Tr.cons
    · exact .call rfl rfl (by (simp only [go_sem]) <;> rfl) (by (simp only [go_sem]) <;> rfl) (by (simp only [go_sem]) <;> rfl) (by (simp only [go_sem]) <;> rfl) (by (simp only [go_sem]) <;> rfl) (hsg)
    apply Tr.done
    · (simp only [go_sem]) <;> rfl
    · simp
  apply EvC.seq
  apply EvC.tr
  · apply Tr.run
    · (simp only [go_sem, decide_true, Bool.not_true, beq_self_eq_true, decide_not]) <;> rfl
    · simp [intC]; try omega
    apply Tr.cons
    · exact .callG rfl rfl (by (simp only [go_sem]) <;> rfl) rfl (by (simp only [go_sem]) <;> rfl) (by (simp only [go_sem]) <;> rfl) (by (simp only [go_sem]) <;> rfl) (by (simp only [go_sem]) <;> rfl) (by (simp only [go_sem]) <;> rfl) (hls)
    apply Tr.done
    · (simp only [go_sem]) <;> rfl
    · simp
  refine EvC.cond_false (by (simp only [go_sem]) <;> rfl) ?_
  refine EvC.skip ?_
  refine EvC.rg (by (simp only [go_sem]) <;> rfl) (by simpa using hI1) ?_
  exact ⟨[(0, 0)], (i + 1, B'), rfl, (by (simp only [go_sem, Mach.cells, Int.natCast_add, Int.natCast_one]) <;> rfl), ⟨by simp only; omega, hBl', hnew⟩, by simp only; omega⟩
end Go.Avl
namespace Go.Avl
open Go Go.Proofs.Try
set_option maxRecDepth 10000
set_option linter.unusedSimpArgs false

set_option maxHeartbeats 4000000 in
theorem refAfter_is {m : Mach} (hv : Valid m) (nl : Bool) (w : List Int) (c : Cp) (hw : ∀ a ∈ w, 0 ≤ a ∧ a < m.ins) (hl : w.length < 1000000) :
    PureIs prog 24 [.ag m.cells, .sl nl (w.map intC) c] (.sl (nm (namesR m w)).isEmpty ((nm (namesR m w)).map intC) .unk) := by
  have hrw := hv.rows
  refine PureIs.of (nv := 3) (hid := [4, 5, 6, 7, 12, 20]) func24 rfl (by kernel_rfl) (by simp [ntmps24]) fun _ => ?_
  rw [ntmps24, results24]
  refine EvC.seq (EvC.rg (by (simp only [go_sem, Mach.cells]) <;> rfl) (by simp) ?_)
  refine EvC.frzB 0 (by (simp only [go_sem]) <;> rfl) ?_
  refine EvC.seq (EvC.rg (by (simp only [go_sem]) <;> rfl) (by simp) ?_)
  refine EvC.seq ?_
  refine EvC.seq (EvC.rg (by (simp only [go_sem]) <;> rfl) (by simp) ?_)
  refine EvC.block ?_  -- 0
  refine EvC.loopS (σ := Nat × List Int) (fun g => ⟨[(1, .sl nl (w.map intC) c), (2, .ia m.cells), (5, .tl 0 g.2.length (g.2.length == 0)), (6, .sc (.int .i64 g.1))], [], [(0, .arr 1 (g.2.map intC) true)], 1⟩) (fun g => m.rows.length - g.1)
    (fun g => g.1 ≤ m.rows.length ∧ g.2 = (List.range g.1).map fun s => ((leastEq (fun k => runR m k w) s : Nat) : Int)) [1, 2, 5, 6] 1 ?_ ?_
  · exact ⟨[(2, 0)], (0, []), rfl, (by (simp only [go_sem, Mach.cells, List.length_nil]) <;> rfl), Nat.zero_le _, rfl⟩
  rintro ⟨s, ns⟩ ⟨h1, h2⟩
  simp only at h1 h2
  have hnl : ns.length = s := by rw [h2]; simp
  refine EvC.seq ?_
  refine EvC.seq (EvC.rg (by (simp only [go_sem, Mach.cells]) <;> rfl) (by simp) ?_)
  refine EvC.cond (by (simp only [go_sem]) <;> rfl) (fun hc => ?_) (fun hc => ?_)
  rotate_left
  · refine EvC.exit ?_  -- 0
    obtain rfl : s = m.rows.length := by have : ¬ s < m.rows.length := by simpa using hc
                                         omega
    have hn : ns = namesR m w := h2
    refine EvC.frz 0 (by (simp only [go_sem, List.length_map]) <;> rfl) ?_
    rw [hn]
    apply EvC.seq
    apply EvC.tr
    · apply Tr.run
      · (simp only [go_sem]) <;> rfl
      · simp
      apply Tr.cons
      · exact .call rfl rfl (by (simp only [go_sem]) <;> rfl) (by (simp only [go_sem]) <;> rfl) (by (simp only [go_sem]) <;> rfl) (by (simp only [go_sem]) <;> rfl) (by (simp only [go_sem]) <;> rfl) (of48_is _ (namesR m w) _ (by rw [← hn, hnl]; omega))
      apply Tr.done
      · (simp only [go_sem]) <;> rfl
      · simp
    refine EvC.ret ⟨.inl rfl, _, (by (simp only [go_sem]) <;> rfl), ?_, rfl⟩
    simp only [go_sem]
  have hs : s < m.rows.length := by simpa using hc
  clear hc
  obtain ⟨kk, kk1, kk2, kk3, kk4⟩ := leastEq_ex (fun k : Nat => runR m k w) s
  refine EvC.skip ?_
  refine EvC.seq ?_
  refine EvC.block ?_  -- 1
  refine EvC.seq (EvC.rg (by (simp only [go_sem]) <;> rfl) (by simp) ?_)
  refine EvC.seq ?_
  refine EvC.block ?_  -- 2
  refine EvC.loopS (σ := Nat) (fun k => ⟨[(1, .sl nl (w.map intC) c), (2, .ia m.cells), (5, .tl 0 ns.length (ns.length == 0)), (6, .sc (.int .i64 s)), (7, .sc (.int .i64 k))], [], [(0, .arr 1 (ns.map intC) true)], 1⟩) (fun k => kk - k) (fun k => k ≤ kk) [1, 2, 5, 6, 7] 1 ?_ ?_
  · exact ⟨[(0, 0)], 0, rfl, (by (simp only [go_sem, Mach.cells]) <;> rfl), Nat.zero_le _⟩
  intro k hk
  refine EvC.seq ?_
  have hsp := splits_is hv s k (by omega) (by omega) nl w c hw hl
  by_cases hd : runR m s w = runR m k w
  · rw [if_pos hd] at hsp
    have hkk : k = kk := by
      by_cases h : k < kk
      · exact absurd hd.symm (kk3 k h)
      · omega
    subst hkk
    apply EvC.seq
    apply EvC.tr
    · apply Tr.run
      · (simp only [go_sem, Mach.cells]) <;> rfl
      · simp
      apply Tr.cons
      · exact .call rfl rfl (by (simp only [go_sem]) <;> rfl) (by (simp only [go_sem]) <;> rfl) (by (simp only [go_sem]) <;> rfl) (by (simp only [go_sem]) <;> rfl) (by (simp only [go_sem]) <;> rfl) (hsp)
      apply Tr.done
      · (simp only [go_sem]) <;> rfl
      · simp
    refine EvC.cond_false (by (simp only [go_sem]) <;> rfl) ?_
    refine EvC.exit ?_  -- 2
    have hI1 : inI64 ((s : Int) + 1) = true := inI64_of (by omega) (by omega)
    refine EvC.rg (by (simp only [go_sem, List.length_map]) <;> rfl) (by simp [room_eq, AV.norefs, AV.noref, hnl]; omega) ?_
    refine EvC.rg (by (simp only [go_sem]) <;> rfl) (by simpa using hI1) ?_
    have hne : (ns.length + 1 == 0) = false := by simp
    refine ⟨[(0, 0)], (s + 1, ns ++ [(k : Int)]), rfl, (by (simp only [go_sem, Mach.cells, Int.natCast_add, Int.natCast_one, List.length_append, List.length_map, List.length_cons, List.length_nil, Nat.zero_add, intC, hne]) <;> rfl), ⟨by simp only; omega, ?_⟩, by simp only; omega⟩
    simp only
    rw [List.range_succ, List.map_append, ← h2]
    simp [kk4]
  · rw [if_neg hd] at hsp
    have hkk : k < kk := by
      by_cases h : k < kk
      · exact h
      · obtain rfl : k = kk := by omega
        exact absurd kk2.symm hd
    apply EvC.seq
    apply EvC.tr
    · apply Tr.run
      · (simp only [go_sem, Mach.cells]) <;> rfl
      · simp
      apply Tr.cons
      · exact .call rfl rfl (by (simp only [go_sem]) <;> rfl) (by (simp only [go_sem]) <;> rfl) (by (simp only [go_sem]) <;> rfl) (by (simp only [go_sem]) <;> rfl) (by (simp only [go_sem]) <;> rfl) (hsp)
      apply Tr.done
      · (simp only [go_sem]) <;> rfl
      · simp
    refine EvC.cond_true (by (simp only [go_sem]) <;> rfl) ?_
    refine EvC.skip ?_
    refine EvC.block ?_  -- 3
    have hI2 : inI64 ((k : Int) + 1) = true := inI64_of (by omega) (by omega)
    refine EvC.rg (by (simp only [go_sem]) <;> rfl) (by simpa using hI2) ?_
    exact ⟨[(0, 0)], k + 1, rfl, (by (simp only [go_sem, Mach.cells, Int.natCast_add, Int.natCast_one]) <;> rfl), by omega, by omega⟩
end Go.Avl
namespace Go.Avl
open Go Go.Proofs.Try
set_option maxRecDepth 10000
set_option linter.unusedSimpArgs false

abbrev Mtx := Nat → Nat → Bool
def mrow (cp : Cp) (n : Nat) (M : Mtx) (i : Nat) : List AV := [.sl false (((List.range n).map (M i)).map boolC) cp]
@[go_sem] theorem norefs_mrow (cp : Cp) (n : Nat) (M : Mtx) (l : List Nat) : (l.map (mrow cp n M)).all AV.norefs = true := by
  rw [List.all_eq_true]
  intro y hy
  obtain ⟨i, _, rfl⟩ := List.mem_map.1 hy
  simp only [mrow, AV.norefs, AV.noref, norefs_bool, Bool.and_self]
def condM (M : Mtx) (x y : Int × Int) : Bool := !decide (x.2 = y.2) || (decide (0 ≤ x.1) && decide (0 ≤ y.1) && M x.1.toNat y.1.toNat)
def apartB (m : Mach) (M : Mtx) (s t : Nat) : Bool := (List.range m.ins.toNat).any fun a => condM M (ex (rowAt m s) a) (ex (rowAt m t) a)
theorem any_range {n i : Nat} {p : Nat → Bool} (hi : i < n) (hp : p i = true) : (List.range n).any p = true := List.any_eq_true.2 ⟨i, List.mem_range.2 hi, hp⟩

set_option maxHeartbeats 4000000 in
theorem apart_is {m : Mach} (hv : Valid m) (M : Mtx) (cp cq : Cp) (nl : Bool) (s t : Nat) (hs : s < m.rows.length) (ht : t < m.rows.length) :
    PureIs prog 66 [.ag m.cells, .sl nl ((List.range m.rows.length).map (mrow cp m.rows.length M)) cq, .sc (.int .i64 s), .sc (.int .i64 t)] (.sc (.int .i64 (if apartB m M s t = true then 1 else 0))) := by
  have hins := hv.ins
  have hes : m.rows[s]? = some m.rows[s] := List.getElem?_eq_getElem hs
  have het : m.rows[t]? = some m.rows[t] := List.getElem?_eq_getElem ht
  have hls := row_len hv hs
  have hlt := row_len hv ht
  have hrs : rowAt m s = m.rows[s].2 := by simp [rowAt, hes]
  have hrt : rowAt m t = m.rows[t].2 := by simp [rowAt, het]
  generalize m.rows[s] = r at hes hrs
  generalize m.rows[t] = q at het hrt
  refine PureIs.of (nv := 5) (hid := [8, 9, 10, 11, 15, 59]) func66 rfl (by kernel_rfl) (by simp [ntmps66]) fun _ => ?_
  rw [ntmps66, results66]
  refine EvC.seq (EvC.rg (by (simp only [go_sem, Mach.cells]) <;> rfl) (by simp) ?_)
  refine EvC.frzB 0 (by (simp only [go_sem]) <;> rfl) ?_
  refine EvC.seq ?_
  refine EvC.seq (EvC.rg (by (simp only [go_sem]) <;> rfl) (by simp) ?_)
  refine EvC.block ?_  -- 0
  refine EvC.loopS (σ := Nat) (fun a => ⟨[(1, .sl nl ((List.range m.rows.length).map (mrow cp m.rows.length M)) cq), (2, .sc (.int .i64 s)), (3, .sc (.int .i64 t)), (4, .ia m.cells), (9, .sc (.int .i64 a))], [], [], 0⟩) (fun a => m.ins.toNat - a)
    (fun a => a ≤ m.ins.toNat ∧ ∀ b < a, condM M (ex (rowAt m s) b) (ex (rowAt m t) b) = false) [1, 2, 3, 4, 9] 0 ?_ ?_
  · exact ⟨[], 0, rfl, (by (simp only [go_sem, Mach.cells]) <;> rfl), Nat.zero_le _, fun b hb => by omega⟩
  rintro a ⟨h1, h2⟩
  refine EvC.seq ?_
  refine EvC.seq (EvC.rg (by (simp only [go_sem, Mach.cells]) <;> rfl) (by simp) ?_)
  refine EvC.cond (by (simp only [go_sem]) <;> rfl) (fun hc => ?_) (fun hc => ?_)
  rotate_left
  · refine EvC.exit ?_  -- 0
    have ha : ¬ (a : Int) < m.ins := by simpa using hc
    refine EvC.seq (EvC.rg (by (simp only [go_sem]) <;> rfl) (by simp) ?_)
    refine EvC.ret ⟨.inl rfl, _, (by (simp only [go_sem]) <;> rfl), ?_, rfl⟩
    simp only [go_sem]
    rw [if_neg]
    rw [apartB, Bool.not_eq_true, List.any_eq_false]
    intro b hb
    rw [h2 b (by have := List.mem_range.1 hb; omega)]; simp
  have ha : a < m.ins.toNat := by have : (a : Int) < m.ins := by simpa using hc
                                  omega
  clear hc
  have hxs : r.2[a]? = some (ex (rowAt m s) a) := by
    rw [hrs] at hls ⊢
    rw [ex, List.getElem?_eq_getElem (by omega)]; rfl
  have hxt : q.2[a]? = some (ex (rowAt m t) a) := by
    rw [hrt] at hlt ⊢
    rw [ex, List.getElem?_eq_getElem (by omega)]; rfl
  have hI1 : inI64 ((a : Int) + 1) = true := inI64_of (by omega) (by omega)
  have hbo := fun h => ex_both hv hs ht ha h
  have hxf := ex_fits hv hs ha
  have hyf := ex_fits hv ht ha
  have hap : condM M (ex (rowAt m s) a) (ex (rowAt m t) a) = true → apartB m M s t = true := fun h => any_range ha h
  have hnx : condM M (ex (rowAt m s) a) (ex (rowAt m t) a) = false → ∀ b < a + 1, condM M (ex (rowAt m s) b) (ex (rowAt m t) b) = false := fun h b hb => by
    by_cases e : b = a
    · subst e; exact h
    · exact h2 b (by omega)
  generalize ex (rowAt m s) a = x at hxs hbo hap hnx hxf
  generalize ex (rowAt m t) a = y at hxt hbo hap hnx hyf
  refine EvC.skip ?_
  refine EvC.seq ?_
  refine EvC.block ?_  -- 1
  apply EvC.seq
  apply EvC.drd mixed
  · (simp only [go_sem, Mach.cells, Int.toNat_natCast, hes, het, hxs, hxt, rowC, edgeC]) <;> rfl
  · simp; try omega
  · kernel_rfl
  by_cases ho : x.2 = y.2
  · have ho' : decide (x.2 = y.2) = true := decide_eq_true ho
    have hbo := hbo ho
    rcases hbo with ⟨e1, e2⟩ | ⟨p, u, e1, e2, hp, hu⟩
    · have d1 : decide (0 ≤ x.1) = false := decide_eq_false (by omega)
      have t1 : x.1.toNat = 0 := by omega
      have t2 : y.1.toNat = 0 := by omega
      have hpg : (List.range m.rows.length)[0]? = some 0 := List.getElem?_range (by omega)
      apply EvC.seq
      apply EvC.drd mixed
      · (simp only [go_sem, ho, ho', d1, decide_not, t1, t2, hpg, mrow, boolC, List.length_map, List.length_range]) <;> rfl
      · simp; try omega
      · kernel_rfl
      refine EvC.cond_false (by (simp only [go_sem, ho, d1]) <;> rfl) ?_
      refine EvC.skip ?_
      refine EvC.rg (by (simp only [go_sem]) <;> rfl) (by simpa using hI1) ?_
      exact ⟨[], a + 1, rfl, (by (simp only [go_sem, Mach.cells, Int.natCast_add, Int.natCast_one]) <;> rfl), ⟨by omega, hnx (by simp [condM, ho, e1])⟩, by omega⟩
    · have d1 : decide (0 ≤ x.1) = true := decide_eq_true (by omega)
      have d2 : decide (0 ≤ y.1) = true := decide_eq_true (by omega)
      have hpg : (List.range m.rows.length)[p]? = some p := List.getElem?_range hp
      have hug : (List.range m.rows.length)[u]? = some u := List.getElem?_range hu
      obtain ⟨b, hb⟩ : ∃ b, M p u = b := ⟨_, rfl⟩
      have hcd : condM M x y = b := by simp [condM, ho, e1, e2, hb]
      have t1 : x.1.toNat = p := by omega
      have t2 : y.1.toNat = u := by omega
      apply EvC.seq
      apply EvC.drd mixed
      · (simp only [go_sem, ho, ho', d1, d2, decide_not, t1, t2, hpg, hug, mrow, boolC, hb, List.length_map, List.length_range]) <;> rfl
      · simp; try omega
      · kernel_rfl
      cases b
      · refine EvC.cond_false (by (simp only [go_sem, ho, d1, d2, hb]) <;> rfl) ?_
        refine EvC.skip ?_
        refine EvC.rg (by (simp only [go_sem]) <;> rfl) (by simpa using hI1) ?_
        exact ⟨[], a + 1, rfl, (by (simp only [go_sem, Mach.cells, Int.natCast_add, Int.natCast_one]) <;> rfl), ⟨by omega, hnx hcd⟩, by omega⟩
      · refine EvC.cond_true (by (simp only [go_sem, ho, d1, d2, hb]) <;> rfl) ?_
        refine EvC.seq (EvC.rg (by (simp only [go_sem]) <;> rfl) (by simp) ?_)
        refine EvC.ret ⟨.inl rfl, _, (by (simp only [go_sem]) <;> rfl), ?_, rfl⟩
        simp only [go_sem]
        rw [if_pos (hap hcd)]
  · have ho' : decide (x.2 = y.2) = false := decide_eq_false ho
    clear hbo
    have hpg : (List.range m.rows.length)[x.1.toNat]? = some x.1.toNat := List.getElem?_range (by omega)
    have hug : (List.range m.rows.length)[y.1.toNat]? = some y.1.toNat := List.getElem?_range (by omega)
    apply EvC.seq
    apply EvC.drd mixed
    · (simp only [go_sem, ho, ho', decide_not, hpg, hug, mrow, boolC, List.length_map, List.length_range]) <;> rfl
    · simp; try omega
    · kernel_rfl
    refine EvC.cond_true (by (simp only [go_sem, ho]) <;> rfl) ?_
    refine EvC.seq (EvC.rg (by (simp only [go_sem]) <;> rfl) (by simp) ?_)
    refine EvC.ret ⟨.inl rfl, _, (by (simp only [go_sem]) <;> rfl), ?_, rfl⟩
    simp only [go_sem]
    rw [if_pos (hap (by simp [condM, ho]))]
end Go.Avl
namespace Go.Avl
open Go

def St.thaw (i : Nat) (st : St) : Option St :=
  match mlook st.mem i with
  | some (.arr esz [] _) => some ⟨st.vars, st.tmps, mset st.mem i (.arr esz [] false), st.nx⟩
  | _ => none

/-- Row k of object j, with what it points at read by its contents where that is frozen. -/
def St.snapE (j k : Nat) (st : St) : Option St :=
  match mlook st.mem j with
  | some (.arr esz es false) => match es[k]? with
    | some c => some ⟨st.vars, st.tmps, mset st.mem j (.arr esz (es.set k (c.map (AV.deep (snap st.mem)))) false), st.nx⟩
    | none => none
  | _ => none

section
variable {P : Program} {fr : Fr} {ro : Option Nat} {ds : DS} {st st' : St} {Q Q' : Exit → St → Prop} {G G' : Nat → Option Value} {F F' : Nat → Nat → Prop} {a : Act} {w w' : World} {x y c : Code} {M : Mem}

theorem simM_thaw {nx i esz : Nat} {fz : Bool} (hm : SimM P G F M nx w) (ho : mlook M i = some (.arr esz [] fz)) :
    SimM P G F (mset M i (.arr esz [] false)) nx w ∧ Step All G F M w G F (mset M i (.arr esz [] false)) w := by
  have hold := (hm.obj i _ ho).2
  have S : Step All G F M w G F (mset M i (.arr esz [] false)) w :=
    { kept := .refl
      size := Nat.le_refl _
      out := fun _ _ _ => rfl
      F1 := fun _ _ h => h
      F2 := fun _ _ _ => rfl
      F3 := fun b o h => .inl h
      own := fun b ⟨id, o, v, h3, h4, h5⟩ => by
        rw [mlook_mset] at h3
        by_cases hi : id = i
        · subst hi; exact .inr ⟨id, _, v, ho, h4, h5⟩
        · rw [if_neg hi] at h3; exact .inr ⟨id, o, v, h3, h4, h5⟩
      some' := fun _ _ h => h
      same := fun _ _ _ h _ => h
      keep := fun id o' _ hG h3 => by
        obtain ⟨v, hv⟩ := Option.ne_none_iff_exists'.1 hG
        rw [mlook_mset] at h3
        by_cases hi : id = i
        · subst hi
          rw [if_pos rfl] at h3; cases h3
          exact ⟨_, v, v, ho, hv, hv, ⟨rfl, .inl ⟨rfl, rfl⟩⟩⟩
        · rw [if_neg hi] at h3
          exact ⟨o', v, v, h3, hv, hv, objKeep.refl v o'⟩ }
  have hinj : ∀ id id' v v' b, mlook (mset M i (.arr esz [] false)) id ≠ none → mlook (mset M i (.arr esz [] false)) id' ≠ none → G id = some v → G id' = some v' → blkOf v = some b → blkOf v' = some b → id = id' := by
    intro id id' v v' b h1 h2
    refine hm.inj id id' v v' b ?_ ?_
    · rw [mlook_mset] at h1; by_cases hi : id = i
      · subst hi; rw [ho]; simp
      · rwa [if_neg hi] at h1
    · rw [mlook_mset] at h2; by_cases hi : id' = i
      · subst hi; rw [ho]; simp
      · rwa [if_neg hi] at h2
  refine ⟨simM_gen hm S (fun id o' h => ?_) hinj hm.inF, S⟩
  rw [mlook_mset] at h
  by_cases hi : id = i
  · subst hi; rw [if_pos rfl] at h; cases h
    refine ⟨(hm.obj id _ ho).1, .inl ?_⟩
    rcases hold with h | ⟨b, c, cc, e, h1, h2, h3, h4, h5, h6, h7, h8, h9⟩
    · exact .inl h
    · exact .inr ⟨b, c, cc, e, h1, h2, h3, h4, h5, h6, fun k j hk => absurd hk (Nat.not_lt_zero _), fun o h => absurd (h8 o h).2 (by simp), fun h => (by cases h)⟩
  · rw [if_neg hi] at h
    exact ⟨(hm.obj id _ h).1, .inr ⟨h, rfl, fun b v hG hb => ⟨rfl, fun _ h => h⟩⟩⟩
theorem SimA.thaw {i : Nat} (s : SimA P fr ds G F st a w) (h : st.thaw i = some st') : SimA P fr ds G F st' a w ∧ Step (· < fr.base) G F st.mem w G F st'.mem w := by
  unfold St.thaw at h
  split at h
  · rename_i esz fz ho
    cases h
    obtain ⟨hm', S'⟩ := simM_thaw s.sim.mem ho
    exact ⟨⟨⟨hm', fun k => (s.sim.slots k).step S' (fun _ _ => trivial), s.sim.size⟩, s.fresh, s.defers⟩, S'.mono fun _ _ => trivial⟩
  · cases h
theorem EvC.thaw (i : Nat) (h : st.thaw i = some st') (hc : EvC P fr ro ds c st' Q) : EvC P fr ro ds c st Q :=
  EvC.conv (fun _ _ _ _ s => let ⟨s', S'⟩ := s.thaw h; ⟨_, _, s', S'⟩) hc
theorem simM_snapE {nx j esz k : Nat} {es : List (List AV)} {c0 : List AV} (hm : SimM P G F M nx w) (ho : mlook M j = some (.arr esz es false)) (hk : es[k]? = some c0) :
    SimM P G F (mset M j (.arr esz (es.set k (c0.map (AV.deep (snap M)))) false)) nx w ∧ Step All G F M w G F (mset M j (.arr esz (es.set k (c0.map (AV.deep (snap M)))) false)) w := by
  obtain ⟨es', hes⟩ : ∃ es', es' = es.set k (c0.map (AV.deep (snap M))) := ⟨_, rfl⟩
  rw [← hes]
  have hle : es'.length = es.length := by rw [hes, List.length_set]
  have hold := (hm.obj j _ ho).2
  have S : Step All G F M w G F (mset M j (.arr esz es' false)) w :=
    { kept := .refl
      size := Nat.le_refl _
      out := fun _ _ _ => rfl
      F1 := fun _ _ h => h
      F2 := fun _ _ _ => rfl
      F3 := fun b o h => .inl h
      own := fun b ⟨id, o, v, h3, h4, h5⟩ => by
        rw [mlook_mset] at h3
        by_cases hi : id = j
        · subst hi; exact .inr ⟨id, _, v, ho, h4, h5⟩
        · rw [if_neg hi] at h3; exact .inr ⟨id, o, v, h3, h4, h5⟩
      some' := fun _ _ h => h
      same := fun _ _ _ h _ => h
      keep := fun id o' _ hG h3 => by
        obtain ⟨v, hv⟩ := Option.ne_none_iff_exists'.1 hG
        rw [mlook_mset] at h3
        by_cases hi : id = j
        · subst hi
          rw [if_pos rfl] at h3; cases h3
          exact ⟨_, v, v, ho, hv, hv, ⟨rfl, .inl ⟨hle, rfl⟩⟩⟩
        · rw [if_neg hi] at h3
          exact ⟨o', v, v, h3, hv, hv, objKeep.refl v o'⟩ }
  have hinj : ∀ id id' v v' b, mlook (mset M j (.arr esz es' false)) id ≠ none → mlook (mset M j (.arr esz es' false)) id' ≠ none → G id = some v → G id' = some v' → blkOf v = some b → blkOf v' = some b → id = id' := by
    intro id id' v v' b h1 h2
    refine hm.inj id id' v v' b ?_ ?_
    · rw [mlook_mset] at h1; by_cases hi : id = j
      · subst hi; rw [ho]; simp
      · rwa [if_neg hi] at h1
    · rw [mlook_mset] at h2; by_cases hi : id' = j
      · subst hi; rw [ho]; simp
      · rwa [if_neg hi] at h2
  refine ⟨simM_gen hm S (fun id o' h => ?_) hinj hm.inF, S⟩
  rw [mlook_mset] at h
  by_cases hi : id = j
  · subst hi; rw [if_pos rfl] at h; cases h
    refine ⟨(hm.obj id _ ho).1, .inl ?_⟩
    have hkl : k < es.length := (List.getElem?_eq_some_iff.1 hk).1
    have hke : es[k] = c0 := by rw [List.getElem?_eq_getElem hkl] at hk; exact Option.some.inj hk
    rcases hold with ⟨h0, _⟩ | ⟨b, c, cc, e, h1, h2, h3, h4, h5, h6, h7, h8, h9⟩
    · rw [h0] at hkl; exact absurd hkl (Nat.not_lt_zero _)
    · refine .inr ⟨b, c, cc, e, by rw [hle]; exact h1, h2, h3, by rw [hle]; exact h4, h5, fun i hi' => ?_, fun i l hi' hl' => ?_, fun o h => absurd (h8 o h).1 (by simp), fun h => (by cases h)⟩
      · have hi2 : i < es.length := by rw [← hle]; exact hi'
        simp only [hes, List.getElem_set]
        split
        · rename_i e1; subst e1; rw [List.length_map, ← hke]; exact h6 _ hi2
        · exact h6 _ hi2
      · have hi2 : i < es.length := by rw [← hle]; exact hi'
        by_cases e1 : k = i
        · subst e1
          have e2 : es'[k] = es[k].map (AV.deep (snap M)) := by simp [hes, hke]
          have hl2 : l < es[k].length := by rw [e2, List.length_map] at hl'; exact hl'
          obtain ⟨v, k1, k2, k3⟩ := h7 k l hi2 hl2
          refine ⟨v, k1, k2, ?_⟩
          have e3 : es'[k][l] = AV.deep (snap M) es[k][l] := by simp [e2]
          rw [e3]
          exact (k3.deep fun v y h => h.snap hm).step S fun _ _ => trivial
        · have e2 : es'[i] = es[i] := by simp [hes, e1]
          have hl2 : l < es[i].length := by rw [e2] at hl'; exact hl'
          obtain ⟨v, k1, k2, k3⟩ := h7 i l hi2 hl2
          have e3 : es'[i][l] = es[i][l] := by simp [e2]
          exact ⟨v, k1, k2, by rw [e3]; exact k3.step S fun _ _ => trivial⟩
  · rw [if_neg hi] at h
    exact ⟨(hm.obj id _ h).1, .inr ⟨h, rfl, fun b v hG hb => ⟨rfl, fun _ h => h⟩⟩⟩
theorem SimA.snapE {j k : Nat} (s : SimA P fr ds G F st a w) (h : st.snapE j k = some st') : SimA P fr ds G F st' a w ∧ Step (· < fr.base) G F st.mem w G F st'.mem w := by
  unfold St.snapE at h
  split at h
  · rename_i esz es ho
    split at h
    · rename_i c0 hk
      cases h
      obtain ⟨hm', S'⟩ := simM_snapE s.sim.mem ho hk
      exact ⟨⟨⟨hm', fun k => (s.sim.slots k).step S' (fun _ _ => trivial), s.sim.size⟩, s.fresh, s.defers⟩, S'.mono fun _ _ => trivial⟩
    · cases h
  · cases h
theorem EvC.snapE (j k : Nat) (h : st.snapE j k = some st') (hc : EvC P fr ro ds c st' Q) : EvC P fr ro ds c st Q :=
  EvC.conv (fun _ _ _ _ s => let ⟨s', S'⟩ := s.snapE h; ⟨_, _, s', S'⟩) hc
end
attribute [go_sem] St.snapE
attribute [go_sem] St.thaw
end Go.Avl
namespace Go.Avl
open Go Go.Proofs.Try
set_option maxRecDepth 10000
set_option linter.unusedSimpArgs false

/-- The marks after so many rounds. -/
def iterM (m : Mach) : Nat → Mtx
  | 0 => fun _ _ => false
  | k + 1 => fun s t => iterM m k s t || apartB m (iterM m k) s t
def mtab (n : Nat) (M : Mtx) (i : Nat) : List (List AV) := (List.range i).map (mrow .unk n M)
theorem mtab_len (n : Nat) (M : Mtx) (i : Nat) : (mtab n M i).length = i := by simp [mtab]
@[go_sem] theorem norefs_mtab (n : Nat) (M : Mtx) (i : Nat) : (mtab n M i).all AV.norefs = true := norefs_mrow _ _ _ _
theorem mtab_one (n : Nat) (M : Mtx) (i : Nat) : ((mtab n M i).all fun y => decide (y.length = 1)) = true := by simp [mtab, mrow, List.all_eq_true]
theorem mtab_get {n : Nat} {M : Mtx} {i k : Nat} (h : k < i) : (mtab n M i)[k]? = some (mrow .unk n M k) := by
  rw [mtab, List.getElem?_map, List.getElem?_range h]; rfl
theorem mtab_succ (n : Nat) (M : Mtx) (i : Nat) : mtab n M i ++ [mrow .unk n M i] = mtab n M (i + 1) := by
  rw [mtab, mtab, List.range_succ, List.map_append]; rfl

@[go_sem] theorem mtab_ren (n : Nat) (M : Mtx) (i : Nat) (ρ : List (Nat × Nat)) : (mtab n M i).map (fun c => c.map (AV.ren ρ)) = mtab n M i := by
  rw [mtab, List.map_map]
  refine List.map_congr_left fun k _ => ?_
  simp only [Function.comp, mrow, List.map_cons, List.map_nil]
  rfl

set_option maxHeartbeats 8000000 in
theorem marked_is {m : Mach} (hv : Valid m) (k : Nat) (hk : k < 1000000) : PureIs prog 54 [.ag m.cells, .sc (.int .i64 k)] (.sl false (mtab m.rows.length (iterM m k) m.rows.length) .unk) := by
  have hrw := hv.rows
  obtain ⟨n, hn⟩ : ∃ n, n = m.rows.length := ⟨_, rfl⟩
  have hz : ∀ M : Mtx, ∀ s, (∀ t < n, M s t = false) → List.replicate n [AV.sc (.bool false)] = ((List.range n).map (M s)).map boolC := fun M s h => by
    rw [List.map_map]
    refine List.ext_getElem (by simp) fun i h1 h2 => ?_
    simp [boolC, h i (by simpa using h2)]
  have htn : ((n : Nat) : Int).toNat = n := Int.toNat_natCast n
  refine PureIs.of (nv := 3) (hid := [4, 5, 6, 7, 8, 9, 10, 11, 17, 27, 32, 42, 23, 38]) func54 rfl (by kernel_rfl) (by simp [ntmps54]) fun _ => ?_
  rw [ntmps54, results54]
  refine EvC.seq (EvC.rg (by (simp only [go_sem, Mach.cells]) <;> rfl) (by simp) ?_)
  refine EvC.frzB 0 (by (simp only [go_sem]) <;> rfl) ?_
  refine EvC.seq (EvC.rg (by (simp only [go_sem, ← hn]) <;> rfl) (by simp) ?_)
  refine EvC.seq (EvC.rg (by (simp only [go_sem]) <;> rfl) (by simp) ?_)
  refine EvC.seq ?_
  refine EvC.seq (EvC.rg (by (simp only [go_sem]) <;> rfl) (by simp) ?_)
  refine EvC.block ?_  -- 0
  refine EvC.thaw 6 (by (simp only [go_sem]) <;> rfl) ?_
  obtain ⟨M0, hM0⟩ : ∃ M0, M0 = iterM m 0 := ⟨_, rfl⟩
  refine EvC.loopS (σ := Nat) (fun i => ⟨[(1, .sc (.int .i64 k)), (2, .ia m.cells), (5, .sc (.int .i64 n)), (6, .tl 0 i (i == 0)), (7, .sc (.int .i64 i))], [], [(0, .arr 1 (mtab n M0 i) false)], 1⟩) (fun i => n - i) (fun i => i ≤ n) [1, 2, 5, 6, 7] 1 ?_ ?_
  · refine ⟨[(6, 0)], 0, rfl, (by simp only [mtab, List.range_zero, List.map_nil]; (simp only [go_sem, Mach.cells]) <;> rfl), Nat.zero_le _⟩
  intro i hi
  have hml := mtab_len n M0 i
  refine EvC.seq ?_
  refine EvC.seq (EvC.rg (by (simp only [go_sem]) <;> rfl) (by simp) ?_)
  refine EvC.cond (by (simp only [go_sem]) <;> rfl) (fun hc => ?_) (fun hc => ?_)
  rotate_left
  · refine EvC.exit ?_  -- 0
    obtain rfl : i = n := by have : ¬ i < n := by simpa using hc
                             omega
    have hn0 : (i == 0) = false := by simp; omega
    refine EvC.frz 0 (by (simp only [go_sem, hn0, hml]) <;> rfl) ?_
    clear hc
    refine EvC.seq ?_
    refine EvC.seq (EvC.rg (by (simp only [go_sem]) <;> rfl) (by simp) ?_)
    refine EvC.block ?_  -- 2
    refine EvC.loopS (σ := Nat) (fun r => ⟨[(1, .sc (.int .i64 k)), (2, .ia m.cells), (5, .sc (.int .i64 i)), (6, .sl false (mtab i (iterM m r) i) .unk), (8, .sc (.int .i64 r))], [], [], 0⟩) (fun r => k - r) (fun r => r ≤ k) [1, 2, 5, 6, 8] 0 ?_ ?_
    · exact ⟨[], 0, rfl, (by rw [← hM0]; (simp only [go_sem]) <;> rfl), Nat.zero_le _⟩
    intro r hr
    obtain ⟨M, hM⟩ : ∃ M, M = iterM m r := ⟨_, rfl⟩
    obtain ⟨M', hM'⟩ : ∃ M', M' = iterM m (r + 1) := ⟨_, rfl⟩
    have hMM : ∀ s t, M' s t = (M s t || apartB m M s t) := fun s t => by rw [hM', hM]; rfl
    rw [← hM]
    refine EvC.seq ?_
    refine EvC.seq (EvC.rg (by (simp only [go_sem]) <;> rfl) (by simp) ?_)
    refine EvC.cond (by (simp only [go_sem]) <;> rfl) (fun hc => ?_) (fun hc => ?_)
    rotate_left
    · refine EvC.exit ?_  -- 2
      obtain rfl : r = k := by have : ¬ r < k := by simpa using hc
                               omega
      refine EvC.seq (EvC.rg (by (simp only [go_sem]) <;> rfl) (by simp) ?_)
      refine EvC.ret ⟨.inl rfl, _, (by (simp only [go_sem]) <;> rfl), ?_, rfl⟩
      simp only [go_sem]
      rw [hM, hn]
    have hrk : r < k := by simpa using hc
    clear hc
    refine EvC.skip ?_
    refine EvC.seq ?_
    refine EvC.block ?_  -- 3
    refine EvC.seq (EvC.rg (by (simp only [go_sem]) <;> rfl) (by simp) ?_)
    refine EvC.seq ?_
    refine EvC.seq (EvC.rg (by (simp only [go_sem]) <;> rfl) (by simp) ?_)
    refine EvC.block ?_  -- 4
    refine EvC.thaw 3 (by (simp only [go_sem]) <;> rfl) ?_
    refine EvC.loopS (σ := Nat) (fun s => ⟨[(1, .sc (.int .i64 k)), (2, .ia m.cells), (5, .sc (.int .i64 i)), (6, .sl false (mtab i M i) .unk), (8, .sc (.int .i64 r)), (9, .tl 0 s (s == 0)), (10, .sc (.int .i64 s))], [], [(0, .arr 1 (mtab i M' s) false)], 1⟩) (fun s => i - s) (fun s => s ≤ i) [1, 2, 5, 6, 8, 9, 10] 1 ?_ ?_
    · refine ⟨[(3, 0)], 0, rfl, (by simp only [mtab, List.range_zero, List.map_nil]; (simp only [go_sem, mtab]) <;> rfl), Nat.zero_le _⟩
    intro s hs
    have hml' := mtab_len i M' s
    refine EvC.seq ?_
    refine EvC.seq (EvC.rg (by (simp only [go_sem]) <;> rfl) (by simp) ?_)
    refine EvC.cond (by (simp only [go_sem]) <;> rfl) (fun hc => ?_) (fun hc => ?_)
    rotate_left
    · refine EvC.exit ?_  -- 4
      obtain rfl : s = i := by have : ¬ s < i := by simpa using hc
                               omega
      refine EvC.frz 0 (by (simp only [go_sem, hn0, hml']) <;> rfl) ?_
      refine EvC.rg (by (simp only [go_sem]) <;> rfl) (by simp) ?_
      have hI9 : inI64 ((r : Int) + 1) = true := inI64_of (by omega) (by omega)
      refine EvC.rg (by (simp only [go_sem]) <;> rfl) (by simpa using hI9) ?_
      exact ⟨[], r + 1, rfl, (by rw [← hM']; (simp only [go_sem, Int.natCast_add, Int.natCast_one]) <;> rfl), hrk, by omega⟩
    have hsi : s < i := by simpa using hc
    clear hc
    refine EvC.skip ?_
    refine EvC.seq ?_
    refine EvC.block ?_  -- 5
    have hzi : List.replicate i [AV.sc (.bool false)] = (List.replicate i false).map boolC := by simp [boolC]
    refine EvC.seq (EvC.rg (by (simp only [go_sem, htn, hml', hzi, List.length_map, List.length_replicate]) <;> rfl) (by simp [room_eq, AV.norefs, AV.noref, hml']; omega) ?_)
    refine EvC.seq (EvC.rg (by (simp only [go_sem]) <;> rfl) (by simp) ?_)
    have hgl : ∀ c : List AV, (mtab i M' s ++ [c])[s]? = some c := fun c => by rw [List.getElem?_append_right (by omega), hml', Nat.sub_self]; rfl
    have hst : ∀ c d : List AV, (mtab i M' s ++ [c]).set s d = mtab i M' s ++ [d] := fun c d => by
      have := set_mid (mtab i M' s) [] c d
      rw [hml'] at this; exact this
    have hll : ∀ c : List AV, (mtab i M' s ++ [c]).length = s + 1 := fun c => by simp [hml']
    refine EvC.block ?_  -- 6
    refine EvC.loopS (σ := Nat × List Bool) (fun g => ⟨[(1, .sc (.int .i64 k)), (2, .ia m.cells), (5, .sc (.int .i64 i)), (6, .sl false (mtab i M i) .unk), (8, .sc (.int .i64 r)), (9, .tl 0 (s + 1) false), (10, .sc (.int .i64 s)), (11, .sc (.int .i64 g.1))], [], [(0, .arr 1 (mtab i M' s ++ [[.tl 1 i false]]) false), (1, .arr 1 (g.2.map boolC) false)], 2⟩) (fun g => i - g.1)
      (fun g => g.1 ≤ i ∧ g.2 = (List.range g.1).map (M' s) ++ List.replicate (i - g.1) false) [1, 2, 5, 6, 8, 9, 10, 11] 2 ?_ ?_
    · refine ⟨[(0, 0), (6, 1)], (0, List.replicate i false), rfl, (by (simp only [go_sem]) <;> rfl), Nat.zero_le _, rfl⟩
    rintro ⟨t, B⟩ ⟨t1, t2⟩
    simp only at t1 t2
    have hBl : B.length = i := by rw [t2]; simp; omega
    refine EvC.seq ?_
    refine EvC.seq (EvC.rg (by (simp only [go_sem]) <;> rfl) (by simp) ?_)
    refine EvC.cond (by (simp only [go_sem]) <;> rfl) (fun hc => ?_) (fun hc => ?_)
    rotate_left
    · refine EvC.exit ?_  -- 6
      obtain rfl : t = i := by have : ¬ t < i := by simpa using hc
                               omega
      have hB : B = (List.range t).map (M' s) := by rw [t2]; simp
      subst hB
      refine EvC.frz 1 (by (simp only [go_sem, List.length_map, List.length_range]) <;> rfl) ?_
      refine EvC.snapE 0 s (by (simp only [go_sem, hgl, hst, List.length_map, List.length_range]) <;> rfl) ?_
      have hI5 : inI64 ((s : Int) + 1) = true := inI64_of (by omega) (by omega)
      have hne : (s + 1 == 0) = false := rfl
      refine EvC.rg (by (simp only [go_sem]) <;> rfl) (by simpa using hI5) ?_
      refine ⟨[(0, 0)], s + 1, rfl, ?_, hsi, by omega⟩
      rw [← mtab_succ]
      (simp only [go_sem, Int.natCast_add, Int.natCast_one, hne, mrow]) <;> rfl
    have hti : t < i := by simpa using hc
    clear hc
    have hr1 : i - t = (i - (t + 1)) + 1 := by omega
    have hBt : B[t]? = some false := by
      rw [t2, List.getElem?_append_right (by simp), hr1]; simp
    have hnew : ∀ b, M' s t = b → B.set t b = (List.range (t + 1)).map (M' s) ++ List.replicate (i - (t + 1)) false := fun b hb => by
      rw [t2, hr1, List.replicate_succ]
      have := set_mid ((List.range t).map (M' s)) (List.replicate (i - (t + 1)) false) false b
      rw [List.length_map, List.length_range] at this
      rw [this, List.range_succ, List.map_append]; simp [hb]
    have hset : ∀ b, (B.map boolC).set t [.sc (.bool b)] = (B.set t b).map boolC := fun b => by
      rw [show [AV.sc (.bool b)] = boolC b from rfl, ← List.map_set]
    have hgM : (mtab i M i)[s]? = some (mrow .unk i M s) := mtab_get hsi
    have hrt : (List.range i)[t]? = some t := List.getElem?_range hti
    have hIt : inI64 ((t : Int) + 1) = true := inI64_of (by omega) (by omega)
    have hap := apart_is hv M .unk .unk false s t (by omega) (by omega)
    rw [← hn] at hap
    have hms := hMM s t
    refine EvC.skip ?_
    refine EvC.seq ?_
    refine EvC.block ?_  -- 7
    obtain ⟨b, hb⟩ : ∃ b, M s t = b := ⟨_, rfl⟩
    cases b
    · rw [hb, Bool.false_or] at hms
      obtain ⟨b, hb2⟩ : ∃ b, apartB m M s t = b := ⟨_, rfl⟩
      rw [hb2] at hms hap
      have hap' : PureIs prog 66 [.ag m.cells, .sl false (mtab i M i) .unk, .sc (.int .i64 s), .sc (.int .i64 t)] (.sc (.int .i64 (if b = true then 1 else 0))) := hap
      cases b
      · simp only [Bool.false_eq_true, if_false] at hap'
        apply EvC.drw mixed
        · apply Tr.run
          · (simp only [go_sem, hgl, hll, hgM, mrow, hrt, boolC, hb, Int.toNat_natCast, mtab_len, List.length_map, List.length_range, Mach.cells]) <;> rfl
          · simp [hBl]; try omega
          apply Tr.cons
          · exact .callG rfl rfl (by (simp only [go_sem]) <;> rfl) rfl (by (simp only [go_sem]) <;> rfl) (by (simp only [go_sem]) <;> rfl) (by (simp only [go_sem]) <;> rfl) (by (simp only [go_sem]) <;> rfl) (by (simp only [go_sem]) <;> rfl) (hap')
          apply Tr.done
          · (simp only [go_sem, hBl, hBt, hset, boolC, Int.toNat_natCast, List.length_map]) <;> rfl
          · simp [hBl]; try omega
        · kernel_rfl
        refine EvC.rg (by (simp only [go_sem]) <;> rfl) (by simpa using hIt) ?_
        exact ⟨[(0, 0), (1, 1)], (t + 1, B.set t false), rfl, (by (simp only [go_sem, Int.natCast_add, Int.natCast_one]) <;> rfl), ⟨hti, hnew _ hms⟩, by simp only; omega⟩
      · simp only [if_true] at hap'
        apply EvC.drw mixed
        · apply Tr.run
          · (simp only [go_sem, hgl, hll, hgM, mrow, hrt, boolC, hb, Int.toNat_natCast, mtab_len, List.length_map, List.length_range, Mach.cells]) <;> rfl
          · simp [hBl]; try omega
          apply Tr.cons
          · exact .callG rfl rfl (by (simp only [go_sem]) <;> rfl) rfl (by (simp only [go_sem]) <;> rfl) (by (simp only [go_sem]) <;> rfl) (by (simp only [go_sem]) <;> rfl) (by (simp only [go_sem]) <;> rfl) (by (simp only [go_sem]) <;> rfl) (hap')
          apply Tr.done
          · (simp only [go_sem, hBl, hBt, hset, boolC, Int.toNat_natCast, List.length_map]) <;> rfl
          · simp [hBl]; try omega
        · kernel_rfl
        refine EvC.rg (by (simp only [go_sem]) <;> rfl) (by simpa using hIt) ?_
        exact ⟨[(0, 0), (1, 1)], (t + 1, B.set t true), rfl, (by (simp only [go_sem, Int.natCast_add, Int.natCast_one]) <;> rfl), ⟨hti, hnew _ hms⟩, by simp only; omega⟩
    · rw [hb, Bool.true_or] at hms
      apply EvC.drw mixed  -- R18
      · apply Tr.run
        · (simp only [go_sem, hgl, hll, hgM, mrow, hrt, boolC, hb, Int.toNat_natCast, mtab_len, List.length_map, List.length_range]) <;> rfl
        · simp [hBl]; try omega
        apply Tr.cons
        · exact .skipv (.sc (.int .i64 0)) rfl rfl (by (simp only [go_sem]) <;> rfl) (by (simp only [go_sem]) <;> rfl)
        apply Tr.done
        · (simp only [go_sem, hBl, hBt, hset, boolC, Int.toNat_natCast, List.length_map]) <;> rfl
        · simp [hBl]; try omega
      · kernel_rfl
      refine EvC.rg (by (simp only [go_sem]) <;> rfl) (by simpa using hIt) ?_
      exact ⟨[(0, 0), (1, 1)], (t + 1, B.set t true), rfl, (by (simp only [go_sem, Int.natCast_add, Int.natCast_one]) <;> rfl), ⟨hti, hnew _ hms⟩, by simp only; omega⟩
  have hin : i < n := by simpa using hc
  clear hc
  refine EvC.skip ?_
  refine EvC.seq ?_
  refine EvC.block ?_  -- 1
  have hzi := hz M0 i (fun t _ => by rw [hM0]; rfl)
  refine EvC.rg (by (simp only [go_sem, htn, hml, hzi, List.length_map, List.length_range]) <;> rfl) (by simp [room_eq, AV.norefs, AV.noref, hml]; omega) ?_
  have hgl : ∀ c : List AV, (mtab n M0 i ++ [c])[i]? = some c := fun c => by rw [List.getElem?_append_right (by omega), hml, Nat.sub_self]; rfl
  have hst : ∀ c d : List AV, (mtab n M0 i ++ [c]).set i d = mtab n M0 i ++ [d] := fun c d => by
    have := set_mid (mtab n M0 i) [] c d
    rw [hml] at this; exact this
  refine EvC.frz 6 (by (simp only [go_sem, List.length_map, List.length_range]) <;> rfl) ?_
  refine EvC.snapE 0 i (by (simp only [go_sem, hgl, hst, List.length_map, List.length_range]) <;> rfl) ?_
  have hI1 : inI64 ((i : Int) + 1) = true := inI64_of (by omega) (by omega)
  have hne : (i + 1 == 0) = false := rfl
  refine EvC.rg (by (simp only [go_sem]) <;> rfl) (by simpa using hI1) ?_
  refine ⟨[(0, 0)], i + 1, rfl, ?_, hin, by omega⟩
  rw [← mtab_succ]
  (simp only [go_sem, Int.natCast_add, Int.natCast_one, hne, mrow]) <;> rfl
end Go.Avl
namespace Go.Avl
open Go Go.Proofs.Try
set_option maxRecDepth 10000
set_option linter.unusedSimpArgs false

/-- The number of the last state before t that is not marked with s. -/
def lastF (M : Mtx) (l : List Int) (s : Nat) : Nat → Int
  | 0 => -1
  | t + 1 => if M s t = true then lastF M l s t else l[t]?.getD 0
def partS (M : Mtx) : Nat → List Int × Int
  | 0 => ([], 0)
  | s + 1 => if lastF M (partS M s).1 s s < 0 then ((partS M s).1 ++ [(partS M s).2], (partS M s).2 + 1) else ((partS M s).1 ++ [lastF M (partS M s).1 s s], (partS M s).2)
theorem lastF_mem (M : Mtx) (l : List Int) (s : Nat) : ∀ t, t ≤ l.length → lastF M l s t = -1 ∨ lastF M l s t ∈ l
  | 0, _ => .inl rfl
  | t + 1, h => by
    simp only [lastF]
    split
    · exact lastF_mem M l s t (by omega)
    · right
      rw [List.getElem?_eq_getElem (by omega)]
      exact List.getElem_mem _
theorem partS_ok (M : Mtx) : ∀ s, (partS M s).1.length = s ∧ 0 ≤ (partS M s).2 ∧ (partS M s).2 ≤ s ∧ ∀ x ∈ (partS M s).1, 0 ≤ x ∧ x < (partS M s).2
  | 0 => by simp [partS]
  | s + 1 => by
    obtain ⟨h1, h2, h3, h4⟩ := partS_ok M s
    have h5 := lastF_mem M (partS M s).1 s s (by omega)
    simp only [partS]
    split
    · refine ⟨by simp [h1], by simp only; omega, by simp only; omega, fun x hx => ?_⟩
      simp only at hx ⊢
      rcases List.mem_append.1 hx with hx | hx
      · have := h4 x hx; omega
      · simp at hx; omega
    · refine ⟨by simp [h1], by simp only; omega, by simp only; omega, fun x hx => ?_⟩
      simp only at hx ⊢
      rcases List.mem_append.1 hx with hx | hx
      · exact h4 x hx
      · simp only [List.mem_singleton] at hx
        rcases h5 with h5 | h5
        · omega
        · rw [← hx] at h5; exact h4 x h5

set_option maxHeartbeats 4000000 in
theorem part_is (M : Mtx) (n : Nat) (hn : n < 1000) (nl : Bool) (cq : Cp) : PureIs prog 53 [.sl nl (mtab n M n) cq] (.sl (n == 0) ((partS M n).1.map intC) .unk) := by
  refine PureIs.of (nv := 1) (hid := [2, 3, 4, 5, 6, 7, 11, 16, 26, 32]) func53 rfl (by kernel_rfl) (by simp [ntmps53]) fun _ => ?_
  rw [ntmps53, results53]
  refine EvC.seq (EvC.rg (by (simp only [go_sem]) <;> rfl) (by simp) ?_)
  refine EvC.seq (EvC.rg (by (simp only [go_sem]) <;> rfl) (by simp) ?_)
  refine EvC.seq (EvC.rg (by (simp only [go_sem]) <;> rfl) (by simp) ?_)
  refine EvC.seq ?_
  refine EvC.seq (EvC.rg (by (simp only [go_sem]) <;> rfl) (by simp) ?_)
  refine EvC.block ?_  -- 0
  have hml := mtab_len n M n
  refine EvC.loopS (σ := Nat × List Int × Int) (fun g => ⟨[(0, .sl nl (mtab n M n) cq), (3, .tl 0 g.1 (g.1 == 0)), (4, .sc (.int .i64 g.2.2)), (5, .sc (.int .i64 g.1))], [], [(0, .arr 1 (g.2.1.map intC) true)], 1⟩) (fun g => n - g.1)
    (fun g => g.1 ≤ n ∧ g.2 = partS M g.1) [0, 3, 4, 5] 1 ?_ ?_
  · exact ⟨[(1, 0)], (0, [], 0), rfl, (by (simp only [go_sem]) <;> rfl), Nat.zero_le _, rfl⟩
  rintro ⟨s, l, c⟩ ⟨h1, h2⟩
  simp only at h1 h2
  have hok := partS_ok M s
  rw [← h2] at hok
  simp only at hok
  obtain ⟨k1, k2, k3, k4⟩ := hok
  refine EvC.seq ?_
  refine EvC.seq (EvC.rg (by (simp only [go_sem, hml]) <;> rfl) (by simp) ?_)
  refine EvC.cond (by (simp only [go_sem]) <;> rfl) (fun hc => ?_) (fun hc => ?_)
  rotate_left
  · refine EvC.exit ?_  -- 0
    obtain rfl : s = n := by have : ¬ s < n := by simpa using hc
                             omega
    refine EvC.frz 0 (by (simp only [go_sem, List.length_map, k1]) <;> rfl) ?_
    refine EvC.seq (EvC.rg (by (simp only [go_sem]) <;> rfl) (by simp) ?_)
    refine EvC.ret ⟨.inl rfl, _, (by (simp only [go_sem]) <;> rfl), ?_, rfl⟩
    simp only [go_sem]
    rw [← h2]
  have hs : s < n := by simpa using hc
  clear hc
  refine EvC.skip ?_
  refine EvC.seq ?_
  refine EvC.block ?_  -- 1
  refine EvC.seq (EvC.rg (by (simp only [go_sem]) <;> rfl) (by simp) ?_)
  refine EvC.seq ?_
  refine EvC.seq (EvC.rg (by (simp only [go_sem]) <;> rfl) (by simp) ?_)
  refine EvC.block ?_  -- 2
  refine EvC.loopS (σ := Nat × Int) (fun g => ⟨[(0, .sl nl (mtab n M n) cq), (3, .tl 0 s (s == 0)), (4, .sc (.int .i64 c)), (5, .sc (.int .i64 s)), (6, .sc (.int .i64 g.2)), (7, .sc (.int .i64 g.1))], [], [(0, .arr 1 (l.map intC) true)], 1⟩) (fun g => s - g.1)
    (fun g => g.1 ≤ s ∧ g.2 = lastF M l s g.1) [0, 3, 4, 5, 6, 7] 1 ?_ ?_
  · exact ⟨[(0, 0)], (0, -1), rfl, (by (simp only [go_sem]) <;> rfl), Nat.zero_le _, rfl⟩
  rintro ⟨t, f⟩ ⟨j1, j2⟩
  simp only at j1 j2
  refine EvC.seq ?_
  refine EvC.seq (EvC.rg (by (simp only [go_sem]) <;> rfl) (by simp) ?_)
  refine EvC.cond (by (simp only [go_sem]) <;> rfl) (fun hc => ?_) (fun hc => ?_)
  rotate_left
  · refine EvC.exit ?_  -- 2
    obtain rfl : t = s := by have : ¬ t < s := by simpa using hc
                             omega
    clear hc
    have hI5 : inI64 ((t : Int) + 1) = true := inI64_of (by omega) (by omega)
    have hIc : inI64 (c + 1) = true := inI64_of (by omega) (by omega)
    have hne : (t + 1 == 0) = false := rfl
    refine EvC.seq ?_
    refine EvC.seq (EvC.rg (by (simp only [go_sem]) <;> rfl) (by simp) ?_)
    refine EvC.cond (by (simp only [go_sem]) <;> rfl) (fun hc => ?_) (fun hc => ?_)
    · have hf : f < 0 := by simpa using hc
      refine EvC.seq (EvC.rg (by (simp only [go_sem]) <;> rfl) (by simp) ?_)
      refine EvC.rg (by (simp only [go_sem]) <;> rfl) (by exact hIc) ?_
      refine EvC.rg (by (simp only [go_sem, List.length_map, k1]) <;> rfl) (by simp [room_eq, AV.norefs, AV.noref, k1]; omega) ?_
      refine EvC.rg (by (simp only [go_sem]) <;> rfl) (by simpa using hI5) ?_
      refine ⟨[(0, 0)], (t + 1, l ++ [c], c + 1), rfl, (by (simp only [go_sem, Int.natCast_add, Int.natCast_one, hne, List.map_append, List.map_cons, List.map_nil, intC]) <;> rfl), ⟨by simp only; omega, ?_⟩, by simp only; omega⟩
      simp only [partS, ← h2, ← j2]
      rw [if_pos hf]
    · have hf : ¬ f < 0 := by simpa using hc
      refine EvC.skip ?_
      refine EvC.rg (by (simp only [go_sem, List.length_map, k1]) <;> rfl) (by simp [room_eq, AV.norefs, AV.noref, k1]; omega) ?_
      refine EvC.rg (by (simp only [go_sem]) <;> rfl) (by simpa using hI5) ?_
      refine ⟨[(0, 0)], (t + 1, l ++ [f], c), rfl, (by (simp only [go_sem, Int.natCast_add, Int.natCast_one, hne, List.map_append, List.map_cons, List.map_nil, intC]) <;> rfl), ⟨by simp only; omega, ?_⟩, by simp only; omega⟩
      simp only [partS, ← h2, ← j2]
      rw [if_neg hf]
  have ht : t < s := by simpa using hc
  clear hc
  have hgM : (mtab n M n)[s]? = some (mrow .unk n M s) := mtab_get hs
  have hrt : (List.range n)[t]? = some t := List.getElem?_range (by omega)
  have hlt : l[t]? = some l[t] := List.getElem?_eq_getElem (by omega)
  have hI7 : inI64 ((t : Int) + 1) = true := inI64_of (by omega) (by omega)
  generalize l[t] = x at hlt
  refine EvC.skip ?_
  refine EvC.seq ?_
  refine EvC.block ?_  -- 3
  obtain ⟨b, hb⟩ : ∃ b, M s t = b := ⟨_, rfl⟩
  refine EvC.seq (EvC.rg (by (simp only [go_sem, hgM, mrow, hrt, boolC, hb, Int.toNat_natCast, hml, List.length_map, List.length_range]) <;> rfl) (by simp; try omega) ?_)
  cases b
  · refine EvC.cond_true (by (simp only [go_sem]) <;> rfl) ?_
    refine EvC.rg (by (simp only [go_sem, hlt, intC, k1, Int.toNat_natCast, List.length_map]) <;> rfl) (by simp [k1]; try omega) ?_
    refine EvC.rg (by (simp only [go_sem]) <;> rfl) (by simpa using hI7) ?_
    refine ⟨[(0, 0)], (t + 1, x), rfl, (by (simp only [go_sem, Int.natCast_add, Int.natCast_one]) <;> rfl), ⟨by simp only; omega, ?_⟩, by simp only; omega⟩
    simp [lastF, hb, hlt]
  · refine EvC.cond_false (by (simp only [go_sem]) <;> rfl) ?_
    refine EvC.skip ?_
    refine EvC.rg (by (simp only [go_sem]) <;> rfl) (by simpa using hI7) ?_
    refine ⟨[(0, 0)], (t + 1, f), rfl, (by (simp only [go_sem, Int.natCast_add, Int.natCast_one]) <;> rfl), ⟨by simp only; omega, ?_⟩, by simp only; omega⟩
    simp [lastF, hb, j2]
end Go.Avl
namespace Go.Avl
open Go Go.Proofs.Try
set_option maxRecDepth 10000
set_option linter.unusedSimpArgs false

theorem iterM_is {m : Mach} (hv : Valid m) : ∀ (k s t : Nat), s < m.rows.length → t < m.rows.length → (iterM m k s t = false ↔ Alike m k s t)
  | 0, s, t, _, _ => ⟨fun _ v _ hl => by obtain rfl : v = [] := List.length_eq_zero_iff.1 (by omega); rfl, fun _ => rfl⟩
  | k + 1, s, t, hs, ht => by
    have hins := hv.ins
    simp only [iterM, Bool.or_eq_false_iff, iterM_is hv k s t hs ht]
    have hcond : ∀ b, b < m.ins.toNat → (condM (iterM m k) (ex (rowAt m s) b) (ex (rowAt m t) b) = false ↔ ∀ v, WOk m.ins.toNat v → v.length ≤ k → runR m s ((b : Int) :: v) = runR m t ((b : Int) :: v)) := fun b hb => by
      by_cases ho : (ex (rowAt m s) b).2 = (ex (rowAt m t) b).2
      · rcases ex_both hv hs ht hb ho with ⟨e1, e2⟩ | ⟨p, q, e1, e2, hp, hq⟩
        · refine ⟨fun _ v _ _ => ?_, fun _ => by simp [condM, ho, e1]⟩
          rw [run_cons, run_cons, ho, e1, e2]
        · have h1 : condM (iterM m k) (ex (rowAt m s) b) (ex (rowAt m t) b) = iterM m k p q := by simp [condM, ho, e1, e2]
          rw [h1, iterM_is hv k p q hp hq]
          refine ⟨fun h v h2 h3 => ?_, fun h v h2 h3 => ?_⟩
          · rw [run_cons, run_cons, ho, e1, e2, h v h2 h3]
          · have := h v h2 h3
            rw [run_cons, run_cons, e1, e2] at this
            exact (List.cons.inj this).2
      · refine ⟨fun h => by simp [condM, ho] at h, fun h => ?_⟩
        have := h [] (fun x hx => by cases hx) (Nat.zero_le _)
        rw [run_cons, run_cons] at this
        exact absurd (List.cons.inj this).1 ho
    constructor
    · rintro ⟨h1, h2⟩ v hvo hvl
      match v, hvo with
      | [], _ => rfl
      | b :: v, hvo =>
        have hb := hvo.head
        obtain ⟨b, rfl⟩ : ∃ n : Nat, b = (n : Int) := ⟨b.toNat, by omega⟩
        rw [apartB, List.any_eq_false] at h2
        have h3 := h2 b (List.mem_range.2 (by omega))
        exact (hcond b (by omega)).1 (by simpa using h3) v hvo.tail (by simp at hvl; omega)
    · intro h
      refine ⟨h.le (by omega), ?_⟩
      rw [apartB, List.any_eq_false]
      intro b hb
      have hb := List.mem_range.1 hb
      have := (hcond b hb).2 fun v h2 h3 => h _ (h2.cons (by omega)) (by simp; omega)
      simp [this]
theorem lastF_spec (M : Mtx) (l : List Int) (s : Nat) : ∀ t, t ≤ l.length → (∃ u, u < t ∧ M s u = false ∧ l[u]? = some (lastF M l s t)) ∨ ((∀ u < t, M s u = true) ∧ lastF M l s t = -1)
  | 0, _ => .inr ⟨fun u h => by omega, rfl⟩
  | t + 1, h => by
    simp only [lastF]
    by_cases hb : M s t = true
    · rw [if_pos hb]
      rcases lastF_spec M l s t (by omega) with ⟨u, h1, h2, h3⟩ | ⟨h1, h2⟩
      · exact .inl ⟨u, by omega, h2, h3⟩
      · refine .inr ⟨fun u hu => ?_, h2⟩
        by_cases e : u = t
        · rw [e]; exact hb
        · exact h1 u (by omega)
    · rw [if_neg hb]
      refine .inl ⟨t, by omega, by simpa using hb, ?_⟩
      rw [List.getElem?_eq_getElem (by omega)]; rfl
/-- Equal numbers, where the marks are those of an equivalence. -/
theorem partS_eq (M : Mtx) (n : Nat) (hr : ∀ s < n, M s s = false) (hy : ∀ s t, s < n → t < n → M s t = false → M t s = false) (ht : ∀ s t u, s < n → t < n → u < n → M s t = false → M t u = false → M s u = false) :
    ∀ s, s ≤ n → ∀ i j : Nat, i < s → j < s → ((partS M s).1[i]? = (partS M s).1[j]? ↔ M i j = false)
  | 0, _, i, j, hi, _ => by omega
  | s + 1, hs, i, j, hi, hj => by
    have ih := partS_eq M n hr hy ht s (by omega)
    obtain ⟨h1, h2, h3, h4⟩ := partS_ok M s
    -- the new number
    obtain ⟨x, hx, hP⟩ : ∃ x, (∀ i < s, (partS M s).1[i]? = some x ↔ M i s = false) ∧ (partS M (s + 1)).1 = (partS M s).1 ++ [x] := by
      rcases lastF_spec M (partS M s).1 s s (by omega) with ⟨u, k1, k2, k3⟩ | ⟨k1, k2⟩
      · have hm := List.mem_of_getElem? k3
        have := h4 _ hm
        refine ⟨_, fun i hi => ?_, by simp only [partS]; rw [if_neg (by omega)]⟩
        rw [← k3, ih i u hi k1]
        exact ⟨fun h => ht i u s (by omega) (by omega) (by omega) h (hy _ _ (by omega) (by omega) k2), fun h => ht i s u (by omega) (by omega) (by omega) h k2⟩
      · refine ⟨(partS M s).2, fun i hi => ⟨fun h => ?_, fun h => ?_⟩, by simp only [partS]; rw [if_pos (by omega)]⟩
        · have := h4 _ (List.mem_of_getElem? h); omega
        · have := hy _ _ (by omega) (by omega) h
          rw [k1 i hi] at this; cases this
    rw [hP]
    have hgs : ∀ i < s, ((partS M s).1 ++ [x])[i]? = (partS M s).1[i]? := fun i hi => List.getElem?_append_left (by omega)
    have hgn : ((partS M s).1 ++ [x])[s]? = some x := by rw [List.getElem?_append_right (by omega), h1, Nat.sub_self]; rfl
    by_cases ei : i = s <;> by_cases ej : j = s
    · subst ei; subst ej; exact ⟨fun _ => hr j (by omega), fun _ => rfl⟩
    · subst ei
      rw [hgn, hgs j (by omega)]
      refine ⟨fun h => hy _ _ (by omega) (by omega) ((hx j (by omega)).1 h.symm), fun h => ((hx j (by omega)).2 (hy _ _ (by omega) (by omega) h)).symm⟩
    · subst ej
      rw [hgn, hgs i (by omega)]
      exact hx i (by omega)
    · rw [hgs i (by omega), hgs j (by omega)]
      exact ih i j (by omega) (by omega)
def classL (m : Mach) : List Int := (partS (iterM m m.rows.length) m.rows.length).1
theorem classL_len (m : Mach) : (classL m).length = m.rows.length := (partS_ok _ _).1
theorem classL_eq {m : Mach} (hv : Valid m) {i j : Nat} (hi : i < m.rows.length) (hj : j < m.rows.length) : (classL m)[i]? = (classL m)[j]? ↔ ∀ v, WOk m.ins.toNat v → runR m i v = runR m j v := by
  have h := iterM_is hv m.rows.length
  rw [classL, partS_eq (iterM m m.rows.length) m.rows.length (fun s hs => (h s s hs hs).2 fun _ _ _ => rfl) (fun s t hs ht e => (h t s ht hs).2 ((h s t hs ht).1 e).symm)
    (fun s t u hs ht hu e e' => (h s u hs hu).2 (((h s t hs ht).1 e).trans ((h t u ht hu).1 e'))) _ (Nat.le_refl _) i j hi hj, h i j hi hj]
  exact ⟨fun h => alike_all hv (by omega) hi hj h, fun h v h1 _ => h v h1⟩
theorem rounds_is {m : Mach} (hv : Valid m) : PureIs prog 35 [.ag m.cells, .sc (.int .i64 m.rows.length)] (.sl false ((classL m).map intC) .unk) := by
  have hrw := hv.rows
  have h1 := marked_is hv m.rows.length (by omega)
  have h2 := part_is (iterM m m.rows.length) m.rows.length (by omega) false .unk
  have hn0 : (m.rows.length == 0) = false := beq_eq_false_iff_ne.2 (by omega)
  rw [hn0] at h2
  refine PureIs.of (nv := 3) (hid := [4]) func35 rfl (by kernel_rfl) (by simp [ntmps35]) fun _ => ?_
  rw [ntmps35, results35]
  refine EvC.seq (EvC.rg (by (simp only [go_sem, Mach.cells]) <;> rfl) (by simp) ?_)
  apply EvC.seq
  apply EvC.tr
  · apply Tr.run
    · (simp only [go_sem, Mach.cells]) <;> rfl
    · simp
    apply Tr.cons
    · exact .call rfl rfl (by (simp only [go_sem]) <;> rfl) (by (simp only [go_sem]) <;> rfl) (by (simp only [go_sem]) <;> rfl) (by (simp only [go_sem]) <;> rfl) (by (simp only [go_sem]) <;> rfl) (h1)
    apply Tr.run
    · (simp only [go_sem, Mach.cells]) <;> rfl
    · simp
    apply Tr.cons
    · exact .call rfl rfl (by (simp only [go_sem]) <;> rfl) (by (simp only [go_sem]) <;> rfl) (by (simp only [go_sem]) <;> rfl) (by (simp only [go_sem]) <;> rfl) (by (simp only [go_sem]) <;> rfl) (h2)
    apply Tr.done
    · (simp only [go_sem]) <;> rfl
    · simp
  refine EvC.ret ⟨.inl rfl, _, (by (simp only [go_sem]) <;> rfl), ?_, rfl⟩
  simp only [go_sem]
  rfl
theorem classes_is {m : Mach} (hv : Valid m) : PureIs prog 13 [.ag m.cells] (.sl false ((classL m).map intC) .unk) := by
  refine PureIs.of (nv := 3) (hid := []) func13 rfl (by kernel_rfl) (by simp [ntmps13]) fun _ => ?_
  rw [ntmps13, results13]
  refine EvC.seq (EvC.rg (by (simp only [go_sem, Mach.cells]) <;> rfl) (by simp) ?_)
  apply EvC.seq
  apply EvC.tr
  · apply Tr.run
    · (simp only [go_sem, Mach.cells]) <;> rfl
    · simp
    apply Tr.cons
    · exact .call rfl rfl (by (simp only [go_sem]) <;> rfl) (by (simp only [go_sem]) <;> rfl) (by (simp only [go_sem]) <;> rfl) (by (simp only [go_sem]) <;> rfl) (by (simp only [go_sem]) <;> rfl) (rounds_is hv)
    apply Tr.done
    · (simp only [go_sem]) <;> rfl
    · simp
  refine EvC.ret ⟨.inl rfl, _, (by (simp only [go_sem]) <;> rfl), ?_, rfl⟩
  simp only [go_sem]
end Go.Avl
namespace Go.Avl
open Go Go.Proofs.Try
set_option maxRecDepth 10000
set_option linter.unusedSimpArgs false

set_option maxHeartbeats 4000000 in
theorem splitsSeparate_is {x : LM} (hx : x.Ok) (p q : Int) (hp : 0 ≤ p ∧ p < 256) (hq : 0 ≤ q ∧ q < 256) :
    PureIs prog 3 [.ag x.cells, .ag [.sc (.int .u8 p), .sc (.int .u8 q)]] (.sc (.bool true)) := by
  obtain ⟨b1, b2, b3, b4, b5, b6, -, -⟩ := LM.bounds hx
  have hv := LM.valid hx
  have hn : x.mach.rows.length = x.n := by simp [LM.mach]
  obtain ⟨m, hm⟩ : ∃ m, m = x.mach := ⟨_, rfl⟩
  have hmo := mOf_is hx
  rw [← hm] at hv hn hmo
  have hrw := hv.rows
  refine PureIs.of (nv := 17) (hid := []) func3 rfl (by kernel_rfl) (by simp [ntmps3]) fun _ => ?_
  rw [ntmps3, results3]
  refine EvC.seq (EvC.rg (by (simp only [go_sem, LM.cells]) <;> rfl) (by simp) ?_)
  apply EvC.seq
  apply EvC.tr
  · apply Tr.run
    · (simp only [go_sem, LM.cells]) <;> rfl
    · simp
    apply Tr.cons
    · exact .call rfl rfl (by (simp only [go_sem]) <;> rfl) (by (simp only [go_sem]) <;> rfl) (by (simp only [go_sem]) <;> rfl) (by (simp only [go_sem]) <;> rfl) (by (simp only [go_sem]) <;> rfl) (hmo)
    apply Tr.done
    · (simp only [go_sem, Mach.cells]) <;> rfl
    · simp
  obtain ⟨s, hs⟩ : ∃ s : Nat, p % m.rows.length = (s : Int) := ⟨(p % m.rows.length).toNat, by have := Int.emod_nonneg p (b := m.rows.length) (by omega); omega⟩
  obtain ⟨t, ht⟩ : ∃ t : Nat, q % m.rows.length = (t : Int) := ⟨(q % m.rows.length).toNat, by have := Int.emod_nonneg q (b := m.rows.length) (by omega); omega⟩
  have hs' : s < m.rows.length := by have := Int.emod_lt_of_pos p (b := m.rows.length) (by omega); omega
  have ht' : t < m.rows.length := by have := Int.emod_lt_of_pos q (b := m.rows.length) (by omega); omega
  have hIp : inI64 p = true := inI64_of (by omega) (by omega)
  have hIq : inI64 q = true := inI64_of (by omega) (by omega)
  apply EvC.seq
  apply EvC.drd mixed
  · (simp only [go_sem, hs, ht]) <;> rfl
  · simp [hIp, hIq]; omega
  · kernel_rfl
  obtain ⟨w, hw⟩ : ∃ w, sepW m s t = w := ⟨_, rfl⟩
  have hw' : sepW m t s = w := by rw [← sepW_symm hv hs' ht']; exact hw
  obtain ⟨b, hb⟩ : ∃ b, (!w.isEmpty) = b := ⟨_, rfl⟩
  have hwb : decide (0 < (w.length : Int)) = b := by rw [← hb]; cases w <;> simp
  have hwl : w.length < 100 := by rw [← hw]; exact sepW_len m hv s t
  have hst : stateErr m [(s : Int), (t : Int)] = 0 := stateErr_of hv (by simp; omega)
  have hts : stateErr m [(t : Int), (s : Int)] = 0 := stateErr_of hv (by simp; omega)
  have h1 := separate_good hv.small hst (by simpa using hw) hwb
  have h2 := refSep_is hv s t hs' ht' hw
  have h3 := separate_good hv.small hts (by simpa using hw') hwb
  rw [hb] at h2
  obtain ⟨cs, hcs⟩ : ∃ c, (classL m)[s]? = some c := ⟨_, List.getElem?_eq_getElem (show s < (classL m).length by rw [classL_len]; exact hs')⟩
  obtain ⟨ct, hct⟩ : ∃ c, (classL m)[t]? = some c := ⟨_, List.getElem?_eq_getElem (show t < (classL m).length by rw [classL_len]; exact ht')⟩
  have hcc : (!decide (cs = ct)) = b := by
    have h := classL_eq hv hs' ht'
    rw [hcs, hct] at h
    rcases sepW_spec hv hs' ht' with ⟨k1, k2⟩ | ⟨k1, k2⟩
    · rw [hw] at k1
      have : cs = ct := by simpa using h.2 k2
      simp [this, ← hb, k1]
    · rw [hw] at k1
      have : ¬ cs = ct := fun e => k2.2.1 (h.1 (by rw [e]) _ k2.1)
      cases w with
      | nil => exact absurd rfl k1
      | cons a u => simp [this, ← hb]
  have hcl := classL_len m
  apply EvC.seq
  apply EvC.tr
  · apply Tr.run
    · (simp only [go_sem, Mach.cells]) <;> rfl
    · simp
    apply Tr.cons
    · exact .call rfl rfl (by (simp only [go_sem]) <;> rfl) (by (simp only [go_sem]) <;> rfl) (by (simp only [go_sem]) <;> rfl) (by (simp only [go_sem]) <;> rfl) (by (simp only [go_sem]) <;> rfl) (h1)
    apply Tr.done
    · (simp only [go_sem]) <;> rfl
    · simp
  apply EvC.seq
  apply EvC.tr
  · apply Tr.run
    · (simp only [go_sem, Mach.cells]) <;> rfl
    · simp
    apply Tr.cons
    · exact .call rfl rfl (by (simp only [go_sem]) <;> rfl) (by (simp only [go_sem]) <;> rfl) (by (simp only [go_sem]) <;> rfl) (by (simp only [go_sem]) <;> rfl) (by (simp only [go_sem]) <;> rfl) (h2)
    apply Tr.done
    · (simp only [go_sem]) <;> rfl
    · simp
  apply EvC.seq
  apply EvC.tr
  · apply Tr.run
    · (simp only [go_sem, Mach.cells]) <;> rfl
    · simp
    apply Tr.cons
    · exact .call rfl rfl (by (simp only [go_sem]) <;> rfl) (by (simp only [go_sem]) <;> rfl) (by (simp only [go_sem]) <;> rfl) (by (simp only [go_sem]) <;> rfl) (by (simp only [go_sem]) <;> rfl) (h3)
    apply Tr.done
    · (simp only [go_sem]) <;> rfl
    · simp
  apply EvC.seq
  apply EvC.tr
  · apply Tr.run
    · (simp only [go_sem, Mach.cells]) <;> rfl
    · simp
    apply Tr.cons
    · exact .call rfl rfl (by (simp only [go_sem]) <;> rfl) (by (simp only [go_sem]) <;> rfl) (by (simp only [go_sem]) <;> rfl) (by (simp only [go_sem]) <;> rfl) (by (simp only [go_sem]) <;> rfl) (classes_is hv)
    apply Tr.done
    · (simp only [go_sem]) <;> rfl
    · simp
  generalize classL m = L at hcs hct hcl
  have hls : PureIs prog 14 [.sl w.isEmpty (w.map intC) .full, .sc (.int .i64 0), .sl w.isEmpty (w.map intC) .unk, .sc (.int .i64 0)] (.sc (.bool true)) := by simpa using list_is w.isEmpty w w.isEmpty w .unk 0 0 (by omega)
  apply EvC.seq
  apply EvC.drw mixed  -- R7
  · apply Tr.run
    · (simp only [go_sem]) <;> rfl
    · simp
    apply Tr.cons
    · exact .call rfl rfl (by (simp only [go_sem]) <;> rfl) (by (simp only [go_sem]) <;> rfl) (by (simp only [go_sem]) <;> rfl) (by (simp only [go_sem]) <;> rfl) (by (simp only [go_sem]) <;> rfl) hls
    apply Tr.run
    · (simp only [go_sem, beq_self_eq_true]) <;> rfl
    · simp
    apply Tr.cons
    · exact .callG rfl rfl (by (simp only [go_sem]) <;> rfl) rfl (by (simp only [go_sem]) <;> rfl) (by (simp only [go_sem]) <;> rfl) (by (simp only [go_sem]) <;> rfl) (by (simp only [go_sem]) <;> rfl) (by (simp only [go_sem]) <;> rfl) hls
    apply Tr.run
    · (simp only [go_sem, beq_self_eq_true, hcs, hct, intC, hcc, decide_not, Int.toNat_natCast]) <;> rfl
    · simp [hcl]; try omega
    apply Tr.cons
    · exact .callG rfl rfl (by (simp only [go_sem, beq_self_eq_true]) <;> rfl) rfl (by (simp only [go_sem]) <;> rfl) (by (simp only [go_sem]) <;> rfl) (by (simp only [go_sem]) <;> rfl) (by (simp only [go_sem]) <;> rfl) (by (simp only [go_sem]) <;> rfl) lives_is
    apply Tr.done
    · (simp only [go_sem]) <;> rfl
    · simp
  · kernel_rfl
  refine EvC.ret ⟨.inl rfl, _, (by (simp only [go_sem]) <;> rfl), ?_, rfl⟩
  simp only [go_sem]
  try rfl
end Go.Avl
namespace Go.Avl
open Go Go.Proofs.Try
set_option maxRecDepth 10000
set_option linter.unusedSimpArgs false

theorem idxOf_inj' {D : List Int} {x y : Int} (hx : x ∈ D) (hy : y ∈ D) (h : D.idxOf x = D.idxOf y) : x = y := by
  have h1 : D[D.idxOf x]'(List.idxOf_lt_length_of_mem hx) = x := List.getElem_idxOf _
  have h2 : D[D.idxOf y]'(List.idxOf_lt_length_of_mem hy) = y := List.getElem_idxOf _
  rw [← h1, ← h2]
  simp only [h]
theorem nm_eq {l : List Int} {i j : Nat} (hi : i < l.length) (hj : j < l.length) : (nm l)[i]? = (nm l)[j]? ↔ l[i]? = l[j]? := by
  have e1 : l[i]? = some l[i] := List.getElem?_eq_getElem hi
  have e2 : l[j]? = some l[j] := List.getElem?_eq_getElem hj
  have m1 : l[i] ∈ dd l := mem_dd.2 (List.getElem_mem hi)
  have m2 : l[j] ∈ dd l := mem_dd.2 (List.getElem_mem hj)
  rw [nm, nmOf_get e1, nmOf_get e2, e1, e2]
  simp only [Option.some.injEq]
  exact ⟨fun h => idxOf_inj' m1 m2 (by omega), fun h => by rw [h]⟩
theorem nm_len (l : List Int) : (nm l).length = l.length := nmOf_len _ _
theorem leastEq_eq {f : Nat → List Int} {i j : Nat} : leastEq f i = leastEq f j ↔ f i = f j := by
  obtain ⟨k, _, k2, k3, k4⟩ := leastEq_ex f i
  obtain ⟨l, _, l2, l3, l4⟩ := leastEq_ex f j
  refine ⟨fun h => by rw [k4, l4] at h; rw [← k2, ← l2, h], fun h => ?_⟩
  rw [k4]
  exact (leastEq_is (by rw [k2, h]) fun q hq => by rw [← h]; exact k3 q hq).symm
theorem namesR_len (m : Mach) (w : List Int) : (namesR m w).length = m.rows.length := by simp [namesR]
def namesL (m : Mach) (w : List Int) : List Int := nm (namesR m w)
theorem namesL_len (m : Mach) (w : List Int) : (namesL m w).length = m.rows.length := by rw [namesL, nm_len, namesR_len]
theorem namesL_eq {m : Mach} {w : List Int} {i j : Nat} (hi : i < m.rows.length) (hj : j < m.rows.length) : (namesL m w)[i]? = (namesL m w)[j]? ↔ runR m i w = runR m j w := by
  rw [namesL, nm_eq (by rw [namesR_len]; exact hi) (by rw [namesR_len]; exact hj)]
  simp only [namesR, List.getElem?_map, List.getElem?_range hi, List.getElem?_range hj, Option.map_some, Option.some.injEq]
  rw [← leastEq_eq (f := fun k : Nat => runR m k w)]
  omega
theorem countR_zero : ∀ l : List Int, (∀ x ∈ l, x = 0) → l.foldl (fun n x => if n ≤ x then x + 1 else n) 1 = 1
  | [], _ => rfl
  | x :: l, h => by
    obtain rfl := h x List.mem_cons_self
    rw [List.foldl_cons, if_neg (by omega)]
    exact countR_zero l fun y hy => h y (List.mem_cons_of_mem _ hy)
theorem names_nil {m : Mach} (hr : 1 ≤ m.rows.length) : (∀ x ∈ namesL m [], x = 0) ∧ countR (namesL m []) = 1 := by
  have h0 : ∀ x ∈ namesL m [], x = 0 := fun x hx => by
    obtain ⟨i, hi, rfl⟩ := List.mem_iff_getElem.1 hx
    have hi' : i < m.rows.length := by rw [← namesL_len m []]; exact hi
    have e := (namesL_eq (m := m) (w := []) hi' (show 0 < m.rows.length by omega)).2 rfl
    rw [List.getElem?_eq_getElem hi] at e
    obtain ⟨z, hz⟩ : ∃ z, (namesR m [])[0]? = some z := ⟨_, List.getElem?_eq_getElem (show 0 < (namesR m []).length by rw [namesR_len]; omega)⟩
    have e2 : (namesL m [])[0]? = some 0 := by rw [namesL, nm, nmOf_get hz, idx_new hz (by simp)]; simp [dd]
    rw [e2] at e
    simpa using e
  refine ⟨h0, ?_⟩
  cases hL : namesL m [] with
  | nil => have := namesL_len m []; rw [hL] at this; simp at this; omega
  | cons x l =>
    rw [hL] at h0
    obtain rfl := h0 x List.mem_cons_self
    rw [countR, List.foldl_cons, if_pos (Int.le_refl _)]
    exact countR_zero l fun y hy => h0 y (List.mem_cons_of_mem _ hy)
def befA (m : Mach) (a : List Int) : Nat → AV
  | 0 => .sl true [] .unk
  | i + 1 => .sl false ((namesL m (a.take i)).map intC) .full
theorem befA_noref (m : Mach) (a : List Int) (i : Nat) : (befA m a i).noref = true := by cases i <;> rfl
end Go.Avl
