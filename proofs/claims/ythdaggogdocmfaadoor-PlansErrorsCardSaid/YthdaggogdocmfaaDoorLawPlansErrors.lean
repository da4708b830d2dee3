/-
  Lemmas.
  Lemmas.
  Lemmas.
  How machines, and lists of faults and words with prices, read.
  PlansErrors returns true at every input, and each argument reads behind the call as it read before; the table of the kinds of faults is tied to the program's text.
  Conditions: those of the given row and card alone (no others).
-/
import Derived.Test.YthdaggogdocmfaaDoorPart9
set_option linter.unusedSimpArgs false
set_option linter.unusedVariables false
set_option linter.unnecessarySimpa false
set_option linter.deprecated false
namespace Go.Avl
open Go Go.Proofs.Tryd
set_option maxRecDepth 10000
set_option linter.unusedSimpArgs false

/-! ### The reference's faults -/
theorem defined66_is {m : Mach} (hv : Valid m) (s i : Int) : PureIs prog 66 [.ag m.cells, .sc (.int .i64 s), .sc (.int .i64 i)] (.sc (.bool (definedB m s i))) := by
  refine PureIs.of (nv := 4) (hid := [6]) func66 rfl (by kernel_rfl) (by simp [ntmps66]) fun _ => ?_
  rw [ntmps66, results66]
  refine EvC.seq (EvC.rg (by (simp only [go_sem, Mach.cells]) <;> rfl) (by simp) ?_)
  refine EvC.frzB 0 (by (simp only [go_sem]) <;> rfl) ?_
  have hn1 := hv.rows
  have hi1 := hv.ins
  cases h1 : m.rows[s.toNat]? with
  | none =>
    have hs : m.rows.length ≤ s.toNat := List.getElem?_eq_none_iff.1 h1
    have d1 : decide (0 ≤ s) = true := decide_eq_true (by omega)
    have d2 : decide (s < (m.rows.length : Int)) = false := decide_eq_false (by omega)
    have hres : definedB m s i = false := by simp [definedB, d1, d2]
    rw [hres]
    apply EvC.seq
    apply EvC.tr
    · apply Tr.run
      · (simp only [go_sem, Mach.cells, List.length_map, h1, d1, d2]) <;> rfl
      · simp
      apply Tr.cons
      · exact .skipv (.ia [.sl false [] .unk]) rfl rfl (by (simp only [go_sem]) <;> rfl) (by (simp only [go_sem]) <;> rfl)
      apply Tr.run
      · (simp only [go_sem, Mach.cells, List.length_map, h1, d1, d2]) <;> rfl
      · simp
      apply Tr.cons
      · exact .skipv (.ia [.sc (.int .i64 0), .sc (.int .i64 0)]) rfl rfl (by (simp only [go_sem]) <;> rfl) (by (simp only [go_sem]) <;> rfl)
      apply Tr.done
      · (simp only [go_sem]) <;> rfl
      · simp
    refine EvC.ret ⟨.inl rfl, _, (by (simp only [go_sem]) <;> rfl), ?_, rfl⟩
    simp only [go_sem]
  | some r =>
    have hsl : s.toNat < m.rows.length := (List.getElem?_eq_some_iff.1 h1).1
    have hrl := (hv.row _ (List.mem_of_getElem? h1)).1
    cases h2 : r.2[i.toNat]? with
    | none =>
      have hi : r.2.length ≤ i.toNat := List.getElem?_eq_none_iff.1 h2
      have d3 : decide (0 ≤ i) = true := decide_eq_true (by omega)
      have d4 : decide (i < m.ins) = false := decide_eq_false (by omega)
      have hres : definedB m s i = false := by simp [definedB, d3, d4]
      rw [hres]
      by_cases h0 : 0 ≤ s
      · have d1 : decide (0 ≤ s) = true := decide_eq_true h0
        have d2 : decide (s < (m.rows.length : Int)) = true := decide_eq_true (by omega)
        apply EvC.seq
        apply EvC.tr
        · apply Tr.run
          · (simp only [go_sem, Mach.cells, rowC, List.length_map, h1, h2, d1, d2, d3, d4]) <;> rfl
          · simp
          apply Tr.cons
          · exact .skipv (.ia [.sc (.int .i64 0), .sc (.int .i64 0)]) rfl rfl (by (simp only [go_sem]) <;> rfl) (by (simp only [go_sem]) <;> rfl)
          apply Tr.done
          · (simp only [go_sem]) <;> rfl
          · simp
        refine EvC.ret ⟨.inl rfl, _, (by (simp only [go_sem]) <;> rfl), ?_, rfl⟩
        simp only [go_sem]
      · have d1 : decide (0 ≤ s) = false := decide_eq_false h0
        apply EvC.seq
        apply EvC.tr
        · apply Tr.run
          · (simp only [go_sem, Mach.cells, rowC, List.length_map, h1, h2, d1, d3, d4]) <;> rfl
          · simp
          apply Tr.cons
          · exact .skipv (.ia [.sc (.int .i64 0), .sc (.int .i64 0)]) rfl rfl (by (simp only [go_sem]) <;> rfl) (by (simp only [go_sem]) <;> rfl)
          apply Tr.done
          · (simp only [go_sem]) <;> rfl
          · simp
        refine EvC.ret ⟨.inl rfl, _, (by (simp only [go_sem]) <;> rfl), ?_, rfl⟩
        simp only [go_sem]
    | some e =>
      have he : stepM m s i = e := by rw [stepM, h1]; simp [h2]
      unfold definedB
      rw [he]
      apply EvC.seq
      apply EvC.trd
      · (simp only [go_sem, Mach.cells, h1, h2, rowC, edgeC, List.length_map]) <;> rfl
      · by_cases k1 : 0 ≤ s <;> by_cases k3 : 0 ≤ i <;> simp [k1, k3]
      refine EvC.ret ⟨.inl rfl, _, (by (simp only [go_sem]) <;> rfl), ?_, rfl⟩
      simp only [go_sem]
      by_cases k1 : 0 ≤ s <;> by_cases k2 : s < m.rows.length <;> by_cases k3 : 0 ≤ i <;> by_cases k4 : i < m.ins <;> simp [k1, k2, k3, k4]

theorem inN_if (x n : Int) : (if decide (0 ≤ x) = true then decide (x < n) else false) = inN x n := by
  unfold inN
  by_cases h : 0 ≤ x <;> simp [h]
set_option maxHeartbeats 4000000 in
theorem is40_is {m : Mach} (hv : Valid m) (f : FA) : PureIs prog 40 [.ag m.cells, .ag f.cells] (.sc (.bool (faultB m f))) := by
  obtain ⟨kd, s, i, t, a, o⟩ := f
  have qd := defined66_is hv s i
  refine PureIs.of (nv := 9) (hid := [15, 49, 50, 70, 90, 105, 118]) func40 rfl (by kernel_rfl) (by simp [ntmps40]) fun _ => ?_
  rw [ntmps40, results40]
  refine EvC.seq (EvC.rg (by (simp only [go_sem, Mach.cells, FA.cells]) <;> rfl) (by simp) ?_)
  refine EvC.frzB 0 (by (simp only [go_sem]) <;> rfl) ?_
  refine EvC.frzB 1 (by (simp only [go_sem]) <;> rfl) ?_
  refine EvC.seq ?_
  cases hd : definedB m s i with
  | false =>
    have hres : faultB m ⟨kd, s, i, t, a, o⟩ = false := by unfold faultB; simp only; rw [hd]; simp
    rw [hd] at qd
    rw [hres]
    apply EvC.seq
    apply EvC.tr
    · apply Tr.run
      · (simp only [go_sem, Mach.cells]) <;> rfl
      · simp
      apply Tr.cons
      · exact .call rfl rfl (by (simp only [go_sem]) <;> rfl) (by (simp only [go_sem]) <;> rfl) (by (simp only [go_sem]) <;> rfl) (by (simp only [go_sem]) <;> rfl) (by (simp only [go_sem]) <;> rfl) (qd)
      apply Tr.done
      · (simp only [go_sem]) <;> rfl
      · simp
    refine EvC.cond_true (by (simp only [go_sem]) <;> rfl) ?_
    refine EvC.seq (EvC.rg (by (simp only [go_sem]) <;> rfl) (by simp) ?_)
    refine EvC.ret ⟨.inl rfl, _, (by (simp only [go_sem]) <;> rfl), ?_, rfl⟩
    simp only [go_sem]
  | true =>
  rw [hd] at qd
  apply EvC.seq
  apply EvC.tr
  · apply Tr.run
    · (simp only [go_sem, Mach.cells]) <;> rfl
    · simp
    apply Tr.cons
    · exact .call rfl rfl (by (simp only [go_sem]) <;> rfl) (by (simp only [go_sem]) <;> rfl) (by (simp only [go_sem]) <;> rfl) (by (simp only [go_sem]) <;> rfl) (by (simp only [go_sem]) <;> rfl) (qd)
    apply Tr.done
    · (simp only [go_sem]) <;> rfl
    · simp
  refine EvC.cond_false (by (simp only [go_sem]) <;> rfl) ?_
  refine EvC.skip ?_
  obtain ⟨r, h1, h2, he⟩ := step_in hv hd
  obtain ⟨b1, b2, _⟩ := definedB_iff.1 hd
  have hfb : faultB m ⟨kd, s, i, t, a, o⟩ = (plainB ⟨kd, s, i, t, a, o⟩ && kindB m ⟨kd, s, i, t, a, o⟩) := by unfold faultB; simp only; rw [hd, Bool.true_and]
  rw [hfb]
  clear hfb
  unfold kindB
  simp only
  generalize stepM m s i = e at *
  have h3 : m.rows[e.1.toNat]? = some (m.rows[e.1.toNat]'(by omega)) := List.getElem?_eq_getElem (by omega)
  have hrl := (hv.row _ (List.getElem_mem (show e.1.toNat < m.rows.length by omega))).1
  generalize m.rows[e.1.toNat]'(by omega) = r3 at h3 hrl
  have hsm : stepM m e.1 a = (r3.2[a.toNat]?).getD (-1, -1) := by rw [stepM, h3]; rfl
  have hi1 := hv.ins
  have hro1 := hv.rows
  apply EvC.seq
  apply EvC.drd mixed
  · (simp only [go_sem, h1, h2, rowC, edgeC, List.length_map]) <;> rfl
  · simp; try omega
  · kernel_rfl
  refine EvC.frzB 20 (by (simp only [go_sem]) <;> rfl) ?_
  refine EvC.seq (EvC.rg (by (simp only [go_sem, List.length_map]) <;> rfl) (by simp) ?_)
  apply EvC.seq
  apply EvC.trd
  · (simp only [go_sem, inN_if]) <;> rfl
  · simp
  apply EvC.seq
  apply EvC.trd
  · (simp only [go_sem, inN_if]) <;> rfl
  · simp
  refine EvC.seq ?_
  refine EvC.seq (EvC.rg (by (simp only [go_sem]) <;> rfl) (by simp) ?_)
  refine EvC.block ?_  -- 0
  have hno : ¬ (kd = 0 ∨ kd = 1 ∨ kd = 2 ∨ kd = 3 ∨ kd = 4) → plainB ⟨kd, s, i, t, a, o⟩ = false := fun h => by
    unfold plainB
    simp only
    rw [if_neg (by omega), if_neg (by omega), if_neg (by omega), if_neg (by omega), if_neg (by omega)]
  by_cases hk0 : kd = 0
  · -- output
    subst hk0
    refine EvC.seq (EvC.rg (by (simp only [go_sem]) <;> rfl) (by simp) ?_)
    refine EvC.cond_true (by (simp only [go_sem]) <;> rfl) ?_
    apply EvC.seq
    apply EvC.trd
    · (simp only [go_sem, inN_if]) <;> rfl
    · simp
    refine EvC.ret ⟨.inl rfl, _, (by (simp only [go_sem]) <;> rfl), ?_, rfl⟩
    simp only [go_sem]
    unfold plainB
    generalize inN o m.outs = b
    by_cases e1 : t = 0 <;> by_cases e2 : a = 0 <;> cases b <;> simp [e1, e2]
  have dk0 : decide (kd = 0) = false := decide_eq_false hk0
  refine EvC.seq (EvC.rg (by (simp only [go_sem, dk0]) <;> rfl) (by simp) ?_)
  refine EvC.cond_false (by (simp only [go_sem]) <;> rfl) ?_
  by_cases hk1 : kd = 1
  · -- transfer
    subst hk1
    refine EvC.seq (EvC.rg (by (simp only [go_sem]) <;> rfl) (by simp) ?_)
    refine EvC.cond_true (by (simp only [go_sem]) <;> rfl) ?_
    apply EvC.seq
    apply EvC.trd
    · (simp only [go_sem, inN_if]) <;> rfl
    · simp
    refine EvC.ret ⟨.inl rfl, _, (by (simp only [go_sem]) <;> rfl), ?_, rfl⟩
    simp only [go_sem]
    unfold plainB
    generalize inN t m.rows.length = b
    by_cases e1 : o = 0 <;> by_cases e2 : a = 0 <;> cases b <;> simp [e1, e2]
  have dk1 : decide (kd = 1) = false := decide_eq_false hk1
  refine EvC.seq (EvC.rg (by (simp only [go_sem, dk1]) <;> rfl) (by simp) ?_)
  refine EvC.cond_false (by (simp only [go_sem]) <;> rfl) ?_
  by_cases hk2 : kd = 2
  · -- missing
    subst hk2
    refine EvC.seq (EvC.rg (by (simp only [go_sem]) <;> rfl) (by simp) ?_)
    refine EvC.cond_true (by (simp only [go_sem]) <;> rfl) ?_
    apply EvC.seq
    apply EvC.trd
    · (simp only [go_sem, inN_if]) <;> rfl
    · simp
    refine EvC.ret ⟨.inl rfl, _, (by (simp only [go_sem]) <;> rfl), ?_, rfl⟩
    simp only [go_sem]
    unfold plainB
    by_cases e1 : o = 0 <;> by_cases e2 : a = 0 <;> by_cases e3 : t = 0 <;> simp [e1, e2, e3]
  have dk2 : decide (kd = 2) = false := decide_eq_false hk2
  refine EvC.seq (EvC.rg (by (simp only [go_sem, dk2]) <;> rfl) (by simp) ?_)
  refine EvC.cond_false (by (simp only [go_sem]) <;> rfl) ?_
  by_cases hk3 : kd = 3
  · -- extra
    subst hk3
    refine EvC.seq (EvC.rg (by (simp only [go_sem]) <;> rfl) (by simp) ?_)
    refine EvC.cond_true (by (simp only [go_sem]) <;> rfl) ?_
    apply EvC.seq
    apply EvC.trd
    · (simp only [go_sem, inN_if]) <;> rfl
    · simp
    refine EvC.ret ⟨.inl rfl, _, (by (simp only [go_sem]) <;> rfl), ?_, rfl⟩
    simp only [go_sem]
    unfold plainB
    generalize inN t m.rows.length = b
    by_cases e1 : o = 0 <;> by_cases e2 : a = 0 <;> cases b <;> simp [e1, e2]
  have dk3 : decide (kd = 3) = false := decide_eq_false hk3
  refine EvC.seq (EvC.rg (by (simp only [go_sem, dk3]) <;> rfl) (by simp) ?_)
  refine EvC.cond_false (by (simp only [go_sem]) <;> rfl) ?_
  by_cases hk4 : kd = 4
  rotate_left
  · -- none of them
    have dk4 : decide (kd = 4) = false := decide_eq_false hk4
    rw [hno (by omega)]
    refine EvC.seq (EvC.rg (by (simp only [go_sem, dk4]) <;> rfl) (by simp) ?_)
    refine EvC.cond_false (by (simp only [go_sem]) <;> rfl) ?_
    refine EvC.skip ?_
    refine EvC.seq (EvC.rg (by (simp only [go_sem]) <;> rfl) (by simp) ?_)
    refine EvC.ret ⟨.inl rfl, _, (by (simp only [go_sem]) <;> rfl), ?_, rfl⟩
    simp only [go_sem]
  subst hk4
  have qd2 := defined66_is hv e.1 a
  refine EvC.seq (EvC.rg (by (simp only [go_sem]) <;> rfl) (by simp) ?_)
  refine EvC.cond_true (by (simp only [go_sem]) <;> rfl) ?_
  have hp4 : plainB ⟨4, s, i, t, a, o⟩ = decide (t = 0) := rfl
  rw [hp4]
  rw [hsm]
  cases h4 : r3.2[a.toNat]? with
  | none =>
    have hdf : definedB m e.1 a = false := by
      cases hx : definedB m e.1 a with
      | false => rfl
      | true =>
        obtain ⟨_, k2, _⟩ := definedB_iff.1 hx
        have := List.getElem?_eq_none_iff.1 h4
        omega
    rw [hdf] at qd2
    rw [hdf]
    simp only [Bool.false_and, Bool.and_false]
    by_cases ht0 : t = 0
    · have d1 : decide (t = 0) = true := decide_eq_true ht0
      apply EvC.seq
      apply EvC.drw mixed
      · apply Tr.run
        · (simp only [go_sem, d1, h3, h4, rowC, List.length_map, Mach.cells]) <;> rfl
        · simp
        apply Tr.cons
        · exact .callG rfl rfl (by (simp only [go_sem]) <;> rfl) rfl (by (simp only [go_sem]) <;> rfl) (by (simp only [go_sem]) <;> rfl) (by (simp only [go_sem]) <;> rfl) (by (simp only [go_sem]) <;> rfl) (by (simp only [go_sem]) <;> rfl) (qd2)
        apply Tr.run
        · (simp only [go_sem, d1, h3, h4, rowC, List.length_map, Mach.cells]) <;> rfl
        · simp
        apply Tr.cons
        · exact .skipv (.ia [.sc (.int .i64 0), .sc (.int .i64 0)]) rfl rfl (by (simp only [go_sem]) <;> rfl) (by (simp only [go_sem]) <;> rfl)
        apply Tr.done
        · (simp only [go_sem, d1, h3, h4, rowC, List.length_map, Mach.cells]) <;> rfl
        · simp
      · kernel_rfl
      refine EvC.ret ⟨.inl rfl, _, (by (simp only [go_sem]) <;> rfl), ?_, rfl⟩
      simp only [go_sem]
    · have d1 : decide (t = 0) = false := decide_eq_false ht0
      apply EvC.seq
      apply EvC.drw mixed
      · apply Tr.run
        · (simp only [go_sem, d1, h3, h4, rowC, List.length_map, Mach.cells]) <;> rfl
        · simp
        apply Tr.cons
        · exact .skipv (.sc (.bool false)) rfl rfl (by (simp only [go_sem]) <;> rfl) (by (simp only [go_sem]) <;> rfl)
        apply Tr.run
        · (simp only [go_sem, d1, h3, h4, rowC, List.length_map, Mach.cells]) <;> rfl
        · simp
        apply Tr.cons
        · exact .skipv (.ia [.sc (.int .i64 0), .sc (.int .i64 0)]) rfl rfl (by (simp only [go_sem]) <;> rfl) (by (simp only [go_sem]) <;> rfl)
        apply Tr.done
        · (simp only [go_sem, d1, h3, h4, rowC, List.length_map, Mach.cells]) <;> rfl
        · simp
      · kernel_rfl
      refine EvC.ret ⟨.inl rfl, _, (by (simp only [go_sem]) <;> rfl), ?_, rfl⟩
      simp only [go_sem]
  | some e4 =>
    have hal : a.toNat < r3.2.length := (List.getElem?_eq_some_iff.1 h4).1
    by_cases ht0 : t = 0
    rotate_left
    · have d1 : decide (t = 0) = false := decide_eq_false ht0
      apply EvC.seq
      apply EvC.drw mixed
      · apply Tr.run
        · (simp only [go_sem, d1, h3, h4, edgeC, rowC, List.length_map, Mach.cells]) <;> rfl
        · simp
        apply Tr.cons
        · exact .skipv (.sc (.bool false)) rfl rfl (by (simp only [go_sem]) <;> rfl) (by (simp only [go_sem]) <;> rfl)
        apply Tr.done
        · (simp only [go_sem, d1, h3, h4, edgeC, rowC, List.length_map, Mach.cells]) <;> rfl
        · simp
      · kernel_rfl
      refine EvC.ret ⟨.inl rfl, _, (by (simp only [go_sem]) <;> rfl), ?_, rfl⟩
      simp only [go_sem]
      rw [d1]; rfl
    have d1 : decide (t = 0) = true := decide_eq_true ht0
    cases hdf : definedB m e.1 a with
    | false =>
      rw [hdf] at qd2
      apply EvC.seq
      apply EvC.drw mixed
      · apply Tr.run
        · (simp only [go_sem, d1, h3, h4, edgeC, rowC, List.length_map, Mach.cells]) <;> rfl
        · simp
        apply Tr.cons
        · exact .callG rfl rfl (by (simp only [go_sem]) <;> rfl) rfl (by (simp only [go_sem]) <;> rfl) (by (simp only [go_sem]) <;> rfl) (by (simp only [go_sem]) <;> rfl) (by (simp only [go_sem]) <;> rfl) (by (simp only [go_sem]) <;> rfl) (qd2)
        apply Tr.done
        · (simp only [go_sem, d1, h3, h4, edgeC, rowC, List.length_map, Mach.cells]) <;> rfl
        · simp
      · kernel_rfl
      refine EvC.ret ⟨.inl rfl, _, (by (simp only [go_sem]) <;> rfl), ?_, rfl⟩
      simp only [go_sem]
    | true =>
      rw [hdf] at qd2
      obtain ⟨k1, k2, _⟩ := definedB_iff.1 hdf
      apply EvC.seq
      apply EvC.drw mixed
      · apply Tr.run
        · (simp only [go_sem, d1, h3, h4, edgeC, rowC, List.length_map, Mach.cells]) <;> rfl
        · simp; try omega
        apply Tr.cons
        · exact .callG rfl rfl (by (simp only [go_sem]) <;> rfl) rfl (by (simp only [go_sem]) <;> rfl) (by (simp only [go_sem]) <;> rfl) (by (simp only [go_sem]) <;> rfl) (by (simp only [go_sem]) <;> rfl) (by (simp only [go_sem]) <;> rfl) (qd2)
        apply Tr.done
        · (simp only [go_sem, d1, h3, h4, edgeC, rowC, List.length_map, Mach.cells]) <;> rfl
        · simp; try omega
      · kernel_rfl
      refine EvC.ret ⟨.inl rfl, _, (by (simp only [go_sem]) <;> rfl), ?_, rfl⟩
      simp only [go_sem]
      generalize inN o m.outs = b
      rw [d1]
      cases b <;> simp
@[go_sem] theorem norefs_faL (l : List FA) : (l.map FA.cells).all AV.norefs = true := by simp [List.all_eq_true, FA.cells, AV.norefs, AV.noref]
end Go.Avl
namespace Go.Avl
open Go Go.Proofs.Tryd
set_option maxRecDepth 10000
set_option linter.unusedSimpArgs false

theorem check39_is (m : Mach) (hr : ∀ r ∈ m.rows, r.2.length < 1000000) : PureIs prog 39 [.ag m.cells] (.sc (.int .i64 (checkM m))) := by
  refine PureIs.of (nv := 6) (hid := [19, 33, 38, 49, 53, 71, 94]) func39 rfl (by kernel_rfl) (by simp [ntmps39]) fun _ => ?_
  rw [ntmps39, results39]
  refine EvC.seq (EvC.rg (by (simp only [go_sem, Mach.cells]) <;> rfl) (by simp) ?_)
  refine EvC.frzB 0 (by (simp only [go_sem]) <;> rfl) ?_
  refine EvC.seq ?_
  apply EvC.seq
  apply EvC.trd
  · (simp only [go_sem]) <;> rfl
  · simp
  refine EvC.cond (by (simp only [go_sem]) <;> rfl) (fun hc => ?_) (fun hc => ?_)
  · have h : 16 < m.ins ∨ 16 < m.outs ∨ 64 < (m.rows.length : Int) := by
      by_cases h1 : 16 < m.ins <;> by_cases h2 : 16 < m.outs <;> simp_all
    refine EvC.seq (EvC.rg (by (simp only [go_sem]) <;> rfl) (by simp) ?_)
    refine EvC.ret ⟨.inl rfl, _, (by (simp only [go_sem]) <;> rfl), ?_, rfl⟩
    simp only [go_sem]
    rw [checkM, if_pos h]
  have hn : ¬ (16 < m.ins ∨ 16 < m.outs ∨ 64 < (m.rows.length : Int)) := by
    by_cases h1 : 16 < m.ins <;> by_cases h2 : 16 < m.outs <;> simp_all
  clear hc
  refine EvC.skip ?_
  refine EvC.seq ?_
  apply EvC.seq
  apply EvC.trd
  · (simp only [go_sem]) <;> rfl
  · simp
  refine EvC.cond (by (simp only [go_sem]) <;> rfl) (fun hc => ?_) (fun hc => ?_)
  · have h : m.ins < 1 ∨ m.outs < 1 ∨ (m.rows.length : Int) < 1 := by
      by_cases h1 : m.ins < 1 <;> by_cases h2 : m.outs < 1 <;> simp_all
    refine EvC.seq (EvC.rg (by (simp only [go_sem]) <;> rfl) (by simp) ?_)
    refine EvC.ret ⟨.inl rfl, _, (by (simp only [go_sem]) <;> rfl), ?_, rfl⟩
    simp only [go_sem]
    rw [checkM, if_neg hn, if_pos h]
  have hn2 : ¬ (m.ins < 1 ∨ m.outs < 1 ∨ (m.rows.length : Int) < 1) := by
    by_cases h1 : m.ins < 1 <;> by_cases h2 : m.outs < 1 <;> simp_all
    have : m.rows.length ≠ 0 := by simpa using hc
    omega
  clear hc
  have hw : checkM m = if m.rows.all (rowOk m) = true then 0 else 1 := by rw [checkM, if_neg hn, if_neg hn2]
  have hlen : (m.rows.length : Int) ≤ 64 := by omega
  refine EvC.skip ?_
  refine EvC.seq ?_
  refine EvC.seq (EvC.rg (by (simp only [go_sem]) <;> rfl) (by simp) ?_)
  refine EvC.block ?_  -- 0
  refine EvC.loopS (σ := Nat) (fun i => ⟨[(1, .ia m.cells), (3, .sc (.int .i64 i))], [], [], 0⟩) (fun i => m.rows.length - i) (fun i => i ≤ m.rows.length ∧ m.rows.all (rowOk m) = (m.rows.drop i).all (rowOk m)) [1, 3] 0 ?_ ?_
  · refine ⟨[], 0, rfl, (by (simp only [go_sem, Mach.cells]) <;> rfl), Nat.zero_le _, by simp⟩
  rintro i ⟨h1, h2⟩
  refine EvC.seq ?_
  refine EvC.seq (EvC.rg (by (simp only [go_sem, Mach.cells]) <;> rfl) (by simp) ?_)
  refine EvC.cond (by (simp only [go_sem]) <;> rfl) (fun hc => ?_) (fun hc => ?_)
  rotate_left
  · refine EvC.exit ?_  -- 0
    have hi : ¬ i < m.rows.length := by simpa using hc
    refine EvC.seq (EvC.rg (by (simp only [go_sem]) <;> rfl) (by simp) ?_)
    refine EvC.ret ⟨.inl rfl, _, (by (simp only [go_sem]) <;> rfl), ?_, rfl⟩
    simp only [go_sem]
    rw [hw, h2, List.drop_of_length_le (by omega)]; rfl
  have hi : i < m.rows.length := by simpa using hc
  have he : m.rows[i]? = some m.rows[i] := List.getElem?_eq_getElem hi
  have hd : m.rows.drop i = m.rows[i] :: m.rows.drop (i + 1) := List.drop_eq_getElem_cons hi
  generalize m.rows[i] = r at he hd
  rw [hd, List.all_cons] at h2
  refine EvC.skip ?_
  refine EvC.seq ?_
  refine EvC.block ?_  -- 1
  refine EvC.seq ?_
  apply EvC.seq
  apply EvC.drd mixed
  · (simp only [go_sem, Mach.cells, he, rowC]) <;> rfl
  · simp
  · kernel_rfl
  refine EvC.cond (by (simp only [go_sem]) <;> rfl) (fun hc => ?_) (fun hc => ?_)
  · have hl : ¬ (r.2.length : Int) = m.ins := by simpa using hc
    refine EvC.seq (EvC.rg (by (simp only [go_sem]) <;> rfl) (by simp) ?_)
    refine EvC.ret ⟨.inl rfl, _, (by (simp only [go_sem]) <;> rfl), ?_, rfl⟩
    simp only [go_sem]
    have : rowOk m r = false := by simp [rowOk, hl]
    rw [hw, h2, this]; rfl
  have hl : (r.2.length : Int) = m.ins := by simpa using hc
  have hro : rowOk m r = r.2.all fun e => fitsR m.rows.length m.outs e.1 e.2 := by simp [rowOk, hl, List.any_eq_not_all_not]
  refine EvC.skip ?_
  refine EvC.seq (EvC.rg (by (simp only [go_sem]) <;> rfl) (by simp) ?_)
  refine EvC.block ?_  -- 2
  refine EvC.loopS (σ := Nat) (fun k => ⟨[(1, .ia m.cells), (3, .sc (.int .i64 i)), (4, .sc (.int .i64 k))], [], [], 0⟩) (fun k => r.2.length - k) (fun k => k ≤ r.2.length ∧ rowOk m r = (r.2.drop k).all fun e => fitsR m.rows.length m.outs e.1 e.2) [1, 3, 4] 0 ?_ ?_
  · refine ⟨[], 0, rfl, (by (simp only [go_sem, Mach.cells]) <;> rfl), Nat.zero_le _, by simp [hro]⟩
  rintro k ⟨k1, k2⟩
  refine EvC.seq ?_
  refine EvC.seq (EvC.rg (by (simp only [go_sem, Mach.cells]) <;> rfl) (by simp) ?_)
  refine EvC.cond (by (simp only [go_sem]) <;> rfl) (fun hc => ?_) (fun hc => ?_)
  rotate_left
  · refine EvC.exit ?_  -- 2
    have hk : ¬ k < r.2.length := by
      have : ¬ (k : Int) < m.ins := by simpa using hc
      omega
    rw [List.drop_of_length_le (by omega)] at k2
    refine EvC.rg (by (simp only [go_sem]) <;> rfl) (by exact inI64_of (by omega) (by omega)) ?_
    exact ⟨[], i + 1, rfl, (by (simp only [go_sem, Mach.cells]) <;> rfl), ⟨by omega, by rw [h2, k2]; rfl⟩, by omega⟩
  have hk : k < r.2.length := by
    have : (k : Int) < m.ins := by simpa using hc
    omega
  have hke : r.2[k]? = some r.2[k] := List.getElem?_eq_getElem hk
  have hkd : r.2.drop k = r.2[k] :: r.2.drop (k + 1) := List.drop_eq_getElem_cons hk
  generalize r.2[k] = e at hke hkd
  rw [hkd, List.all_cons] at k2
  refine EvC.skip ?_
  refine EvC.seq ?_
  refine EvC.block ?_  -- 3
  refine EvC.seq (EvC.rg (by (simp only [go_sem, Mach.cells, he, rowC, hke, edgeC]) <;> rfl) (by simp) ?_)
  refine EvC.seq ?_
  apply EvC.seq
  apply EvC.trd
  · (simp only [go_sem]) <;> rfl
  · simp
  refine EvC.cond (by (simp only [go_sem]) <;> rfl) (fun hc => ?_) (fun hc => ?_)
  · refine EvC.exit ?_  -- 3
    have hu : e.1 = -1 ∧ e.2 = -1 := by by_cases h : e.1 = -1 <;> simp_all
    have hf : fitsR m.rows.length m.outs e.1 e.2 = true := by simp [fitsR, hu.1, hu.2]
    refine EvC.rg (by (simp only [go_sem]) <;> rfl) (by exact inI64_of (by omega) (by omega)) ?_
    exact ⟨[], k + 1, rfl, (by (simp only [go_sem, Mach.cells]) <;> rfl), ⟨by omega, by rw [k2, hf]; rfl⟩, by omega⟩
  have hu : ¬ (e.1 = -1 ∧ e.2 = -1) := by by_cases h : e.1 = -1 <;> simp_all
  clear hc
  refine EvC.skip ?_
  apply EvC.seq
  apply EvC.trd
  · (simp only [go_sem, Mach.cells]) <;> rfl
  · simp
  have hfe : fitsR m.rows.length m.outs e.1 e.2 = (decide (0 ≤ e.1) && decide (e.1 < m.rows.length) && decide (0 ≤ e.2) && decide (e.2 < m.outs)) := by
    unfold fitsR
    by_cases h : e.1 = -1
    · have : ¬ e.2 = -1 := fun h2 => hu ⟨h, h2⟩
      simp [this]
    · simp [h]
  refine EvC.cond (by (simp only [go_sem]) <;> rfl) (fun hc => ?_) (fun hc => ?_)
  · have hf : fitsR m.rows.length m.outs e.1 e.2 = false := by
      rw [hfe]
      by_cases h1 : e.1 < 0 <;> by_cases h2 : (m.rows.length : Int) ≤ e.1 <;> by_cases h3 : e.2 < 0 <;> by_cases h4 : m.outs ≤ e.2 <;> simp_all <;> omega
    refine EvC.seq (EvC.rg (by (simp only [go_sem]) <;> rfl) (by simp) ?_)
    refine EvC.ret ⟨.inl rfl, _, (by (simp only [go_sem]) <;> rfl), ?_, rfl⟩
    simp only [go_sem]
    rw [hw, h2, k2, hf]; rfl
  have hf : fitsR m.rows.length m.outs e.1 e.2 = true := by
    rw [hfe]
    by_cases h1 : e.1 < 0 <;> by_cases h2 : (m.rows.length : Int) ≤ e.1 <;> by_cases h3 : e.2 < 0 <;> by_cases h4 : m.outs ≤ e.2 <;> simp_all <;> omega
  refine EvC.skip ?_
  refine EvC.rg (by (simp only [go_sem]) <;> rfl) (by exact inI64_of (by omega) (by omega)) ?_
  exact ⟨[], k + 1, rfl, (by (simp only [go_sem, Mach.cells]) <;> rfl), ⟨by omega, by rw [k2, hf]; rfl⟩, by omega⟩
/-- A machine that is not valid is refused. -/
theorem items21_bad {m : Mach} (hrs : ∀ r ∈ m.rows, r.2.length < 1000000) (hc : checkM m ≠ 0) (fn : Bool) (fs : List FA) (fc : Cp) (ln : Bool) (l : List Wd) (lc : Cp) (a b : Int) :
    PureIs prog 21 [.ag m.cells, .sl fn (fs.map FA.cells) fc, .sl ln (l.map wdC) lc, .sc (.int .i64 a), .sc (.int .i64 b)] (.tu [.sl true [] .unk, .sc (.int .i64 (checkM m))]) := by
  refine PureIs.of (nv := 6) (hid := [10, 11, 12, 13, 14, 16, 17, 18, 20, 21, 22, 24, 25, 26, 31, 40, 48, 50, 51, 52, 53, 61, 77, 80, 81, 82, 83, 84, 96, 103, 104, 105, 106, 119]) func21 rfl (by kernel_rfl) (by simp [ntmps21]) fun _ => ?_
  rw [ntmps21, results21]
  refine EvC.seq (EvC.rg (by (simp only [go_sem, Mach.cells]) <;> rfl) (by simp) ?_)
  refine EvC.frzB 0 (by (simp only [go_sem]) <;> rfl) ?_
  refine EvC.seq ?_
  apply EvC.seq
  apply EvC.tr
  · apply Tr.run
    · (simp only [go_sem, Mach.cells]) <;> rfl
    · simp
    apply Tr.cons
    · exact .call rfl rfl (by (simp only [go_sem]) <;> rfl) (by (simp only [go_sem]) <;> rfl) (by (simp only [go_sem]) <;> rfl) (by (simp only [go_sem]) <;> rfl) (by (simp only [go_sem]) <;> rfl) (check_is m hrs)
    apply Tr.done
    · (simp only [go_sem]) <;> rfl
    · simp
  refine EvC.seq (EvC.rg (by (simp only [go_sem]) <;> rfl) (by simp) ?_)
  refine EvC.cond_true (by (simp only [go_sem, hc]) <;> rfl) ?_
  refine EvC.seq (EvC.rg (by (simp only [go_sem]) <;> rfl) (by simp) ?_)
  refine EvC.ret ⟨.inl rfl, _, (by (simp only [go_sem]) <;> rfl), ?_, rfl⟩
  simp only [go_sem]
theorem chains36_bad {m : Mach} (hrs : ∀ r ∈ m.rows, r.2.length < 1000000) (hc : checkM m ≠ 0) (ln : Bool) (l : List Wd) (lc : Cp) :
    PureIs prog 36 [.ag m.cells, .sl ln (l.map wdC) lc] (.tu [.sl true [] .unk, .sc (.int .i64 (checkM m))]) := by
  refine PureIs.of (nv := 3) (hid := [4, 5, 6, 8, 9, 10, 11, 12, 14, 15, 17, 18, 19, 23, 27, 28, 29, 30, 31, 39, 43, 44, 45, 46, 56, 57, 58, 65, 66, 67, 68, 72, 73, 75, 79, 80, 81]) func36 rfl (by kernel_rfl) (by simp [ntmps36]) fun _ => ?_
  rw [ntmps36, results36]
  refine EvC.seq (EvC.rg (by (simp only [go_sem, Mach.cells]) <;> rfl) (by simp) ?_)
  refine EvC.frzB 0 (by (simp only [go_sem]) <;> rfl) ?_
  refine EvC.seq ?_
  apply EvC.seq
  apply EvC.tr
  · apply Tr.run
    · (simp only [go_sem, Mach.cells]) <;> rfl
    · simp
    apply Tr.cons
    · exact .call rfl rfl (by (simp only [go_sem]) <;> rfl) (by (simp only [go_sem]) <;> rfl) (by (simp only [go_sem]) <;> rfl) (by (simp only [go_sem]) <;> rfl) (by (simp only [go_sem]) <;> rfl) (check_is m hrs)
    apply Tr.done
    · (simp only [go_sem]) <;> rfl
    · simp
  refine EvC.seq (EvC.rg (by (simp only [go_sem]) <;> rfl) (by simp) ?_)
  refine EvC.cond_true (by (simp only [go_sem, hc]) <;> rfl) ?_
  refine EvC.seq (EvC.rg (by (simp only [go_sem]) <;> rfl) (by simp) ?_)
  refine EvC.ret ⟨.inl rfl, _, (by (simp only [go_sem]) <;> rfl), ?_, rfl⟩
  simp only [go_sem]
end Go.Avl
namespace Go.Avl
open Go Go.Proofs.Tryd
set_option maxRecDepth 10000
set_option linter.unusedSimpArgs false

/-! ### The errors, in order -/
def fErr (m : Mach) : List FA → Int
  | [] => 0
  | f :: r => if faultB m f = true then fErr m r else 1
/-- What a symbol may not be. -/
def symB (n : Int) (x : Int) : Bool := decide (x < 0) || decide (n ≤ x)
def symV (n : Int) (w : List Int) : Int := if w.any (symB n) = true then 1 else 0
def wordV (n : Int) (w : List Int) : Int := if 256 < w.length then 3 else symV n w
def wordsV (n : Int) : List Wd → Int
  | [] => 0
  | w :: r => if wordV n w.2 = 0 then wordsV n r else wordV n w.2
def costV (a b : Int) (l : List Wd) : Int := if costZ a b l = true then 1 else 0
theorem wordV_err {n : Int} (hn : 1 ≤ n ∧ n ≤ 16) (w : List Int) : wordErr n w = wordV n w := by
  unfold wordErr wordV symV symB
  by_cases h : 256 < w.length
  · rw [if_pos (.inr h), if_pos h]
  · rw [if_neg (by omega : ¬ (16 < n ∨ 256 < w.length)), if_neg h]
    by_cases h2 : w.any (fun c => decide (c < 0) || decide (n ≤ c)) = true
    · rw [if_pos (.inr h2), if_pos h2]
    · have h3 : ¬ (n < 1 ∨ w.any (fun c => decide (c < 0) || decide (n ≤ c)) = true) := fun h => by
        rcases h with h | h
        · omega
        · exact h2 h
      rw [if_neg h3, if_neg h2]
theorem wordsV_err {n : Int} (hn : 1 ≤ n ∧ n ≤ 16) : ∀ l : List Wd, wordsErr n l = wordsV n l
  | [] => rfl
  | w :: r => by rw [wordsErr, wordsV, wordV_err hn, wordsV_err hn r]
theorem fErr_errs {m : Mach} (hr : m.rows.length ≤ 63) : ∀ fs : List FA, errFs m fs = fErr m fs
  | [] => rfl
  | f :: r => by
    rw [errFs, fErr]
    by_cases h : faultB m f = true
    · have : checkF m f = 0 := by rw [checkF, if_pos h, if_neg (by omega)]
      rw [if_pos this, if_pos h, fErr_errs hr r]
    · have : checkF m f = 1 := by rw [checkF, if_neg h]
      rw [if_neg (by rw [this]; decide), if_neg h, this]
def badV (m : Mach) (ws : List Wd) : Int := if checkM m = 0 then wordsV m.ins ws else checkM m
/-- What the items' error is, by the law. -/
def want1 (m : Mach) (fs : List FA) : Int := if checkM m = 0 then fErr m fs else checkM m
def want2 (m : Mach) (fs : List FA) (ws : List Wd) : Int := if want1 m fs = 0 then wordsV m.ins ws else want1 m fs
def want3 (m : Mach) (fs : List FA) (ws : List Wd) (a b : Int) : Int := if want2 m fs ws = 0 ∧ pricesBad a b = true then 1 else want2 m fs ws
def want4 (m : Mach) (fs : List FA) (ws : List Wd) (a b : Int) : Int := if want3 m fs ws a b = 0 then costV a b ws else want3 m fs ws a b
theorem symV_nil (n : Int) : symV n [] = 0 := rfl
theorem symV_cons (n x : Int) (r : List Int) : symV n (x :: r) = if symB n x = true then 1 else symV n r := by
  unfold symV
  rw [List.any_cons]
  by_cases h : symB n x = true
  · rw [h, Bool.true_or, if_pos rfl, if_pos rfl]
  · rw [Bool.eq_false_iff.2 h, Bool.false_or, if_neg (by simp : ¬ false = true)]
theorem costV_cons (a b : Int) (w : Wd) (r : List Wd) : costV a b (w :: r) = if a + b * (w.2.length : Int) = 0 then 1 else costV a b r := by
  unfold costV costZ
  rw [List.any_cons]
  by_cases h : a + b * (w.2.length : Int) = 0
  · rw [decide_eq_true h, Bool.true_or, if_pos rfl, if_pos h]
  · rw [decide_eq_false h, Bool.false_or, if_neg h]
theorem wordsV_len {n : Int} : ∀ {l : List Wd}, wordsV n l = 0 → ∀ w ∈ l, w.2.length ≤ 256
  | w :: r, h, v, hv => by
    rw [wordsV] at h
    by_cases h0 : wordV n w.2 = 0
    · rw [if_pos h0] at h
      rcases List.mem_cons.1 hv with rfl | hv
      · unfold wordV at h0
        split at h0
        · cases h0
        · omega
      · exact wordsV_len h v hv
    · rw [if_neg h0] at h; exact absurd h h0
theorem items_want {m : Mach} (hnn : NoNil m) (hr8 : m.rows.length ≤ 8) (hrs : ∀ r ∈ m.rows, r.2.length < 1000000) (fn : Bool) (fs : List FA) (fc : Cp) (hf : fs.length ≤ 10) (wn : Bool) (ws : List Wd) (wc : Cp) (hw : ws.length ≤ 20) (hwl : ∀ w ∈ ws, w.2.length < 1000000) (a b : Int) :
    ∃ nl L c, PureIs prog 21 [.ag m.cells, .sl fn (fs.map FA.cells) fc, .sl wn (ws.map wdC) wc, .sc (.int .i64 a), .sc (.int .i64 b)] (.tu [.sl nl L c, .sc (.int .i64 (want4 m fs ws a b))]) ∧ (want4 m fs ws a b ≠ 0 → L = []) ∧ L.all AV.norefs = true := by
  by_cases hc : checkM m = 0
  rotate_left
  · have e : want4 m fs ws a b = checkM m := by
      have e1 : want1 m fs = checkM m := if_neg hc
      have e2 : want2 m fs ws = checkM m := by rw [want2, e1, if_neg hc]
      have e3 : want3 m fs ws a b = checkM m := by rw [want3, e2, if_neg (fun h => hc h.1)]
      rw [want4, e3, if_neg hc]
    rw [e]
    exact ⟨true, [], .unk, items21_bad hrs hc fn fs fc wn ws wc a b, fun _ => rfl, rfl⟩
  have hv := Valid.of hc
  have q := items21_is hv hc hnn fn fs fc (by omega) wn ws wc (by omega) hwl a b
  have e1 : want1 m fs = fErr m fs := if_pos hc
  rw [itemsR, if_neg (by omega), fErr_errs (by omega), wordsV_err hv.ins] at q
  by_cases h1 : fErr m fs = 0
  rotate_left
  · have e2 : want2 m fs ws = fErr m fs := by rw [want2, e1, if_neg h1]
    have e3 : want3 m fs ws a b = fErr m fs := by rw [want3, e2, if_neg (fun h => h1 h.1)]
    have e4 : want4 m fs ws a b = fErr m fs := by rw [want4, e3, if_neg h1]
    rw [if_pos h1] at q
    rw [e4]
    exact ⟨true, [], .unk, q, fun _ => rfl, rfl⟩
  rw [if_neg (fun h => h h1)] at q
  have e2 : want2 m fs ws = wordsV m.ins ws := by rw [want2, e1, if_pos h1]
  by_cases h2 : wordsV m.ins ws = 0
  rotate_left
  · have e3 : want3 m fs ws a b = wordsV m.ins ws := by rw [want3, e2, if_neg (fun h => h2 h.1)]
    have e4 : want4 m fs ws a b = wordsV m.ins ws := by rw [want4, e3, if_neg h2]
    rw [if_pos h2] at q
    rw [e4]
    exact ⟨true, [], .unk, q, fun _ => rfl, rfl⟩
  rw [if_neg (fun h => h h2)] at q
  by_cases h3 : pricesBad a b = true
  · have e3 : want3 m fs ws a b = 1 := by rw [want3, e2, if_pos ⟨h2, h3⟩]
    have e4 : want4 m fs ws a b = 1 := by rw [want4, e3, if_neg (by decide)]
    rw [if_pos h3] at q
    rw [e4]
    exact ⟨true, [], .unk, q, fun _ => rfl, rfl⟩
  rw [if_neg h3] at q
  have e3 : want3 m fs ws a b = 0 := by rw [want3, e2, if_neg (fun h => h3 h.2)]; exact h2
  by_cases h4 : costZ a b ws = true
  · have e4 : want4 m fs ws a b = 1 := by rw [want4, e3, if_pos rfl, costV, if_pos h4]
    rw [if_pos h4] at q
    rw [e4]
    exact ⟨true, [], .unk, q, fun _ => rfl, rfl⟩
  rw [if_neg h4] at q
  have e4 : want4 m fs ws a b = 0 := by rw [want4, e3, if_pos rfl, costV, if_neg h4]
  rw [e4]
  exact ⟨false, _, .full, q, fun h => absurd rfl h, norefs_itemU _⟩
theorem chains_want {m : Mach} (hrs : ∀ r ∈ m.rows, r.2.length < 1000000) (wn : Bool) (ws : List Wd) (wc : Cp) (hw : ws.length ≤ 20) (hwl : ∀ w ∈ ws, w.2.length < 1000000) (hok : ∀ w ∈ ws, WdOk w) :
    ∃ nl L c, PureIs prog 36 [.ag m.cells, .sl wn (ws.map wdC) wc] (.tu [.sl nl L c, .sc (.int .i64 (badV m ws))]) ∧ (badV m ws ≠ 0 → L = []) ∧ L.all AV.norefs = true := by
  by_cases hc : checkM m = 0
  rotate_left
  · have e : badV m ws = checkM m := if_neg hc
    rw [e]
    exact ⟨true, [], .unk, chains36_bad hrs hc wn ws wc, fun _ => rfl, rfl⟩
  have hv := Valid.of hc
  have q := chains36_gen hv hc wn ws wc (by omega) hwl hok
  have e : badV m ws = wordsV m.ins ws := if_pos hc
  rw [chainsWR, if_neg (by omega), wordsV_err hv.ins] at q
  rw [e]
  by_cases h1 : wordsV m.ins ws = 0
  · rw [if_neg (fun h => h h1)] at q
    rw [h1]
    refine ⟨_, _, _, q, fun h => absurd rfl h, ?_⟩
    simp [List.all_eq_true, chD, AV.norefs, AV.noref]
  · rw [if_pos h1] at q
    exact ⟨true, [], .unk, q, fun _ => rfl, rfl⟩
set_option maxHeartbeats 8000000 in
theorem plansErrors_is (m : Mach) (hnn : NoNil m) (fn : Bool) (fs : List FA) (fc : Cp) (wn : Bool) (ws : List Wd) (wc : Cp) (hws : ∀ w ∈ ws, WdOk w) (a b : Int) :
    PureIs prog 10 [.ag m.cells, .ag [.sl fn (fs.map FA.cells) fc, .sl wn (ws.map wdC) wc, .sc (.int .i64 a), .sc (.int .i64 b)]] (.sc (.bool true)) := by
  have hfn := norefs_faL fs
  have hwn := norefs_wds ws
  refine PureIs.of (nv := 18) (hid := [33, 38, 47, 52, 61, 73, 83, 92, 101, 113, 137, 139, 142, 165, 174, 189]) func10 rfl (by kernel_rfl) (by simp [ntmps10]) fun _ => ?_
  rw [ntmps10, results10]
  refine EvC.seq (EvC.rg (by (simp only [go_sem, Mach.cells]) <;> rfl) (by simp) ?_)
  refine EvC.frzB 0 (by (simp only [go_sem]) <;> rfl) ?_
  refine EvC.frzB 1 (by (simp only [go_sem]) <;> rfl) ?_
  refine EvC.seq ?_
  apply EvC.seq
  apply EvC.trd
  · (simp only [go_sem, List.length_map]) <;> rfl
  · simp
  by_cases hbig : 8 < m.rows.length ∨ 10 < fs.length ∨ 20 < ws.length
  · have h1 : (if (if decide ((8 : Int) < m.rows.length) = true then true else decide ((10 : Int) < fs.length)) = true then true else decide ((20 : Int) < ws.length)) = true := by
      by_cases k1 : 8 < m.rows.length
      · rw [decide_eq_true (show (8 : Int) < m.rows.length by omega)]; rfl
      · rw [decide_eq_false (show ¬ (8 : Int) < m.rows.length by omega)]
        by_cases k2 : 10 < fs.length
        · rw [decide_eq_true (show (10 : Int) < fs.length by omega)]; rfl
        · rw [decide_eq_false (show ¬ (10 : Int) < fs.length by omega)]
          rw [decide_eq_true (show (20 : Int) < ws.length by omega)]; rfl
    refine EvC.cond_true (by (simp only [go_sem, h1]) <;> rfl) ?_
    refine EvC.seq (EvC.rg (by (simp only [go_sem]) <;> rfl) (by simp) ?_)
    refine EvC.ret ⟨.inl rfl, _, (by (simp only [go_sem]) <;> rfl), ?_, rfl⟩
    simp only [go_sem]
  have h1 : (if (if decide ((8 : Int) < m.rows.length) = true then true else decide ((10 : Int) < fs.length)) = true then true else decide ((20 : Int) < ws.length)) = false := by
    rw [decide_eq_false (show ¬ (8 : Int) < m.rows.length by omega), decide_eq_false (show ¬ (10 : Int) < fs.length by omega), decide_eq_false (show ¬ (20 : Int) < ws.length by omega)]; rfl
  refine EvC.cond_false (by (simp only [go_sem, h1]) <;> rfl) ?_
  clear h1
  obtain ⟨hr8, hf10, hw20⟩ : m.rows.length ≤ 8 ∧ fs.length ≤ 10 ∧ ws.length ≤ 20 := by omega
  clear hbig
  refine EvC.skip ?_
  refine EvC.seq ?_
  refine EvC.seq (EvC.rg (by (simp only [go_sem]) <;> rfl) (by simp) ?_)
  refine EvC.block ?_  -- 0
  refine EvC.loopS (σ := Nat) (fun i => ⟨[(2, .ia m.cells), (3, .ia [.sl fn (fs.map FA.cells) fc, .sl wn (ws.map wdC) wc, .sc (.int .i64 a), .sc (.int .i64 b)]), (5, .sc (.int .i64 i))], [], [], 0⟩) (fun i => m.rows.length - i) (fun i => i ≤ m.rows.length ∧ ∀ r ∈ m.rows.take i, r.2.length ≤ 20) [2, 3, 5] 0 ?_ ?_
  · exact ⟨[], 0, rfl, (by (simp only [go_sem, Int.natCast_zero, Mach.cells, hfn, hwn]) <;> rfl), Nat.zero_le _, by simp⟩
  rintro i ⟨hi, hinv⟩
  refine EvC.seq ?_
  refine EvC.seq (EvC.rg (by (simp only [go_sem, Mach.cells, List.length_map]) <;> rfl) (by simp) ?_)
  refine EvC.cond (by (simp only [go_sem]) <;> rfl) (fun hc => ?_) (fun hc => ?_)
  rotate_left
  · -- else
    refine EvC.exit ?_  -- 0
    obtain rfl : i = m.rows.length := by have : ¬ (i : Int) < m.rows.length := (by simpa using hc); omega
    clear hc hi
    rw [List.take_length] at hinv
    refine EvC.seq ?_
    refine EvC.seq (EvC.rg (by (simp only [go_sem]) <;> rfl) (by simp) ?_)
    refine EvC.block ?_  -- 2
    refine EvC.loopS (σ := Nat) (fun i => ⟨[(2, .ia m.cells), (3, .ia [.sl fn (fs.map FA.cells) fc, .sl wn (ws.map wdC) wc, .sc (.int .i64 a), .sc (.int .i64 b)]), (6, .sc (.int .i64 i))], [], [], 0⟩) (fun i => ws.length - i) (fun i => i ≤ ws.length ∧ ∀ w ∈ ws.take i, w.2.length ≤ 300) [2, 3, 6] 0 ?_ ?_
    · exact ⟨[], 0, rfl, (by (simp only [go_sem, Int.natCast_zero, Mach.cells, hfn, hwn]) <;> rfl), Nat.zero_le _, by simp⟩
    rintro i ⟨hi, hinw⟩
    refine EvC.seq ?_
    refine EvC.seq (EvC.rg (by (simp only [go_sem, List.length_map]) <;> rfl) (by simp) ?_)
    refine EvC.cond (by (simp only [go_sem]) <;> rfl) (fun hc => ?_) (fun hc => ?_)
    rotate_left
    · -- else
      refine EvC.exit ?_  -- 2
      obtain rfl : i = ws.length := by have : ¬ (i : Int) < ws.length := (by simpa using hc); omega
      clear hc hi
      rw [List.take_length] at hinw
      have hrs : ∀ r ∈ m.rows, r.2.length < 1000000 := fun r hr => by have := hinv r hr; omega
      have hwl : ∀ w ∈ ws, w.2.length < 1000000 := fun w hw => by have := hinw w hw; omega
      obtain ⟨lnl, LL, lc, p1, hL1, hL2⟩ := items_want hnn hr8 hrs fn fs fc hf10 wn ws wc hw20 hwl a b
      obtain ⟨cnl, CC, cc, p2, hC1, hC2⟩ := chains_want hrs wn ws wc hw20 hwl hws
      have qk := check39_is m hrs
      have hB : checkM m = 0 → Valid m := Valid.of
      have eb : badV m ws = if checkM m = 0 then wordsV m.ins ws else checkM m := rfl
      have e1 : want1 m fs = if checkM m = 0 then fErr m fs else checkM m := rfl
      have e2 : want2 m fs ws = if want1 m fs = 0 then wordsV m.ins ws else want1 m fs := rfl
      have e3 : want3 m fs ws a b = if want2 m fs ws = 0 ∧ pricesBad a b = true then 1 else want2 m fs ws := rfl
      have e4 : want4 m fs ws a b = if want3 m fs ws a b = 0 then costV a b ws else want3 m fs ws a b := rfl
      generalize badV m ws = BV at *
      generalize want4 m fs ws a b = W4 at *
      generalize want3 m fs ws a b = W3 at *
      generalize want2 m fs ws = W2 at *
      generalize want1 m fs = W1 at *
      generalize checkM m = B at *
      apply EvC.seq
      apply EvC.tr
      · apply Tr.run
        · (simp only [go_sem, Mach.cells]) <;> rfl
        · simp
        apply Tr.cons
        · exact .call rfl rfl (by (simp only [go_sem]) <;> rfl) (by (simp only [go_sem]) <;> rfl) (by (simp only [go_sem]) <;> rfl) (by (simp only [go_sem]) <;> rfl) (by (simp only [go_sem]) <;> rfl) (qk)
        apply Tr.done
        · (simp only [go_sem]) <;> rfl
        · simp
      refine EvC.seq (EvC.rg (by (simp only [go_sem]) <;> rfl) (by simp) ?_)
      refine EvC.seq ?_
      refine EvC.seq (EvC.rg (by (simp only [go_sem]) <;> rfl) (by simp) ?_)
      refine EvC.block ?_  -- 4
      refine EvC.loopS (σ := Nat × Int) (fun g => ⟨[(2, .ia m.cells), (3, .ia [.sl fn (fs.map FA.cells) fc, .sl wn (ws.map wdC) wc, .sc (.int .i64 a), .sc (.int .i64 b)]), (7, .sc (.int .i64 B)), (8, .sc (.int .i64 g.2)), (9, .sc (.int .i64 g.1))], [], [], 0⟩) (fun g => fs.length - g.1) (fun g => g.1 ≤ fs.length ∧ W1 = (if g.2 = 0 then fErr m (fs.drop g.1) else g.2) ∧ (g.2 = 0 → B = 0)) [2, 3, 7, 8, 9] 0 ?_ ?_
      · exact ⟨[], (0, B), rfl, (by (simp only [go_sem, Int.natCast_zero, Mach.cells, hfn, hwn]) <;> rfl), Nat.zero_le _, e1, fun h => h⟩
      rintro ⟨i, v⟩ ⟨h1, h2, h3⟩
      simp only at h1 h2 h3
      refine EvC.seq ?_
      by_cases hend : i < fs.length ∧ v = 0
      rotate_left
      · -- else
        have hcf : (if decide ((i : Int) < fs.length) = true then decide (v = 0) else false) = false := by
          by_cases h : i < fs.length
          · rw [decide_eq_true (show (i : Int) < fs.length by omega), if_pos rfl]; exact decide_eq_false fun h' => hend ⟨h, h'⟩
          · rw [decide_eq_false (show ¬ (i : Int) < fs.length by omega)]; rfl
        have hvW : v = W1 := by
          by_cases h : v = 0
          · rw [if_pos h, List.drop_of_length_le (by have : ¬ i < fs.length := fun h' => hend ⟨h', h⟩
                                                     omega)] at h2
            rw [h2, h]; rfl
          · rw [if_neg h] at h2; exact h2.symm
        subst hvW
        clear h2 h3 hend
        apply EvC.seq
        apply EvC.trd
        · (simp only [go_sem, List.length_map]) <;> rfl
        · simp
        refine EvC.cond_false (by (simp only [go_sem, hcf]) <;> rfl) ?_
        refine EvC.exit ?_  -- 4
        refine EvC.seq (EvC.rg (by (simp only [go_sem]) <;> rfl) (by simp) ?_)
        refine EvC.seq ?_
        refine EvC.seq (EvC.rg (by (simp only [go_sem]) <;> rfl) (by simp) ?_)
        refine EvC.block ?_  -- 6
        obtain ⟨U, hU⟩ : ∃ U, U = wordsV m.ins ws := ⟨_, rfl⟩
        have hUl : U = 0 → ∀ w ∈ ws, w.2.length ≤ 256 := fun h => wordsV_len (hU ▸ h)
        rw [← hU] at e2 eb
        refine EvC.loopS (σ := Nat × Int) (fun g => ⟨[(2, .ia m.cells), (3, .ia [.sl fn (fs.map FA.cells) fc, .sl wn (ws.map wdC) wc, .sc (.int .i64 a), .sc (.int .i64 b)]), (7, .sc (.int .i64 B)), (8, .sc (.int .i64 v)), (10, .sc (.int .i64 g.2)), (11, .sc (.int .i64 g.1))], [], [], 0⟩) (fun g => ws.length - g.1) (fun g => g.1 ≤ ws.length ∧ U = (if g.2 = 0 then wordsV m.ins (ws.drop g.1) else g.2)) [2, 3, 7, 8, 10, 11] 0 ?_ ?_
        · exact ⟨[], (0, 0), rfl, (by (simp only [go_sem, Int.natCast_zero, Mach.cells, hfn, hwn]) <;> rfl), Nat.zero_le _, hU⟩
        rintro ⟨j, u⟩ ⟨k1, k2⟩
        simp only at k1 k2
        refine EvC.seq ?_
        by_cases hend2 : j < ws.length ∧ u = 0
        rotate_left
        · -- else
          have hcf2 : (if decide ((j : Int) < ws.length) = true then decide (u = 0) else false) = false := by
            by_cases h : j < ws.length
            · rw [decide_eq_true (show (j : Int) < ws.length by omega), if_pos rfl]; exact decide_eq_false fun h' => hend2 ⟨h, h'⟩
            · rw [decide_eq_false (show ¬ (j : Int) < ws.length by omega)]; rfl
          have huU : u = U := by
            by_cases h : u = 0
            · rw [if_pos h, List.drop_of_length_le (by have : ¬ j < ws.length := fun h' => hend2 ⟨h', h⟩
                                                       omega)] at k2
              rw [k2, h]; rfl
            · rw [if_neg h] at k2; exact k2.symm
          subst huU
          clear k2 hend2
          apply EvC.seq
          apply EvC.trd
          · (simp only [go_sem, List.length_map]) <;> rfl
          · simp
          refine EvC.cond_false (by (simp only [go_sem, hcf2]) <;> rfl) ?_
          refine EvC.exit ?_  -- 6
          refine EvC.mergeS (α := Unit) (fun _ => ⟨[(2, .ia m.cells), (3, .ia [.sl fn (fs.map FA.cells) fc, .sl wn (ws.map wdC) wc, .sc (.int .i64 a), .sc (.int .i64 b)]), (7, .sc (.int .i64 BV)), (8, .sc (.int .i64 v)), (10, .sc (.int .i64 u))], [], [], 0⟩) (fun _ => True) [2, 3, 7, 8, 10] 0 ?_ ?_
          · refine EvC.seq (EvC.rg (by (simp only [go_sem]) <;> rfl) (by simp) ?_)
            by_cases hB0 : B = 0
            · refine EvC.cond_true (by (simp only [go_sem, decide_eq_true hB0]) <;> rfl) ?_
              refine EvC.rg (by (simp only [go_sem]) <;> rfl) (by simp) ?_
              exact ⟨rfl, [], (), rfl, (by rw [eb, if_pos hB0]; (simp only [go_sem, Mach.cells, hfn, hwn]) <;> rfl), trivial⟩
            · refine EvC.cond_false (by (simp only [go_sem, decide_eq_false hB0]) <;> rfl) ?_
              refine EvC.skip ?_
              exact ⟨rfl, [], (), rfl, (by rw [eb, if_neg hB0]; (simp only [go_sem, Mach.cells, hfn, hwn]) <;> rfl), trivial⟩
          rintro _ _
          refine EvC.mergeS (α := Unit) (fun _ => ⟨[(2, .ia m.cells), (3, .ia [.sl fn (fs.map FA.cells) fc, .sl wn (ws.map wdC) wc, .sc (.int .i64 a), .sc (.int .i64 b)]), (7, .sc (.int .i64 BV)), (8, .sc (.int .i64 W2))], [], [], 0⟩) (fun _ => True) [2, 3, 7, 8] 0 ?_ ?_
          · refine EvC.seq (EvC.rg (by (simp only [go_sem]) <;> rfl) (by simp) ?_)
            by_cases hV0 : v = 0
            · refine EvC.cond_true (by (simp only [go_sem, decide_eq_true hV0]) <;> rfl) ?_
              refine EvC.rg (by (simp only [go_sem]) <;> rfl) (by simp) ?_
              exact ⟨rfl, [], (), rfl, (by rw [e2, if_pos hV0]; (simp only [go_sem, Mach.cells, hfn, hwn]) <;> rfl), trivial⟩
            · refine EvC.cond_false (by (simp only [go_sem, decide_eq_false hV0]) <;> rfl) ?_
              refine EvC.skip ?_
              exact ⟨rfl, [], (), rfl, (by rw [e2, if_neg hV0]; (simp only [go_sem, Mach.cells, hfn, hwn]) <;> rfl), trivial⟩
          rintro _ _
          have hpb : (if (if (if decide (a < 0) = true then true else decide (1000 < a)) = true then true else decide (b < 0)) = true then true else decide (1000 < b)) = pricesBad a b := by
            unfold pricesBad
            cases decide (a < 0) <;> cases decide (1000 < a) <;> cases decide (b < 0) <;> cases decide (1000 < b) <;> rfl
          refine EvC.mergeS (α := Unit) (fun _ => ⟨[(2, .ia m.cells), (3, .ia [.sl fn (fs.map FA.cells) fc, .sl wn (ws.map wdC) wc, .sc (.int .i64 a), .sc (.int .i64 b)]), (7, .sc (.int .i64 BV)), (8, .sc (.int .i64 W3))], [], [], 0⟩) (fun _ => True) [2, 3, 7, 8] 0 ?_ ?_
          · by_cases hP : W2 = 0 ∧ pricesBad a b = true
            · apply EvC.seq
              apply EvC.trd
              · (simp only [go_sem, decide_eq_true hP.1, hpb]) <;> rfl
              · simp
              refine EvC.cond_true (by (simp only [go_sem, hP.2]) <;> rfl) ?_
              refine EvC.rg (by (simp only [go_sem]) <;> rfl) (by simp) ?_
              exact ⟨rfl, [], (), rfl, (by rw [e3, if_pos hP]; (simp only [go_sem, Mach.cells, hfn, hwn]) <;> rfl), trivial⟩
            · have hPf : (if decide (W2 = 0) = true then pricesBad a b else false) = false := by
                by_cases h : W2 = 0
                · rw [decide_eq_true h, if_pos rfl]
                  cases hp : pricesBad a b with
                  | false => rfl
                  | true => exact absurd ⟨h, hp⟩ hP
                · rw [decide_eq_false h]; rfl
              apply EvC.seq
              apply EvC.trd
              · (simp only [go_sem, hpb]) <;> rfl
              · simp
              refine EvC.cond_false (by (simp only [go_sem, hPf]) <;> rfl) ?_
              refine EvC.skip ?_
              exact ⟨rfl, [], (), rfl, (by rw [e3, if_neg hP]; (simp only [go_sem, Mach.cells, hfn, hwn]) <;> rfl), trivial⟩
          rintro _ _
          refine EvC.seq ?_
          refine EvC.seq (EvC.rg (by (simp only [go_sem]) <;> rfl) (by simp) ?_)
          refine EvC.block ?_  -- 10
          have hW3 : W3 = 0 → ((0 ≤ a ∧ a ≤ 1000) ∧ (0 ≤ b ∧ b ≤ 1000)) := fun h => by
            rw [e3] at h
            by_cases hP : W2 = 0 ∧ pricesBad a b = true
            · rw [if_pos hP] at h; exact absurd h (by decide)
            · rw [if_neg hP] at h
              have hp : pricesBad a b = false := by
                cases hp : pricesBad a b with
                | false => rfl
                | true => exact absurd ⟨h, hp⟩ hP
              unfold pricesBad at hp
              simp only [Bool.or_eq_false_iff, decide_eq_false_iff_not] at hp
              omega
          refine EvC.loopS (σ := Nat × Int) (fun g => ⟨[(2, .ia m.cells), (3, .ia [.sl fn (fs.map FA.cells) fc, .sl wn (ws.map wdC) wc, .sc (.int .i64 a), .sc (.int .i64 b)]), (7, .sc (.int .i64 BV)), (8, .sc (.int .i64 g.2)), (13, .sc (.int .i64 g.1))], [], [], 0⟩) (fun g => ws.length - g.1) (fun g => g.1 ≤ ws.length ∧ W4 = (if g.2 = 0 then costV a b (ws.drop g.1) else g.2) ∧ (g.2 = 0 → W3 = 0)) [2, 3, 7, 8, 13] 0 ?_ ?_
          · exact ⟨[], (0, W3), rfl, (by (simp only [go_sem, Int.natCast_zero, Mach.cells, hfn, hwn]) <;> rfl), Nat.zero_le _, e4, fun h => h⟩
          rintro ⟨l, z⟩ ⟨z1, z2, z3⟩
          simp only at z1 z2 z3
          refine EvC.seq ?_
          by_cases hend4 : l < ws.length ∧ z = 0
          rotate_left
          · -- else
            have hcf4 : (if decide ((l : Int) < ws.length) = true then decide (z = 0) else false) = false := by
              by_cases h : l < ws.length
              · rw [decide_eq_true (show (l : Int) < ws.length by omega), if_pos rfl]; exact decide_eq_false fun h' => hend4 ⟨h, h'⟩
              · rw [decide_eq_false (show ¬ (l : Int) < ws.length by omega)]; rfl
            have hzW : z = W4 := by
              by_cases h : z = 0
              · rw [if_pos h, List.drop_of_length_le (by have : ¬ l < ws.length := fun h' => hend4 ⟨h', h⟩
                                                         omega)] at z2
                rw [z2, h]; rfl
              · rw [if_neg h] at z2; exact z2.symm
            subst hzW
            clear z2 hend4
            apply EvC.seq
            apply EvC.trd
            · (simp only [go_sem, List.length_map]) <;> rfl
            · simp
            refine EvC.cond_false (by (simp only [go_sem, hcf4]) <;> rfl) ?_
            refine EvC.exit ?_  -- 10
            apply EvC.seq
            apply EvC.tr
            · apply Tr.run
              · (simp only [go_sem, Mach.cells, hfn, hwn]) <;> rfl
              · simp
              apply Tr.cons
              · exact .call rfl rfl (by (simp only [go_sem]) <;> rfl) (by (simp only [go_sem]) <;> rfl) (by (simp only [go_sem]) <;> rfl) (by (simp only [go_sem]) <;> rfl) (by (simp only [go_sem]) <;> rfl) (p1)
              apply Tr.done
              · (simp only [go_sem, Mach.cells, hfn, hwn, hL2]) <;> rfl
              · simp
            apply EvC.seq
            apply EvC.tr
            · apply Tr.run
              · (simp only [go_sem, Mach.cells, hwn]) <;> rfl
              · simp
              apply Tr.cons
              · exact .call rfl rfl (by (simp only [go_sem]) <;> rfl) (by (simp only [go_sem]) <;> rfl) (by (simp only [go_sem]) <;> rfl) (by (simp only [go_sem]) <;> rfl) (by (simp only [go_sem]) <;> rfl) (p2)
              apply Tr.done
              · (simp only [go_sem, Mach.cells, hwn, hC2]) <;> rfl
              · simp
            have hLl : decide (z = 0) = true ∨ (decide (z = 0) = false ∧ LL = []) := by
              by_cases h : z = 0
              · exact .inl (decide_eq_true h)
              · exact .inr ⟨decide_eq_false h, hL1 h⟩
            have hCl : decide (BV = 0) = true ∨ (decide (BV = 0) = false ∧ CC = []) := by
              by_cases h : BV = 0
              · exact .inl (decide_eq_true h)
              · exact .inr ⟨decide_eq_false h, hC1 h⟩
            rcases hLl with g1 | ⟨g1, rfl⟩ <;> rcases hCl with g2 | ⟨g2, rfl⟩
            all_goals
              apply EvC.seq
              apply EvC.tr
              · apply Tr.run
                · (simp only [go_sem, g1, g2, decide_true, List.length_nil]) <;> rfl
                · simp
                apply Tr.cons
                · exact .callG rfl rfl (by (simp only [go_sem]) <;> rfl) rfl (by (simp only [go_sem]) <;> rfl) (by (simp only [go_sem]) <;> rfl) (by (simp only [go_sem]) <;> rfl) (by (simp only [go_sem]) <;> rfl) (by (simp only [go_sem]) <;> rfl) (lives_is)
                apply Tr.done
                · (simp only [go_sem, g1, g2, decide_true, List.length_nil]) <;> rfl
                · simp
              refine EvC.ret ⟨.inl rfl, _, (by (simp only [go_sem]) <;> rfl), ?_, rfl⟩
              simp only [go_sem]
          obtain ⟨hl, rfl⟩ := hend4
          rw [if_pos rfl] at z2
          have hab := hW3 (z3 rfl)
          have he : ws[l]? = some (ws[l]'hl) := List.getElem?_eq_getElem hl
          have hwl1 := hinw _ (List.getElem_mem hl)
          rw [List.drop_eq_getElem_cons hl, costV_cons] at z2
          generalize ws[l]'hl = w at he hwl1 z2
          have hln : (l : Int).toNat = l := Int.toNat_natCast l
          have d4 : decide ((l : Int) < ws.length) = true := decide_eq_true (by omega)
          have hmul : 0 ≤ b * (w.2.length : Int) ∧ b * (w.2.length : Int) ≤ 1000 * 300 := ⟨Int.mul_nonneg hab.2.1 (by omega), Int.mul_le_mul hab.2.2 (by omega) (by omega) (by omega)⟩
          apply EvC.seq
          apply EvC.trd
          · (simp only [go_sem, List.length_map, d4]) <;> rfl
          · simp
          refine EvC.cond_true (by (simp only [go_sem]) <;> rfl) ?_
          refine EvC.skip ?_
          refine EvC.seq ?_
          refine EvC.block ?_  -- 11
          apply EvC.seq
          apply EvC.drd mixed
          · (simp only [go_sem, he, wdC, hln, List.length_map]) <;> rfl
          · simp [inI64_of (x := b * (w.2.length : Int)) (by omega) (by omega), inI64_of (x := a + b * (w.2.length : Int)) (by omega) (by omega)]; try omega
          · kernel_rfl
          by_cases hZ : a + b * (w.2.length : Int) = 0
          · rw [if_pos hZ] at z2
            refine EvC.cond_true (by (simp only [go_sem, decide_eq_true hZ]) <;> rfl) ?_
            refine EvC.rg (by (simp only [go_sem]) <;> rfl) (by simp) ?_
            refine EvC.rg (by (simp only [go_sem]) <;> rfl) (by exact inI64_of (by omega) (by omega)) ?_
            exact ⟨[], (l + 1, 1), rfl, (by (simp only [go_sem, Int.natCast_add, Int.natCast_one, Mach.cells, hfn, hwn]) <;> rfl), ⟨hl, z2.trans (if_neg (show ¬ (1 : Int) = 0 by decide)).symm, fun h => absurd h (show ¬ (1 : Int) = 0 by decide)⟩, by simp only; omega⟩
          · rw [if_neg hZ] at z2
            refine EvC.cond_false (by (simp only [go_sem, decide_eq_false hZ]) <;> rfl) ?_
            refine EvC.skip ?_
            refine EvC.rg (by (simp only [go_sem]) <;> rfl) (by exact inI64_of (by omega) (by omega)) ?_
            exact ⟨[], (l + 1, 0), rfl, (by (simp only [go_sem, Int.natCast_add, Int.natCast_one, Mach.cells, hfn, hwn]) <;> rfl), ⟨hl, z2.trans (if_pos rfl).symm, fun _ => z3 rfl⟩, by simp only; omega⟩
        obtain ⟨hj, rfl⟩ := hend2
        rw [if_pos rfl] at k2
        have he : ws[j]? = some (ws[j]'hj) := List.getElem?_eq_getElem hj
        have hwl1 := hwl _ (List.getElem_mem hj)
        rw [List.drop_eq_getElem_cons hj, wordsV] at k2
        generalize ws[j]'hj = w at he hwl1 k2
        have hjn : (j : Int).toNat = j := Int.toNat_natCast j
        have d1 : decide ((j : Int) < ws.length) = true := decide_eq_true (by omega)
        apply EvC.seq
        apply EvC.trd
        · (simp only [go_sem, List.length_map, d1]) <;> rfl
        · simp
        refine EvC.cond_true (by (simp only [go_sem]) <;> rfl) ?_
        refine EvC.skip ?_
        refine EvC.seq ?_
        refine EvC.block ?_  -- 7
        refine EvC.mergeS (α := Int) (fun z => ⟨[(2, .ia m.cells), (3, .ia [.sl fn (fs.map FA.cells) fc, .sl wn (ws.map wdC) wc, .sc (.int .i64 a), .sc (.int .i64 b)]), (7, .sc (.int .i64 B)), (8, .sc (.int .i64 v)), (10, .sc (.int .i64 z)), (11, .sc (.int .i64 j))], [], [], 0⟩) (fun z => z = if 256 < w.2.length then 3 else 0) [2, 3, 7, 8, 10, 11] 0 ?_ ?_
        · refine EvC.seq (EvC.rg (by (simp only [go_sem, he, wdC, hjn, List.length_map]) <;> rfl) (by simp) ?_)
          by_cases h256 : 256 < w.2.length
          · refine EvC.cond_true (by (simp only [go_sem, decide_eq_true (show (256 : Int) < w.2.length by omega)]) <;> rfl) ?_
            refine EvC.rg (by (simp only [go_sem]) <;> rfl) (by simp) ?_
            exact ⟨rfl, [], 3, rfl, (by (simp only [go_sem, Mach.cells, hfn, hwn]) <;> rfl), (if_pos h256).symm⟩
          · refine EvC.cond_false (by (simp only [go_sem, decide_eq_false (show ¬ (256 : Int) < w.2.length by omega)]) <;> rfl) ?_
            refine EvC.skip ?_
            exact ⟨rfl, [], 0, rfl, (by (simp only [go_sem, Mach.cells, hfn, hwn]) <;> rfl), (if_neg h256).symm⟩
        rintro z hz
        refine EvC.seq (EvC.rg (by (simp only [go_sem]) <;> rfl) (by simp) ?_)
        refine EvC.block ?_  -- 8
        refine EvC.loopS (σ := Nat × Int) (fun g => ⟨[(2, .ia m.cells), (3, .ia [.sl fn (fs.map FA.cells) fc, .sl wn (ws.map wdC) wc, .sc (.int .i64 a), .sc (.int .i64 b)]), (7, .sc (.int .i64 B)), (8, .sc (.int .i64 v)), (10, .sc (.int .i64 g.2)), (11, .sc (.int .i64 j)), (12, .sc (.int .i64 g.1))], [], [], 0⟩) (fun g => w.2.length - g.1) (fun g => g.1 ≤ w.2.length ∧ wordV m.ins w.2 = (if g.2 = 0 then symV m.ins (w.2.drop g.1) else g.2)) [2, 3, 7, 8, 10, 11, 12] 0 ?_ ?_
        · refine ⟨[], (0, z), rfl, (by (simp only [go_sem, Int.natCast_zero, Mach.cells, hfn, hwn]) <;> rfl), Nat.zero_le _, ?_⟩
          show wordV m.ins w.2 = if z = 0 then symV m.ins w.2 else z
          rw [wordV, hz]
          by_cases h : 256 < w.2.length
          · simp only [if_pos h]; rfl
          · simp only [if_neg h]; rfl
        clear hz z
        rintro ⟨k, t⟩ ⟨n1, n2⟩
        simp only at n1 n2
        refine EvC.seq ?_
        by_cases hend3 : k < w.2.length ∧ t = 0
        rotate_left
        · -- else
          have hcf3 : (if decide ((k : Int) < w.2.length) = true then decide (t = 0) else false) = false := by
            by_cases h : k < w.2.length
            · rw [decide_eq_true (show (k : Int) < w.2.length by omega), if_pos rfl]; exact decide_eq_false fun h' => hend3 ⟨h, h'⟩
            · rw [decide_eq_false (show ¬ (k : Int) < w.2.length by omega)]; rfl
          have htV : t = wordV m.ins w.2 := by
            by_cases h : t = 0
            · rw [if_pos h, List.drop_of_length_le (by have : ¬ k < w.2.length := fun h' => hend3 ⟨h', h⟩
                                                       omega)] at n2
              rw [n2, h]; rfl
            · rw [if_neg h] at n2; exact n2.symm
          rw [← htV] at k2
          apply EvC.seq
          apply EvC.trd
          · (simp only [go_sem, he, wdC, hjn, List.length_map]) <;> rfl
          · simp
          refine EvC.cond_false (by (simp only [go_sem, hcf3]) <;> rfl) ?_
          refine EvC.exit ?_  -- 8
          refine EvC.rg (by (simp only [go_sem]) <;> rfl) (by exact inI64_of (by omega) (by omega)) ?_
          exact ⟨[], (j + 1, t), rfl, (by (simp only [go_sem, Int.natCast_add, Int.natCast_one, Mach.cells, hfn, hwn]) <;> rfl), ⟨hj, k2⟩, by simp only; omega⟩
        obtain ⟨hk, rfl⟩ := hend3
        rw [if_pos rfl] at n2
        have hke : w.2[k]? = some (w.2[k]'hk) := List.getElem?_eq_getElem hk
        rw [List.drop_eq_getElem_cons hk, symV_cons] at n2
        generalize w.2[k]'hk = x at hke n2
        have hkn : (k : Int).toNat = k := Int.toNat_natCast k
        have d3 : decide ((k : Int) < w.2.length) = true := decide_eq_true (by omega)
        apply EvC.seq
        apply EvC.trd
        · (simp only [go_sem, he, wdC, hjn, List.length_map, d3]) <;> rfl
        · simp
        refine EvC.cond_true (by (simp only [go_sem]) <;> rfl) ?_
        refine EvC.skip ?_
        refine EvC.seq ?_
        refine EvC.block ?_  -- 9
        have hsb : (if decide (x < 0) = true then true else decide (m.ins ≤ x)) = symB m.ins x := by
          unfold symB
          by_cases h : x < 0 <;> simp [h]
        apply EvC.seq
        apply EvC.drd mixed
        · (simp only [go_sem, he, wdC, hjn, hke, hkn, intC, List.length_map, Mach.cells]) <;> rfl
        · simp; try omega
        · kernel_rfl
        cases hS : symB m.ins x with
        | true =>
          rw [hS, if_pos rfl] at n2
          refine EvC.cond_true (by (simp only [go_sem, hsb, hS]) <;> rfl) ?_
          refine EvC.rg (by (simp only [go_sem]) <;> rfl) (by simp) ?_
          refine EvC.rg (by (simp only [go_sem]) <;> rfl) (by exact inI64_of (by omega) (by omega)) ?_
          exact ⟨[], (k + 1, 1), rfl, (by (simp only [go_sem, Int.natCast_add, Int.natCast_one, Mach.cells, hfn, hwn]) <;> rfl), ⟨hk, n2.trans (if_neg (show ¬ (1 : Int) = 0 by decide)).symm⟩, by simp only; omega⟩
        | false =>
          rw [hS, if_neg (by simp)] at n2
          refine EvC.cond_false (by (simp only [go_sem, hsb, hS]) <;> rfl) ?_
          refine EvC.skip ?_
          refine EvC.rg (by (simp only [go_sem]) <;> rfl) (by exact inI64_of (by omega) (by omega)) ?_
          exact ⟨[], (k + 1, 0), rfl, (by (simp only [go_sem, Int.natCast_add, Int.natCast_one, Mach.cells, hfn, hwn]) <;> rfl), ⟨hk, n2.trans (if_pos rfl).symm⟩, by simp only; omega⟩
      obtain ⟨hi, rfl⟩ := hend
      have hv := hB (h3 rfl)
      rw [if_pos rfl] at h2
      have he : fs[i]? = some (fs[i]'hi) := List.getElem?_eq_getElem hi
      rw [List.drop_eq_getElem_cons hi, fErr] at h2
      generalize fs[i]'hi = f at he h2
      have hin : (i : Int).toNat = i := Int.toNat_natCast i
      have d1 : decide ((i : Int) < fs.length) = true := decide_eq_true (by omega)
      have q := is40_is hv f
      obtain ⟨f1, f2, f3, f4, f5, f6⟩ := f
      apply EvC.seq
      apply EvC.trd
      · (simp only [go_sem, List.length_map, d1]) <;> rfl
      · simp
      refine EvC.cond_true (by (simp only [go_sem]) <;> rfl) ?_
      refine EvC.skip ?_
      refine EvC.seq ?_
      refine EvC.block ?_  -- 5
      cases hF : faultB m ⟨f1, f2, f3, f4, f5, f6⟩ with
      | true =>
        rw [hF] at q h2
        rw [if_pos rfl] at h2
        apply EvC.seq
        apply EvC.drw mixed
        · apply Tr.run
          · (simp only [go_sem, he, hin, FA.cells, Mach.cells, List.length_map]) <;> rfl
          · simp; try omega
          apply Tr.cons
          · exact .call rfl rfl (by (simp only [go_sem]) <;> rfl) (by (simp only [go_sem]) <;> rfl) (by (simp only [go_sem]) <;> rfl) (by (simp only [go_sem]) <;> rfl) (by (simp only [go_sem]) <;> rfl) (q)
          apply Tr.done
          · (simp only [go_sem]) <;> rfl
          · simp
        · kernel_rfl
        refine EvC.cond_false (by (simp only [go_sem]) <;> rfl) ?_
        refine EvC.skip ?_
        refine EvC.rg (by (simp only [go_sem]) <;> rfl) (by exact inI64_of (by omega) (by omega)) ?_
        exact ⟨[], (i + 1, 0), rfl, (by (simp only [go_sem, Int.natCast_add, Int.natCast_one, Mach.cells, hfn, hwn]) <;> rfl), ⟨hi, h2.trans (if_pos rfl).symm, fun _ => h3 rfl⟩, by simp only; omega⟩
      | false =>
        rw [hF] at q h2
        rw [if_neg (by simp)] at h2
        apply EvC.seq
        apply EvC.drw mixed
        · apply Tr.run
          · (simp only [go_sem, he, hin, FA.cells, Mach.cells, List.length_map]) <;> rfl
          · simp; try omega
          apply Tr.cons
          · exact .call rfl rfl (by (simp only [go_sem]) <;> rfl) (by (simp only [go_sem]) <;> rfl) (by (simp only [go_sem]) <;> rfl) (by (simp only [go_sem]) <;> rfl) (by (simp only [go_sem]) <;> rfl) (q)
          apply Tr.done
          · (simp only [go_sem]) <;> rfl
          · simp
        · kernel_rfl
        refine EvC.cond_true (by (simp only [go_sem]) <;> rfl) ?_
        refine EvC.rg (by (simp only [go_sem]) <;> rfl) (by simp) ?_
        refine EvC.rg (by (simp only [go_sem]) <;> rfl) (by exact inI64_of (by omega) (by omega)) ?_
        exact ⟨[], (i + 1, 1), rfl, (by (simp only [go_sem, Int.natCast_add, Int.natCast_one, Mach.cells, hfn, hwn]) <;> rfl), ⟨hi, h2.trans (if_neg (show ¬ (1 : Int) = 0 by decide)).symm, fun h => absurd h (show ¬ (1 : Int) = 0 by decide)⟩, by simp only; omega⟩
    have hil : i < ws.length := by have : (i : Int) < ws.length := (by simpa using hc); omega
    clear hc
    have he : ws[i]? = some (ws[i]'hil) := List.getElem?_eq_getElem hil
    have htk : ws.take (i + 1) = ws.take i ++ [ws[i]'hil] := List.take_succ_eq_append_getElem hil
    generalize ws[i]'hil = w at he htk
    have hin : (i : Int).toNat = i := Int.toNat_natCast i
    refine EvC.skip ?_
    refine EvC.seq ?_
    refine EvC.block ?_  -- 3
    refine EvC.seq (EvC.rg (by (simp only [go_sem, he, wdC, hin, List.length_map]) <;> rfl) (by simp) ?_)
    refine EvC.cond (by (simp only [go_sem]) <;> rfl) (fun hc => ?_) (fun hc => ?_)
    · -- then
      refine EvC.seq (EvC.rg (by (simp only [go_sem]) <;> rfl) (by simp) ?_)
      refine EvC.ret ⟨.inl rfl, _, (by (simp only [go_sem]) <;> rfl), ?_, rfl⟩
      simp only [go_sem]
    have hl300 : w.2.length ≤ 300 := by have : ¬ (300 : Int) < w.2.length := (by simpa using hc); omega
    clear hc
    refine EvC.skip ?_
    refine EvC.rg (by (simp only [go_sem]) <;> rfl) (by exact inI64_of (by omega) (by omega)) ?_
    exact ⟨[], i + 1, rfl, (by (simp only [go_sem, Int.natCast_add, Int.natCast_one, Mach.cells, hfn, hwn]) <;> rfl), ⟨hil, fun v hv => by
      rw [htk] at hv
      rcases List.mem_append.1 hv with hv | hv
      · exact hinw v hv
      · rw [List.mem_singleton.1 hv]; exact hl300⟩, by omega⟩
  have hil : i < m.rows.length := by have : (i : Int) < m.rows.length := (by simpa using hc); omega
  clear hc
  have he : m.rows[i]? = some (m.rows[i]'hil) := List.getElem?_eq_getElem hil
  have htk : m.rows.take (i + 1) = m.rows.take i ++ [m.rows[i]'hil] := List.take_succ_eq_append_getElem hil
  generalize m.rows[i]'hil = r at he htk
  have hin : (i : Int).toNat = i := Int.toNat_natCast i
  refine EvC.skip ?_
  refine EvC.seq ?_
  refine EvC.block ?_  -- 1
  refine EvC.seq (EvC.rg (by (simp only [go_sem, Mach.cells, he, rowC, hin, List.length_map]) <;> rfl) (by simp) ?_)
  refine EvC.cond (by (simp only [go_sem]) <;> rfl) (fun hc => ?_) (fun hc => ?_)
  · -- then
    refine EvC.seq (EvC.rg (by (simp only [go_sem]) <;> rfl) (by simp) ?_)
    refine EvC.ret ⟨.inl rfl, _, (by (simp only [go_sem]) <;> rfl), ?_, rfl⟩
    simp only [go_sem]
  have hl20 : r.2.length ≤ 20 := by have : ¬ (20 : Int) < r.2.length := (by simpa using hc); omega
  clear hc
  refine EvC.skip ?_
  refine EvC.rg (by (simp only [go_sem]) <;> rfl) (by exact inI64_of (by omega) (by omega)) ?_
  exact ⟨[], i + 1, rfl, (by (simp only [go_sem, Int.natCast_add, Int.natCast_one, Mach.cells, hfn, hwn]) <;> rfl), ⟨hil, fun v hv => by
    rw [htk] at hv
    rcases List.mem_append.1 hv with hv | hv
    · exact hinv v hv
    · rw [List.mem_singleton.1 hv]; exact hl20⟩, by omega⟩
end Go.Avl
namespace Go.Proofs.YthdaggogdocmfaaDoor
open Go Go.Avl Go.Proofs Go.ChangeShapes Go.RowKit
section
variable {H : Type} {enc : TypeId × Value → H} {w : World}
theorem rd_edge : Reads enc Tryd.prog w 91 edgeC (fun _ => True) := by
  have := (Reads.struct (enc := enc) (w := w) (tot := 2) Tryd.underlying91 (by kernel_rfl) (.cons (sz := 1) rfl (by kernel_rfl) rfl rd_i64 (.cons (sz := 1) rfl (by kernel_rfl) rfl rd_i64 .nil)))
  exact this.mono fun a _ => ⟨(a.1, a.2.1), trivial, rfl⟩
theorem rd_row : Reads enc Tryd.prog w 84 rowC (fun r => r.1 = true → r.2 = []) :=
  (Reads.slice (by kernel_rfl) rd_edge (fun a => by rw [show Program.cellsOf Tryd.prog 91 = 2 by kernel_rfl]; rfl) (by rw [show Program.cellsOf Tryd.prog 91 = 2 by kernel_rfl]; exact Nat.succ_pos _)).mono fun a h => ⟨a, h.2.1, rfl⟩
theorem rd_rows : Reads enc Tryd.prog w 46 (fun x : Bool × List Row => [.sl x.1 (x.2.map rowC) .unk]) (fun x => ∀ r ∈ x.2, r.1 = true → r.2 = []) :=
  (Reads.slice (by kernel_rfl) rd_row (fun a => by rw [show Program.cellsOf Tryd.prog 84 = 1 by kernel_rfl]; rfl) (by rw [show Program.cellsOf Tryd.prog 84 = 1 by kernel_rfl]; exact Nat.succ_pos _)).mono fun a h => ⟨a, h.1, rfl⟩
theorem rd_mach : Reads enc Tryd.prog w 48 Mach.cells NoNil := by
  have := (Reads.struct (enc := enc) (w := w) (tot := 3) Tryd.underlying48 (by kernel_rfl) (.cons (sz := 1) rfl (by kernel_rfl) rfl rd_i64 (.cons (sz := 1) rfl (by kernel_rfl) rfl rd_i64 (.cons (sz := 1) rfl (by kernel_rfl) rfl rd_rows .nil))))
  exact this.mono fun a h => ⟨⟨a.1, a.2.1, a.2.2.1.1, a.2.2.1.2⟩, h.2.2.1, rfl⟩
theorem rd_fault : Reads enc Tryd.prog w 88 FA.cells (fun _ => True) := by
  have := (Reads.struct (enc := enc) (w := w) (tot := 6) Tryd.underlying88 (by kernel_rfl) (.cons (sz := 1) rfl (by kernel_rfl) rfl rd_i64 (.cons (sz := 1) rfl (by kernel_rfl) rfl rd_i64 (.cons (sz := 1) rfl (by kernel_rfl) rfl rd_i64 (.cons (sz := 1) rfl (by kernel_rfl) rfl rd_i64 (.cons (sz := 1) rfl (by kernel_rfl) rfl rd_i64 (.cons (sz := 1) rfl (by kernel_rfl) rfl rd_i64 .nil)))))))
  exact this.mono fun a _ => ⟨⟨a.1, a.2.1, a.2.2.1, a.2.2.2.1, a.2.2.2.2.1, a.2.2.2.2.2.1⟩, trivial, rfl⟩
theorem rd_faults : Reads enc Tryd.prog w 49 (fun x : Bool × List FA => [.sl x.1 (x.2.map FA.cells) .unk]) (fun _ => True) :=
  (Reads.slice (by kernel_rfl) rd_fault (fun a => by rw [show Program.cellsOf Tryd.prog 88 = 6 by kernel_rfl]; rfl) (by rw [show Program.cellsOf Tryd.prog 88 = 6 by kernel_rfl]; exact Nat.succ_pos _)).mono fun a h => ⟨a, trivial, rfl⟩
theorem rd_words : Reads enc Tryd.prog w 52 (fun x : Bool × List Wd => [.sl x.1 (x.2.map wdC) .unk]) (fun x => ∀ w ∈ x.2, WdOk w) :=
  (Reads.slice (by kernel_rfl) (rd_ints.mono (g := wdC) (Ok' := WdOk) fun a h => ⟨a, h.2, rfl⟩) (fun a => by rw [show Program.cellsOf Tryd.prog 23 = 1 by kernel_rfl]; rfl) (by rw [show Program.cellsOf Tryd.prog 23 = 1 by kernel_rfl]; exact Nat.succ_pos _)).mono fun a h => ⟨a, h.1, rfl⟩
/-- Faults, words, two prices. -/
structure ErrA where
  f : Bool × List FA
  w : Bool × List Wd
  a : Int
  b : Int
def ErrA.cells (x : ErrA) : List AV := [.sl x.f.1 (x.f.2.map FA.cells) .unk, .sl x.w.1 (x.w.2.map wdC) .unk, .sc (.int .i64 x.a), .sc (.int .i64 x.b)]
theorem rd_E : Reads enc Tryd.prog w 83 ErrA.cells (fun x => ∀ w ∈ x.w.2, WdOk w) := by
  have := (Reads.struct (enc := enc) (w := w) (tot := 4) Tryd.underlying83 (by kernel_rfl) (.cons (sz := 1) rfl (by kernel_rfl) rfl rd_faults (.cons (sz := 1) rfl (by kernel_rfl) rfl rd_words (.cons (sz := 1) rfl (by kernel_rfl) rfl rd_i64 (.cons (sz := 1) rfl (by kernel_rfl) rfl rd_i64 .nil)))))
  exact this.mono fun a h => ⟨⟨a.1, a.2.1, a.2.2.1, a.2.2.2.1⟩, h.2.1, rfl⟩
end
end Go.Proofs.YthdaggogdocmfaaDoor
namespace Go.Proofs.YthdaggogdocmfaaDoor
open Go Go.Avl Go.Proofs Go.ChangeShapes Go.RowKit

set_option maxRecDepth 100000 in
theorem plansErrors_lifted (os : Os) (started : os.Started) (H : Type) (enc : TypeId × Value → H) :
    ReturnsInHanded {} Tryd.checked os 10 .any (fun w args => (Rows.plansErrorsSpec.pre enc Tryd.prog Tryd.f10 Rows.plansErrorsRow.domain false w args ∧ laidMetH Tryd.prog laidT w) ∧ sizedMet enc Tryd.prog Tryd.f10 (OpenSpec.ofChange Rows.plansErrorsSpec) false w args)
      (Rows.plansErrorsSpec.post enc Tryd.prog Tryd.f10 false true false false) := by
  refine returnsInHanded_of_change_and (C := Tryd.checked) (X := fun w _ => laidMetH Tryd.prog laidT w) (fun _ _ _ hh h => h.of_heap hh) Tryd.own started (by kernel_rfl) Tryd.func10
    (ChangeSpec.witness_shaped (enc := enc) (C := Tryd.checked) (os := os) (X := fun w _ => laidMetH Tryd.prog laidT w) false (World.doorLaid Tryd.prog 400 os) #[.agg #[.int .i64 0, .int .i64 0, .slice none 0 0], .agg #[.slice none 0 0, .slice none 0 0, .int .i64 0, .int .i64 0]] 8 rfl (World.shaped_of_RefB (by kernel_rfl) (by kernel_rfl)) (by kernel_rfl) (by kernel_rfl) (by kernel_rfl) (door_met os _)) ?_
  intro W base args ds gs before hval hW _ hz hL _
  have hgl := globs_of hL
  have hW' := hW
  obtain ⟨p, q, hA, hV, rfl, _, _⟩ := hW'
  obtain ⟨rfl, rfl⟩ := trodVars_none hV
  have hA' : DataW.TrodAll enc Tryd.prog W 0 (fun _ => true) true [48, 83] args.toList ds p := by rw [← show Tryd.f10.params.toList = [48, 83] from rfl]; exact hA
  obtain ⟨v0, v1, d0, d1, p0, p1, rfl, rfl, rfl, h0, h1⟩ := trodAll_two hA'
  have hz' : (DataW.weightsEach Tryd.prog [48, 83] [d0, d1]).all (· ≤ reachBytes) = true := hz
  have hf := fits_each (P := Tryd.prog) (ts := [48, 83]) (l := [d0, d1]) fun n hn => by simpa using List.all_eq_true.1 hz' n hn
  obtain ⟨x, hx, i0⟩ := rd_mach.imm_struct Tryd.underlying48 (hval 0 48 v0 rfl rfl) (hf 0 48 d0 rfl rfl) h0
  obtain ⟨e, he, i1⟩ := rd_E.imm_struct Tryd.underlying83 (hval 1 83 v1 rfl rfl) (hf 1 83 d1 rfl rfl) h1
  exact law_calls Tryd.laidOut (by kernel_rfl) rfl (by kernel_rfl) rfl rfl (plansErrors_is x hx e.f.1 e.f.2 .unk e.w.1 e.w.2 .unk he e.a e.b) (Imms.append (.one i0) (.one i1)) hW hgl

theorem plansErrors_said : Rows.PlansErrorsSaid :=
  OpenClaim.holds_of_wide 10 Tryd.f10 rfl rfl rfl rfl rfl rfl rfl ⟨rfl, rfl, rfl, rfl, rfl⟩ rfl rfl rfl rfl rfl (by kernel_rfl) Tryd.func10 (by kernel_rfl)
    (of_decide_eq_true (by kernel_rfl)) (by unfold Func.isWrapper; first | (rw [if_pos (by decide +kernel)]; kernel_rfl) | (rw [if_neg (by decide +kernel)]; exact ⟨rfl, rfl⟩))
    (fun os started H enc _ => plansErrors_lifted os started H enc)

theorem plansErrors_holds : Rows.PlansErrorsCardSaid :=
  Claim7.holds_tied_plain_at .later [] [.widerDeep] true (true, "6d3ff7fe0d9779fedb791cf0751605ad5cd5bfdc42f52104730e367675225e7a") false
    plansErrors_said (fun _ h => by cases h) (by kernel_rfl) (fun _ h => by cases h) plansErrors_row_tie rfl ⟨rfl, rfl⟩ (by kernel_rfl) rfl
    (fun f fn hf hfn => by
      obtain rfl : f = 10 := (Option.some.inj ((show Tryd.prog.funcNamed "gauntlet/gauntletlaw43.PlansErrors" = some 10 by kernel_rfl).symm.trans hf)).symm
      obtain rfl : fn = Tryd.f10 := (Option.some.inj (Tryd.func10.symm.trans hfn)).symm
      refine ⟨by kernel_rfl, fun j t ht => ?_⟩
      have key : (Tryd.f10.params.toList.all fun t => Tryd.prog.wantsStandIn t == false) = true := by kernel_rfl
      have hm : t ∈ Tryd.f10.params.toList := by
        rw [← Array.getElem?_toList] at ht
        exact List.mem_of_getElem? ht
      exact eq_of_beq (List.all_eq_true.1 key t hm))
    (by kernel_rfl)
#print axioms plansErrors_holds
end Go.Proofs.YthdaggogdocmfaaDoor
