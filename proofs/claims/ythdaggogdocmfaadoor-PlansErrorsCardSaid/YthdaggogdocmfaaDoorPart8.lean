/-
  Lemmas.
  Lemmas.
  Lemmas.
  Lemmas.
  Lemmas.
  Lemmas.
  Lemmas.
  Lemmas.
-/
import Derived.Test.YthdaggogdocmfaaDoorPart7
set_option linter.unusedSimpArgs false
set_option linter.unusedVariables false
set_option linter.unnecessarySimpa false
set_option linter.deprecated false
namespace Go.Avl
open Go Go.Proofs.Tryd
set_option maxRecDepth 10000
set_option linter.unusedSimpArgs false

/-- What a fault of some kind must be besides. -/
def kindB (m : Mach) (f : FA) : Bool :=
  if f.kind = 0 then inN f.out m.outs && !decide (f.out = (stepM m f.state f.input).2)
  else if f.kind = 1 then inN f.to m.rows.length && !decide (f.to = (stepM m f.state f.input).1)
  else if f.kind = 2 then true
  else if f.kind = 3 then inN f.to m.rows.length
  else inN f.out m.outs && (definedB m (stepM m f.state f.input).1 f.at' && !decide (f.out = (stepM m (stepM m f.state f.input).1 f.at').2))
def faultB (m : Mach) (f : FA) : Bool := plainB f && (definedB m f.state f.input && kindB m f)
def checkF (m : Mach) (f : FA) : Int := if faultB m f = true then (if 3 ≤ f.kind ∧ m.rows.length = 64 then 3 else 0) else 1
theorem definedB_iff {m : Mach} {s i : Int} : definedB m s i = true ↔ (0 ≤ s ∧ s < m.rows.length) ∧ (0 ≤ i ∧ i < m.ins) ∧ (stepM m s i).1 ≠ -1 := by
  unfold definedB
  simp only [Bool.and_eq_true, decide_eq_true_eq, Bool.not_eq_true', decide_eq_false_iff_not]
  constructor
  · rintro ⟨a, b, c, d, e⟩; exact ⟨⟨a, b⟩, ⟨c, d⟩, e⟩
  · rintro ⟨⟨a, b⟩, ⟨c, d⟩, e⟩; exact ⟨a, b, c, d, e⟩
theorem step_in {m : Mach} (hv : Valid m) {s i : Int} (hd : definedB m s i = true) : ∃ r, m.rows[s.toNat]? = some r ∧ r.2[i.toNat]? = some (stepM m s i) ∧ (0 ≤ (stepM m s i).1 ∧ (stepM m s i).1 < m.rows.length) := by
  obtain ⟨h1, h2, h3⟩ := definedB_iff.1 hd
  obtain ⟨r, k1, k2, k3⟩ := stepM_get hv h1 h2
  refine ⟨r, k1, k2, ?_⟩
  unfold fitsR at k3
  simp only [Bool.or_eq_true, Bool.and_eq_true, decide_eq_true_eq] at k3
  omega
theorem plainB_kind {f : FA} (h : plainB f = true) : f.kind = 0 ∨ f.kind = 1 ∨ f.kind = 2 ∨ f.kind = 3 ∨ f.kind = 4 := by
  unfold plainB at h
  by_cases h0 : f.kind = 0
  · exact .inl h0
  by_cases h1 : f.kind = 1
  · exact .inr (.inl h1)
  by_cases h2 : f.kind = 2
  · exact .inr (.inr (.inl h2))
  by_cases h3 : f.kind = 3
  · exact .inr (.inr (.inr (.inl h3)))
  by_cases h4 : f.kind = 4
  · exact .inr (.inr (.inr (.inr h4)))
  simp [h0, h1, h2, h3, h4] at h
theorem plainB_at {f : FA} (h : plainB f = true) (hk : f.kind ≠ 4) : f.at' = 0 := by
  unfold plainB at h
  by_cases h0 : f.kind = 0
  · simp [h0] at h; exact h.2
  by_cases h1 : f.kind = 1
  · simp [h1] at h; exact h.1
  by_cases h2 : f.kind = 2
  · simp [h2] at h; exact h.2.1
  by_cases h3 : f.kind = 3
  · simp [h3] at h; exact h.1
  simp [h0, h1, h2, h3, hk] at h

set_option maxHeartbeats 4000000 in
theorem check78_is {m : Mach} (hv : Valid m) (hc0 : checkM m = 0) (f : FA) : PureIs prog 78 [.ag m.cells, .ag f.cells] (.sc (.int .i64 (checkF m f))) := by
  have q0 := check_is m fun r hr => by have := (hv.row r hr).1; have := hv.ins; omega
  rw [hc0] at q0
  obtain ⟨kd, s, i, t, a, o⟩ := f
  refine PureIs.of (nv := 8) (hid := [11, 24, 74, 117, 126]) func78 rfl (by kernel_rfl) (by simp [ntmps78]) fun _ => ?_
  rw [ntmps78, results78]
  refine EvC.seq (EvC.rg (by (simp only [go_sem, Mach.cells, FA.cells]) <;> rfl) (by simp) ?_)
  refine EvC.frzB 0 (by (simp only [go_sem]) <;> rfl) ?_
  refine EvC.frzB 1 (by (simp only [go_sem]) <;> rfl) ?_
  refine EvC.seq ?_
  apply EvC.seq
  apply EvC.tr
  · apply Tr.run
    · (simp only [go_sem, Mach.cells]) <;> rfl
    · simp
    apply Tr.cons
    · exact .call rfl rfl (by (simp only [go_sem]) <;> rfl) (by (simp only [go_sem]) <;> rfl) (by (simp only [go_sem]) <;> rfl) (by (simp only [go_sem]) <;> rfl) (by (simp only [go_sem]) <;> rfl) (q0)
    apply Tr.done
    · (simp only [go_sem]) <;> rfl
    · simp
  refine EvC.seq (EvC.rg (by (simp only [go_sem]) <;> rfl) (by simp) ?_)
  refine EvC.cond_false (by (simp only [go_sem]) <;> rfl) ?_
  refine EvC.skip ?_
  refine EvC.seq ?_
  have qp := plain83_is ⟨kd, s, i, t, a, o⟩
  cases hp : plainB ⟨kd, s, i, t, a, o⟩ with
  | false =>
    rw [hp] at qp
    have hres : checkF m ⟨kd, s, i, t, a, o⟩ = 1 := by unfold checkF faultB; rw [hp]; rfl
    rw [hres]
    apply EvC.seq
    apply EvC.tr
    · apply Tr.run
      · (simp only [go_sem, FA.cells, Mach.cells]) <;> rfl
      · simp
      apply Tr.cons
      · exact .call rfl rfl (by (simp only [go_sem]) <;> rfl) (by (simp only [go_sem]) <;> rfl) (by (simp only [go_sem]) <;> rfl) (by (simp only [go_sem]) <;> rfl) (by (simp only [go_sem]) <;> rfl) (qp)
      apply Tr.run
      · (simp only [go_sem, FA.cells, Mach.cells]) <;> rfl
      · simp
      apply Tr.cons
      · exact .skipv (.sc (.bool false)) rfl rfl (by (simp only [go_sem]) <;> rfl) (by (simp only [go_sem]) <;> rfl)
      apply Tr.done
      · (simp only [go_sem]) <;> rfl
      · simp
    refine EvC.cond_true (by (simp only [go_sem]) <;> rfl) ?_
    refine EvC.seq (EvC.rg (by (simp only [go_sem]) <;> rfl) (by simp) ?_)
    refine EvC.ret ⟨.inl rfl, _, (by (simp only [go_sem]) <;> rfl), ?_, rfl⟩
    simp only [go_sem]
  | true =>
  rw [hp] at qp
  have qd := defined84_is hv s i
  cases hd : definedB m s i with
  | false =>
    rw [hd] at qd
    have hres : checkF m ⟨kd, s, i, t, a, o⟩ = 1 := by unfold checkF faultB; simp only; rw [hp, hd]; rfl
    rw [hres]
    apply EvC.seq
    apply EvC.tr
    · apply Tr.run
      · (simp only [go_sem, FA.cells, Mach.cells]) <;> rfl
      · simp
      apply Tr.cons
      · exact .call rfl rfl (by (simp only [go_sem]) <;> rfl) (by (simp only [go_sem]) <;> rfl) (by (simp only [go_sem]) <;> rfl) (by (simp only [go_sem]) <;> rfl) (by (simp only [go_sem]) <;> rfl) (qp)
      apply Tr.run
      · (simp only [go_sem, FA.cells, Mach.cells]) <;> rfl
      · simp
      apply Tr.cons
      · exact .callG rfl rfl (by (simp only [go_sem]) <;> rfl) rfl (by (simp only [go_sem]) <;> rfl) (by (simp only [go_sem]) <;> rfl) (by (simp only [go_sem]) <;> rfl) (by (simp only [go_sem]) <;> rfl) (by (simp only [go_sem]) <;> rfl) (qd)
      apply Tr.done
      · (simp only [go_sem]) <;> rfl
      · simp
    refine EvC.cond_true (by (simp only [go_sem]) <;> rfl) ?_
    refine EvC.seq (EvC.rg (by (simp only [go_sem]) <;> rfl) (by simp) ?_)
    refine EvC.ret ⟨.inl rfl, _, (by (simp only [go_sem]) <;> rfl), ?_, rfl⟩
    simp only [go_sem]
  | true =>
  rw [hd] at qd
  have hck : checkF m ⟨kd, s, i, t, a, o⟩ = if kindB m ⟨kd, s, i, t, a, o⟩ = true then (if 3 ≤ kd ∧ m.rows.length = 64 then 3 else 0) else 1 := by unfold checkF faultB; simp only; rw [hp, hd]; rfl
  rw [hck]
  clear hck
  apply EvC.seq
  apply EvC.tr
  · apply Tr.run
    · (simp only [go_sem, FA.cells, Mach.cells]) <;> rfl
    · simp
    apply Tr.cons
    · exact .call rfl rfl (by (simp only [go_sem]) <;> rfl) (by (simp only [go_sem]) <;> rfl) (by (simp only [go_sem]) <;> rfl) (by (simp only [go_sem]) <;> rfl) (by (simp only [go_sem]) <;> rfl) (qp)
    apply Tr.run
    · (simp only [go_sem, FA.cells, Mach.cells]) <;> rfl
    · simp
    apply Tr.cons
    · exact .callG rfl rfl (by (simp only [go_sem]) <;> rfl) rfl (by (simp only [go_sem]) <;> rfl) (by (simp only [go_sem]) <;> rfl) (by (simp only [go_sem]) <;> rfl) (by (simp only [go_sem]) <;> rfl) (by (simp only [go_sem]) <;> rfl) (qd)
    apply Tr.done
    · (simp only [go_sem]) <;> rfl
    · simp
  refine EvC.cond_false (by (simp only [go_sem]) <;> rfl) ?_
  refine EvC.skip ?_
  obtain ⟨r, h1, h2, he⟩ := step_in hv hd
  obtain ⟨b1, b2, _⟩ := definedB_iff.1 hd
  have hkd := plainB_kind hp
  have hat : kd ≠ 4 → a = 0 := fun h => plainB_at hp h
  simp only at hkd
  unfold kindB
  simp only
  generalize stepM m s i = e at *
  -- the edge behind
  have h3 : m.rows[e.1.toNat]? = some (m.rows[e.1.toNat]'(by omega)) := List.getElem?_eq_getElem (by omega)
  have hrl := (hv.row _ (List.getElem_mem (show e.1.toNat < m.rows.length by omega))).1
  generalize m.rows[e.1.toNat]'(by omega) = r3 at h3 hrl
  have hsm : stepM m e.1 a = (r3.2[a.toNat]?).getD (-1, -1) := by rw [stepM, h3]; rfl
  have hi1 := hv.ins
  have hro1 := hv.rows
  apply EvC.seq
  apply EvC.drd mixed
  · (simp only [go_sem, h1, h2, rowC, edgeC, List.length_map]) <;> rfl
  · simp; try omega
  · kernel_rfl
  refine EvC.frzB 30 (by (simp only [go_sem]) <;> rfl) ?_
  have n2 : (2 : Int).toNat = 2 := rfl
  have n3 : (3 : Int).toNat = 3 := rfl
  have n4 : (4 : Int).toNat = 4 := rfl
  have n1 : (1 : Int).toNat = 1 := rfl
  have n0 : (0 : Int).toNat = 0 := rfl
  have qt := within85_is t m.rows.length
  have qo := within85_is o m.outs
  have d64 : decide ((m.rows.length : Int) = 64) = decide (m.rows.length = 64) := decide_eq_decide.2 (by omega)
  rcases hkd with rfl | rfl | rfl | rfl | rfl
  · -- output
    obtain rfl := hat (by decide)
    have h4 : r3.2[0]? = some (r3.2[0]'(by omega)) := List.getElem?_eq_getElem (by omega)
    generalize r3.2[0]'(by omega) = e4 at h4
    rw [if_pos rfl]
    refine EvC.seq (EvC.rg (by (simp only [go_sem, kindTab, kindN, n0, n1, n2, n3, n4, Nat.reduceMul]) <;> rfl) (by simp) ?_)
    refine EvC.frzB 36 (by (simp only [go_sem]) <;> rfl) ?_
    refine EvC.seq ?_
    cases hq : inN o m.outs with
    | false =>
      rw [hq] at qo
      apply EvC.seq
      apply EvC.tr
      · apply Tr.run
        · (simp only [go_sem, FA.cells, Mach.cells, List.length_map]) <;> rfl
        · simp
        apply Tr.cons
        · exact .skipv (.sc (.bool false)) rfl rfl (by (simp only [go_sem]) <;> rfl) (by (simp only [go_sem]) <;> rfl)
        apply Tr.run
        · (simp only [go_sem, FA.cells, Mach.cells, List.length_map]) <;> rfl
        · simp
        apply Tr.cons
        · exact .callG rfl rfl (by (simp only [go_sem]) <;> rfl) rfl (by (simp only [go_sem]) <;> rfl) (by (simp only [go_sem]) <;> rfl) (by (simp only [go_sem]) <;> rfl) (by (simp only [go_sem]) <;> rfl) (by (simp only [go_sem]) <;> rfl) (qo)
        apply Tr.run
        · (simp only [go_sem, FA.cells, Mach.cells, List.length_map]) <;> rfl
        · simp
        apply Tr.cons
        · exact .skipv (.sc (.bool false)) rfl rfl (by (simp only [go_sem]) <;> rfl) (by (simp only [go_sem]) <;> rfl)
        apply Tr.done
        · (simp only [go_sem]) <;> rfl
        · simp
      refine EvC.cond_true (by (simp only [go_sem]) <;> rfl) ?_
      refine EvC.seq (EvC.rg (by (simp only [go_sem]) <;> rfl) (by simp) ?_)
      refine EvC.ret ⟨.inl rfl, _, (by (simp only [go_sem]) <;> rfl), ?_, rfl⟩
      simp only [go_sem]
    | true =>
    rw [hq] at qo
    apply EvC.seq
    apply EvC.tr
    · apply Tr.run
      · (simp only [go_sem, FA.cells, Mach.cells, List.length_map]) <;> rfl
      · simp
      apply Tr.cons
      · exact .skipv (.sc (.bool false)) rfl rfl (by (simp only [go_sem]) <;> rfl) (by (simp only [go_sem]) <;> rfl)
      apply Tr.run
      · (simp only [go_sem, FA.cells, Mach.cells, List.length_map]) <;> rfl
      · simp
      apply Tr.cons
      · exact .callG rfl rfl (by (simp only [go_sem]) <;> rfl) rfl (by (simp only [go_sem]) <;> rfl) (by (simp only [go_sem]) <;> rfl) (by (simp only [go_sem]) <;> rfl) (by (simp only [go_sem]) <;> rfl) (by (simp only [go_sem]) <;> rfl) (qo)
      apply Tr.run
      · (simp only [go_sem, FA.cells, Mach.cells, List.length_map]) <;> rfl
      · simp
      apply Tr.cons
      · exact .skipv (.sc (.bool false)) rfl rfl (by (simp only [go_sem]) <;> rfl) (by (simp only [go_sem]) <;> rfl)
      apply Tr.done
      · (simp only [go_sem]) <;> rfl
      · simp
    refine EvC.cond_false (by (simp only [go_sem]) <;> rfl) ?_
    refine EvC.skip ?_
    refine EvC.seq ?_
    apply EvC.seq
    apply EvC.drd mixed
    · (simp only [go_sem, h3, h4, rowC, edgeC, n0, List.length_map]) <;> rfl
    · simp; try omega
    · kernel_rfl
    refine EvC.cond (by (simp only [go_sem]) <;> rfl) (fun hc => ?_) (fun hc => ?_)
    · have hc' : o = e.2 := by simpa using hc
      refine EvC.seq (EvC.rg (by (simp only [go_sem]) <;> rfl) (by simp) ?_)
      refine EvC.ret ⟨.inl rfl, _, (by (simp only [go_sem]) <;> rfl), ?_, rfl⟩
      simp only [go_sem]
      simp [hc']
    have hc' : ¬ o = e.2 := by simpa using hc
    refine EvC.skip ?_
    refine EvC.seq ?_
    apply EvC.seq
    apply EvC.trd
    · (simp only [go_sem, List.length_map]) <;> rfl
    · simp
    refine EvC.cond_false (by (simp only [go_sem]) <;> rfl) ?_
    refine EvC.skip ?_
    refine EvC.seq (EvC.rg (by (simp only [go_sem]) <;> rfl) (by simp) ?_)
    refine EvC.ret ⟨.inl rfl, _, (by (simp only [go_sem]) <;> rfl), ?_, rfl⟩
    simp only [go_sem]
    simp [hc']
  · -- transfer
    obtain rfl := hat (by decide)
    have h4 : r3.2[0]? = some (r3.2[0]'(by omega)) := List.getElem?_eq_getElem (by omega)
    generalize r3.2[0]'(by omega) = e4 at h4
    rw [if_neg (show ¬ (1 : Int) = 0 by decide), if_pos (show (1 : Int) = 1 from rfl)]
    refine EvC.seq (EvC.rg (by (simp only [go_sem, kindTab, kindN, n0, n1, n2, n3, n4, Nat.reduceMul]) <;> rfl) (by simp) ?_)
    refine EvC.frzB 36 (by (simp only [go_sem]) <;> rfl) ?_
    refine EvC.seq ?_
    cases hq : inN t m.rows.length with
    | false =>
      rw [hq] at qt
      apply EvC.seq
      apply EvC.tr
      · apply Tr.run
        · (simp only [go_sem, FA.cells, Mach.cells, List.length_map]) <;> rfl
        · simp
        apply Tr.cons
        · exact .callG rfl rfl (by (simp only [go_sem]) <;> rfl) rfl (by (simp only [go_sem]) <;> rfl) (by (simp only [go_sem]) <;> rfl) (by (simp only [go_sem]) <;> rfl) (by (simp only [go_sem]) <;> rfl) (by (simp only [go_sem]) <;> rfl) (qt)
        apply Tr.run
        · (simp only [go_sem, FA.cells, Mach.cells, List.length_map]) <;> rfl
        · simp
        apply Tr.cons
        · exact .skipv (.sc (.bool false)) rfl rfl (by (simp only [go_sem]) <;> rfl) (by (simp only [go_sem]) <;> rfl)
        apply Tr.run
        · (simp only [go_sem, FA.cells, Mach.cells, List.length_map]) <;> rfl
        · simp
        apply Tr.cons
        · exact .skipv (.sc (.bool false)) rfl rfl (by (simp only [go_sem]) <;> rfl) (by (simp only [go_sem]) <;> rfl)
        apply Tr.done
        · (simp only [go_sem]) <;> rfl
        · simp
      refine EvC.cond_true (by (simp only [go_sem]) <;> rfl) ?_
      refine EvC.seq (EvC.rg (by (simp only [go_sem]) <;> rfl) (by simp) ?_)
      refine EvC.ret ⟨.inl rfl, _, (by (simp only [go_sem]) <;> rfl), ?_, rfl⟩
      simp only [go_sem]
    | true =>
    rw [hq] at qt
    apply EvC.seq
    apply EvC.tr
    · apply Tr.run
      · (simp only [go_sem, FA.cells, Mach.cells, List.length_map]) <;> rfl
      · simp
      apply Tr.cons
      · exact .callG rfl rfl (by (simp only [go_sem]) <;> rfl) rfl (by (simp only [go_sem]) <;> rfl) (by (simp only [go_sem]) <;> rfl) (by (simp only [go_sem]) <;> rfl) (by (simp only [go_sem]) <;> rfl) (by (simp only [go_sem]) <;> rfl) (qt)
      apply Tr.run
      · (simp only [go_sem, FA.cells, Mach.cells, List.length_map]) <;> rfl
      · simp
      apply Tr.cons
      · exact .skipv (.sc (.bool false)) rfl rfl (by (simp only [go_sem]) <;> rfl) (by (simp only [go_sem]) <;> rfl)
      apply Tr.run
      · (simp only [go_sem, FA.cells, Mach.cells, List.length_map]) <;> rfl
      · simp
      apply Tr.cons
      · exact .skipv (.sc (.bool false)) rfl rfl (by (simp only [go_sem]) <;> rfl) (by (simp only [go_sem]) <;> rfl)
      apply Tr.done
      · (simp only [go_sem]) <;> rfl
      · simp
    refine EvC.cond_false (by (simp only [go_sem]) <;> rfl) ?_
    refine EvC.skip ?_
    refine EvC.seq ?_
    apply EvC.seq
    apply EvC.drd mixed
    · (simp only [go_sem, h3, h4, rowC, edgeC, n0, List.length_map]) <;> rfl
    · simp; try omega
    · kernel_rfl
    refine EvC.cond (by (simp only [go_sem]) <;> rfl) (fun hc => ?_) (fun hc => ?_)
    · have hc' : t = e.1 := by simpa using hc
      refine EvC.seq (EvC.rg (by (simp only [go_sem]) <;> rfl) (by simp) ?_)
      refine EvC.ret ⟨.inl rfl, _, (by (simp only [go_sem]) <;> rfl), ?_, rfl⟩
      simp only [go_sem]
      simp [hc']
    have hc' : ¬ t = e.1 := by simpa using hc
    refine EvC.skip ?_
    refine EvC.seq ?_
    apply EvC.seq
    apply EvC.trd
    · (simp only [go_sem, List.length_map]) <;> rfl
    · simp
    refine EvC.cond_false (by (simp only [go_sem]) <;> rfl) ?_
    refine EvC.skip ?_
    refine EvC.seq (EvC.rg (by (simp only [go_sem]) <;> rfl) (by simp) ?_)
    refine EvC.ret ⟨.inl rfl, _, (by (simp only [go_sem]) <;> rfl), ?_, rfl⟩
    simp only [go_sem]
    simp [hc']
  · -- missing
    obtain rfl := hat (by decide)
    have h4 : r3.2[0]? = some (r3.2[0]'(by omega)) := List.getElem?_eq_getElem (by omega)
    generalize r3.2[0]'(by omega) = e4 at h4
    rw [if_neg (show ¬ (2 : Int) = 0 by decide), if_neg (show ¬ (2 : Int) = 1 by decide), if_pos (show (2 : Int) = 2 from rfl)]
    refine EvC.seq (EvC.rg (by (simp only [go_sem, kindTab, kindN, n0, n1, n2, n3, n4, Nat.reduceMul]) <;> rfl) (by simp) ?_)
    refine EvC.frzB 36 (by (simp only [go_sem]) <;> rfl) ?_
    refine EvC.seq ?_
    apply EvC.seq
    apply EvC.tr
    · apply Tr.run
      · (simp only [go_sem, FA.cells, Mach.cells, List.length_map]) <;> rfl
      · simp
      apply Tr.cons
      · exact .skipv (.sc (.bool false)) rfl rfl (by (simp only [go_sem]) <;> rfl) (by (simp only [go_sem]) <;> rfl)
      apply Tr.run
      · (simp only [go_sem, FA.cells, Mach.cells, List.length_map]) <;> rfl
      · simp
      apply Tr.cons
      · exact .skipv (.sc (.bool false)) rfl rfl (by (simp only [go_sem]) <;> rfl) (by (simp only [go_sem]) <;> rfl)
      apply Tr.run
      · (simp only [go_sem, FA.cells, Mach.cells, List.length_map]) <;> rfl
      · simp
      apply Tr.cons
      · exact .skipv (.sc (.bool false)) rfl rfl (by (simp only [go_sem]) <;> rfl) (by (simp only [go_sem]) <;> rfl)
      apply Tr.done
      · (simp only [go_sem]) <;> rfl
      · simp
    refine EvC.cond_false (by (simp only [go_sem]) <;> rfl) ?_
    refine EvC.skip ?_
    refine EvC.seq ?_
    apply EvC.seq
    apply EvC.drd mixed
    · (simp only [go_sem, h3, h4, rowC, edgeC, n0, List.length_map]) <;> rfl
    · simp; try omega
    · kernel_rfl
    refine EvC.cond_false (by (simp only [go_sem]) <;> rfl) ?_
    refine EvC.skip ?_
    refine EvC.seq ?_
    apply EvC.seq
    apply EvC.trd
    · (simp only [go_sem, List.length_map]) <;> rfl
    · simp
    refine EvC.cond_false (by (simp only [go_sem]) <;> rfl) ?_
    refine EvC.skip ?_
    refine EvC.seq (EvC.rg (by (simp only [go_sem]) <;> rfl) (by simp) ?_)
    refine EvC.ret ⟨.inl rfl, _, (by (simp only [go_sem]) <;> rfl), ?_, rfl⟩
    simp only [go_sem]
    simp
  · -- extra
    obtain rfl := hat (by decide)
    have h4 : r3.2[0]? = some (r3.2[0]'(by omega)) := List.getElem?_eq_getElem (by omega)
    generalize r3.2[0]'(by omega) = e4 at h4
    rw [if_neg (show ¬ (3 : Int) = 0 by decide), if_neg (show ¬ (3 : Int) = 1 by decide), if_neg (show ¬ (3 : Int) = 2 by decide), if_pos (show (3 : Int) = 3 from rfl)]
    refine EvC.seq (EvC.rg (by (simp only [go_sem, kindTab, kindN, n0, n1, n2, n3, n4, Nat.reduceMul]) <;> rfl) (by simp) ?_)
    refine EvC.frzB 36 (by (simp only [go_sem]) <;> rfl) ?_
    refine EvC.seq ?_
    cases hq : inN t m.rows.length with
    | false =>
      rw [hq] at qt
      apply EvC.seq
      apply EvC.tr
      · apply Tr.run
        · (simp only [go_sem, FA.cells, Mach.cells, List.length_map]) <;> rfl
        · simp
        apply Tr.cons
        · exact .callG rfl rfl (by (simp only [go_sem]) <;> rfl) rfl (by (simp only [go_sem]) <;> rfl) (by (simp only [go_sem]) <;> rfl) (by (simp only [go_sem]) <;> rfl) (by (simp only [go_sem]) <;> rfl) (by (simp only [go_sem]) <;> rfl) (qt)
        apply Tr.run
        · (simp only [go_sem, FA.cells, Mach.cells, List.length_map]) <;> rfl
        · simp
        apply Tr.cons
        · exact .skipv (.sc (.bool false)) rfl rfl (by (simp only [go_sem]) <;> rfl) (by (simp only [go_sem]) <;> rfl)
        apply Tr.run
        · (simp only [go_sem, FA.cells, Mach.cells, List.length_map]) <;> rfl
        · simp
        apply Tr.cons
        · exact .skipv (.sc (.bool false)) rfl rfl (by (simp only [go_sem]) <;> rfl) (by (simp only [go_sem]) <;> rfl)
        apply Tr.done
        · (simp only [go_sem]) <;> rfl
        · simp
      refine EvC.cond_true (by (simp only [go_sem]) <;> rfl) ?_
      refine EvC.seq (EvC.rg (by (simp only [go_sem]) <;> rfl) (by simp) ?_)
      refine EvC.ret ⟨.inl rfl, _, (by (simp only [go_sem]) <;> rfl), ?_, rfl⟩
      simp only [go_sem]
    | true =>
    rw [hq] at qt
    apply EvC.seq
    apply EvC.tr
    · apply Tr.run
      · (simp only [go_sem, FA.cells, Mach.cells, List.length_map]) <;> rfl
      · simp
      apply Tr.cons
      · exact .callG rfl rfl (by (simp only [go_sem]) <;> rfl) rfl (by (simp only [go_sem]) <;> rfl) (by (simp only [go_sem]) <;> rfl) (by (simp only [go_sem]) <;> rfl) (by (simp only [go_sem]) <;> rfl) (by (simp only [go_sem]) <;> rfl) (qt)
      apply Tr.run
      · (simp only [go_sem, FA.cells, Mach.cells, List.length_map]) <;> rfl
      · simp
      apply Tr.cons
      · exact .skipv (.sc (.bool false)) rfl rfl (by (simp only [go_sem]) <;> rfl) (by (simp only [go_sem]) <;> rfl)
      apply Tr.run
      · (simp only [go_sem, FA.cells, Mach.cells, List.length_map]) <;> rfl
      · simp
      apply Tr.cons
      · exact .skipv (.sc (.bool false)) rfl rfl (by (simp only [go_sem]) <;> rfl) (by (simp only [go_sem]) <;> rfl)
      apply Tr.done
      · (simp only [go_sem]) <;> rfl
      · simp
    refine EvC.cond_false (by (simp only [go_sem]) <;> rfl) ?_
    refine EvC.skip ?_
    refine EvC.seq ?_
    apply EvC.seq
    apply EvC.drd mixed
    · (simp only [go_sem, h3, h4, rowC, edgeC, n0, List.length_map]) <;> rfl
    · simp; try omega
    · kernel_rfl
    refine EvC.cond_false (by (simp only [go_sem]) <;> rfl) ?_
    refine EvC.skip ?_
    refine EvC.seq ?_
    by_cases h64 : m.rows.length = 64
    · have d : decide ((m.rows.length : Int) = 64) = true := decide_eq_true (by omega)
      apply EvC.seq
      apply EvC.trd
      · (simp only [go_sem, List.length_map, d]) <;> rfl
      · simp
      refine EvC.cond_true (by (simp only [go_sem]) <;> rfl) ?_
      refine EvC.seq (EvC.rg (by (simp only [go_sem]) <;> rfl) (by simp) ?_)
      refine EvC.ret ⟨.inl rfl, _, (by (simp only [go_sem]) <;> rfl), ?_, rfl⟩
      simp only [go_sem]
      simp [h64]
    · have d : decide ((m.rows.length : Int) = 64) = false := decide_eq_false (by omega)
      apply EvC.seq
      apply EvC.trd
      · (simp only [go_sem, List.length_map, d]) <;> rfl
      · simp
      refine EvC.cond_false (by (simp only [go_sem]) <;> rfl) ?_
      refine EvC.skip ?_
      refine EvC.seq (EvC.rg (by (simp only [go_sem]) <;> rfl) (by simp) ?_)
      refine EvC.ret ⟨.inl rfl, _, (by (simp only [go_sem]) <;> rfl), ?_, rfl⟩
      simp only [go_sem]
      simp [h64]
  · -- deep
    rw [if_neg (show ¬ (4 : Int) = 0 by decide), if_neg (show ¬ (4 : Int) = 1 by decide), if_neg (show ¬ (4 : Int) = 2 by decide), if_neg (show ¬ (4 : Int) = 3 by decide)]
    have qd2 := defined84_is hv e.1 a
    rw [hsm]
    refine EvC.seq (EvC.rg (by (simp only [go_sem, kindTab, kindN, n0, n1, n2, n3, n4, Nat.reduceMul]) <;> rfl) (by simp) ?_)
    refine EvC.frzB 36 (by (simp only [go_sem]) <;> rfl) ?_
    refine EvC.seq ?_
    cases hq : inN o m.outs with
    | false =>
      rw [hq] at qo
      apply EvC.seq
      apply EvC.tr
      · apply Tr.run
        · (simp only [go_sem, FA.cells, Mach.cells, List.length_map]) <;> rfl
        · simp
        apply Tr.cons
        · exact .skipv (.sc (.bool false)) rfl rfl (by (simp only [go_sem]) <;> rfl) (by (simp only [go_sem]) <;> rfl)
        apply Tr.run
        · (simp only [go_sem, FA.cells, Mach.cells, List.length_map]) <;> rfl
        · simp
        apply Tr.cons
        · exact .callG rfl rfl (by (simp only [go_sem]) <;> rfl) rfl (by (simp only [go_sem]) <;> rfl) (by (simp only [go_sem]) <;> rfl) (by (simp only [go_sem]) <;> rfl) (by (simp only [go_sem]) <;> rfl) (by (simp only [go_sem]) <;> rfl) (qo)
        apply Tr.run
        · (simp only [go_sem, FA.cells, Mach.cells, List.length_map]) <;> rfl
        · simp
        apply Tr.cons
        · exact .skipv (.sc (.bool false)) rfl rfl (by (simp only [go_sem]) <;> rfl) (by (simp only [go_sem]) <;> rfl)
        apply Tr.done
        · (simp only [go_sem]) <;> rfl
        · simp
      refine EvC.cond_true (by (simp only [go_sem]) <;> rfl) ?_
      refine EvC.seq (EvC.rg (by (simp only [go_sem]) <;> rfl) (by simp) ?_)
      refine EvC.ret ⟨.inl rfl, _, (by (simp only [go_sem]) <;> rfl), ?_, rfl⟩
      simp only [go_sem]
    | true =>
    rw [hq] at qo
    cases hq2 : definedB m e.1 a with
    | false =>
      rw [hq2] at qd2
      apply EvC.seq
      apply EvC.tr
      · apply Tr.run
        · (simp only [go_sem, FA.cells, Mach.cells, List.length_map]) <;> rfl
        · simp
        apply Tr.cons
        · exact .skipv (.sc (.bool false)) rfl rfl (by (simp only [go_sem]) <;> rfl) (by (simp only [go_sem]) <;> rfl)
        apply Tr.run
        · (simp only [go_sem, FA.cells, Mach.cells, List.length_map]) <;> rfl
        · simp
        apply Tr.cons
        · exact .callG rfl rfl (by (simp only [go_sem]) <;> rfl) rfl (by (simp only [go_sem]) <;> rfl) (by (simp only [go_sem]) <;> rfl) (by (simp only [go_sem]) <;> rfl) (by (simp only [go_sem]) <;> rfl) (by (simp only [go_sem]) <;> rfl) (qo)
        apply Tr.run
        · (simp only [go_sem, FA.cells, Mach.cells, List.length_map]) <;> rfl
        · simp
        apply Tr.cons
        · exact .callG rfl rfl (by (simp only [go_sem]) <;> rfl) rfl (by (simp only [go_sem]) <;> rfl) (by (simp only [go_sem]) <;> rfl) (by (simp only [go_sem]) <;> rfl) (by (simp only [go_sem]) <;> rfl) (by (simp only [go_sem]) <;> rfl) (qd2)
        apply Tr.done
        · (simp only [go_sem]) <;> rfl
        · simp
      refine EvC.cond_true (by (simp only [go_sem]) <;> rfl) ?_
      refine EvC.seq (EvC.rg (by (simp only [go_sem]) <;> rfl) (by simp) ?_)
      refine EvC.ret ⟨.inl rfl, _, (by (simp only [go_sem]) <;> rfl), ?_, rfl⟩
      simp only [go_sem]
    | true =>
    rw [hq2] at qd2
    obtain ⟨r4, k1, k2, _⟩ := step_in hv hq2
    have hr34 : r4 = r3 := by rw [h3] at k1; exact (Option.some.inj k1).symm
    subst hr34
    rw [hsm] at k2
    generalize (r4.2[a.toNat]?).getD (-1, -1) = e4 at k2
    obtain ⟨_, b3, _⟩ := definedB_iff.1 hq2
    apply EvC.seq
    apply EvC.tr
    · apply Tr.run
      · (simp only [go_sem, FA.cells, Mach.cells, List.length_map]) <;> rfl
      · simp
      apply Tr.cons
      · exact .skipv (.sc (.bool false)) rfl rfl (by (simp only [go_sem]) <;> rfl) (by (simp only [go_sem]) <;> rfl)
      apply Tr.run
      · (simp only [go_sem, FA.cells, Mach.cells, List.length_map]) <;> rfl
      · simp
      apply Tr.cons
      · exact .callG rfl rfl (by (simp only [go_sem]) <;> rfl) rfl (by (simp only [go_sem]) <;> rfl) (by (simp only [go_sem]) <;> rfl) (by (simp only [go_sem]) <;> rfl) (by (simp only [go_sem]) <;> rfl) (by (simp only [go_sem]) <;> rfl) (qo)
      apply Tr.run
      · (simp only [go_sem, FA.cells, Mach.cells, List.length_map]) <;> rfl
      · simp
      apply Tr.cons
      · exact .callG rfl rfl (by (simp only [go_sem]) <;> rfl) rfl (by (simp only [go_sem]) <;> rfl) (by (simp only [go_sem]) <;> rfl) (by (simp only [go_sem]) <;> rfl) (by (simp only [go_sem]) <;> rfl) (by (simp only [go_sem]) <;> rfl) (qd2)
      apply Tr.done
      · (simp only [go_sem]) <;> rfl
      · simp
    refine EvC.cond_false (by (simp only [go_sem]) <;> rfl) ?_
    refine EvC.skip ?_
    refine EvC.seq ?_
    apply EvC.seq
    apply EvC.drd mixed
    · (simp only [go_sem, h3, k2, rowC, edgeC, n0, List.length_map]) <;> rfl
    · simp; try omega
    · kernel_rfl
    refine EvC.cond (by (simp only [go_sem]) <;> rfl) (fun hc => ?_) (fun hc => ?_)
    · have hc' : o = e4.2 := by simpa using hc
      refine EvC.seq (EvC.rg (by (simp only [go_sem]) <;> rfl) (by simp) ?_)
      refine EvC.ret ⟨.inl rfl, _, (by (simp only [go_sem]) <;> rfl), ?_, rfl⟩
      simp only [go_sem]
      simp [hc']
    have hc' : ¬ o = e4.2 := by simpa using hc
    refine EvC.skip ?_
    refine EvC.seq ?_
    by_cases h64 : m.rows.length = 64
    · have d : decide ((m.rows.length : Int) = 64) = true := decide_eq_true (by omega)
      apply EvC.seq
      apply EvC.trd
      · (simp only [go_sem, List.length_map, d]) <;> rfl
      · simp
      refine EvC.cond_true (by (simp only [go_sem]) <;> rfl) ?_
      refine EvC.seq (EvC.rg (by (simp only [go_sem]) <;> rfl) (by simp) ?_)
      refine EvC.ret ⟨.inl rfl, _, (by (simp only [go_sem]) <;> rfl), ?_, rfl⟩
      simp only [go_sem]
      simp [h64, hc']
    · have d : decide ((m.rows.length : Int) = 64) = false := decide_eq_false (by omega)
      apply EvC.seq
      apply EvC.trd
      · (simp only [go_sem, List.length_map, d]) <;> rfl
      · simp
      refine EvC.cond_false (by (simp only [go_sem]) <;> rfl) ?_
      refine EvC.skip ?_
      refine EvC.seq (EvC.rg (by (simp only [go_sem]) <;> rfl) (by simp) ?_)
      refine EvC.ret ⟨.inl rfl, _, (by (simp only [go_sem]) <;> rfl), ?_, rfl⟩
      simp only [go_sem]
      simp [h64, hc']
end Go.Avl
namespace Go.Avl
open Go Go.Proofs.Tryd
set_option maxRecDepth 10000
set_option linter.unusedSimpArgs false

/-! ### Mutants -/
theorem clone80_is (es : List (Int × Int)) (c : Cp) (hl : es.length < 1000000) : PureIs prog 80 [.sl false (es.map edgeC) c] (.sl false (es.map edgeC) .unk) := by
  refine PureIs.of (nv := 1) (hid := [2, 4]) func80 rfl (by kernel_rfl) (by simp [ntmps80]) fun _ => ?_
  rw [ntmps80, results80]
  refine EvC.seq (EvC.rg (by (simp only [go_sem]) <;> rfl) (by simp) ?_)
  refine EvC.seq ?_
  refine EvC.seq (EvC.rg (by (simp only [go_sem]) <;> rfl) (by simp) ?_)
  refine EvC.cond_false (by (simp only [go_sem]) <;> rfl) ?_
  refine EvC.skip ?_
  have hr1 : room es.length 16 = true := by simp only [room_eq, decide_eq_true_eq]; omega
  have hr3 : ∀ a b : Int, (a, b) ∈ es → (edgeC (a, b)).length = 2 := fun _ _ _ => rfl
  refine EvC.seq (EvC.rg (by (simp only [go_sem, List.length_map]) <;> rfl) (by simp [hr1]; try exact hr3) ?_)
  refine EvC.frz 5 (by (simp only [go_sem, List.length_map]) <;> rfl) ?_
  refine EvC.ret ⟨.inl rfl, _, (by (simp only [go_sem, List.length_map]) <;> rfl), ?_, by simp [AV.noref, norefs_edges]⟩
  simp only [go_sem, List.length_map]
theorem clone80_new (es : List (Int × Int)) (c : Cp) (hl : es.length < 1000000) (h0 : es.length ≠ 0) : PureNew prog 80 [.sl false (es.map edgeC) c] 2 (es.map edgeC) := by
  refine PureNew.of (nv := 1) (hid := [2, 4]) func80 rfl (by kernel_rfl) (by simp [ntmps80]) fun _ => ?_
  rw [ntmps80, results80]
  refine EvC.seq (EvC.rg (by (simp only [go_sem]) <;> rfl) (by simp) ?_)
  refine EvC.seq ?_
  refine EvC.seq (EvC.rg (by (simp only [go_sem]) <;> rfl) (by simp) ?_)
  refine EvC.cond_false (by (simp only [go_sem]) <;> rfl) ?_
  refine EvC.skip ?_
  have hr1 : room es.length 16 = true := by simp only [room_eq, decide_eq_true_eq]; omega
  have hr3 : ∀ a b : Int, (a, b) ∈ es → (edgeC (a, b)).length = 2 := fun _ _ _ => rfl
  refine EvC.seq (EvC.rg (by (simp only [go_sem, List.length_map]) <;> rfl) (by simp [hr1]; try exact hr3) ?_)
  refine EvC.ret ⟨.inl rfl, _, 5, (by (simp only [go_sem, List.length_map]) <;> rfl), .inl ?_, ?_, by simpa using h0, norefs_edges es⟩
  · simp only [List.length_map]
  · rfl
theorem clip79_is (es : List (Int × Int)) (c : Cp) : PureIs prog 79 [.sl false (es.map edgeC) c] (.sl false (es.map edgeC) .unk) := by
  have hr3 : ∀ a b : Int, (a, b) ∈ es → (edgeC (a, b)).length = 2 := fun _ _ _ => rfl
  have key : PureIs prog 79 [.sl false (es.map edgeC) c] (.sl false (es.map edgeC) .full) := by
    refine PureIs.of (nv := 1) (hid := [2]) func79 rfl (by kernel_rfl) (by simp [ntmps79]) fun _ => ?_
    rw [ntmps79, results79]
    refine EvC.seq (EvC.rg (by (simp only [go_sem]) <;> rfl) (by simp) ?_)
    refine EvC.seq (EvC.rg (by (simp only [go_sem, List.length_map, Int.toNat_natCast, List.drop_zero]) <;> rfl) (by simp; try exact hr3) ?_)
    refine EvC.ret ⟨.inl rfl, _, (by (simp only [go_sem]) <;> rfl), ?_, by simp [AV.noref, norefs_edges]⟩
    simp only [go_sem]
    rw [List.take_of_length_le (by simp)]
  have h := key.weakR
  rwa [show (AV.sl false (es.map edgeC) Cp.full).unk = .sl false (es.map edgeC) .unk from by
    simp only [AV.unk]; congr 1; exact unkss_map edgeC (fun x => rfl) es] at h
theorem clip79_clips : Clips prog 79 := fun a n c h hlt => by
  refine PureIs.of (nv := 1) (hid := [2]) func79 rfl (by kernel_rfl) (by simp [ntmps79]) fun _ => ?_
  rw [ntmps79, results79]
  refine EvC.seq (EvC.rg (by (simp only [go_sem]) <;> rfl) (by simp) ?_)
  refine EvC.seq (EvC.rg (by (simp only [go_sem, Int.toNat_natCast]) <;> rfl) (by simp; try omega) ?_)
  refine EvC.ret ⟨.inl rfl, _, (by (simp only [go_sem]) <;> rfl), ?_, rfl⟩
  simp only [go_sem]
theorem clip81_is (rs : List Row) (c : Cp) : PureIs prog 81 [.sl false (rs.map rowC) c] (.sl false (rs.map rowC) .full) := by
  have hr3 : ∀ (a : Bool) (b : List (Int × Int)), (a, b) ∈ rs → (rowC (a, b)).length = 1 := fun _ _ _ => rfl
  refine PureIs.of (nv := 1) (hid := [2]) func81 rfl (by kernel_rfl) (by simp [ntmps81]) fun _ => ?_
  rw [ntmps81, results81]
  refine EvC.seq (EvC.rg (by (simp only [go_sem]) <;> rfl) (by simp) ?_)
  refine EvC.seq (EvC.rg (by (simp only [go_sem, List.length_map, Int.toNat_natCast, List.drop_zero]) <;> rfl) (by simp; exact ⟨fun b h => hr3 _ _ h, fun b h => hr3 _ _ h⟩) ?_)
  refine EvC.ret ⟨.inl rfl, _, (by (simp only [go_sem]) <;> rfl), ?_, by simp [AV.noref, List.all_eq_true, rowC, AV.norefs]⟩
  simp only [go_sem]
  rw [List.take_of_length_le (by simp)]
end Go.Avl
namespace Go.Avl
open Go Go.Proofs.Tryd
set_option maxRecDepth 10000
set_option linter.unusedSimpArgs false

def rowAt (m : Mach) (s : Int) : List (Int × Int) := ((m.rows[s.toNat]?).map (·.2)).getD []
/-- The rows, copied. -/
def copyR (m : Mach) : List Row := m.rows.map fun r => (false, r.2)
/-- .. with another edge. -/
def putR (m : Mach) (s i : Int) (e : Int × Int) : List Row := (copyR m).set s.toNat (false, (rowAt m s).set i.toNat e)
def mutRows (m : Mach) (f : FA) : List Row :=
  if f.kind = 0 then putR m f.state f.input ((stepM m f.state f.input).1, f.out)
  else if f.kind = 1 then putR m f.state f.input (f.to, (stepM m f.state f.input).2)
  else if f.kind = 2 then putR m f.state f.input (-1, -1)
  else if f.kind = 3 then putR m f.state f.input ((m.rows.length : Int), (stepM m f.state f.input).2) ++ [(false, rowAt m f.to)]
  else putR m f.state f.input ((m.rows.length : Int), (stepM m f.state f.input).2) ++ [(false, (rowAt m (stepM m f.state f.input).1).set f.at'.toNat ((stepM m (stepM m f.state f.input).1 f.at').1, f.out))]
def mutF (m : Mach) (f : FA) : Mach := ⟨m.ins, m.outs, false, mutRows m f⟩
/-- The rows as they lie there: with the room behind some of them. -/
def putRaw (m : Mach) (s i : Int) (e : Int × Int) : List (List AV) := ((copyR m).map rowC).set s.toNat [.sl false (((rowAt m s).set i.toNat e).map edgeC) .full]
def rawRows (m : Mach) (f : FA) : List (List AV) :=
  if f.kind = 0 then putRaw m f.state f.input ((stepM m f.state f.input).1, f.out)
  else if f.kind = 1 then putRaw m f.state f.input (f.to, (stepM m f.state f.input).2)
  else if f.kind = 2 then putRaw m f.state f.input (-1, -1)
  else if f.kind = 3 then putRaw m f.state f.input ((m.rows.length : Int), (stepM m f.state f.input).2) ++ [[.sl false ((rowAt m f.to).map edgeC) .unk]]
  else putRaw m f.state f.input ((m.rows.length : Int), (stepM m f.state f.input).2) ++ [[.sl false (((rowAt m (stepM m f.state f.input).1).set f.at'.toNat ((stepM m (stepM m f.state f.input).1 f.at').1, f.out)).map edgeC) .full]]
theorem unk_edges (b : Bool) (es : List (Int × Int)) (c : Cp) : AV.unks [.sl b (es.map edgeC) c] = rowC (b, es) := by
  have h : AV.unkss (es.map edgeC) = es.map edgeC := unkss_map edgeC (fun x => rfl) es
  simp only [AV.unks, AV.unk, h]; rfl
theorem unkss_rows (l : List Row) : AV.unkss (l.map rowC) = l.map rowC := unkss_map rowC (fun x => unk_edges x.1 x.2 .unk) l
theorem putRaw_unk (m : Mach) (s i : Int) (e : Int × Int) : AV.unkss (putRaw m s i e) = (putR m s i e).map rowC := by
  unfold putRaw putR
  rw [unkss_eq, List.map_set, unk_edges, ← unkss_eq, unkss_rows, List.map_set]
theorem rawRows_unk (m : Mach) (f : FA) : AV.unkss (rawRows m f) = (mutRows m f).map rowC := by
  have app : ∀ (A B : List (List AV)), AV.unkss (A ++ B) = AV.unkss A ++ AV.unkss B := fun A B => by simp [unkss_eq]
  unfold rawRows mutRows
  split
  · exact putRaw_unk _ _ _ _
  split
  · exact putRaw_unk _ _ _ _
  split
  · exact putRaw_unk _ _ _ _
  split
  · rw [app, putRaw_unk, List.map_append]
    congr 1
    simp only [AV.unkss, unk_edges]; rfl
  · rw [app, putRaw_unk, List.map_append]
    congr 1
    simp only [AV.unkss, unk_edges]; rfl
def applyRaw (m : Mach) (f : FA) : AV :=
  if checkF m f = 0 then .tu [.ag [.sc (.int .i64 m.ins), .sc (.int .i64 m.outs), .sl false (rawRows m f) .full], .sc (.int .i64 0)] else .tu [.ag [.sc (.int .i64 0), .sc (.int .i64 0), .sl true [] .zer], .sc (.int .i64 (checkF m f))]
def applyR (m : Mach) (f : FA) : AV :=
  if checkF m f = 0 then .tu [.ag (mutF m f).cells, .sc (.int .i64 0)] else .tu [.ag [.sc (.int .i64 0), .sc (.int .i64 0), .sl true [] .unk], .sc (.int .i64 (checkF m f))]
theorem applyRaw_unk (m : Mach) (f : FA) : (applyRaw m f).unk = applyR m f := by
  unfold applyRaw applyR
  split
  · simp only [AV.unk, AV.unks, rawRows_unk]; rfl
  · simp only [AV.unk, AV.unks, AV.unkss]
/-- No row that is there is nil. -/
def NoNil (m : Mach) : Prop := ∀ r ∈ m.rows, r.1 = true → r.2 = []
theorem NoNil.row {m : Mach} (hv : Valid m) (h : NoNil m) {r : Row} (hr : r ∈ m.rows) : r = (false, r.2) := by
  obtain ⟨b, l⟩ := r
  cases b with
  | false => rfl
  | true =>
    have h1 := h _ hr rfl
    have h2 := (hv.row _ hr).1
    have h3 := hv.ins
    simp only at h1 h2
    rw [h1] at h2
    simp at h2
    omega
/-- The first k rows, row S an object. -/
def rowsK (m : Mach) (k S : Nat) (v : AV) : List (List AV) := (((m.rows.take k).map fun r => (false, r.2)).map rowC).set S [v]
theorem copyR_take (m : Mach) (k : Nat) : ((m.rows.take k).map fun r => ((false, r.2) : Row)) = (copyR m).take k := by simp [copyR, List.map_take]
theorem rowsK_len {m : Mach} {k S : Nat} {v : AV} (h : k ≤ m.rows.length) : (rowsK m k S v).length = k := by simp [rowsK]; omega
theorem rowsK_other {m : Mach} {k S : Nat} {v : AV} {r : Row} (h : m.rows[k]? = some r) (hk : k ≠ S) : rowsK m k S v ++ [rowC (false, r.2)] = rowsK m (k + 1) S v := by
  obtain ⟨hi, he⟩ := List.getElem?_eq_some_iff.1 h
  have hl : (((m.rows.take k).map fun r => ((false, r.2) : Row)).map rowC).length = k := by simp; omega
  unfold rowsK
  rw [List.take_succ_eq_append_getElem hi, he, List.map_append, List.map_append]
  generalize ((m.rows.take k).map fun r => ((false, r.2) : Row)).map rowC = A at hl
  by_cases hS : S < k
  · rw [List.set_append_left _ _ (by omega)]; rfl
  · rw [List.set_append_right _ _ (by omega), List.set_eq_of_length_le (by omega : A.length ≤ S), List.set_eq_of_length_le (by simp; omega)]; rfl
theorem rowsK_self {m : Mach} {S : Nat} {v w : AV} {r : Row} (h : m.rows[S]? = some r) : rowsK m S S w ++ [[v]] = rowsK m (S + 1) S v := by
  obtain ⟨hi, he⟩ := List.getElem?_eq_some_iff.1 h
  have hl : (((m.rows.take S).map fun r => ((false, r.2) : Row)).map rowC).length = S := by simp; omega
  unfold rowsK
  rw [List.take_succ_eq_append_getElem hi, he, List.map_append, List.map_append]
  generalize ((m.rows.take S).map fun r => ((false, r.2) : Row)).map rowC = A at hl
  rw [List.set_append_right _ _ (by omega), List.set_eq_of_length_le (by omega : A.length ≤ S), hl, Nat.sub_self]
  rfl
theorem rowsK_any {m : Mach} {S : Nat} {v w : AV} : rowsK m S S v = rowsK m S S w := by
  unfold rowsK
  rw [List.set_eq_of_length_le (by simp; omega), List.set_eq_of_length_le (by simp; omega)]

theorem rowC_norefs (r : Row) : AV.norefs (rowC r) = true := by simp [rowC, AV.norefs, AV.noref, norefs_edges]
theorem rowsK_get {m : Mach} {k S : Nat} {v : AV} (h : S < k) (hk : k ≤ m.rows.length) : (rowsK m k S v)[S]? = some [v] := by
  unfold rowsK
  rw [List.getElem?_set_self (by simp; omega)]
theorem rowsK_norefs {m : Mach} {k S : Nat} {v : AV} (h : S < k) (hk : k ≤ m.rows.length) (hv : v.noref = false) : (rowsK m k S v).all AV.norefs = false := by
  rw [List.all_eq_false]
  exact ⟨[v], List.mem_of_getElem? (rowsK_get h hk), by simp [AV.norefs, hv]⟩
theorem rowC_ren (K : List (Nat × Nat)) (r : Row) : (rowC r).map (AV.ren K) = rowC r := by
  have h : (AV.sl r.1 (r.2.map edgeC) Cp.unk).noref = true := by simp [AV.noref, norefs_edges]
  simp [rowC, AV.ren, h]
theorem rowsK_ren (m : Mach) (k S : Nat) (v : AV) (K : List (Nat × Nat)) : (rowsK m k S v).map (fun c => c.map (AV.ren K)) = rowsK m k S (v.ren K) := by
  unfold rowsK
  rw [List.map_set, List.map_map]
  have e : List.map ((fun c => c.map (AV.ren K)) ∘ rowC) ((m.rows.take k).map fun r => ((false, r.2) : Row)) = List.map rowC ((m.rows.take k).map fun r => ((false, r.2) : Row)) := List.map_congr_left fun r _ => rowC_ren K r
  rw [e]; rfl
theorem clip81r_is (es : List (List AV)) (c : Cp) (h1 : ∀ c ∈ es, c.length = 1) (hn : es.all AV.norefs = true) : PureIs prog 81 [.sl false es c] (.sl false es .full) := by
  refine PureIs.of (nv := 1) (hid := [2]) func81 rfl (by kernel_rfl) (by simp [ntmps81]) fun _ => ?_
  rw [ntmps81, results81]
  refine EvC.seq (EvC.rg (by (simp only [go_sem]) <;> rfl) (by simp) ?_)
  refine EvC.seq (EvC.rg (by (simp only [go_sem, Int.toNat_natCast, List.drop_zero, List.take_length]) <;> rfl) (by simp; exact h1) ?_)
  refine EvC.ret ⟨.inl rfl, _, (by (simp only [go_sem]) <;> rfl), ?_, by simp [AV.noref, hn]⟩
  simp only [go_sem]
set_option maxHeartbeats 8000000 in
theorem apply71_is {m : Mach} (hv : Valid m) (hc0 : checkM m = 0) (hnn : NoNil m) (f : FA) : PureIs prog 71 [.ag m.cells, .ag f.cells] (applyR m f) := by
  rw [← applyRaw_unk]
  refine PureIs.weakR ?_
  have q0 := check78_is hv hc0 f
  have hkf : checkF m f = 0 → faultB m f = true := fun h => by
    unfold checkF at h
    split at h
    · assumption
    · cases h
  unfold applyRaw
  obtain ⟨kd, s, i, t, a, o⟩ := f
  refine PureIs.of (nv := 8) (hid := [9, 10, 11, 12, 17, 23, 24, 25, 26, 34, 48, 53, 67, 87, 94, 101]) func71 rfl (by kernel_rfl) (by simp [ntmps71]) fun _ => ?_
  rw [ntmps71, results71]
  refine EvC.seq (EvC.rg (by (simp only [go_sem, Mach.cells, FA.cells]) <;> rfl) (by simp) ?_)
  refine EvC.frzB 0 (by (simp only [go_sem]) <;> rfl) ?_
  refine EvC.frzB 1 (by (simp only [go_sem]) <;> rfl) ?_
  refine EvC.seq ?_
  apply EvC.seq
  apply EvC.tr
  · apply Tr.run
    · (simp only [go_sem, Mach.cells, FA.cells]) <;> rfl
    · simp
    apply Tr.cons
    · exact .call rfl rfl (by (simp only [go_sem]) <;> rfl) (by (simp only [go_sem]) <;> rfl) (by (simp only [go_sem]) <;> rfl) (by (simp only [go_sem]) <;> rfl) (by (simp only [go_sem]) <;> rfl) (q0)
    apply Tr.done
    · (simp only [go_sem]) <;> rfl
    · simp
  refine EvC.seq (EvC.rg (by (simp only [go_sem]) <;> rfl) (by simp) ?_)
  refine EvC.cond (by (simp only [go_sem]) <;> rfl) (fun hc => ?_) (fun hc => ?_)
  · -- then
    have hc' : ¬ checkF m ⟨kd, s, i, t, a, o⟩ = 0 := by simpa using hc
    refine EvC.seq (EvC.rg (by (simp only [go_sem]) <;> rfl) (by simp) ?_)
    rw [if_neg hc']
    refine EvC.ret ⟨.inl rfl, _, (by (simp only [go_sem]) <;> rfl), ?_, rfl⟩
    simp only [go_sem]
  have hc' : checkF m ⟨kd, s, i, t, a, o⟩ = 0 := by simpa using hc
  rw [if_pos hc']
  have hfb := hkf hc'
  clear hc hkf
  unfold faultB at hfb
  simp only [Bool.and_eq_true] at hfb
  obtain ⟨hp, hd, hkb⟩ := hfb
  obtain ⟨r, h1, h2, he⟩ := step_in hv hd
  obtain ⟨b1, b2, _⟩ := definedB_iff.1 hd
  have hkd := plainB_kind hp
  simp only at hkd
  obtain ⟨S, hS⟩ : ∃ S : Nat, S = s.toNat := ⟨_, rfl⟩
  have hSl : S < m.rows.length := by omega
  rw [← hS] at h1
  have hn1 := hv.rows
  have hro := hnn.row hv (List.mem_of_getElem? h1)
  have hrl := (hv.row _ (List.mem_of_getElem? h1)).1
  have hi1 := hv.ins
  refine EvC.skip ?_
  refine EvC.seq (EvC.rg (by (simp only [go_sem]) <;> rfl) (by simp) ?_)
  refine EvC.seq (EvC.rg (by (simp only [go_sem]) <;> rfl) (by simp) ?_)
  refine EvC.ownC 11 2 1 (by (simp only [go_sem]) <;> rfl) ?_
  refine EvC.thaw 15 (by (simp only [go_sem]) <;> rfl) ?_
  refine EvC.seq ?_
  refine EvC.seq (EvC.rg (by (simp only [go_sem, List.length_map]) <;> rfl) (by simp) ?_)
  refine EvC.block ?_  -- 0
  obtain ⟨n, hn⟩ : ∃ n, n = r.2.length := ⟨_, rfl⟩
  have hn0 : n ≠ 0 := by omega
  obtain ⟨memK, hmK⟩ : ∃ memK : Nat → Mem, memK = fun k => (0, RObj.cells [.sc (.int .i64 0), .sc (.int .i64 0), .sl true [] .zer]) :: (1, .cells [.sc (.int .i64 m.ins), .sc (.int .i64 m.outs), .tl 2 k (decide (k = 0))]) :: (2, .arr 1 (rowsK m k S (.tv 3 n 0 n (.val n))) false) :: (if S < k then [(3, .arr 2 (r.2.map edgeC) false)] else []) := ⟨_, rfl⟩
  have hlo : ∀ k, k ≤ S → memK k = [(0, RObj.cells [.sc (.int .i64 0), .sc (.int .i64 0), .sl true [] .zer]), (1, .cells [.sc (.int .i64 m.ins), .sc (.int .i64 m.outs), .tl 2 k (decide (k = 0))]), (2, .arr 1 (((m.rows.take k).map fun r => ((false, r.2) : Row)).map rowC) false)] := fun k hk => by
    rw [hmK]
    simp only
    rw [if_neg (by omega), rowsK, List.set_eq_of_length_le (by simp; omega)]
  have hhi : ∀ k, S < k → memK k = [(0, RObj.cells [.sc (.int .i64 0), .sc (.int .i64 0), .sl true [] .zer]), (1, .cells [.sc (.int .i64 m.ins), .sc (.int .i64 m.outs), .tl 2 k (decide (k = 0))]), (2, .arr 1 (rowsK m k S (.tv 3 n 0 n (.val n))) false), (3, .arr 2 (r.2.map edgeC) false)] := fun k hk => by
    rw [hmK]
    simp only
    rw [if_pos hk]
  refine EvC.loopS (σ := Nat) (fun k => ⟨[(2, .ia [.sc (.int .i64 m.ins), .sc (.int .i64 m.outs), .sl m.nl (m.rows.map rowC) .unk]), (3, .ia [.sc (.int .i64 kd), .sc (.int .i64 s), .sc (.int .i64 i), .sc (.int .i64 t), .sc (.int .i64 a), .sc (.int .i64 o)]), (4, .rf 0 0), (7, .rf 1 0), (23, .sl m.nl (m.rows.map rowC) .unk), (24, .sc (.int .i64 m.rows.length)), (25, .sc (.int .i64 k))], [], memK k, 4⟩) (fun k => m.rows.length - k) (fun k => k ≤ m.rows.length) [2, 3, 4, 7, 23, 24, 25] 4 ?_ ?_
  · exact ⟨[(2, 0), (11, 1), (15, 2)], 0, rfl, (by rw [hlo 0 (by omega)]; (simp only [go_sem, Int.natCast_zero, List.take_zero, List.map_nil]) <;> rfl), Nat.zero_le _⟩
  intro k hk1
  by_cases hkl : k < m.rows.length
  rotate_left
  · -- behind the loop
    obtain rfl : k = m.rows.length := by omega
    rw [hhi m.rows.length hSl]
    have dk : decide ((m.rows.length : Int) < m.rows.length) = false := decide_eq_false (by omega)
    refine EvC.seq (EvC.rg (by (simp only [go_sem]) <;> rfl) (by simp) ?_)
    refine EvC.seq ?_
    refine EvC.cond_false (by (simp only [go_sem, dk]) <;> rfl) ?_
    refine EvC.exit ?_  -- 0
    have hNd : decide (m.rows.length = 0) = false := decide_eq_false (by omega)
    have hg := rowsK_get (v := .tv 3 n 0 n (.val n)) hSl (Nat.le_refl m.rows.length)
    have hRl := rowsK_len (S := S) (v := .tv 3 n 0 n (.val n)) (Nat.le_refl m.rows.length)
    have hel : (r.2.map edgeC).length = n := by rw [List.length_map]; exact hn.symm
    have hin : i.toNat < n := by omega
    apply EvC.seq
    apply EvC.drd mixed
    · (simp only [go_sem, hg, hRl, hel, ← hS, hNd]) <;> rfl
    · simp; try omega
    · kernel_rfl
    have hrowAt : rowAt m s = r.2 := by unfold rowAt; rw [← hS, h1]; rfl
    refine EvC.mergeC (α := List (Int × Int) × List (List AV)) (fun p => ⟨[(4, .rf 0 0), (7, .rf 1 0)], [], [(0, .cells [.sc (.int .i64 0), .sc (.int .i64 0), .sl true [] .zer]), (1, .cells [.sc (.int .i64 m.ins), .sc (.int .i64 m.outs), .tl 2 (m.rows.length + p.2.length) false]), (2, .arr 1 (rowsK m m.rows.length S (.tv 3 n 0 n (.val n)) ++ p.2) false), (3, .arr 2 (p.1.map edgeC) false)], 4⟩)
      (fun p => p.1.length = n ∧ p.2.all AV.norefs = true ∧ (∀ c ∈ p.2, c.length = 1) ∧ rowsK m m.rows.length S (.sl false (p.1.map edgeC) .full) ++ p.2 = rawRows m ⟨kd, s, i, t, a, o⟩) ?_ ?_
    rotate_left
    · -- the end
      rintro ⟨es, ex⟩ ⟨hes, hex1, hex2, hraw⟩
      simp only at hes hex1 hex2 hraw ⊢
      have hel2 : (es.map edgeC).length = n := by rw [List.length_map]; exact hes
      have hRe : (rowsK m m.rows.length S (.tv 3 n 0 n (.val n)) ++ ex).length = m.rows.length + ex.length := by rw [List.length_append, hRl]
      have hge : (rowsK m m.rows.length S (.tv 3 n 0 n (.val n)) ++ ex)[S]? = some [.tv 3 n 0 n (.val n)] := by rw [List.getElem?_append_left (by rw [hRl]; exact hSl)]; exact hg
      have hse : (rowsK m m.rows.length S (.tv 3 n 0 n (.val n)) ++ ex).set S [.sl false (es.map edgeC) .full] = rawRows m ⟨kd, s, i, t, a, o⟩ := by
        rw [← hraw, List.set_append_left _ _ (by rw [hRl]; exact hSl)]
        unfold rowsK
        rw [List.set_set]
      generalize rowsK m m.rows.length S (.tv 3 n 0 n (.val n)) ++ ex = RW at hRe hge hse
      have hraw1 : (rawRows m ⟨kd, s, i, t, a, o⟩).all AV.norefs = true := by
        rw [← hraw, List.all_append, hex1, Bool.and_true, List.all_eq_true]
        intro c hc
        rcases List.mem_or_eq_of_mem_set hc with h | rfl
        · obtain ⟨r, _, rfl⟩ := List.mem_map.1 h
          exact rowC_norefs r
        · simp [AV.norefs, AV.noref, norefs_edges]
      have hraw2 : ∀ c ∈ rawRows m ⟨kd, s, i, t, a, o⟩, c.length = 1 := by
        rw [← hraw]
        intro c hc
        rcases List.mem_append.1 hc with h | h
        · rcases List.mem_or_eq_of_mem_set h with h | rfl
          · obtain ⟨r, _, rfl⟩ := List.mem_map.1 h
            rfl
          · rfl
        · exact hex2 c h
      have hraw3 : (rawRows m ⟨kd, s, i, t, a, o⟩).length = m.rows.length + ex.length := by
        rw [← hraw, List.length_append, rowsK_len (Nat.le_refl _)]
      have qc := clip81r_is (rawRows m ⟨kd, s, i, t, a, o⟩) .unk hraw2 hraw1
      clear hraw
      generalize rawRows m ⟨kd, s, i, t, a, o⟩ = RR at *
      refine EvC.frz 3 (by (simp only [go_sem, hel2]) <;> rfl) ?_
      refine EvC.snapE 2 S (by (simp only [go_sem, hge, hel2, hse]) <;> rfl) ?_
      refine EvC.frzD 2 (by (simp only [go_sem, hraw1, hraw3]) <;> rfl) ?_
      apply EvC.seq
      apply EvC.tr
      · apply Tr.run
        · (simp only [go_sem]) <;> rfl
        · simp
        apply Tr.cons
        · exact .call rfl rfl (by (simp only [go_sem]) <;> rfl) (by (simp only [go_sem]) <;> rfl) (by (simp only [go_sem, hraw1]) <;> rfl) (by (simp only [go_sem]) <;> rfl) (by (simp only [go_sem]) <;> rfl) (qc)
        apply Tr.done
        · (simp only [go_sem]) <;> rfl
        · simp
      refine EvC.seq (EvC.rg (by (simp only [go_sem]) <;> rfl) (by simp) ?_)
      refine EvC.ret ⟨.inl rfl, _, (by (simp only [go_sem]) <;> rfl), ?_, by simp [AV.noref, AV.norefs, hraw1]⟩
      simp only [go_sem]
    · -- the switch
      have hfin : ∀ (es : List (Int × Int)) (ex : List (List AV)), es.length = n → rowsK m m.rows.length S (.sl false (es.map edgeC) .full) = ((copyR m).map rowC).set s.toNat [.sl false (es.map edgeC) .full] := fun es ex _ => by
        unfold rowsK copyR
        rw [List.take_length, ← hS]
      have hge : (r.2.map edgeC)[i.toNat]? = some (edgeC (stepM m s i)) := by rw [List.getElem?_map, h2]; rfl
      have hsetE : ∀ x y : Int, (r.2.map edgeC).set i.toNat [.sc (.int .i64 x), .sc (.int .i64 y)] = (r.2.set i.toNat (x, y)).map edgeC := fun x y => by rw [List.map_set]; rfl
      have hset2 : ∀ x : Int × Int, (r.2.set i.toNat x).length = n := fun x => by rw [List.length_set]; exact hn.symm
      have hnr : (rowsK m m.rows.length S (.tv 3 n 0 n (.val n))).all AV.norefs = false := rowsK_norefs hSl (Nat.le_refl _) rfl
      have hrn := rowsK_ren m m.rows.length S (.tv 3 n 0 n (.val n)) [(0, 0), (1, 1), (2, 2), (3, 3)]
      refine EvC.seq (EvC.rg (by (simp only [go_sem]) <;> rfl) (by simp) ?_)
      refine EvC.block ?_  -- 2
      have hraw : ∀ e' : Int × Int, rowsK m m.rows.length S (.sl false ((r.2.set i.toNat e').map edgeC) .full) = putRaw m s i e' := fun e' => by
        unfold putRaw
        rw [hfin _ [] (hset2 e'), hrowAt]
      generalize hE : stepM m s i = e at *
      rcases hkd with rfl | rfl | rfl | rfl | rfl
      · -- output
        refine EvC.seq (EvC.rg (by (simp only [go_sem]) <;> rfl) (by simp) ?_)
        refine EvC.cond_true (by (simp only [go_sem]) <;> rfl) ?_
        refine EvC.rg (by (simp only [go_sem, hge, edgeC, hel, hsetE]) <;> rfl) (by simp [edgeC]) ?_
        refine ⟨rfl, (r.2.set i.toNat (e.1, o), []), ⟨hset2 _, rfl, (fun _ h => by cases h), ?_⟩, fun c Q h => ?_⟩
        · rw [List.append_nil, hraw, rawRows, if_pos rfl, hE]
        refine EvC.gcE [4, 7] [(0, 0), (1, 1), (2, 2), (3, 3)] 4 rfl (by (simp only [go_sem, hnr, hrn, Bool.and_false, List.append_nil, List.length_nil]) <;> rfl) h
      · -- transfer
        refine EvC.seq (EvC.rg (by (simp only [go_sem]) <;> rfl) (by simp) ?_)
        refine EvC.cond_false (by (simp only [go_sem]) <;> rfl) ?_
        refine EvC.seq (EvC.rg (by (simp only [go_sem]) <;> rfl) (by simp) ?_)
        refine EvC.cond_true (by (simp only [go_sem]) <;> rfl) ?_
        refine EvC.rg (by (simp only [go_sem, hge, edgeC, hel, hsetE]) <;> rfl) (by simp [edgeC]) ?_
        refine ⟨rfl, (r.2.set i.toNat (t, e.2), []), ⟨hset2 _, rfl, (fun _ h => by cases h), ?_⟩, fun c Q h => ?_⟩
        · rw [List.append_nil, hraw, rawRows, if_neg (show ¬ (1 : Int) = 0 by decide), if_pos (show (1 : Int) = 1 from rfl), hE]
        refine EvC.gcE [4, 7] [(0, 0), (1, 1), (2, 2), (3, 3)] 4 rfl (by (simp only [go_sem, hnr, hrn, Bool.and_false, List.append_nil, List.length_nil]) <;> rfl) h
      · -- missing
        refine EvC.seq (EvC.rg (by (simp only [go_sem]) <;> rfl) (by simp) ?_)
        refine EvC.cond_false (by (simp only [go_sem]) <;> rfl) ?_
        refine EvC.seq (EvC.rg (by (simp only [go_sem]) <;> rfl) (by simp) ?_)
        refine EvC.cond_false (by (simp only [go_sem]) <;> rfl) ?_
        refine EvC.seq (EvC.rg (by (simp only [go_sem]) <;> rfl) (by simp) ?_)
        refine EvC.cond_true (by (simp only [go_sem]) <;> rfl) ?_
        refine EvC.rg (by (simp only [go_sem, hge, edgeC, hel, hsetE]) <;> rfl) (by simp [edgeC]) ?_
        refine ⟨rfl, (r.2.set i.toNat (-1, -1), []), ⟨hset2 _, rfl, (fun _ h => by cases h), ?_⟩, fun c Q h => ?_⟩
        · rw [List.append_nil, hraw, rawRows, if_neg (show ¬ (2 : Int) = 0 by decide), if_neg (show ¬ (2 : Int) = 1 by decide), if_pos (show (2 : Int) = 2 from rfl)]
        refine EvC.gcE [4, 7] [(0, 0), (1, 1), (2, 2), (3, 3)] 4 rfl (by (simp only [go_sem, hnr, hrn, Bool.and_false, List.append_nil, List.length_nil]) <;> rfl) h
      · -- extra
        have htn : 0 ≤ t ∧ t < m.rows.length := by
          unfold kindB at hkb
          rw [if_neg (show ¬ (3 : Int) = 0 by decide), if_neg (show ¬ (3 : Int) = 1 by decide), if_neg (show ¬ (3 : Int) = 2 by decide), if_pos (show (3 : Int) = 3 from rfl)] at hkb
          simpa [inN] using hkb
        have h5 : m.rows[t.toNat]? = some (m.rows[t.toNat]'(by omega)) := List.getElem?_eq_getElem (by omega)
        have h5m := List.getElem_mem (show t.toNat < m.rows.length by omega)
        have h5n := hnn.row hv h5m
        have h5r := (hv.row _ h5m).1
        have hrt : rowAt m t = (m.rows[t.toNat]'(by omega)).2 := by unfold rowAt; rw [h5]; rfl
        generalize m.rows[t.toNat]'(by omega) = r5 at h5 h5n h5r hrt
        obtain ⟨b5, e5⟩ := r5
        simp only [Prod.mk.injEq] at h5n h5r hrt
        obtain ⟨rfl, _⟩ := h5n
        have p1 := clone80_is e5 .unk (by omega)
        have p2 := clip79_is e5 .unk
        have hr8 : room (m.rows.length + 1) 24 = true := by simp only [room_eq, decide_eq_true_eq]; omega
        refine EvC.seq (EvC.rg (by (simp only [go_sem]) <;> rfl) (by simp) ?_)
        refine EvC.cond_false (by (simp only [go_sem]) <;> rfl) ?_
        refine EvC.seq (EvC.rg (by (simp only [go_sem]) <;> rfl) (by simp) ?_)
        refine EvC.cond_false (by (simp only [go_sem]) <;> rfl) ?_
        refine EvC.seq (EvC.rg (by (simp only [go_sem]) <;> rfl) (by simp) ?_)
        refine EvC.cond_false (by (simp only [go_sem]) <;> rfl) ?_
        refine EvC.seq (EvC.rg (by (simp only [go_sem]) <;> rfl) (by simp) ?_)
        refine EvC.seq ?_
        refine EvC.seq (EvC.rg (by (simp only [go_sem]) <;> rfl) (by simp) ?_)
        refine EvC.cond_false (by (simp only [go_sem]) <;> rfl) ?_
        refine EvC.skip ?_
        apply EvC.seq
        apply EvC.tr
        · apply Tr.run
          · (simp only [go_sem, h5, rowC, List.length_map]) <;> rfl
          · simp; try omega
          apply Tr.cons
          · exact .call rfl rfl (by (simp only [go_sem]) <;> rfl) (by (simp only [go_sem]) <;> rfl) (by (simp only [go_sem]) <;> rfl) (by (simp only [go_sem]) <;> rfl) (by (simp only [go_sem]) <;> rfl) (p1)
          apply Tr.run
          · (simp only [go_sem, h5, rowC, List.length_map]) <;> rfl
          · simp; try omega
          apply Tr.cons
          · exact .call rfl rfl (by (simp only [go_sem]) <;> rfl) (by (simp only [go_sem]) <;> rfl) (by (simp only [go_sem]) <;> rfl) (by (simp only [go_sem]) <;> rfl) (by (simp only [go_sem]) <;> rfl) (p2)
          apply Tr.done
          · (simp only [go_sem]) <;> rfl
          · simp
        refine EvC.seq ?_
        refine EvC.seq (EvC.rg (by (simp only [go_sem]) <;> rfl) (by simp) ?_)
        refine EvC.cond_false (by (simp only [go_sem]) <;> rfl) ?_
        refine EvC.skip ?_
        refine EvC.seq (EvC.rg (by (simp only [go_sem, hge, edgeC, hel, hsetE, List.length_map]) <;> rfl) (by simp [edgeC]) ?_)
        refine EvC.rg (by (simp only [go_sem, hRl, hr8]) <;> rfl) (by simp) ?_
        have hex1 : ([[.sl false (e5.map edgeC) .unk]] : List (List AV)).all AV.norefs = true := by simp [AV.norefs, AV.noref, norefs_edges]
        have hex3 : ([[.sl false (e5.map edgeC) .unk]] : List (List AV)).map (fun c => c.map (AV.ren [(0, 0), (1, 1), (2, 2), (3, 3)])) = [[.sl false (e5.map edgeC) .unk]] := by simp [AV.ren, AV.noref, norefs_edges]
        generalize hXX : ([[.sl false (e5.map edgeC) .unk]] : List (List AV)) = XX at hex1 hex3 ⊢
        have hXl : XX.length = 1 := by rw [← hXX]; rfl
        refine ⟨rfl, (r.2.set i.toNat ((m.rows.length : Int), e.2), XX), ⟨hset2 _, hex1, (fun c hc => by subst hXX; simp only [List.mem_singleton] at hc; rw [hc]; rfl), ?_⟩, fun c Q h => ?_⟩
        · rw [hraw, rawRows, if_neg (show ¬ (3 : Int) = 0 by decide), if_neg (show ¬ (3 : Int) = 1 by decide), if_neg (show ¬ (3 : Int) = 2 by decide), if_pos (show (3 : Int) = 3 from rfl), hE, hrt, hXX]
        rw [hXl] at h
        refine EvC.gcE [4, 7] [(0, 0), (1, 1), (2, 2), (3, 3)] 4 rfl (by (simp only [go_sem, hnr, hrn, List.all_append, Bool.false_and, hex1, hex3, List.map_append]) <;> rfl) h
      · -- deep
        have hd2 : definedB m e.1 a = true := by
          unfold kindB at hkb
          rw [if_neg (show ¬ (4 : Int) = 0 by decide), if_neg (show ¬ (4 : Int) = 1 by decide), if_neg (show ¬ (4 : Int) = 2 by decide), if_neg (show ¬ (4 : Int) = 3 by decide)] at hkb
          simp only [Bool.and_eq_true] at hkb
          rw [hE] at hkb
          exact hkb.2.1
        obtain ⟨r5, h5, h5i, _⟩ := step_in hv hd2
        obtain ⟨c1, c2, _⟩ := definedB_iff.1 hd2
        have h5m := List.mem_of_getElem? h5
        have h5n := hnn.row hv h5m
        have h5r := (hv.row _ h5m).1
        have hrt : rowAt m e.1 = r5.2 := by unfold rowAt; rw [h5]; rfl
        obtain ⟨b5, e5⟩ := r5
        simp only [Prod.mk.injEq] at h5n h5r hrt h5i
        obtain ⟨rfl, _⟩ := h5n
        obtain ⟨q, hq⟩ : ∃ q, q = e5.length := ⟨_, rfl⟩
        have q1 := clone80_new e5 .unk (by omega) (by omega)
        have hr8 : room (m.rows.length + 1) 24 = true := by simp only [room_eq, decide_eq_true_eq]; omega
        refine EvC.seq (EvC.rg (by (simp only [go_sem]) <;> rfl) (by simp) ?_)
        refine EvC.cond_false (by (simp only [go_sem]) <;> rfl) ?_
        refine EvC.seq (EvC.rg (by (simp only [go_sem]) <;> rfl) (by simp) ?_)
        refine EvC.cond_false (by (simp only [go_sem]) <;> rfl) ?_
        refine EvC.seq (EvC.rg (by (simp only [go_sem]) <;> rfl) (by simp) ?_)
        refine EvC.cond_false (by (simp only [go_sem]) <;> rfl) ?_
        refine EvC.seq (EvC.rg (by (simp only [go_sem]) <;> rfl) (by simp) ?_)
        refine EvC.seq ?_
        refine EvC.seq (EvC.rg (by (simp only [go_sem]) <;> rfl) (by simp) ?_)
        refine EvC.cond_true (by (simp only [go_sem]) <;> rfl) ?_
        refine EvC.rg (by (simp only [go_sem, hge, edgeC, hel]) <;> rfl) (by simp) ?_
        refine EvC.seq ?_
        apply EvC.tr  -- R16
        · apply Tr.run
          · (simp only [go_sem, h5, rowC]) <;> rfl
          · simp; try omega
          apply Tr.cons
          · exact .callN rfl rfl (by (simp only [go_sem]) <;> rfl) (by (simp only [go_sem]) <;> rfl) (by (simp only [go_sem]) <;> rfl) (by (simp only [go_sem]) <;> rfl) (by (simp only [go_sem]) <;> rfl) q1
          apply Tr.cons
          · exact .clip (i := 39) (n := e5.length) rfl rfl (by (simp only [go_sem]) <;> rfl) (by (simp only [go_sem]) <;> rfl) (by (simp only [go_sem, List.length_map]) <;> rfl) (by (simp only [go_sem]) <;> rfl) (by rw [List.length_map]) (by omega) (by omega) (by (simp only [go_sem]) <;> rfl) clip79_clips
          apply Tr.done
          · (simp only [go_sem]) <;> rfl
          · simp
        have h5g : (e5.map edgeC)[a.toNat]? = some (edgeC (stepM m e.1 a)) := by rw [List.getElem?_map, h5i]; rfl
        have h5s : ∀ x y : Int, (e5.map edgeC).set a.toNat [.sc (.int .i64 x), .sc (.int .i64 y)] = (e5.set a.toNat (x, y)).map edgeC := fun x y => by rw [List.map_set]; rfl
        have h5l : (e5.set a.toNat ((stepM m e.1 a).1, o)).length = e5.length := List.length_set
        refine EvC.seq ?_
        refine EvC.seq (EvC.rg (by (simp only [go_sem]) <;> rfl) (by simp) ?_)
        refine EvC.cond_true (by (simp only [go_sem]) <;> rfl) ?_
        refine EvC.rg (by (simp only [go_sem, h5g, edgeC, List.length_map, h5s]) <;> rfl) (by simp; try omega) ?_
        refine EvC.seq (EvC.rg (by (simp only [go_sem, hge, edgeC, hel, hsetE, List.length_map]) <;> rfl) (by simp [edgeC]) ?_)
        refine EvC.frz 39 (by (simp only [go_sem, List.length_map, h5l]) <;> rfl) ?_
        refine EvC.rg (by (simp only [go_sem, hRl, hr8]) <;> rfl) (by simp) ?_
        have hex1 : ([[.sl false ((e5.set a.toNat ((stepM m e.1 a).1, o)).map edgeC) .full]] : List (List AV)).all AV.norefs = true := by simp [AV.norefs, AV.noref, norefs_edges]
        have hex3 : ([[.sl false ((e5.set a.toNat ((stepM m e.1 a).1, o)).map edgeC) .full]] : List (List AV)).map (fun c => c.map (AV.ren [(0, 0), (1, 1), (2, 2), (3, 3)])) = [[.sl false ((e5.set a.toNat ((stepM m e.1 a).1, o)).map edgeC) .full]] := by simp [AV.ren, AV.noref, norefs_edges]
        generalize hXX : ([[.sl false ((e5.set a.toNat ((stepM m e.1 a).1, o)).map edgeC) .full]] : List (List AV)) = XX at hex1 hex3 ⊢
        have hXl : XX.length = 1 := by rw [← hXX]; rfl
        refine ⟨rfl, (r.2.set i.toNat ((m.rows.length : Int), e.2), XX), ⟨hset2 _, hex1, (fun c hc => by subst hXX; simp only [List.mem_singleton] at hc; rw [hc]; rfl), ?_⟩, fun c Q h => ?_⟩
        · rw [hraw, rawRows, if_neg (show ¬ (4 : Int) = 0 by decide), if_neg (show ¬ (4 : Int) = 1 by decide), if_neg (show ¬ (4 : Int) = 2 by decide), if_neg (show ¬ (4 : Int) = 3 by decide), hE, hrt, hXX]
        rw [hXl] at h
        refine EvC.gcE [4, 7] [(0, 0), (1, 1), (2, 2), (3, 3)] 4 rfl (by (simp only [go_sem, hnr, hrn, List.all_append, Bool.false_and, hex1, hex3, List.map_append]) <;> rfl) h
  have dk : decide ((k : Int) < m.rows.length) = true := decide_eq_true (by omega)
  have hk : m.rows[k]? = some (m.rows[k]'hkl) := List.getElem?_eq_getElem hkl
  have hkm := List.getElem_mem hkl
  have hkn := hnn.row hv hkm
  have hkr := (hv.row _ hkm).1
  generalize m.rows[k]'hkl = rk at hk hkn hkr
  obtain ⟨bk, es⟩ := rk
  simp only [Prod.mk.injEq] at hkn hkr
  obtain ⟨rfl, _⟩ := hkn
  have hin : (k : Int).toNat = k := Int.toNat_natCast k
  have hr8 : room (k + 1) 24 = true := by simp only [room_eq, decide_eq_true_eq]; omega
  have hk1d : decide (k + 1 = 0) = false := decide_eq_false (by omega)
  have hel : (es.map edgeC).length = es.length := List.length_map _
  by_cases hkS : k = S
  · subst hkS
    have hre : r = (false, es) := by rw [hk] at h1; exact (Option.some.inj h1).symm
    subst hre
    have hsn := rowsK_self (m := m) (S := k) (v := .tv 3 n 0 n (.val n)) (w := .tv 3 n 0 n (.val n)) hk
    have hl0 : rowsK m k k (.tv 3 n 0 n (.val n)) = ((m.rows.take k).map fun r => ((false, r.2) : Row)).map rowC := by rw [rowsK, List.set_eq_of_length_le (by simp; omega)]
    rw [hlo k (by omega)]
    refine EvC.seq (EvC.rg (by (simp only [go_sem]) <;> rfl) (by simp) ?_)
    refine EvC.seq ?_
    refine EvC.cond_true (by (simp only [go_sem, dk]) <;> rfl) ?_
    refine EvC.skip ?_
    refine EvC.seq ?_
    refine EvC.block ?_  -- 1
    refine EvC.seq (EvC.rg (by (simp only [go_sem, hk, hin, rowC]) <;> rfl) (by simp) ?_)
    have hsn := rowsK_self (m := m) (S := k) (v := .tv 11 n 0 n (.val n)) (w := .tv 3 n 0 n (.val n)) hk
    rw [hl0] at hsn
    have q1 := clone80_new es .unk (by omega) (by omega)
    have hnl : n = es.length := hn
    have hRl4 : (rowsK m (k + 1) k (.tv 11 n 0 n (.val n))).length = k + 1 := rowsK_len (by omega)
    have hRl : (((m.rows.take k).map fun r => ((false, r.2) : Row)).map rowC).length = k := by simp; omega
    apply EvC.drwA mixed  -- R9
    · apply Tr.run
      · (simp only [go_sem]) <;> rfl
      · simp
      apply Tr.cons
      · exact .callN rfl rfl (by (simp only [go_sem]) <;> rfl) (by (simp only [go_sem]) <;> rfl) (by (simp only [go_sem]) <;> rfl) (by (simp only [go_sem]) <;> rfl) (by (simp only [go_sem]) <;> rfl) q1
      apply Tr.cons
      · exact .clip (i := 11) (n := es.length) rfl rfl (by (simp only [go_sem]) <;> rfl) (by (simp only [go_sem]) <;> rfl) (by (simp only [go_sem, hel]) <;> rfl) (by (simp only [go_sem]) <;> rfl) (by rw [hel]) (by omega) (by omega) (by (simp only [go_sem]) <;> rfl) clip79_clips
      apply Tr.done
      · (simp only [go_sem, hRl, hel, ← hnl, hsn, hRl4]) <;> rfl
      · simp [hr8]
    · kernel_rfl
    have hkk : k + 1 ≤ m.rows.length := hkl
    have hnr : (rowsK m (k + 1) k (.tv 11 n 0 n (.val n))).all AV.norefs = false := rowsK_norefs (by omega) hkk rfl
    have hrn := rowsK_ren m (k + 1) k (.tv 11 n 0 n (.val n)) [(0, 0), (1, 1), (2, 2), (11, 3)]
    refine EvC.rg (by (simp only [go_sem]) <;> rfl) (by exact inI64_of (by omega) (by omega)) ?_
    exact ⟨[(0, 0), (1, 1), (2, 2), (11, 3)], k + 1, rfl, (by rw [hhi (k + 1) (by omega)]; (simp only [go_sem, hnr, hrn, hk1d, Bool.and_false, Int.natCast_add, Int.natCast_one]) <;> rfl), hkk, by omega⟩
  · have hsn := rowsK_other (v := .tv 3 n 0 n (.val n)) hk hkS
    simp only at hsn
    have hkk : k + 1 ≤ m.rows.length := hkl
    have hRl : (((m.rows.take k).map fun r => ((false, r.2) : Row)).map rowC).length = k := by simp; omega
    have hRl2 : (rowsK m k S (.tv 3 n 0 n (.val n))).length = k := rowsK_len (by omega)
    have hRl3 : (rowsK m (k + 1) S (.tv 3 n 0 n (.val n))).length = k + 1 := rowsK_len (by omega)
    have hRl5 : (List.take (k + 1) m.rows).length = k + 1 := by simp; omega
    have q1 := clone80_is es .unk (by omega)
    have q2 := clip79_is es .unk
    rcases Nat.lt_or_ge k S with hlt | hge
    · have hl0 : rowsK m k S (.tv 3 n 0 n (.val n)) = ((m.rows.take k).map fun r => ((false, r.2) : Row)).map rowC := by rw [rowsK, List.set_eq_of_length_le (by simp; omega)]
      have hl1 : rowsK m (k + 1) S (.tv 3 n 0 n (.val n)) = ((m.rows.take (k + 1)).map fun r => ((false, r.2) : Row)).map rowC := by rw [rowsK, List.set_eq_of_length_le (by simp; omega)]
      rw [hl0, hl1] at hsn
      have hsn : List.map rowC (List.map (fun r => (false, r.snd)) (List.take k m.rows)) ++ [[.sl false (es.map edgeC) .unk]] = List.map rowC (List.map (fun r => (false, r.snd)) (List.take (k + 1) m.rows)) := hsn
      rw [hlo k (by omega)]
      refine EvC.seq (EvC.rg (by (simp only [go_sem]) <;> rfl) (by simp) ?_)
      refine EvC.seq ?_
      refine EvC.cond_true (by (simp only [go_sem, dk]) <;> rfl) ?_
      refine EvC.skip ?_
      refine EvC.seq ?_
      refine EvC.block ?_  -- 1
      refine EvC.seq (EvC.rg (by (simp only [go_sem, hk, hin, rowC]) <;> rfl) (by simp) ?_)
      apply EvC.drwA mixed  -- R9
      · apply Tr.run
        · (simp only [go_sem]) <;> rfl
        · simp
        apply Tr.cons
        · exact .call rfl rfl (by (simp only [go_sem]) <;> rfl) (by (simp only [go_sem]) <;> rfl) (by (simp only [go_sem]) <;> rfl) (by (simp only [go_sem]) <;> rfl) (by (simp only [go_sem]) <;> rfl) q1
        apply Tr.cons
        · exact .call rfl rfl (by (simp only [go_sem]) <;> rfl) (by (simp only [go_sem]) <;> rfl) (by (simp only [go_sem]) <;> rfl) (by (simp only [go_sem]) <;> rfl) (by (simp only [go_sem]) <;> rfl) q2
        apply Tr.done
        · (simp only [go_sem, hRl, hsn, List.length_map, hRl5]) <;> rfl
        · simp [hr8]
      · kernel_rfl
      refine EvC.rg (by (simp only [go_sem]) <;> rfl) (by exact inI64_of (by omega) (by omega)) ?_
      have hnr : (List.map rowC (List.map (fun r => ((false, r.snd) : Row)) (List.take (k + 1) m.rows))).all AV.norefs = true := by
        simp only [List.all_eq_true]
        intro c hc
        obtain ⟨r, _, rfl⟩ := List.mem_map.1 hc
        exact rowC_norefs r
      exact ⟨[(0, 0), (1, 1), (2, 2)], k + 1, rfl, (by rw [hlo (k + 1) (by omega)]; (simp only [go_sem, hnr, hk1d, Bool.and_false, Int.natCast_add, Int.natCast_one]) <;> rfl), hkk, by omega⟩
    · have hsn : rowsK m k S (.tv 3 n 0 n (.val n)) ++ [[.sl false (es.map edgeC) .unk]] = rowsK m (k + 1) S (.tv 3 n 0 n (.val n)) := hsn
      rw [hhi k (by omega)]
      refine EvC.seq (EvC.rg (by (simp only [go_sem]) <;> rfl) (by simp) ?_)
      refine EvC.seq ?_
      refine EvC.cond_true (by (simp only [go_sem, dk]) <;> rfl) ?_
      refine EvC.skip ?_
      refine EvC.seq ?_
      refine EvC.block ?_  -- 1
      refine EvC.seq (EvC.rg (by (simp only [go_sem, hk, hin, rowC]) <;> rfl) (by simp) ?_)
      apply EvC.drwA mixed  -- R9
      · apply Tr.run
        · (simp only [go_sem]) <;> rfl
        · simp
        apply Tr.cons
        · exact .call rfl rfl (by (simp only [go_sem]) <;> rfl) (by (simp only [go_sem]) <;> rfl) (by (simp only [go_sem]) <;> rfl) (by (simp only [go_sem]) <;> rfl) (by (simp only [go_sem]) <;> rfl) q1
        apply Tr.cons
        · exact .call rfl rfl (by (simp only [go_sem]) <;> rfl) (by (simp only [go_sem]) <;> rfl) (by (simp only [go_sem]) <;> rfl) (by (simp only [go_sem]) <;> rfl) (by (simp only [go_sem]) <;> rfl) q2
        apply Tr.done
        · (simp only [go_sem, hRl2, hsn, hRl3]) <;> rfl
        · simp [hr8]
      · kernel_rfl
      have hnr : (rowsK m (k + 1) S (.tv 3 n 0 n (.val n))).all AV.norefs = false := rowsK_norefs (by omega) hkk rfl
      have hrn := rowsK_ren m (k + 1) S (.tv 3 n 0 n (.val n)) [(0, 0), (1, 1), (2, 2), (3, 3)]
      refine EvC.rg (by (simp only [go_sem]) <;> rfl) (by exact inI64_of (by omega) (by omega)) ?_
      exact ⟨[(0, 0), (1, 1), (2, 2), (3, 3)], k + 1, rfl, (by rw [hhi (k + 1) (by omega)]; (simp only [go_sem, hnr, hrn, hk1d, Bool.and_false, Int.natCast_add, Int.natCast_one]) <;> rfl), hkk, by omega⟩
end Go.Avl
namespace Go.Avl
open Go Go.Proofs.Tryd
set_option maxRecDepth 10000
set_option linter.unusedSimpArgs false

/-! ### The mutants -/
theorem norefs_mcells (m : Mach) : AV.norefs m.cells = true := by
  have h : (m.rows.map rowC).all AV.norefs = true := by
    rw [List.all_eq_true]
    intro c hc
    obtain ⟨r, _, rfl⟩ := List.mem_map.1 hc
    exact rowC_norefs r
  simp [Mach.cells, AV.norefs, AV.noref, h]
theorem norefs_machs (ms : List Mach) : (ms.map Mach.cells).all AV.norefs = true := by
  rw [List.all_eq_true]
  intro c hc
  obtain ⟨r, _, rfl⟩ := List.mem_map.1 hc
  exact norefs_mcells r
/-- Why a list of faults is not one of a machine, or 0. -/
def errFs (m : Mach) : List FA → Int
  | [] => 0
  | f :: r => if checkF m f = 0 then errFs m r else checkF m f
def mutsR (m : Mach) (fs : List FA) : AV :=
  if errFs m fs = 0 then .tu [.sl false ((fs.map (mutF m)).map Mach.cells) .unk, .sc (.int .i64 0)] else .tu [.sl true [] .unk, .sc (.int .i64 (errFs m fs))]
theorem errFs_zero {m : Mach} : ∀ {fs : List FA}, errFs m fs = 0 → ∀ f ∈ fs, checkF m f = 0
  | [], _, _, h => by cases h
  | g :: r, h, f, hf => by
    unfold errFs at h
    split at h
    · rename_i h0
      rcases List.mem_cons.1 hf with rfl | hf
      · exact h0
      · exact errFs_zero h f hf
    · contradiction
def mutC (m : Mach) (fs : List FA) (k : Nat) : List (List AV) := ((fs.take k).map (mutF m)).map Mach.cells
theorem mutC_succ {m : Mach} {fs : List FA} {k : Nat} {f : FA} (h : fs[k]? = some f) : mutC m fs k ++ [(mutF m f).cells] = mutC m fs (k + 1) := by
  obtain ⟨hi, he⟩ := List.getElem?_eq_some_iff.1 h
  unfold mutC
  rw [List.take_succ_eq_append_getElem hi, he, List.map_append, List.map_append]; rfl
theorem mutC_len {m : Mach} {fs : List FA} {k : Nat} (h : k ≤ fs.length) : (mutC m fs k).length = k := by simp [mutC]; omega
@[go_sem] theorem norefs_mutC (m : Mach) (fs : List FA) (k : Nat) : (mutC m fs k).all AV.norefs = true := norefs_machs _

theorem mutants_is {m : Mach} (hv : Valid m) (hc0 : checkM m = 0) (hnn : NoNil m) (fn : Bool) (fs : List FA) (fc : Cp) (hfl : fs.length < 1000000) :
    PureIs prog 50 [.ag m.cells, .sl fn (fs.map FA.cells) fc] (mutsR m fs) := by
  refine PureIs.of (nv := 3) (hid := [4, 5, 6, 8, 9, 10, 14, 15, 16, 17, 27]) func50 rfl (by kernel_rfl) (by simp [ntmps50]) fun _ => ?_
  rw [ntmps50, results50]
  refine EvC.seq (EvC.rg (by (simp only [go_sem, Mach.cells]) <;> rfl) (by simp) ?_)
  refine EvC.frzB 0 (by (simp only [go_sem]) <;> rfl) ?_
  have hr : room fs.length 40 = true := by simp only [room_eq, decide_eq_true_eq]; omega
  refine EvC.seq (EvC.rg (by (simp only [go_sem, List.length_map]) <;> rfl) (by simp [hr]; try omega) ?_)
  refine EvC.seq ?_
  refine EvC.seq (EvC.rg (by (simp only [go_sem, List.length_map]) <;> rfl) (by simp) ?_)
  refine EvC.block ?_  -- 0
  refine EvC.loopS (σ := Nat) (fun k => ⟨[(2, .ia [.sc (.int .i64 m.ins), .sc (.int .i64 m.outs), .sl m.nl (m.rows.map rowC) .unk]), (6, .tl 0 k false), (14, .sl fn (fs.map FA.cells) fc), (15, .sc (.int .i64 fs.length)), (16, .sc (.int .i64 k))], [], [(0, .arr 3 (mutC m fs k) false)], 1⟩) (fun k => fs.length - k) (fun k => k ≤ fs.length ∧ errFs m fs = errFs m (fs.drop k)) [2, 6, 14, 15, 16] 1 ?_ ?_
  · exact ⟨[(5, 0)], 0, rfl, (by (simp only [go_sem, Int.natCast_zero, mutC, List.take_zero, List.map_nil]) <;> rfl), Nat.zero_le _, rfl⟩
  rintro k ⟨hk1, hinv⟩
  have hml := mutC_len (m := m) hk1
  refine EvC.seq (EvC.rg (by (simp only [go_sem]) <;> rfl) (by simp) ?_)
  refine EvC.seq ?_
  refine EvC.cond (by (simp only [go_sem]) <;> rfl) (fun hc => ?_) (fun hc => ?_)
  rotate_left
  · -- else
    refine EvC.exit ?_  -- 0
    obtain rfl : fs.length = k := by have : ¬ k < fs.length := by simpa using hc
                                     omega
    rw [List.drop_length] at hinv
    have hinv : errFs m fs = 0 := hinv
    rw [mutsR, if_pos hinv]
    have hmc : (fs.map (mutF m)).map Mach.cells = mutC m fs fs.length := by rw [mutC, List.take_length]
    rw [hmc]
    have hn := norefs_mutC m fs fs.length
    generalize mutC m fs fs.length = L at hml hn
    refine EvC.frz 0 (by (simp only [go_sem, hn, hml]) <;> rfl) ?_
    refine EvC.seq (EvC.rg (by (simp only [go_sem, hml]) <;> rfl) (by simp) ?_)
    refine EvC.ret ⟨.inl rfl, _, (by (simp only [go_sem, hml]) <;> rfl), ?_, by simp [AV.noref, AV.norefs, hn]⟩
    simp only [go_sem, hml]
  have hkl : k < fs.length := by simpa using hc
  clear hc
  have he : fs[k]? = some (fs[k]'hkl) := List.getElem?_eq_getElem hkl
  have hdr : fs.drop k = fs[k]'hkl :: fs.drop (k + 1) := List.drop_eq_getElem_cons hkl
  generalize fs[k]'hkl = f at he hdr
  rw [hdr, errFs] at hinv
  have hin : (k : Int).toNat = k := Int.toNat_natCast k
  have q := apply71_is hv hc0 hnn f
  have hs := mutC_succ (m := m) he
  have hml2 := mutC_len (m := m) (k := k + 1) hkl
  have hr2 : room (k + 1) 40 = true := by simp only [room_eq, decide_eq_true_eq]; omega
  refine EvC.skip ?_
  refine EvC.seq ?_
  refine EvC.block ?_  -- 1
  refine EvC.seq (EvC.rg (by (simp only [go_sem, he, hin, FA.cells, List.length_map]) <;> rfl) (by simp) ?_)
  unfold applyR at q
  generalize mutF m f = mf at q hs
  have hmr : AV.norefs mf.cells = true := norefs_mcells mf
  simp only [Mach.cells] at q hs hmr
  by_cases h0 : checkF m f = 0
  · rw [if_pos h0] at q hinv
    apply EvC.seq
    apply EvC.tr
    · apply Tr.run
      · (simp only [go_sem, Mach.cells, FA.cells]) <;> rfl
      · simp
      apply Tr.cons
      · exact .call rfl rfl (by (simp only [go_sem]) <;> rfl) (by (simp only [go_sem]) <;> rfl) (by (simp only [go_sem]) <;> rfl) (by (simp only [go_sem]) <;> rfl) (by (simp only [go_sem]) <;> rfl) (q)
      apply Tr.done
      · (simp only [go_sem]) <;> rfl
      · simp
    refine EvC.seq ?_
    refine EvC.seq (EvC.rg (by (simp only [go_sem]) <;> rfl) (by simp) ?_)
    refine EvC.cond_false (by (simp only [go_sem]) <;> rfl) ?_
    refine EvC.skip ?_
    refine EvC.rg (by (simp only [go_sem, hml, hr2, hs]) <;> rfl) (by simp) ?_
    refine EvC.rg (by (simp only [go_sem]) <;> rfl) (by exact inI64_of (by omega) (by omega)) ?_
    exact ⟨[(0, 0)], k + 1, rfl, (by (simp only [go_sem, Int.natCast_add, Int.natCast_one, hml2]) <;> rfl), ⟨hkl, hinv⟩, by omega⟩
  · rw [if_neg h0] at q hinv
    apply EvC.seq
    apply EvC.tr
    · apply Tr.run
      · (simp only [go_sem, Mach.cells, FA.cells]) <;> rfl
      · simp
      apply Tr.cons
      · exact .call rfl rfl (by (simp only [go_sem]) <;> rfl) (by (simp only [go_sem]) <;> rfl) (by (simp only [go_sem]) <;> rfl) (by (simp only [go_sem]) <;> rfl) (by (simp only [go_sem]) <;> rfl) (q)
      apply Tr.done
      · (simp only [go_sem]) <;> rfl
      · simp
    refine EvC.seq ?_
    refine EvC.seq (EvC.rg (by (simp only [go_sem]) <;> rfl) (by simp) ?_)
    refine EvC.cond_true (by (simp only [go_sem, h0]) <;> rfl) ?_
    refine EvC.seq (EvC.rg (by (simp only [go_sem]) <;> rfl) (by simp) ?_)
    rw [mutsR, if_neg (by rw [hinv]; exact h0), hinv]
    refine EvC.ret ⟨.inl rfl, _, (by (simp only [go_sem]) <;> rfl), ?_, rfl⟩
    simp only [go_sem]
end Go.Avl
namespace Go.Avl
open Go Go.Proofs.Tryd
set_option maxRecDepth 10000
set_option linter.unusedSimpArgs false

theorem equal53_is (na nb : Bool) (a b : List Int) (ca cb : Cp) (hl : a.length < 1000000) :
    PureIs prog 53 [.sl na (a.map intC) ca, .sl nb (b.map intC) cb] (.sc (.bool (decide (a = b)))) := by
  refine PureIs.of (nv := 2) (hid := [4, 5, 10, 12, 13, 14, 24]) func53 rfl (by kernel_rfl) (by simp [ntmps53]) fun _ => ?_
  rw [ntmps53, results53]
  refine EvC.seq (EvC.rg (by (simp only [go_sem]) <;> rfl) (by simp) ?_)
  refine EvC.seq ?_
  refine EvC.seq (EvC.rg (by (simp only [go_sem, List.length_map]) <;> rfl) (by simp) ?_)
  by_cases hlen : a.length = b.length
  rotate_left
  · have hd : decide ((a.length : Int) = (b.length : Int)) = false := decide_eq_false (by omega)
    have hab : decide (a = b) = false := decide_eq_false fun h => hlen (by rw [h])
    rw [hab]
    refine EvC.cond_true (by (simp only [go_sem, hd]) <;> rfl) ?_
    refine EvC.seq (EvC.rg (by (simp only [go_sem]) <;> rfl) (by simp) ?_)
    refine EvC.ret ⟨.inl rfl, _, (by (simp only [go_sem]) <;> rfl), ?_, rfl⟩
    simp only [go_sem]
  have hd : decide ((a.length : Int) = (b.length : Int)) = true := decide_eq_true (by omega)
  refine EvC.cond_false (by (simp only [go_sem, hd]) <;> rfl) ?_
  refine EvC.skip ?_
  refine EvC.seq ?_
  refine EvC.seq (EvC.rg (by (simp only [go_sem, List.length_map]) <;> rfl) (by simp) ?_)
  refine EvC.block ?_  -- 0
  refine EvC.loopS (σ := Nat) (fun i => ⟨[(0, .sl na (a.map intC) ca), (1, .sl nb (b.map intC) cb), (12, .sc (.int .i64 a.length)), (13, .sc (.int .i64 i))], [], [], 0⟩) (fun i => a.length - i) (fun i => i ≤ a.length ∧ decide (a = b) = decide (a.drop i = b.drop i)) [0, 1, 12, 13] 0 ?_ ?_
  · exact ⟨[], 0, rfl, (by (simp only [go_sem, Int.natCast_zero]) <;> rfl), Nat.zero_le _, rfl⟩
  rintro i ⟨hi, hinv⟩
  refine EvC.seq (EvC.rg (by (simp only [go_sem]) <;> rfl) (by simp) ?_)
  refine EvC.seq ?_
  refine EvC.cond (by (simp only [go_sem]) <;> rfl) (fun hc => ?_) (fun hc => ?_)
  rotate_left
  · -- else
    refine EvC.exit ?_  -- 0
    obtain rfl : a.length = i := by have : ¬ i < a.length := by simpa using hc
                                    omega
    have h0 : decide (a = b) = true := by rw [hinv, List.drop_length, hlen, List.drop_length]; rfl
    rw [h0]
    refine EvC.seq (EvC.rg (by (simp only [go_sem]) <;> rfl) (by simp) ?_)
    refine EvC.ret ⟨.inl rfl, _, (by (simp only [go_sem]) <;> rfl), ?_, rfl⟩
    simp only [go_sem]
  have hil : i < a.length := by simpa using hc
  clear hc
  have he : a[i]? = some (a[i]'hil) := List.getElem?_eq_getElem hil
  have hf : b[i]? = some (b[i]'(by omega)) := List.getElem?_eq_getElem (by omega)
  generalize a[i]'hil = x at he
  generalize b[i]'(by omega) = y at hf
  rw [list_step he, list_step hf] at hinv
  have hin : (i : Int).toNat = i := Int.toNat_natCast i
  refine EvC.skip ?_
  refine EvC.seq ?_
  refine EvC.block ?_  -- 1
  refine EvC.seq (EvC.rg (by (simp only [go_sem]) <;> rfl) (by simp) ?_)
  apply EvC.seq
  apply EvC.drd mixed
  · (simp only [go_sem, he, hf, intC, hin, List.length_map]) <;> rfl
  · simp; try omega
  · kernel_rfl
  by_cases hxy : x = y
  · subst hxy
    refine EvC.cond_false (by (simp only [go_sem]) <;> rfl) ?_
    refine EvC.skip ?_
    refine EvC.rg (by (simp only [go_sem]) <;> rfl) (by exact inI64_of (by omega) (by omega)) ?_
    exact ⟨[], i + 1, rfl, (by (simp only [go_sem, Int.natCast_add, Int.natCast_one]) <;> rfl), ⟨hil, by rw [hinv]; simp⟩, by omega⟩
  · have d1 : decide (x = y) = false := decide_eq_false hxy
    refine EvC.cond_true (by (simp only [go_sem, d1]) <;> rfl) ?_
    refine EvC.seq (EvC.rg (by (simp only [go_sem]) <;> rfl) (by simp) ?_)
    rw [hinv]
    refine EvC.ret ⟨.inl rfl, _, (by (simp only [go_sem]) <;> rfl), ?_, rfl⟩
    simp only [go_sem]
    simp [hxy]

/-! ### Mutants are machines -/
theorem mutF_noNil (m : Mach) (f : FA) : NoNil (mutF m f) := by
  have hput : ∀ (s i : Int) (e : Int × Int), ∀ r ∈ putR m s i e, r.1 = false := by
    intro s i e r hr
    unfold putR copyR at hr
    rcases List.mem_or_eq_of_mem_set hr with h | rfl
    · obtain ⟨q, _, rfl⟩ := List.mem_map.1 h; rfl
    · rfl
  have h : ∀ r ∈ mutRows m f, r.1 = false := by
    intro r hr
    unfold mutRows at hr
    split at hr
    · exact hput _ _ _ r hr
    split at hr
    · exact hput _ _ _ r hr
    split at hr
    · exact hput _ _ _ r hr
    split at hr
    · rcases List.mem_append.1 hr with h | h
      · exact hput _ _ _ r h
      · rw [List.mem_singleton] at h; rw [h]
    · rcases List.mem_append.1 hr with h | h
      · exact hput _ _ _ r h
      · rw [List.mem_singleton] at h; rw [h]
  intro r hr h1
  rw [h r hr] at h1
  cases h1
theorem fitsR_mono {k k2 : Nat} {o a b : Int} (hk : k ≤ k2) (h : fitsR k o a b = true) : fitsR k2 o a b = true := by
  unfold fitsR at h ⊢
  simp only [Bool.or_eq_true, Bool.and_eq_true, decide_eq_true_eq] at h ⊢
  omega
theorem fitsR_in {k : Nat} {o a b : Int} (h1 : 0 ≤ a ∧ a < k) (h2 : 0 ≤ b ∧ b < o) : fitsR k o a b = true := by
  unfold fitsR
  simp only [Bool.or_eq_true, Bool.and_eq_true, decide_eq_true_eq]
  omega
theorem fitsR_none (k : Nat) (o : Int) : fitsR k o (-1) (-1) = true := by
  unfold fitsR
  simp
theorem stepM_out {m : Mach} (hv : Valid m) {s i : Int} (hd : definedB m s i = true) : 0 ≤ (stepM m s i).2 ∧ (stepM m s i).2 < m.outs := by
  obtain ⟨h1, h2, h3⟩ := definedB_iff.1 hd
  obtain ⟨r, _, _, k3⟩ := stepM_get hv h1 h2
  unfold fitsR at k3
  simp only [Bool.or_eq_true, Bool.and_eq_true, decide_eq_true_eq] at k3
  omega
def RowV (m : Mach) (k : Nat) (r : Row) : Prop := (r.2.length : Int) = m.ins ∧ ∀ e ∈ r.2, fitsR k m.outs e.1 e.2 = true
theorem RowV.set {m : Mach} {k : Nat} {l : List (Int × Int)} (h : RowV m k (false, l)) (i : Nat) {e : Int × Int} (he : fitsR k m.outs e.1 e.2 = true) : RowV m k (false, l.set i e) := by
  refine ⟨by simpa using h.1, fun x hx => ?_⟩
  rcases List.mem_or_eq_of_mem_set hx with h1 | rfl
  · exact h.2 x h1
  · exact he
theorem putR_rowV {m : Mach} (hv : Valid m) {s i : Int} (hs : 0 ≤ s ∧ s < m.rows.length) {e : Int × Int} {k : Nat} (hk : m.rows.length ≤ k) (he : fitsR k m.outs e.1 e.2 = true) : ∀ r ∈ putR m s i e, RowV m k r := by
  intro r hr
  have hb : ∀ q ∈ m.rows, RowV m k (false, q.2) := fun q hq => ⟨(hv.row q hq).1, fun x hx => fitsR_mono hk ((hv.row q hq).2 x hx)⟩
  unfold putR copyR at hr
  rcases List.mem_or_eq_of_mem_set hr with h | rfl
  · obtain ⟨q, hq, rfl⟩ := List.mem_map.1 h
    exact hb q hq
  · have h5 : m.rows[s.toNat]? = some (m.rows[s.toNat]'(by omega)) := List.getElem?_eq_getElem (by omega)
    have hrt : rowAt m s = (m.rows[s.toNat]'(by omega)).2 := by unfold rowAt; rw [h5]; rfl
    rw [hrt]
    exact (hb _ (List.getElem_mem _)).set _ he
theorem putR_len (m : Mach) (s i : Int) (e : Int × Int) : (putR m s i e).length = m.rows.length := by simp [putR, copyR]
theorem Valid.mk' {m : Mach} (hv : Valid m) {rs : List Row} (h1 : m.rows.length ≤ rs.length) (h2 : rs.length ≤ 64) (h : ∀ r ∈ rs, RowV m rs.length r) : Valid ⟨m.ins, m.outs, false, rs⟩ :=
  ⟨hv.ins, hv.outs, ⟨by have := hv.rows; show 1 ≤ rs.length; omega, h2⟩, fun r hr => h r hr⟩
theorem mutF_valid {m : Mach} (hv : Valid m) {f : FA} (hc : checkF m f = 0) : Valid (mutF m f) := by
  unfold checkF at hc
  split at hc
  rotate_left
  · cases hc
  rename_i hfb
  split at hc
  · cases hc
  rename_i h64
  unfold faultB at hfb
  simp only [Bool.and_eq_true] at hfb
  obtain ⟨hp, hd, hkb⟩ := hfb
  have hst := stepM_out hv hd
  obtain ⟨r, h1, h2, he⟩ := step_in hv hd
  obtain ⟨b1, b2, _⟩ := definedB_iff.1 hd
  have hr64 := hv.rows.2
  unfold kindB at hkb
  unfold mutF mutRows
  split
  · rename_i h0
    rw [if_pos h0] at hkb
    simp only [Bool.and_eq_true, inN, decide_eq_true_eq] at hkb
    exact hv.mk' (by rw [putR_len]; omega) (by rw [putR_len]; omega) (by rw [putR_len]; exact putR_rowV hv b1 (Nat.le_refl _) (fitsR_in he hkb.1))
  rename_i h0
  rw [if_neg h0] at hkb
  split
  · rename_i h1
    rw [if_pos h1] at hkb
    simp only [Bool.and_eq_true, inN, decide_eq_true_eq] at hkb
    exact hv.mk' (by rw [putR_len]; omega) (by rw [putR_len]; omega) (by rw [putR_len]; exact putR_rowV hv b1 (Nat.le_refl _) (fitsR_in hkb.1 hst))
  rename_i h1
  rw [if_neg h1] at hkb
  split
  · rename_i h2
    exact hv.mk' (by rw [putR_len]; omega) (by rw [putR_len]; omega) (by rw [putR_len]; exact putR_rowV hv b1 (Nat.le_refl _) (fitsR_none _ _))
  rename_i h2
  rw [if_neg h2] at hkb
  have h3k : 3 ≤ f.kind := by
    have := plainB_kind hp
    omega
  have h64' : m.rows.length + 1 ≤ 64 := by omega
  have hput : ∀ r ∈ putR m f.state f.input ((m.rows.length : Int), (stepM m f.state f.input).2), RowV m (m.rows.length + 1) r := putR_rowV hv b1 (by omega) (fitsR_in (by simp; omega) hst)
  have hone : ∀ (t : Int), 0 ≤ t ∧ t < m.rows.length → RowV m (m.rows.length + 1) (false, rowAt m t) := by
    intro t ht
    have h5 : m.rows[t.toNat]? = some (m.rows[t.toNat]'(by omega)) := List.getElem?_eq_getElem (by omega)
    have hrt : rowAt m t = (m.rows[t.toNat]'(by omega)).2 := by unfold rowAt; rw [h5]; rfl
    rw [hrt]
    have hq := hv.row _ (List.getElem_mem (show t.toNat < m.rows.length by omega))
    exact ⟨hq.1, fun x hx => fitsR_mono (by omega) (hq.2 x hx)⟩
  split
  · rename_i h3
    rw [if_pos h3] at hkb
    simp only [inN, Bool.and_eq_true, decide_eq_true_eq] at hkb
    have hl : (putR m f.state f.input ((m.rows.length : Int), (stepM m f.state f.input).2) ++ [((false, rowAt m f.to) : Row)]).length = m.rows.length + 1 := by rw [List.length_append, putR_len]; rfl
    refine hv.mk' (by omega) (by omega) ?_
    rw [hl]
    intro q hq
    rcases List.mem_append.1 hq with h | h
    · exact hput q h
    · rw [List.mem_singleton] at h
      rw [h]
      exact hone _ hkb
  · rename_i h3
    rw [if_neg h3] at hkb
    simp only [inN, Bool.and_eq_true, decide_eq_true_eq] at hkb
    obtain ⟨ho, hd2, _⟩ := hkb
    have he2 := (step_in hv hd2).choose_spec.2.2
    have hl : (putR m f.state f.input ((m.rows.length : Int), (stepM m f.state f.input).2) ++ [((false, (rowAt m (stepM m f.state f.input).1).set f.at'.toNat ((stepM m (stepM m f.state f.input).1 f.at').1, f.out)) : Row)]).length = m.rows.length + 1 := by rw [List.length_append, putR_len]; rfl
    refine hv.mk' (by omega) (by omega) ?_
    rw [hl]
    intro q hq
    rcases List.mem_append.1 hq with h | h
    · exact hput q h
    · rw [List.mem_singleton] at h
      rw [h]
      exact (hone _ he).set _ (fitsR_in (by omega) ho)
end Go.Avl
namespace Go.Avl
open Go Go.Proofs.Tryd
set_option maxRecDepth 10000
set_option linter.unusedSimpArgs false

/-! ### The items of words -/
abbrev Wd := Bool × List Int
def wdC (w : Wd) : List AV := [.sl w.1 (w.2.map intC) .unk]
@[go_sem] theorem norefs_wds (l : List Wd) : (l.map wdC).all AV.norefs = true := by simp [List.all_eq_true, wdC, AV.norefs, AV.noref]
def wordsErr (n : Int) : List Wd → Int
  | [] => 0
  | w :: r => if wordErr n w.2 = 0 then wordsErr n r else wordErr n w.2
theorem wordsErr_zero {n : Int} : ∀ {l : List Wd}, wordsErr n l = 0 → ∀ w ∈ l, wordErr n w.2 = 0
  | [], _, _, h => by cases h
  | v :: r, h, w, hw => by
    unfold wordsErr at h
    split at h
    · rename_i h0
      rcases List.mem_cons.1 hw with rfl | hw
      · exact h0
      · exact wordsErr_zero h w hw
    · contradiction
def pricesBad (a b : Int) : Bool := decide (a < 0) || (decide (1000 < a) || (decide (b < 0) || decide (1000 < b)))
def costZ (a b : Int) (l : List Wd) : Bool := l.any fun w => decide (a + b * w.2.length = 0)
/-- What a word kills of the first k mutants. -/
def killsK (m : Mach) (fs : List FA) (w : List Int) : Nat → List Int
  | 0 => []
  | k + 1 => if decide ((fs[k]?).map (fun f => runR (mutF m f) 0 w) = some (runR m 0 w)) = true then killsK m fs w k else killsK m fs w k ++ [(k : Int)]
theorem killsK_len (m : Mach) (fs : List FA) (w : List Int) : ∀ k, (killsK m fs w k).length ≤ k
  | 0 => Nat.le_refl 0
  | k + 1 => by
    have := killsK_len m fs w k
    unfold killsK
    split
    · omega
    · simp; omega
def itemF (m : Mach) (fs : List FA) (a b : Int) (w : Wd) : Item := ⟨a + b * w.2.length, (killsK m fs w.2 fs.length).isEmpty, killsK m fs w.2 fs.length⟩
/-- An item as it lies in the answer. -/
def itemU (x : Item) : List AV := [.sc (.int .i64 x.cost), .sl x.nl (x.kills.map intC) .full]
def itemsR (m : Mach) (fs : List FA) (l : List Wd) (a b : Int) : AV :=
  if 256 < fs.length ∨ 256 < l.length then .tu [.sl true [] .unk, .sc (.int .i64 3)]
  else if ¬ errFs m fs = 0 then .tu [.sl true [] .unk, .sc (.int .i64 (errFs m fs))]
  else if ¬ wordsErr m.ins l = 0 then .tu [.sl true [] .unk, .sc (.int .i64 (wordsErr m.ins l))]
  else if pricesBad a b = true then .tu [.sl true [] .unk, .sc (.int .i64 1)]
  else if costZ a b l = true then .tu [.sl true [] .unk, .sc (.int .i64 1)]
  else .tu [.sl false ((l.map (itemF m fs a b)).map itemU) .full, .sc (.int .i64 0)]
def zItem : List AV := [.sc (.int .i64 0), .sl true [] .zer]
def roomJ (n : Nat) (xs : List Item) : List (List AV) := roomL n zItem (xs.map itemU)
theorem norefs_itemU (xs : List Item) : (xs.map itemU).all AV.norefs = true := by simp [List.all_eq_true, itemU, AV.norefs, AV.noref]
theorem roomJ_len {n : Nat} {xs : List Item} (h : xs.length ≤ n) : (roomJ n xs).length = n := roomL_len (by simpa using h)
theorem roomJ_nil (n : Nat) : List.replicate n [AV.sc (.int .i64 0), .sl true [] .zer] = roomJ n [] := (roomL_nil n _).symm
theorem roomJ_app {n : Nat} {xs : List Item} (x : Item) (h : xs.length < n) : (roomJ n xs).take xs.length ++ itemU x :: (roomJ n xs).drop (xs.length + 1) = roomJ n (xs ++ [x]) := by
  have := roomL_app (z := zItem) (xs := xs.map itemU) (itemU x) (m := n) (by simpa using h)
  rw [List.length_map] at this
  simpa [roomJ] using this
theorem roomJ_full {n : Nat} {xs : List Item} (h : xs.length = n) : roomJ n xs = xs.map itemU := roomL_full (by simpa using h)
@[go_sem] theorem norefs_roomJ (n : Nat) (xs : List Item) : (roomJ n xs).all AV.norefs = true := roomL_norefs rfl (norefs_itemU xs)

set_option maxHeartbeats 4000000 in
theorem items21_is {m : Mach} (hv : Valid m) (hc0 : checkM m = 0) (hnn : NoNil m) (fn : Bool) (fs : List FA) (fc : Cp) (hfl : fs.length < 1000000) (ln : Bool) (l : List Wd) (lc : Cp) (hll : l.length < 1000000) (hwl : ∀ w ∈ l, w.2.length < 1000000) (a b : Int) :
    PureIs prog 21 [.ag m.cells, .sl fn (fs.map FA.cells) fc, .sl ln (l.map wdC) lc, .sc (.int .i64 a), .sc (.int .i64 b)] (itemsR m fs l a b) := by
  refine PureIs.of (nv := 6) (hid := [10, 11, 12, 13, 14, 16, 17, 18, 20, 21, 22, 24, 25, 26, 31, 40, 48, 50, 51, 52, 53, 61, 77, 80, 81, 82, 83, 84, 96, 103, 104, 105, 106, 119]) func21 rfl (by kernel_rfl) (by simp [ntmps21]) fun _ => ?_
  rw [ntmps21, results21]
  refine EvC.seq (EvC.rg (by (simp only [go_sem, Mach.cells]) <;> rfl) (by simp) ?_)
  refine EvC.frzB 0 (by (simp only [go_sem]) <;> rfl) ?_
  refine EvC.seq ?_
  have hrs : ∀ r ∈ m.rows, r.2.length < 1000000 := hv.small
  apply EvC.seq
  apply EvC.tr
  · apply Tr.run
    · (simp only [go_sem, Mach.cells]) <;> rfl
    · simp
    apply Tr.cons
    · exact .call rfl rfl (by (simp only [go_sem]) <;> rfl) (by (simp only [go_sem]) <;> rfl) (by (simp only [go_sem]) <;> rfl) (by (simp only [go_sem]) <;> rfl) (by (simp only [go_sem]) <;> rfl) (check_is m hrs)
    apply Tr.done
    · (simp only [go_sem, hc0]) <;> rfl
    · simp
  refine EvC.seq (EvC.rg (by (simp only [go_sem]) <;> rfl) (by simp) ?_)
  refine EvC.cond_false (by (simp only [go_sem]) <;> rfl) ?_
  refine EvC.skip ?_
  refine EvC.seq ?_
  apply EvC.seq
  apply EvC.trd
  · (simp only [go_sem, List.length_map]) <;> rfl
  · simp
  by_cases hbig : 256 < fs.length ∨ 256 < l.length
  · have h1 : (if decide ((256 : Int) < fs.length) = true then true else decide ((256 : Int) < l.length)) = true := by
      split
      · rfl
      · rename_i h
        have h := of_decide_eq_false (by simpa using h : decide ((256 : Int) < fs.length) = false)
        exact decide_eq_true (by omega)
    refine EvC.cond_true (by (simp only [go_sem, h1]) <;> rfl) ?_
    refine EvC.seq (EvC.rg (by (simp only [go_sem]) <;> rfl) (by simp) ?_)
    rw [itemsR, if_pos hbig]
    refine EvC.ret ⟨.inl rfl, _, (by (simp only [go_sem]) <;> rfl), ?_, rfl⟩
    simp only [go_sem]
  have h1 : (if decide ((256 : Int) < fs.length) = true then true else decide ((256 : Int) < l.length)) = false := by
    rw [decide_eq_false (show ¬ (256 : Int) < fs.length by omega), decide_eq_false (show ¬ (256 : Int) < l.length by omega)]; rfl
  refine EvC.cond_false (by (simp only [go_sem, h1]) <;> rfl) ?_
  rw [itemsR, if_neg hbig]
  refine EvC.skip ?_
  have hmu := mutants_is hv hc0 hnn fn fs fc hfl
  unfold mutsR at hmu
  by_cases hF : errFs m fs = 0
  rotate_left
  · rw [if_neg hF] at hmu
    rw [if_pos hF]
    apply EvC.seq
    apply EvC.tr
    · apply Tr.run
      · (simp only [go_sem, Mach.cells]) <;> rfl
      · simp
      apply Tr.cons
      · exact .call rfl rfl (by (simp only [go_sem]) <;> rfl) (by (simp only [go_sem]) <;> rfl) (by (simp only [go_sem]) <;> rfl) (by (simp only [go_sem]) <;> rfl) (by (simp only [go_sem]) <;> rfl) (hmu)
      apply Tr.done
      · (simp only [go_sem]) <;> rfl
      · simp
    refine EvC.seq ?_
    refine EvC.seq (EvC.rg (by (simp only [go_sem]) <;> rfl) (by simp) ?_)
    refine EvC.cond_true (by (simp only [go_sem, hF]) <;> rfl) ?_
    refine EvC.seq (EvC.rg (by (simp only [go_sem]) <;> rfl) (by simp) ?_)
    refine EvC.ret ⟨.inl rfl, _, (by (simp only [go_sem]) <;> rfl), ?_, rfl⟩
    simp only [go_sem]
  rw [if_pos hF] at hmu
  rw [if_neg (fun h => h hF)]
  have hmn := norefs_machs (fs.map (mutF m))
  apply EvC.seq
  apply EvC.tr
  · apply Tr.run
    · (simp only [go_sem, Mach.cells]) <;> rfl
    · simp
    apply Tr.cons
    · exact .call rfl rfl (by (simp only [go_sem]) <;> rfl) (by (simp only [go_sem]) <;> rfl) (by (simp only [go_sem]) <;> rfl) (by (simp only [go_sem]) <;> rfl) (by (simp only [go_sem]) <;> rfl) (hmu)
    apply Tr.done
    · (simp only [go_sem, hmn]) <;> rfl
    · simp
  refine EvC.seq ?_
  refine EvC.seq (EvC.rg (by (simp only [go_sem]) <;> rfl) (by simp) ?_)
  refine EvC.cond_false (by (simp only [go_sem]) <;> rfl) ?_
  refine EvC.skip ?_
  refine EvC.seq ?_
  refine EvC.seq (EvC.rg (by (simp only [go_sem, List.length_map]) <;> rfl) (by simp) ?_)
  refine EvC.block ?_  -- 0
  generalize hMM : (fs.map (mutF m)).map Mach.cells = MM at hmn ⊢
  have hMl : MM.length = fs.length := by rw [← hMM, List.length_map, List.length_map]
  refine EvC.loopS (σ := Nat) (fun k => ⟨[(2, .sl ln (l.map wdC) lc), (3, .sc (.int .i64 a)), (4, .sc (.int .i64 b)), (5, .ia [.sc (.int .i64 m.ins), .sc (.int .i64 m.outs), .sl m.nl (m.rows.map rowC) .unk]), (13, .sl false MM .unk), (50, .sl ln (l.map wdC) lc), (51, .sc (.int .i64 l.length)), (52, .sc (.int .i64 k))], [], [], 0⟩) (fun k => l.length - k) (fun k => k ≤ l.length ∧ wordsErr m.ins l = wordsErr m.ins (l.drop k)) [2, 3, 4, 5, 13, 50, 51, 52] 0 ?_ ?_
  · exact ⟨[], 0, rfl, (by (simp only [go_sem, Int.natCast_zero, hmn]) <;> rfl), Nat.zero_le _, rfl⟩
  rintro k ⟨hk1, hinv⟩
  refine EvC.seq (EvC.rg (by (simp only [go_sem]) <;> rfl) (by simp) ?_)
  refine EvC.seq ?_
  refine EvC.cond (by (simp only [go_sem]) <;> rfl) (fun hc => ?_) (fun hc => ?_)
  · -- a word
    have hkl : k < l.length := by simpa using hc
    clear hc
    have he : l[k]? = some (l[k]'hkl) := List.getElem?_eq_getElem hkl
    have hdr : l.drop k = l[k]'hkl :: l.drop (k + 1) := List.drop_eq_getElem_cons hkl
    have hwm := hwl _ (List.getElem_mem hkl)
    generalize l[k]'hkl = w at he hdr hwm
    rw [hdr, wordsErr] at hinv
    have hin : (k : Int).toNat = k := Int.toNat_natCast k
    have q := wordCheck_is w.1 w.2 .unk m.ins hwm
    refine EvC.skip ?_
    refine EvC.seq ?_
    refine EvC.block ?_  -- 1
    refine EvC.seq (EvC.rg (by (simp only [go_sem, he, wdC, hin]) <;> rfl) (by simp) ?_)
    apply EvC.seq
    apply EvC.tr
    · apply Tr.run
      · (simp only [go_sem]) <;> rfl
      · simp
      apply Tr.cons
      · exact .call rfl rfl (by (simp only [go_sem]) <;> rfl) (by (simp only [go_sem]) <;> rfl) (by (simp only [go_sem]) <;> rfl) (by (simp only [go_sem]) <;> rfl) (by (simp only [go_sem]) <;> rfl) (q)
      apply Tr.done
      · (simp only [go_sem]) <;> rfl
      · simp
    refine EvC.seq (EvC.rg (by (simp only [go_sem]) <;> rfl) (by simp) ?_)
    by_cases h0 : wordErr m.ins w.2 = 0
    · rw [if_pos h0] at hinv
      refine EvC.cond_false (by (simp only [go_sem, h0]) <;> rfl) ?_
      refine EvC.skip ?_
      refine EvC.rg (by (simp only [go_sem]) <;> rfl) (by exact inI64_of (by omega) (by omega)) ?_
      exact ⟨[], k + 1, rfl, (by (simp only [go_sem, Int.natCast_add, Int.natCast_one, hmn]) <;> rfl), ⟨hkl, hinv⟩, by omega⟩
    · rw [if_neg h0] at hinv
      refine EvC.cond_true (by (simp only [go_sem, h0]) <;> rfl) ?_
      refine EvC.seq (EvC.rg (by (simp only [go_sem]) <;> rfl) (by simp) ?_)
      rw [hinv, if_pos h0]
      refine EvC.ret ⟨.inl rfl, _, (by (simp only [go_sem]) <;> rfl), ?_, rfl⟩
      simp only [go_sem]
  refine EvC.exit ?_  -- 0
  obtain rfl : l.length = k := by have : ¬ k < l.length := by simpa using hc
                                  omega
  clear hc
  rw [List.drop_length] at hinv
  have hW : wordsErr m.ins l = 0 := hinv
  have hwok := wordsErr_zero hW
  rw [if_neg (fun h => h hW)]
  clear hinv
  refine EvC.seq ?_
  apply EvC.seq
  apply EvC.trd
  · (simp only [go_sem]) <;> rfl
  · simp
  have hpb : (if (if (if decide (a < 0) = true then true else decide (1000 < a)) = true then true else decide (b < 0)) = true then true else decide (1000 < b)) = pricesBad a b := by
    unfold pricesBad
    cases decide (a < 0) <;> cases decide (1000 < a) <;> cases decide (b < 0) <;> cases decide (1000 < b) <;> rfl
  by_cases hP : pricesBad a b = true
  · rw [if_pos hP]
    refine EvC.cond_true (by (simp only [go_sem, hpb, hP]) <;> rfl) ?_
    refine EvC.seq (EvC.rg (by (simp only [go_sem]) <;> rfl) (by simp) ?_)
    refine EvC.ret ⟨.inl rfl, _, (by (simp only [go_sem]) <;> rfl), ?_, rfl⟩
    simp only [go_sem]
  rw [if_neg hP]
  have hP' : pricesBad a b = false := by simpa using hP
  refine EvC.cond_false (by (simp only [go_sem, hpb, hP']) <;> rfl) ?_
  clear hpb hP
  have hpr : (0 ≤ a ∧ a ≤ 1000) ∧ (0 ≤ b ∧ b ≤ 1000) := by
    unfold pricesBad at hP'
    simp only [Bool.or_eq_false_iff, decide_eq_false_iff_not] at hP'
    omega
  refine EvC.skip ?_
  have hr : room l.length 32 = true := by simp only [room_eq, decide_eq_true_eq]; omega
  refine EvC.seq (EvC.rg (by (simp only [go_sem, List.length_map]) <;> rfl) (by simp [hr]; try omega) ?_)
  refine EvC.seq ?_
  refine EvC.seq (EvC.rg (by (simp only [go_sem, List.length_map]) <;> rfl) (by simp) ?_)
  refine EvC.block ?_  -- 2
  refine EvC.loopS (σ := Nat) (fun k => ⟨[(3, .sc (.int .i64 a)), (4, .sc (.int .i64 b)), (5, .ia [.sc (.int .i64 m.ins), .sc (.int .i64 m.outs), .sl m.nl (m.rows.map rowC) .unk]), (13, .sl false MM .unk), (18, .tv 0 l.length 0 k (.val l.length)), (81, .sl ln (l.map wdC) lc), (82, .sc (.int .i64 l.length)), (83, .sc (.int .i64 k))], [], [(0, .arr 2 (roomJ l.length ((l.take k).map (itemF m fs a b))) false)], 1⟩) (fun k => l.length - k) (fun k => k ≤ l.length ∧ costZ a b l = costZ a b (l.drop k)) [3, 4, 5, 13, 18, 81, 82, 83] 1 ?_ ?_
  · exact ⟨[(17, 0)], 0, rfl, (by rw [roomJ_nil]; (simp only [go_sem, Int.natCast_zero, hmn, List.take_zero, List.map_nil]) <;> rfl), Nat.zero_le _, rfl⟩
  rintro k ⟨hk1, hinv⟩
  refine EvC.seq (EvC.rg (by (simp only [go_sem]) <;> rfl) (by simp) ?_)
  refine EvC.seq ?_
  refine EvC.cond (by (simp only [go_sem]) <;> rfl) (fun hc => ?_) (fun hc => ?_)
  rotate_left
  · refine EvC.exit ?_  -- 2
    obtain rfl : l.length = k := by have : ¬ k < l.length := by simpa using hc
                                    omega
    clear hc
    rw [List.drop_length] at hinv
    have hinv : costZ a b l = false := hinv
    rw [if_neg (by rw [hinv]; simp)]
    have hLl : ((l.take l.length).map (itemF m fs a b)).length = l.length := by simp
    rw [roomJ_full hLl]
    rw [List.take_length] at hLl ⊢
    have hnU := norefs_itemU (l.map (itemF m fs a b))
    generalize l.map (itemF m fs a b) = L at hLl hnU
    refine EvC.frz 0 (by (simp only [go_sem, hnU, hLl, List.length_map]) <;> rfl) ?_
    refine EvC.seq (EvC.rg (by (simp only [go_sem, List.length_map, hLl]) <;> rfl) (by simp) ?_)
    refine EvC.ret ⟨.inl rfl, _, (by (simp only [go_sem, List.length_map, hLl]) <;> rfl), ?_, by simp [AV.noref, AV.norefs, hnU]⟩
    simp only [go_sem, List.length_map, hLl]
  have hkl : k < l.length := by simpa using hc
  clear hc
  have he : l[k]? = some (l[k]'hkl) := List.getElem?_eq_getElem hkl
  have hdr : l.drop k = l[k]'hkl :: l.drop (k + 1) := List.drop_eq_getElem_cons hkl
  have hwm := hwl _ (List.getElem_mem hkl)
  have hwo := hwok _ (List.getElem_mem hkl)
  have htk : l.take (k + 1) = l.take k ++ [l[k]'hkl] := List.take_succ_eq_append_getElem hkl
  generalize l[k]'hkl = w at he hdr hwm hwo htk
  have hinv : costZ a b l = (decide (a + b * (w.2.length : Int) = 0) || costZ a b (l.drop (k + 1))) := by rw [hinv, hdr]; rfl
  have hin : (k : Int).toNat = k := Int.toNat_natCast k
  have hww : w.2.length ≤ 256 := by
    unfold wordErr at hwo
    split at hwo
    · cases hwo
    · rename_i h; omega
  have hmul : 0 ≤ b * (w.2.length : Int) ∧ b * (w.2.length : Int) ≤ 1000 * 256 := ⟨Int.mul_nonneg hpr.2.1 (by omega), Int.mul_le_mul hpr.2.2 (by omega) (by omega) (by omega)⟩
  refine EvC.skip ?_
  refine EvC.seq ?_
  refine EvC.block ?_  -- 3
  refine EvC.seq (EvC.rg (by (simp only [go_sem, he, wdC, hin]) <;> rfl) (by simp) ?_)
  refine EvC.seq (EvC.rg (by (simp only [go_sem, List.length_map]) <;> rfl) (by simp [inI64_of (x := b * (w.2.length : Int)) (by omega) (by omega), inI64_of (x := a + b * (w.2.length : Int)) (by omega) (by omega)]) ?_)
  refine EvC.seq ?_
  refine EvC.seq (EvC.rg (by (simp only [go_sem]) <;> rfl) (by simp) ?_)
  by_cases h0 : a + b * (w.2.length : Int) = 0
  · rw [decide_eq_true h0, Bool.true_or] at hinv
    rw [if_pos hinv]
    refine EvC.cond_true (by (simp only [go_sem, h0]) <;> rfl) ?_
    refine EvC.seq (EvC.rg (by (simp only [go_sem]) <;> rfl) (by simp) ?_)
    refine EvC.ret ⟨.inl rfl, _, (by (simp only [go_sem]) <;> rfl), ?_, rfl⟩
    simp only [go_sem]
  rw [decide_eq_false h0, Bool.false_or] at hinv
  refine EvC.cond_false (by (simp only [go_sem, h0]) <;> rfl) ?_
  refine EvC.skip ?_
  refine EvC.ownC 12 1 1 (by (simp only [go_sem]) <;> rfl) ?_
  have hr0 : 0 < m.rows.length := by have := hv.rows; omega
  have qr := run52_is hv 0 ⟨by omega, by omega⟩ w.1 w.2 .unk hwo hwm
  have hrl := runR_len m 0 w.2
  apply EvC.seq
  apply EvC.tr
  · apply Tr.run
    · (simp only [go_sem, Mach.cells]) <;> rfl
    · simp
    apply Tr.cons
    · exact .call rfl rfl (by (simp only [go_sem]) <;> rfl) (by (simp only [go_sem]) <;> rfl) (by (simp only [go_sem]) <;> rfl) (by (simp only [go_sem]) <;> rfl) (by (simp only [go_sem]) <;> rfl) (qr)
    apply Tr.done
    · (simp only [go_sem]) <;> rfl
    · simp
  have hnx : (l.take (k + 1)).map (itemF m fs a b) = (l.take k).map (itemF m fs a b) ++ [itemF m fs a b w] := by rw [htk, List.map_append]; rfl
  have hLl : ((l.take k).map (itemF m fs a b)).length = k := by simp; omega
  have hLn : ((l.take (k + 1)).map (itemF m fs a b)).length = k + 1 := by simp; omega
  generalize (l.take k).map (itemF m fs a b) = L0 at hnx hLl
  generalize hL1 : (l.take (k + 1)).map (itemF m fs a b) = L1 at hnx hLn
  have hMg : ∀ j f, fs[j]? = some f → MM[j]? = some (mutF m f).cells := fun j f h => by rw [← hMM, List.getElem?_map, List.getElem?_map, h]; rfl
  refine EvC.seq ?_
  refine EvC.seq (EvC.rg (by (simp only [go_sem, List.length_map, hMl]) <;> rfl) (by simp) ?_)
  refine EvC.block ?_  -- 4
  have hlk0 : killsK m fs w.2 0 = [] := rfl
  refine EvC.loopS (σ := Nat) (fun j => ⟨[(3, .sc (.int .i64 a)), (4, .sc (.int .i64 b)), (5, .ia [.sc (.int .i64 m.ins), .sc (.int .i64 m.outs), .sl m.nl (m.rows.map rowC) .unk]), (13, .sl false MM .unk), (18, .tv 0 l.length 0 k (.val l.length)), (20, .sl w.1 (w.2.map intC) .unk), (21, .rf 1 0), (22, .sl false ((runR m 0 w.2).map intC) .unk), (81, .sl ln (l.map wdC) lc), (82, .sc (.int .i64 l.length)), (83, .sc (.int .i64 k)), (103, .sl false MM .unk), (104, .sc (.int .i64 fs.length)), (105, .sc (.int .i64 j))], [], [(0, .arr 2 (roomJ l.length L0) false), (1, .cells [.sc (.int .i64 (a + b * (w.2.length : Int))), .tl 2 (killsK m fs w.2 j).length (killsK m fs w.2 j).isEmpty]), (2, .arr 1 ((killsK m fs w.2 j).map intC) true)], 3⟩) (fun j => fs.length - j) (fun j => j ≤ fs.length) [3, 4, 5, 13, 18, 20, 21, 22, 81, 82, 83, 103, 104, 105] 3 ?_ ?_
  · exact ⟨[(0, 0), (12, 1), (17, 2)], 0, rfl, (by rw [hlk0]; (simp only [go_sem, hmn, Int.natCast_zero, List.map_nil, List.length_nil, List.isEmpty_nil]) <;> rfl), Nat.zero_le _⟩
  intro j hj1
  refine EvC.seq (EvC.rg (by (simp only [go_sem]) <;> rfl) (by simp) ?_)
  refine EvC.seq ?_
  refine EvC.cond (by (simp only [go_sem]) <;> rfl) (fun hc => ?_) (fun hc => ?_)
  rotate_left
  · refine EvC.exit ?_  -- 4
    obtain rfl : fs.length = j := by have : ¬ j < fs.length := by simpa using hc
                                     omega
    clear hc
    refine EvC.frzD 2 (by (simp only [go_sem, List.length_map]) <;> rfl) ?_
    have hUc : itemU (itemF m fs a b w) = [.sc (.int .i64 (a + b * (w.2.length : Int))), .sl (killsK m fs w.2 fs.length).isEmpty ((killsK m fs w.2 fs.length).map intC) .full] := rfl
    generalize killsK m fs w.2 fs.length = T at hUc
    have hap := roomJ_app (n := l.length) (xs := L0) (itemF m fs a b w) (by omega)
    rw [hUc, hLl, ← hnx] at hap
    have hjl := roomJ_len (n := l.length) (xs := L0) (by omega)
    generalize itemF m fs a b w = y at hnx hUc
    have qcl := clip47_is T.isEmpty T .unk
    apply EvC.seq
    apply EvC.tr
    · apply Tr.run
      · (simp only [go_sem, List.length_map]) <;> rfl
      · simp
      apply Tr.cons
      · exact .call rfl rfl (by (simp only [go_sem]) <;> rfl) (by (simp only [go_sem]) <;> rfl) (by (simp only [go_sem]) <;> rfl) (by (simp only [go_sem]) <;> rfl) (by (simp only [go_sem]) <;> rfl) (qcl)
      apply Tr.done
      · (simp only [go_sem]) <;> rfl
      · simp
    have hrm : room (k + 1) 32 = true := by simp only [room_eq, decide_eq_true_eq]; omega
    refine EvC.rg (by (simp only [go_sem, hap, hjl, hLl]) <;> rfl) (by simp [hjl, hrm]; try omega) ?_
    refine EvC.rg (by (simp only [go_sem]) <;> rfl) (by exact inI64_of (by omega) (by omega)) ?_
    exact ⟨[(0, 0)], k + 1, rfl, (by rw [hL1]; (simp only [go_sem, hmn, Int.natCast_add, Int.natCast_one]) <;> rfl), ⟨hkl, hinv⟩, by omega⟩
  have hjl : j < fs.length := by simpa using hc
  clear hc
  have hfe : fs[j]? = some (fs[j]'hjl) := List.getElem?_eq_getElem hjl
  have hfm := List.getElem_mem hjl
  have hst : killsK m fs w.2 (j + 1) = if decide ((fs[j]?).map (fun f => runR (mutF m f) 0 w.2) = some (runR m 0 w.2)) = true then killsK m fs w.2 j else killsK m fs w.2 j ++ [(j : Int)] := rfl
  have hMe := hMg j _ hfe
  have hvf := mutF_valid hv (errFs_zero hF _ hfm)
  rw [hfe, Option.map_some] at hst
  generalize fs[j]'hjl = f at hMe hvf hst
  have hkl2 := killsK_len m fs w.2 j
  have hjn : (j : Int).toNat = j := Int.toNat_natCast j
  have hwof : wordErr (mutF m f).ins w.2 = 0 := hwo
  have hrf : 0 < (mutF m f).rows.length := by have := hvf.rows; omega
  have qf := run52_is hvf 0 ⟨by omega, by omega⟩ w.1 w.2 .unk hwof hwm
  have hrfl := runR_len (mutF m f) 0 w.2
  have qe := equal53_is false false (runR (mutF m f) 0 w.2) (runR m 0 w.2) .unk .unk (by omega)
  generalize runR (mutF m f) 0 w.2 = RF at qf qe hrfl hst
  generalize mutF m f = mf at hMe qf
  simp only [Mach.cells] at hMe qf
  have hst : killsK m fs w.2 (j + 1) = if decide (RF = runR m 0 w.2) = true then killsK m fs w.2 j else killsK m fs w.2 j ++ [(j : Int)] := by rw [hst]; simp
  refine EvC.skip ?_
  refine EvC.seq ?_
  refine EvC.block ?_  -- 5
  refine EvC.seq (EvC.rg (by (simp only [go_sem, hMe, hjn]) <;> rfl) (by simp) ?_)
  apply EvC.seq
  apply EvC.tr
  · apply Tr.run
    · (simp only [go_sem]) <;> rfl
    · simp
    apply Tr.cons
    · exact .call rfl rfl (by (simp only [go_sem]) <;> rfl) (by (simp only [go_sem]) <;> rfl) (by (simp only [go_sem]) <;> rfl) (by (simp only [go_sem]) <;> rfl) (by (simp only [go_sem]) <;> rfl) (qf)
    apply Tr.done
    · (simp only [go_sem]) <;> rfl
    · simp
  apply EvC.seq
  apply EvC.tr
  · apply Tr.run
    · (simp only [go_sem]) <;> rfl
    · simp
    apply Tr.cons
    · exact .call rfl rfl (by (simp only [go_sem]) <;> rfl) (by (simp only [go_sem]) <;> rfl) (by (simp only [go_sem]) <;> rfl) (by (simp only [go_sem]) <;> rfl) (by (simp only [go_sem]) <;> rfl) (qe)
    apply Tr.done
    · (simp only [go_sem]) <;> rfl
    · simp
  have hin' : j + 1 ≤ fs.length := hjl
  by_cases hRF : RF = runR m 0 w.2
  · rw [if_pos (decide_eq_true hRF)] at hst
    have d1 : decide (RF = runR m 0 w.2) = true := decide_eq_true hRF
    refine EvC.cond_false (by (simp only [go_sem, d1]) <;> rfl) ?_
    refine EvC.skip ?_
    refine EvC.rg (by (simp only [go_sem]) <;> rfl) (by exact inI64_of (by omega) (by omega)) ?_
    exact ⟨[(0, 0), (1, 1), (2, 2)], j + 1, rfl, (by rw [hst]; (simp only [go_sem, hmn, Int.natCast_add, Int.natCast_one]) <;> rfl), hin', by omega⟩
  have d1 : decide (RF = runR m 0 w.2) = false := decide_eq_false hRF
  rw [if_neg (by rw [d1]; simp)] at hst
  refine EvC.cond_true (by (simp only [go_sem, d1]) <;> rfl) ?_
  have hsn : (killsK m fs w.2 j).map intC ++ [[.sc (.int .i64 (j : Int))]] = (killsK m fs w.2 j ++ [(j : Int)]).map intC := by simp [intC]
  have hsl : (killsK m fs w.2 j).length + 1 = (killsK m fs w.2 j ++ [(j : Int)]).length := by simp
  have hse : (killsK m fs w.2 j ++ [(j : Int)]).isEmpty = false := by simp
  have hr2 : room ((killsK m fs w.2 j).length + 1) 8 = true := by simp only [room_eq, decide_eq_true_eq]; omega
  rw [hsl] at hr2
  rw [← hst] at hsn hsl hse hr2
  generalize hT' : killsK m fs w.2 (j + 1) = T' at hsn hsl hse hr2
  generalize killsK m fs w.2 j = T at hsn hsl
  refine EvC.rg (by (simp only [go_sem, hsn, hsl, List.length_map]) <;> rfl) (by simp [hr2]) ?_
  refine EvC.rg (by (simp only [go_sem]) <;> rfl) (by exact inI64_of (by omega) (by omega)) ?_
  exact ⟨[(0, 0), (1, 1), (2, 2)], j + 1, rfl, (by rw [hT']; (simp only [go_sem, hmn, hse, Int.natCast_add, Int.natCast_one]) <;> rfl), hin', by omega⟩
end Go.Avl
namespace Go.Avl
open Go Go.Proofs.Tryd
set_option maxRecDepth 10000
set_option linter.unusedSimpArgs false

/-! ### Chains of words -/
theorem clone62_new (es : List Int) (c : Cp) (hl : es.length < 1000000) (h0 : es.length ≠ 0) : PureNew prog 62 [.sl false (es.map intC) c] 1 (es.map intC) := by
  refine PureNew.of (nv := 1) (hid := [2, 4]) func62 rfl (by kernel_rfl) (by simp [ntmps62]) fun _ => ?_
  rw [ntmps62, results62]
  refine EvC.seq (EvC.rg (by (simp only [go_sem]) <;> rfl) (by simp) ?_)
  refine EvC.seq ?_
  refine EvC.seq (EvC.rg (by (simp only [go_sem]) <;> rfl) (by simp) ?_)
  refine EvC.cond_false (by (simp only [go_sem]) <;> rfl) ?_
  refine EvC.skip ?_
  have hr1 : room es.length 8 = true := by simp only [room_eq, decide_eq_true_eq]; omega
  have hr3 : ∀ x ∈ es, (intC x).length = 1 := fun _ _ => rfl
  refine EvC.seq (EvC.rg (by (simp only [go_sem, List.length_map]) <;> rfl) (by simp [hr1]; try exact hr3) ?_)
  refine EvC.ret ⟨.inl rfl, _, 5, (by (simp only [go_sem, List.length_map]) <;> rfl), .inl ?_, ?_, by simpa using h0, norefs_ints es⟩
  · simp only [List.length_map]
  · rfl
theorem clone62_emp (nl : Bool) (c : Cp) : PureIs prog 62 [.sl nl [] c] (.sl nl [] .zer) := by
  cases nl with
  | true => exact PureIs.nilZ (clone62_is true [] c (by simp) (fun _ => rfl))
  | false =>
    refine PureIs.of (nv := 1) (hid := [2, 4]) func62 rfl (by kernel_rfl) (by simp [ntmps62]) fun _ => ?_
    rw [ntmps62, results62]
    refine EvC.seq (EvC.rg (by (simp only [go_sem]) <;> rfl) (by simp) ?_)
    refine EvC.seq ?_
    refine EvC.seq (EvC.rg (by (simp only [go_sem]) <;> rfl) (by simp) ?_)
    refine EvC.cond_false (by (simp only [go_sem]) <;> rfl) ?_
    refine EvC.skip ?_
    apply EvC.seq
    apply EvC.tr  -- R3
    · apply Tr.cons
      · exact .op rfl (by (simp only [go_sem]) <;> rfl) (by (simp only [go_sem]) <;> rfl) rfl (by (simp only [go_sem]) <;> rfl)
      apply Tr.cons
      · exact .op rfl (by (simp only [go_sem]) <;> rfl) (by (simp only [go_sem]) <;> rfl) rfl (by (simp only [go_sem]) <;> rfl)
      apply Tr.cons
      · exact .appZ rfl rfl (by (simp only [go_sem]) <;> rfl) (by (simp only [go_sem]) <;> rfl) (by (simp only [go_sem]) <;> rfl) (by (simp only [go_sem]) <;> rfl) (by (simp only [go_sem]) <;> rfl) (by (simp only [go_sem]) <;> rfl) (by (simp only [go_sem]) <;> rfl)
      apply Tr.done
      · (simp only [go_sem]) <;> rfl
      · simp
    refine EvC.ret ⟨.inl rfl, _, (by (simp only [go_sem]) <;> rfl), ?_, rfl⟩
    simp only [go_sem]
/-- A word is nil only where it is empty. -/
def WdOk (w : Wd) : Prop := w.1 = true → w.2 = []
theorem WdOk.ne {w : Wd} (h : WdOk w) (hn : w.2 ≠ []) : w.1 = false := by
  cases hb : w.1 with
  | false => rfl
  | true => exact absurd (h hb) hn
/-- The last chain: empty, or the whole view of its object. -/
def lastA (id : Nat) (w : Wd) : AV := if w.2 = [] then .sl w.1 [] .zer else .tv id w.2.length 0 w.2.length .rest
def chC (w : Wd) : List AV := [if w.2 = [] then .sl w.1 [] .zer else .sl false (w.2.map intC) .unk]
/-- The chains as they lie: all rows literal but the last one. -/
def chM (L : List (List AV)) (front : List Wd) (id : Nat) (w : Wd) : Mem := [(0, .cells [.tl 1 (front.length + 1) false]), (1, .arr 1 (front.map chC ++ [[lastA id w]]) false), (3, .arr 1 L true)] ++ (if w.2 = [] then [] else [(id, .arr 1 (w.2.map intC) false)])
/-- .. behind a new chain: beside it lies the literal slice that brought it. -/
def chX (L : List (List AV)) (front : List Wd) (w : Wd) : Mem := chM L front 26 w ++ [(27, .arr 1 [[lastA 26 w]] false)]
theorem put_first (L : List (List AV)) (w : Wd) (hw : WdOk w) (hl : w.2.length < 1000000) (c : Cp) (j : Bool) {R : AV → Mem → Nat → Prop} (hR : ∀ nx, R (mkRes []) (chX L [] w) nx) :
    BodyIs prog 61 [.sl w.1 (w.2.map intC) c, .sc (.bool j), .rf 0 0] [(0, .cells [.tl 1 0 true]), (1, .arr 1 [] false), (3, .arr 1 L true)] 4 R := by
  refine BodyIs.of (nv := 3) (hid := [5, 24, 39]) func61 rfl (by kernel_rfl) (by simp [ntmps61]) fun h0 => ?_
  rw [ntmps61, results61]
  have hr1 : room 1 24 = true := by simp only [room_eq, decide_eq_true_eq]; omega
  by_cases hws : w.2 = []
  · have q0 := clone62_emp w.1 c
    rw [chX, chM, lastA, if_pos hws, if_pos hws] at hR
    rw [hws] at *
    simp only [List.map_nil]
    generalize w.1 = nl at *
    refine EvC.seq ?_
    refine EvC.seq (EvC.rg (by (simp only [go_sem]) <;> rfl) (by simp) ?_)
    cases j
    all_goals
      apply EvC.seq
      apply EvC.tr
      · apply Tr.run
        · (simp only [go_sem]) <;> rfl
        · simp
        apply Tr.cons
        · exact .skipv (.sl true [] .unk) rfl rfl (by (simp only [go_sem]) <;> rfl) (by (simp only [go_sem]) <;> rfl)
        apply Tr.done
        · (simp only [go_sem]) <;> rfl
        · simp
      refine EvC.cond_false (by (simp only [go_sem]) <;> rfl) ?_
      refine EvC.skip ?_
      apply EvC.drwA mixed  -- R3
      · apply Tr.run
        · (simp only [go_sem]) <;> rfl
        · simp
        apply Tr.cons
        · exact .call rfl rfl (by (simp only [go_sem]) <;> rfl) (by (simp only [go_sem]) <;> rfl) (by (simp only [go_sem]) <;> rfl) (by (simp only [go_sem]) <;> rfl) (by (simp only [go_sem]) <;> rfl) q0
        apply Tr.done
        · (simp only [go_sem]) <;> rfl
        · exact hr1
      · kernel_rfl
      refine ⟨.inr rfl, [], (by (simp only [go_sem]) <;> rfl), ?_⟩
      exact hR _
  · have he : w.1 = false := hw.ne hws
    have hne : w.2.length ≠ 0 := by simpa using hws
    have q1 := clone62_new w.2 c hl hne
    rw [chX, chM, lastA, if_neg hws, if_neg hws] at hR
    rw [he]
    refine EvC.seq ?_
    refine EvC.seq (EvC.rg (by (simp only [go_sem]) <;> rfl) (by simp) ?_)
    cases j
    all_goals
      apply EvC.seq
      apply EvC.tr
      · apply Tr.run
        · (simp only [go_sem]) <;> rfl
        · simp
        apply Tr.cons
        · exact .skipv (.sl true [] .unk) rfl rfl (by (simp only [go_sem]) <;> rfl) (by (simp only [go_sem]) <;> rfl)
        apply Tr.done
        · (simp only [go_sem]) <;> rfl
        · simp
      refine EvC.cond_false (by (simp only [go_sem]) <;> rfl) ?_
      refine EvC.skip ?_
      apply EvC.drwA mixed  -- R3
      · apply Tr.run
        · (simp only [go_sem]) <;> rfl
        · simp
        apply Tr.cons
        · exact .callT rfl rfl (by (simp only [go_sem]) <;> rfl) (by (simp only [go_sem]) <;> rfl) (by (simp only [go_sem]) <;> rfl) (by (simp only [go_sem]) <;> rfl) (by (simp only [go_sem]) <;> rfl) q1
        apply Tr.done
        · (simp only [go_sem, List.length_map]) <;> rfl
        · skip
          simp [hr1]
      · kernel_rfl
      refine ⟨.inr rfl, [], (by (simp only [go_sem]) <;> rfl), ?_⟩
      exact hR _
theorem chC_nil {w : Wd} (h : w.2 = []) : chC w = [.sl w.1 [] .zer] := by rw [chC, if_pos h]
theorem chC_cons {w : Wd} (h : w.2 ≠ []) : chC w = [.sl false (w.2.map intC) .unk] := by rw [chC, if_neg h]
@[go_sem] theorem norefs_chC (l : List Wd) : (l.map chC).all AV.norefs = true := by
  rw [List.all_eq_true]
  intro x hx
  obtain ⟨es, _, rfl⟩ := List.mem_map.1 hx
  unfold chC
  split <;> simp [AV.norefs, AV.noref]
theorem norefs_chC1 (es : Wd) : AV.norefs (chC es) = true := by
  unfold chC
  split <;> simp [AV.norefs, AV.noref]
theorem chM_lit {L : List (List AV)} (hL : L.all AV.norefs = true) (front : List Wd) (es : Wd) {wn : Bool} {ws : List Int} {wc : Cp} {b : Bool} {nv sz : Nat} {hid : List Nat} {ro : Option Nat} {ds : DS} {c : Code} {Q : Exit → St → Prop}
    (h : EvC prog ⟨4, nv, hid, sz⟩ ro ds c ⟨[(0, .sl wn (ws.map intC) wc), (1, .sc (.bool b)), (2, .rf 0 0)], [], [(0, .cells [.tl 1 (front.length + 1) false]), (1, .arr 1 (front.map chC ++ [chC es]) false), (3, .arr 1 L true)], 4⟩ Q) :
    EvC prog ⟨4, nv, hid, sz⟩ ro ds c ⟨[(0, .sl wn (ws.map intC) wc), (1, .sc (.bool b)), (2, .rf 0 0)], [], chM L front 2 es, 4⟩ Q := by
  by_cases hes : es.2 = []
  · rw [chM, if_pos hes, lastA, if_pos hes, ← chC_nil hes]
    exact h
  · rw [chM, if_neg hes, lastA, if_neg hes]
    have hfl : (front.map chC).length = front.length := List.length_map _
    have hg : (front.map chC ++ [[AV.tv 2 es.2.length 0 es.2.length .rest]])[front.length]? = some [.tv 2 es.2.length 0 es.2.length .rest] := by rw [List.getElem?_append_right (by omega), hfl, Nat.sub_self]; rfl
    have hs : ∀ v, (front.map chC ++ [[v]]).set front.length [.sl false (es.2.map intC) .unk] = front.map chC ++ [chC es] := fun v => by
      rw [List.set_append_right _ _ (by omega), hfl, Nat.sub_self, ← chC_cons hes]; rfl
    have hn : (front.map chC ++ [chC es]).all AV.norefs = true := by rw [List.all_append, norefs_chC]; simp [norefs_chC1]
    generalize front.map chC ++ [chC es] = LL at h hs hn
    refine EvC.frz 2 (by (simp only [go_sem, List.length_map, hL]) <;> rfl) ?_
    refine EvC.snapE 1 front.length (by (simp only [go_sem, hg, List.length_map, hs, hL]) <;> rfl) ?_
    refine EvC.gcE [0, 1, 2] [(0, 0), (1, 1), (3, 3)] 4 rfl (by (simp only [go_sem, hn, hL]) <;> rfl) h
theorem put_more {L : List (List AV)} (hL : L.all AV.norefs = true) (front : List Wd) (es w : Wd) (hw : WdOk w) (hf : front.length < 1000000) (hel : es.2.length < 1000000) (hl : w.2.length < 1000000) (c : Cp) (j : Bool) (hj : (j && decide (es.2.length + w.2.length ≤ 256)) = false) {R : AV → Mem → Nat → Prop} (hR : ∀ nx, R (mkRes []) (chX L (front ++ [es]) w) nx) :
    BodyIs prog 61 [.sl w.1 (w.2.map intC) c, .sc (.bool j), .rf 0 0] (chM L front 2 es) 4 R := by
  refine BodyIs.of (nv := 3) (hid := [5, 24, 39]) func61 rfl (by kernel_rfl) (by simp [ntmps61]) fun h0 => ?_
  rw [ntmps61, results61]
  refine chM_lit hL front es ?_
  have hfl : (front.map chC).length = front.length := List.length_map _
  have hAl : (front.map chC ++ [chC es]).length = front.length + 1 := by simp
  have hget : (front.map chC ++ [chC es])[front.length]? = some (chC es) := by rw [List.getElem?_append_right (by omega), hfl, Nat.sub_self]; rfl
  have hr1 : room (front.length + 1 + 1) 24 = true := by simp only [room_eq, decide_eq_true_eq]; omega
  have h1 : decide ((0 : Int) < (front.length : Int) + 1) = true := decide_eq_true (by omega)
  have hin : ((front.length : Int) + 1 - 1).toNat = front.length := by omega
  have hMM : ∀ v, (front.map chC ++ [chC es]) ++ [[v]] = (front ++ [es]).map chC ++ [[v]] := fun v => by rw [List.map_append]; rfl
  have hMl : (front ++ [es]).length + 1 = front.length + 1 + 1 := by simp
  obtain ⟨eb, ev, hev⟩ : ∃ eb ev, chC es = [.sl eb (es.2.map intC) ev] := by
    by_cases h : es.2 = []
    · exact ⟨es.1, .zer, by rw [chC_nil h, h]; rfl⟩
    · exact ⟨false, .unk, chC_cons h⟩
  rw [hev] at hAl hget hMM ⊢
  generalize hA : front.map chC ++ [[AV.sl eb (es.2.map intC) ev]] = A at hAl hget hMM ⊢
  refine EvC.seq ?_
  refine EvC.seq (EvC.rg (by (simp only [go_sem, hAl, Int.natCast_add, Int.natCast_one]) <;> rfl) (by simp) ?_)
  have hn1 : ((front.length + 1 : Nat) : Int) = (front.length : Int) + 1 := by omega
  cases j
  · have h256 : True := trivial
    apply EvC.seq
    apply EvC.trd
    · (simp only [go_sem, hAl, hget, hin, h1, List.length_map]) <;> rfl
    · simp; try omega
    refine EvC.cond_false (by (simp only [go_sem, h1, h256]) <;> rfl) ?_
    refine EvC.skip ?_
    by_cases hws : w.2 = []
    · have q0 := clone62_emp w.1 c
      rw [chX, chM, lastA, if_pos hws, if_pos hws, ← hMM, hMl] at hR
      rw [hws] at *
      simp only [List.map_nil]
      generalize w.1 = nl at *
      apply EvC.drwA mixed  -- R3
      · apply Tr.run
        · (simp only [go_sem]) <;> rfl
        · simp
        apply Tr.cons
        · exact .call rfl rfl (by (simp only [go_sem]) <;> rfl) (by (simp only [go_sem]) <;> rfl) (by (simp only [go_sem]) <;> rfl) (by (simp only [go_sem]) <;> rfl) (by (simp only [go_sem]) <;> rfl) q0
        apply Tr.done
        · (simp only [go_sem, hAl]) <;> rfl
        · simp [hAl, hr1]
      · kernel_rfl
      refine ⟨.inr rfl, [], (by (simp only [go_sem]) <;> rfl), ?_⟩
      exact hR _
    · have he : w.1 = false := hw.ne hws
      have hne : w.2.length ≠ 0 := by simpa using hws
      have q1 := clone62_new w.2 c hl hne
      rw [he]
      apply EvC.drwA mixed  -- R3
      · apply Tr.run
        · (simp only [go_sem]) <;> rfl
        · simp
        apply Tr.cons
        · exact .callT rfl rfl (by (simp only [go_sem]) <;> rfl) (by (simp only [go_sem]) <;> rfl) (by (simp only [go_sem]) <;> rfl) (by (simp only [go_sem]) <;> rfl) (by (simp only [go_sem]) <;> rfl) q1
        apply Tr.done
        · (simp only [go_sem, List.length_map, hAl]) <;> rfl
        · simp [hAl, hr1]
      · kernel_rfl
      refine ⟨.inr rfl, [], (by (simp only [go_sem]) <;> rfl), ?_⟩
      rw [chX, chM, lastA, if_neg hws, if_neg hws, ← hMM, hMl] at hR
      exact hR _
  · simp only [Bool.true_and] at hj
    have h256 : decide ((es.2.length : Int) + (w.2.length : Int) ≤ 256) = false := by
      have := of_decide_eq_false hj
      exact decide_eq_false (by omega)
    apply EvC.seq
    apply EvC.trd
    · (simp only [go_sem, hAl, hget, hin, h1, List.length_map]) <;> rfl
    · simp; exact ⟨inI64_of (by omega) (by omega), inI64_of (by omega) (by omega)⟩
    refine EvC.cond_false (by (simp only [go_sem, h1, h256]) <;> rfl) ?_
    refine EvC.skip ?_
    by_cases hws : w.2 = []
    · have q0 := clone62_emp w.1 c
      rw [chX, chM, lastA, if_pos hws, if_pos hws, ← hMM, hMl] at hR
      rw [hws] at *
      simp only [List.map_nil]
      generalize w.1 = nl at *
      apply EvC.drwA mixed  -- R3
      · apply Tr.run
        · (simp only [go_sem]) <;> rfl
        · simp
        apply Tr.cons
        · exact .call rfl rfl (by (simp only [go_sem]) <;> rfl) (by (simp only [go_sem]) <;> rfl) (by (simp only [go_sem]) <;> rfl) (by (simp only [go_sem]) <;> rfl) (by (simp only [go_sem]) <;> rfl) q0
        apply Tr.done
        · (simp only [go_sem, hAl]) <;> rfl
        · simp [hAl, hr1]
      · kernel_rfl
      refine ⟨.inr rfl, [], (by (simp only [go_sem]) <;> rfl), ?_⟩
      exact hR _
    · have he : w.1 = false := hw.ne hws
      have hne : w.2.length ≠ 0 := by simpa using hws
      have q1 := clone62_new w.2 c hl hne
      rw [he]
      apply EvC.drwA mixed  -- R3
      · apply Tr.run
        · (simp only [go_sem]) <;> rfl
        · simp
        apply Tr.cons
        · exact .callT rfl rfl (by (simp only [go_sem]) <;> rfl) (by (simp only [go_sem]) <;> rfl) (by (simp only [go_sem]) <;> rfl) (by (simp only [go_sem]) <;> rfl) (by (simp only [go_sem]) <;> rfl) q1
        apply Tr.done
        · (simp only [go_sem, List.length_map, hAl]) <;> rfl
        · simp [hAl, hr1]
      · kernel_rfl
      refine ⟨.inr rfl, [], (by (simp only [go_sem]) <;> rfl), ?_⟩
      rw [chX, chM, lastA, if_neg hws, if_neg hws, ← hMM, hMl] at hR
      exact hR _
end Go.Avl
namespace Go.Avl
open Go Go.Proofs.Tryd
set_option maxRecDepth 10000
set_option linter.unusedSimpArgs false

theorem chC_ren (K : List (Nat × Nat)) (l : List Wd) : (l.map chC).map (fun c => c.map (AV.ren K)) = l.map chC := by
  rw [List.map_map]
  refine List.map_congr_left fun es _ => ?_
  unfold chC
  simp only [Function.comp]
  split
  · have h : (AV.sl es.1 [] Cp.zer).noref = true := by simp [AV.noref]
    simp [AV.ren, h]
  · have h : (AV.sl false (es.2.map intC) Cp.unk).noref = true := by simp [AV.noref]
    simp [AV.ren, h]
theorem put_join {L : List (List AV)} (hL : L.all AV.norefs = true) (front : List Wd) (es w : Wd) (hes1 : WdOk es) (hw : WdOk w) (hf : front.length < 1000000) (hsm : es.2.length + w.2.length ≤ 256) (c : Cp) {R : AV → Mem → Nat → Prop} (hR : ∀ id nx, (id = 2 ∨ id = 4) → R (mkRes []) (chM L front id (es.1 && w.2.isEmpty, es.2 ++ w.2)) nx) :
    BodyIs prog 61 [.sl w.1 (w.2.map intC) c, .sc (.bool true), .rf 0 0] (chM L front 2 es) 4 R := by
  refine BodyIs.of (nv := 3) (hid := [5, 24]) func61 rfl (by kernel_rfl) (by simp [ntmps61]) fun h0 => ?_
  rw [ntmps61, results61]
  obtain ⟨eb, es⟩ := es
  obtain ⟨wb, ws⟩ := w
  simp only at hsm hR ⊢
  have hwn : ws ≠ [] → wb = false := fun h => hw.ne h
  have hfl : (front.map chC).length = front.length := List.length_map _
  have h1 : decide ((0 : Int) < (front.length : Int) + 1) = true := decide_eq_true (by omega)
  have hin : ((front.length : Int) + 1 - 1).toNat = front.length := by omega
  have h256 : decide ((es.length : Int) + (ws.length : Int) ≤ 256) = true := decide_eq_true (by omega)
  have hr1 : room (es.length + ws.length) 8 = true := by simp only [room_eq, decide_eq_true_eq]; omega
  by_cases hes : es = []
  · subst hes
    rw [chM, if_pos rfl, lastA, if_pos rfl]
    simp only
    have hAl : (front.map chC ++ [[AV.sl eb [] .zer]]).length = front.length + 1 := by simp
    have hget : (front.map chC ++ [[AV.sl eb [] .zer]])[front.length]? = some [.sl eb [] .zer] := by rw [List.getElem?_append_right (by omega), hfl, Nat.sub_self]; rfl
    have hset : ∀ v : AV, (front.map chC ++ [[AV.sl eb [] .zer]]).set front.length [v] = front.map chC ++ [[v]] := fun v => by rw [List.set_append_right _ _ (by omega), hfl, Nat.sub_self]; rfl
    have hr1' : room ws.length 8 = true := by simpa using hr1
    have hy : ∀ a ∈ ws, (intC a).length = 1 := fun _ _ => rfl
    have h256' : decide ((ws.length : Int) ≤ 256) = true := decide_eq_true (by simp at hsm; omega)
    have hwl : ws.length ≤ 256 := by simpa using hsm
    rw [List.nil_append] at hR
    generalize hA : front.map chC ++ [[AV.sl eb [] .zer]] = A at hAl hget hset ⊢
    refine EvC.seq ?_
    refine EvC.seq (EvC.rg (by (simp only [go_sem, hAl, Int.natCast_add, Int.natCast_one]) <;> rfl) (by simp) ?_)
    apply EvC.seq
    apply EvC.trd
    · (simp only [go_sem, hAl, hget, hin, h1, List.length_map, Int.natCast_zero, Int.zero_add]) <;> rfl
    · simp; exact ⟨inI64_of (by omega) (by omega), inI64_of (by omega) (by omega)⟩
    refine EvC.cond_true (by (simp only [go_sem, h1, h256']) <;> rfl) ?_
    have hnC := norefs_chC front
    have hg2 : ∀ v : AV, (front.map chC ++ [[v]])[front.length]? = some [v] := fun v => by rw [List.getElem?_append_right (by omega), hfl, Nat.sub_self]; rfl
    have hs2 : ∀ u v : AV, (front.map chC ++ [[u]]).set front.length [v] = front.map chC ++ [[v]] := fun u v => by rw [List.set_append_right _ _ (by omega), hfl, Nat.sub_self]; rfl
    by_cases hws : ws = []
    · subst hws
      have hR' := fun nx => hR 2 nx (.inl rfl)
      rw [chM, if_pos rfl, lastA, if_pos rfl] at hR'
      simp only [List.isEmpty_nil, Bool.and_true] at hR'
      have hN : (front.map chC ++ [[AV.sl eb [] .zer]]).all AV.norefs = true := by rw [List.all_append, hnC]; rfl
      have hset1 := hset (.sl eb [] .zer)
      rw [hA] at hset1 hN hR'
      simp only [List.map_nil]
      apply EvC.seq
      apply EvC.drwA mixed  -- R2
      · apply Tr.cons
        · exact .op rfl (by (simp only [go_sem]) <;> rfl) (by (simp only [go_sem, hAl, hget, hin]) <;> rfl) (by simp) (by (simp only [go_sem]) <;> rfl)
        apply Tr.cons
        · exact .op rfl (by (simp only [go_sem]) <;> rfl) (by (simp only [go_sem, hAl, hget, hin]) <;> rfl) (by simp) (by (simp only [go_sem]) <;> rfl)
        apply Tr.cons
        · exact .op rfl (by (simp only [go_sem]) <;> rfl) (by (simp only [go_sem, hAl, hget, hin]) <;> rfl) (by simp [inI64_of (x := (front.length : Int)) (by omega) (by omega)]) (by (simp only [go_sem]) <;> rfl)
        apply Tr.cons
        · exact .op rfl (by (simp only [go_sem]) <;> rfl) (by (simp only [go_sem, hAl, hget, hin]) <;> rfl) (by simp) (by (simp only [go_sem]) <;> rfl)
        apply Tr.cons
        · exact .op rfl (by (simp only [go_sem]) <;> rfl) (by (simp only [go_sem, hAl, hget, hin]) <;> rfl) (by simp) (by (simp only [go_sem]) <;> rfl)
        apply Tr.cons
        · exact .op rfl (by (simp only [go_sem]) <;> rfl) (by (simp only [go_sem, hAl, hget, hin]) <;> rfl) (by simp [inI64_of (x := (front.length : Int)) (by omega) (by omega)]) (by (simp only [go_sem]) <;> rfl)
        apply Tr.cons
        · exact .op rfl (by (simp only [go_sem]) <;> rfl) (by (simp only [go_sem, hAl, hget, hin]) <;> rfl) (by simp) (by (simp only [go_sem]) <;> rfl)
        apply Tr.cons
        · exact .op rfl (by (simp only [go_sem]) <;> rfl) (by (simp only [go_sem, hAl, hget, hin]) <;> rfl) (by simp) (by (simp only [go_sem]) <;> rfl)
        apply Tr.cons
        · exact .op rfl (by (simp only [go_sem]) <;> rfl) (by (simp only [go_sem, hAl, hget, hin]) <;> rfl) (by simp) (by (simp only [go_sem]) <;> rfl)
        apply Tr.cons
        · exact .appZ rfl rfl (by (simp only [go_sem]) <;> rfl) (by (simp only [go_sem]) <;> rfl) (by (simp only [go_sem]) <;> rfl) (by (simp only [go_sem]) <;> rfl) (by (simp only [go_sem]) <;> rfl) (by (simp only [go_sem]) <;> rfl) (by (simp only [go_sem]) <;> rfl)
        apply Tr.done
        · (simp only [go_sem, hAl, hget, hin, hset1]) <;> rfl
        · simp; try omega
      · kernel_rfl
      refine EvC.gcE [] [(0, 0), (1, 1), (3, 3)] 4 rfl (by (simp only [go_sem, hN, hL]) <;> rfl) ?_
      refine EvC.ret ⟨.inl rfl, [], (by (simp only [go_sem]) <;> rfl), ?_⟩
      exact hR' _
    · have he : ws.isEmpty = false := by simpa using hws
      have hwb := hwn hws
      subst hwb
      have hne : ws.length ≠ 0 := by simpa using hws
      have hR' := fun nx => hR 4 nx (.inr rfl)
      rw [chM, if_neg hws, lastA, if_neg hws] at hR'
      simp only at hR'
      apply EvC.seq
      apply EvC.drwA mixed  -- R2
      · apply Tr.done
        · (simp only [go_sem, hAl, hget, hin, List.length_map, hset]) <;> rfl
        · simp [inI64_of (x := (front.length : Int)) (by omega) (by omega), hr1', hy]; try omega
      · kernel_rfl
      refine EvC.tvE 33 1 front.length (by (simp only [go_sem, hg2, hs2, he, hws, if_pos hne, List.length_map]) <;> rfl) ?_
      have hRn : ∀ v : AV, (front.map chC ++ [[v]]).map (fun c => c.map (AV.ren [(0, 0), (1, 1), (3, 3), (33, 4)])) = front.map chC ++ [[v.ren [(0, 0), (1, 1), (3, 3), (33, 4)]]] := fun v => by rw [List.map_append, chC_ren]; rfl
      have hN : (front.map chC ++ [[AV.tv 33 ws.length 0 ws.length .rest]]).all AV.norefs = false := by rw [List.all_append]; simp [AV.norefs, AV.noref]
      refine EvC.gcE [] [(0, 0), (1, 1), (3, 3), (33, 4)] 5 rfl (by (simp only [go_sem, hN, hRn, hL]) <;> rfl) ?_
      refine EvC.ret ⟨.inl rfl, [], (by (simp only [go_sem]) <;> rfl), ?_⟩
      exact hR' _
  · rw [chM, if_neg hes, lastA, if_neg hes]
    have hAl : (front.map chC ++ [[AV.tv 2 es.length 0 es.length .rest]]).length = front.length + 1 := by simp
    have hget : (front.map chC ++ [[AV.tv 2 es.length 0 es.length .rest]])[front.length]? = some [.tv 2 es.length 0 es.length .rest] := by rw [List.getElem?_append_right (by omega), hfl, Nat.sub_self]; rfl
    have hset : ∀ v : AV, (front.map chC ++ [[AV.tv 2 es.length 0 es.length .rest]]).set front.length [v] = front.map chC ++ [[v]] := fun v => by rw [List.set_append_right _ _ (by omega), hfl, Nat.sub_self]; rfl
    obtain ⟨T, hT⟩ : ∃ T, T = es ++ ws := ⟨_, rfl⟩
    have happ : es.map intC ++ ws.map intC = T.map intC := by rw [hT, List.map_append]
    have hal : es.length + ws.length = T.length := by rw [hT, List.length_append]
    have hne2 : es ++ ws ≠ [] := by simp [hes]
    have hel : es.length ≠ 0 := by simpa using hes
    have hR' := fun nx => hR 2 nx (.inl rfl)
    rw [chM, if_neg hne2, lastA, if_neg hne2, ← hT] at hR'
    generalize hA : front.map chC ++ [[AV.tv 2 es.length 0 es.length .rest]] = A at hAl hget hset ⊢
    refine EvC.seq ?_
    refine EvC.seq (EvC.rg (by (simp only [go_sem, hAl, Int.natCast_add, Int.natCast_one]) <;> rfl) (by simp) ?_)
    have hr1' : room T.length 8 = true := by rw [← hal]; exact hr1
    have hy : ∀ a ∈ ws, (intC a).length = 1 := fun _ _ => rfl
    have htk : List.take es.length (es.map intC) = es.map intC := List.take_of_length_le (by simp)
    apply EvC.seq
    apply EvC.trd
    · (simp only [go_sem, hAl, hget, hin, h1, htk, List.length_map]) <;> rfl
    · simp; exact ⟨inI64_of (by omega) (by omega), inI64_of (by omega) (by omega)⟩
    refine EvC.cond_true (by (simp only [go_sem, h1, h256]) <;> rfl) ?_
    apply EvC.seq
    apply EvC.drwA mixed  -- R2
    · apply Tr.done
      · (simp only [go_sem, hAl, hget, hin, htk, List.length_map, happ, hset, hal]) <;> rfl
      · simp [inI64_of (x := (front.length : Int)) (by omega) (by omega), hr1', hes, hy]; try omega
    · kernel_rfl
    refine EvC.ret ⟨.inl rfl, [], (by (simp only [go_sem]) <;> rfl), ?_⟩
    exact hR' _
end Go.Avl
