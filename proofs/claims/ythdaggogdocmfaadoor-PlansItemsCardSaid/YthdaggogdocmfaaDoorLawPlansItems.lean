/-
  Lemmas.
  Lemmas.
  Lemmas.
  Lemmas.
  Lemmas.
  Lemmas.
  Lemmas.
  How the machines of the laws read.
  How the specifications with faults, and pairs of prices, read.
  PlansItems returns true at every input, and each argument reads behind the call as it read before; the table of the kinds of faults is tied to the program's text.
  Conditions: those of the given row and card alone (no others).
-/
import Derived.Test.YthdaggogdocmfaaDoorPart9
set_option linter.unusedSimpArgs false
set_option linter.unusedVariables false
set_option linter.unnecessarySimpa false
set_option linter.deprecated false
namespace Go.Avl
open Go Go.Proofs.Tryd
set_option maxRecDepth 10000
set_option linter.unusedSimpArgs false

/-! ### Words by bytes -/
def wordOf (es : List Int) (n : Int) (most : Nat) : List Int := (es.take most).map (· % n)
theorem wordOf_len (es : List Int) (n : Int) (most : Nat) : (wordOf es n most).length ≤ most := by simp only [wordOf, List.length_map, List.length_take]; omega
theorem wordOf_in {es : List Int} {n : Int} {most : Nat} (hn : 1 ≤ n) : ∀ a ∈ wordOf es n most, 0 ≤ a ∧ a < n := fun a ha => by
  obtain ⟨x, _, rfl⟩ := List.mem_map.1 ha
  exact ⟨Int.emod_nonneg _ (by omega), Int.emod_lt_of_pos _ (by omega)⟩
theorem word20_is (nl : Bool) (es : List Int) (c : Cp) (n : Int) (most : Nat) (he : ∀ x ∈ es, 0 ≤ x ∧ x < 256) (hn : 1 ≤ n ∧ n ≤ 1000000) (hm : most < 1000) :
    PureIs prog 20 [.sl nl (es.map u8C) c, .sc (.int .i64 n), .sc (.int .i64 most)] (.sl (wordOf es n most).isEmpty ((wordOf es n most).map intC) .unk) := by
  refine PureIs.of (nv := 3) (hid := [6, 7, 8, 17]) func20 rfl (by kernel_rfl) (by simp [ntmps20]) fun _ => ?_
  rw [ntmps20, results20]
  refine EvC.seq (EvC.rg (by (simp only [go_sem]) <;> rfl) (by simp) ?_)
  refine EvC.seq (EvC.rg (by (simp only [go_sem]) <;> rfl) (by simp) ?_)
  refine EvC.seq ?_
  refine EvC.seq (EvC.rg (by (simp only [go_sem]) <;> rfl) (by simp) ?_)
  refine EvC.block ?_  -- 0
  refine EvC.loopS (σ := Nat) (fun i => ⟨[(0, .sl nl (es.map u8C) c), (1, .sc (.int .i64 n)), (2, .sc (.int .i64 most)), (7, .tl 0 (wordOf es n i).length (wordOf es n i).isEmpty), (8, .sc (.int .i64 i))], [], [(0, .arr 1 ((wordOf es n i).map intC) true)], 1⟩) (fun i => most - i) (fun i => i ≤ most ∧ i ≤ es.length) [0, 1, 2, 7, 8] 1 ?_ ?_
  · exact ⟨[(1, 0)], 0, rfl, (by (simp only [go_sem, Int.natCast_zero, wordOf, List.take_zero, List.map_nil, List.length_nil, List.isEmpty_nil]) <;> rfl), Nat.zero_le _, Nat.zero_le _⟩
  rintro i ⟨hi, hi2⟩
  refine EvC.seq ?_
  by_cases hend : i < es.length ∧ i < most
  rotate_left
  · -- else
    have hcond : decide ((i : Int) < es.length) = false ∨ (decide ((i : Int) < es.length) = true ∧ decide ((i : Int) < most) = false) := by
      by_cases h : i < es.length
      · exact .inr ⟨decide_eq_true (by omega), decide_eq_false (by omega)⟩
      · exact .inl (decide_eq_false (by omega))
    have htk : wordOf es n most = wordOf es n i := by
      unfold wordOf
      congr 1
      rcases Nat.lt_or_ge i es.length with h | h
      · rw [show most = i by omega]
      · rw [List.take_of_length_le (by omega), List.take_of_length_le (by omega)]
    rw [htk]
    generalize wordOf es n i = L
    rcases hcond with h | ⟨h, h'⟩
    · apply EvC.seq
      apply EvC.trd
      · (simp only [go_sem, List.length_map, h]) <;> rfl
      · simp
      refine EvC.cond_false (by (simp only [go_sem]) <;> rfl) ?_
      refine EvC.exit ?_  -- 0
      refine EvC.frz 0 (by (simp only [go_sem, List.length_map]) <;> rfl) ?_
      refine EvC.seq (EvC.rg (by (simp only [go_sem, List.length_map]) <;> rfl) (by simp) ?_)
      refine EvC.ret ⟨.inl rfl, _, (by (simp only [go_sem]) <;> rfl), ?_, rfl⟩
      simp only [go_sem]
    · apply EvC.seq
      apply EvC.trd
      · (simp only [go_sem, List.length_map, h, h']) <;> rfl
      · simp
      refine EvC.cond_false (by (simp only [go_sem]) <;> rfl) ?_
      refine EvC.exit ?_  -- 0
      refine EvC.frz 0 (by (simp only [go_sem, List.length_map]) <;> rfl) ?_
      refine EvC.seq (EvC.rg (by (simp only [go_sem, List.length_map]) <;> rfl) (by simp) ?_)
      refine EvC.ret ⟨.inl rfl, _, (by (simp only [go_sem]) <;> rfl), ?_, rfl⟩
      simp only [go_sem]
  obtain ⟨h1, h2⟩ := hend
  have d1 : decide ((i : Int) < es.length) = true := decide_eq_true (by omega)
  have d2 : decide ((i : Int) < most) = true := decide_eq_true (by omega)
  apply EvC.seq
  apply EvC.trd
  · (simp only [go_sem, List.length_map, d1, d2]) <;> rfl
  · simp
  refine EvC.cond_true (by (simp only [go_sem]) <;> rfl) ?_
  refine EvC.skip ?_
  refine EvC.seq ?_
  refine EvC.block ?_  -- 1
  have hx : es[i]? = some (es[i]'h1) := List.getElem?_eq_getElem h1
  have hb := he _ (List.getElem_mem h1)
  have hnext : wordOf es n (i + 1) = wordOf es n i ++ [(es[i]'h1) % n] := by
    unfold wordOf
    rw [List.take_succ_eq_append_getElem h1, List.map_append]; rfl
  have hli := wordOf_len es n i
  generalize es[i]'h1 = x at hx hb hnext
  generalize wordOf es n i = T at hnext hli
  have hin : (i : Int).toNat = i := Int.toNat_natCast i
  have hsn : T.map intC ++ [[.sc (.int .i64 (x % n))]] = (T ++ [x % n]).map intC := by simp [intC]
  have hsl : T.length + 1 = (T ++ [x % n]).length := by simp
  have hse : (T ++ [x % n]).isEmpty = false := by simp
  have hr2 : room (T.length + 1) 8 = true := by simp only [room_eq, decide_eq_true_eq]; omega
  rw [hsl] at hr2
  rw [← hnext] at hsn hsl hse hr2
  generalize hT' : wordOf es n (i + 1) = T' at hsn hsl hse hr2
  refine EvC.rg (by (simp only [go_sem, hx, u8C, hin, hsn, hsl, List.length_map]) <;> rfl) (by simp [hr2, hb.1, inI64_of (x := x) (by omega) (by omega)]; try omega) ?_
  refine EvC.rg (by (simp only [go_sem]) <;> rfl) (by exact inI64_of (by omega) (by omega)) ?_
  exact ⟨[(0, 0)], i + 1, rfl, (by rw [hT']; (simp only [go_sem, hse, Int.natCast_add, Int.natCast_one]) <;> rfl), ⟨by omega, by omega⟩, by omega⟩
def wW (w : List Int) : Wd := (w.isEmpty, w)
theorem wdC_wW (w : List Int) : wdC (wW w) = wC w := rfl
theorem LM.valid {x : LM} (h : x.Ok) : Valid x.mach := by
  obtain ⟨b1, b2, b3, b4, b5, b6, -, -⟩ := LM.bounds h
  have hl : x.mach.rows.length = x.n := by simp [LM.mach]
  refine ⟨⟨by show (1 : Int) ≤ x.i; omega, by show (x.i : Int) ≤ 16; omega⟩, ⟨b5, by show x.o ≤ 16; omega⟩, by rw [hl]; omega, fun r hr => ?_⟩
  rw [hl]
  simp only [LM.mach, List.mem_map, List.mem_range] at hr ⊢
  obtain ⟨s, hs, rfl⟩ := hr
  refine ⟨by simp [LM.row], fun e he => ?_⟩
  simp only [LM.row, List.mem_map, List.mem_range] at he
  obtain ⟨i, hi, rfl⟩ := he
  obtain ⟨v1, v2⟩ := LM.v_ok h s i
  unfold LM.edge
  split
  · simp [fitsR]
  · have h1 := Int.emod_nonneg (x.v s i / 4) (b := x.n) (by omega)
    have h2 := Int.emod_lt_of_pos (x.v s i / 4) (b := x.n) (by omega)
    have h3 := Int.emod_nonneg (x.v s i / 4 / x.n) (b := x.o) (by omega)
    have h4 := Int.emod_lt_of_pos (x.v s i / 4 / x.n) (b := x.o) (by omega)
    simp [fitsR, h1, h2, h3, h4]
theorem wordErr_ok {n : Int} (hn : 1 ≤ n ∧ n ≤ 16) {w : List Int} (hl : w.length ≤ 256) (h : ∀ a ∈ w, 0 ≤ a ∧ a < n) : wordErr n w = 0 := wordErr_of hn hl h
theorem wordsErr_of {n : Int} : ∀ {l : List Wd}, (∀ w ∈ l, wordErr n w.2 = 0) → wordsErr n l = 0
  | [], _ => rfl
  | w :: r, h => by
    rw [wordsErr, if_pos (h w (List.mem_cons_self ..))]
    exact wordsErr_of fun v hv => h v (List.mem_cons_of_mem _ hv)
/-- Words by bytes, the first k of them. -/
def wbR (x : Bool × List Int) : List AV := [.sl x.1 (x.2.map u8C) .unk]
def wordsTo (ws : List (Bool × List Int)) (n : Int) (most k : Nat) : List (List Int) := (ws.take k).map fun x => wordOf x.2 n most
theorem wordsTo_len (ws : List (Bool × List Int)) (n : Int) (most k : Nat) : (wordsTo ws n most k).length ≤ k := by simp only [wordsTo, List.length_map, List.length_take]; omega
theorem wordsTo_mem {ws : List (Bool × List Int)} {n : Int} {most k : Nat} (hn : 1 ≤ n) {w : List Int} (hw : w ∈ wordsTo ws n most k) : w.length ≤ most ∧ ∀ a ∈ w, 0 ≤ a ∧ a < n := by
  obtain ⟨x, _, rfl⟩ := List.mem_map.1 hw
  exact ⟨wordOf_len _ _ _, wordOf_in hn⟩
end Go.Avl
namespace Go.Avl
open Go Go.Proofs.Tryd
set_option maxRecDepth 10000
set_option linter.unusedSimpArgs false

/-! ### The reference's faults -/
theorem defined66_is {m : Mach} (hv : Valid m) (s i : Int) : PureIs prog 66 [.ag m.cells, .sc (.int .i64 s), .sc (.int .i64 i)] (.sc (.bool (definedB m s i))) := by
  refine PureIs.of (nv := 4) (hid := [6]) func66 rfl (by kernel_rfl) (by simp [ntmps66]) fun _ => ?_
  rw [ntmps66, results66]
  refine EvC.seq (EvC.rg (by (simp only [go_sem, Mach.cells]) <;> rfl) (by simp) ?_)
  refine EvC.frzB 0 (by (simp only [go_sem]) <;> rfl) ?_
  have hn1 := hv.rows
  have hi1 := hv.ins
  cases h1 : m.rows[s.toNat]? with
  | none =>
    have hs : m.rows.length ≤ s.toNat := List.getElem?_eq_none_iff.1 h1
    have d1 : decide (0 ≤ s) = true := decide_eq_true (by omega)
    have d2 : decide (s < (m.rows.length : Int)) = false := decide_eq_false (by omega)
    have hres : definedB m s i = false := by simp [definedB, d1, d2]
    rw [hres]
    apply EvC.seq
    apply EvC.tr
    · apply Tr.run
      · (simp only [go_sem, Mach.cells, List.length_map, h1, d1, d2]) <;> rfl
      · simp
      apply Tr.cons
      · exact .skipv (.ia [.sl false [] .unk]) rfl rfl (by (simp only [go_sem]) <;> rfl) (by (simp only [go_sem]) <;> rfl)
      apply Tr.run
      · (simp only [go_sem, Mach.cells, List.length_map, h1, d1, d2]) <;> rfl
      · simp
      apply Tr.cons
      · exact .skipv (.ia [.sc (.int .i64 0), .sc (.int .i64 0)]) rfl rfl (by (simp only [go_sem]) <;> rfl) (by (simp only [go_sem]) <;> rfl)
      apply Tr.done
      · (simp only [go_sem]) <;> rfl
      · simp
    refine EvC.ret ⟨.inl rfl, _, (by (simp only [go_sem]) <;> rfl), ?_, rfl⟩
    simp only [go_sem]
  | some r =>
    have hsl : s.toNat < m.rows.length := (List.getElem?_eq_some_iff.1 h1).1
    have hrl := (hv.row _ (List.mem_of_getElem? h1)).1
    cases h2 : r.2[i.toNat]? with
    | none =>
      have hi : r.2.length ≤ i.toNat := List.getElem?_eq_none_iff.1 h2
      have d3 : decide (0 ≤ i) = true := decide_eq_true (by omega)
      have d4 : decide (i < m.ins) = false := decide_eq_false (by omega)
      have hres : definedB m s i = false := by simp [definedB, d3, d4]
      rw [hres]
      by_cases h0 : 0 ≤ s
      · have d1 : decide (0 ≤ s) = true := decide_eq_true h0
        have d2 : decide (s < (m.rows.length : Int)) = true := decide_eq_true (by omega)
        apply EvC.seq
        apply EvC.tr
        · apply Tr.run
          · (simp only [go_sem, Mach.cells, rowC, List.length_map, h1, h2, d1, d2, d3, d4]) <;> rfl
          · simp
          apply Tr.cons
          · exact .skipv (.ia [.sc (.int .i64 0), .sc (.int .i64 0)]) rfl rfl (by (simp only [go_sem]) <;> rfl) (by (simp only [go_sem]) <;> rfl)
          apply Tr.done
          · (simp only [go_sem]) <;> rfl
          · simp
        refine EvC.ret ⟨.inl rfl, _, (by (simp only [go_sem]) <;> rfl), ?_, rfl⟩
        simp only [go_sem]
      · have d1 : decide (0 ≤ s) = false := decide_eq_false h0
        apply EvC.seq
        apply EvC.tr
        · apply Tr.run
          · (simp only [go_sem, Mach.cells, rowC, List.length_map, h1, h2, d1, d3, d4]) <;> rfl
          · simp
          apply Tr.cons
          · exact .skipv (.ia [.sc (.int .i64 0), .sc (.int .i64 0)]) rfl rfl (by (simp only [go_sem]) <;> rfl) (by (simp only [go_sem]) <;> rfl)
          apply Tr.done
          · (simp only [go_sem]) <;> rfl
          · simp
        refine EvC.ret ⟨.inl rfl, _, (by (simp only [go_sem]) <;> rfl), ?_, rfl⟩
        simp only [go_sem]
    | some e =>
      have he : stepM m s i = e := by rw [stepM, h1]; simp [h2]
      unfold definedB
      rw [he]
      apply EvC.seq
      apply EvC.trd
      · (simp only [go_sem, Mach.cells, h1, h2, rowC, edgeC, List.length_map]) <;> rfl
      · by_cases k1 : 0 ≤ s <;> by_cases k3 : 0 ≤ i <;> simp [k1, k3]
      refine EvC.ret ⟨.inl rfl, _, (by (simp only [go_sem]) <;> rfl), ?_, rfl⟩
      simp only [go_sem]
      by_cases k1 : 0 ≤ s <;> by_cases k2 : s < m.rows.length <;> by_cases k3 : 0 ≤ i <;> by_cases k4 : i < m.ins <;> simp [k1, k2, k3, k4]

theorem inN_if (x n : Int) : (if decide (0 ≤ x) = true then decide (x < n) else false) = inN x n := by
  unfold inN
  by_cases h : 0 ≤ x <;> simp [h]
set_option maxHeartbeats 4000000 in
theorem is40_is {m : Mach} (hv : Valid m) (f : FA) : PureIs prog 40 [.ag m.cells, .ag f.cells] (.sc (.bool (faultB m f))) := by
  obtain ⟨kd, s, i, t, a, o⟩ := f
  have qd := defined66_is hv s i
  refine PureIs.of (nv := 9) (hid := [15, 49, 50, 70, 90, 105, 118]) func40 rfl (by kernel_rfl) (by simp [ntmps40]) fun _ => ?_
  rw [ntmps40, results40]
  refine EvC.seq (EvC.rg (by (simp only [go_sem, Mach.cells, FA.cells]) <;> rfl) (by simp) ?_)
  refine EvC.frzB 0 (by (simp only [go_sem]) <;> rfl) ?_
  refine EvC.frzB 1 (by (simp only [go_sem]) <;> rfl) ?_
  refine EvC.seq ?_
  cases hd : definedB m s i with
  | false =>
    have hres : faultB m ⟨kd, s, i, t, a, o⟩ = false := by unfold faultB; simp only; rw [hd]; simp
    rw [hd] at qd
    rw [hres]
    apply EvC.seq
    apply EvC.tr
    · apply Tr.run
      · (simp only [go_sem, Mach.cells]) <;> rfl
      · simp
      apply Tr.cons
      · exact .call rfl rfl (by (simp only [go_sem]) <;> rfl) (by (simp only [go_sem]) <;> rfl) (by (simp only [go_sem]) <;> rfl) (by (simp only [go_sem]) <;> rfl) (by (simp only [go_sem]) <;> rfl) (qd)
      apply Tr.done
      · (simp only [go_sem]) <;> rfl
      · simp
    refine EvC.cond_true (by (simp only [go_sem]) <;> rfl) ?_
    refine EvC.seq (EvC.rg (by (simp only [go_sem]) <;> rfl) (by simp) ?_)
    refine EvC.ret ⟨.inl rfl, _, (by (simp only [go_sem]) <;> rfl), ?_, rfl⟩
    simp only [go_sem]
  | true =>
  rw [hd] at qd
  apply EvC.seq
  apply EvC.tr
  · apply Tr.run
    · (simp only [go_sem, Mach.cells]) <;> rfl
    · simp
    apply Tr.cons
    · exact .call rfl rfl (by (simp only [go_sem]) <;> rfl) (by (simp only [go_sem]) <;> rfl) (by (simp only [go_sem]) <;> rfl) (by (simp only [go_sem]) <;> rfl) (by (simp only [go_sem]) <;> rfl) (qd)
    apply Tr.done
    · (simp only [go_sem]) <;> rfl
    · simp
  refine EvC.cond_false (by (simp only [go_sem]) <;> rfl) ?_
  refine EvC.skip ?_
  obtain ⟨r, h1, h2, he⟩ := step_in hv hd
  obtain ⟨b1, b2, _⟩ := definedB_iff.1 hd
  have hfb : faultB m ⟨kd, s, i, t, a, o⟩ = (plainB ⟨kd, s, i, t, a, o⟩ && kindB m ⟨kd, s, i, t, a, o⟩) := by unfold faultB; simp only; rw [hd, Bool.true_and]
  rw [hfb]
  clear hfb
  unfold kindB
  simp only
  generalize stepM m s i = e at *
  have h3 : m.rows[e.1.toNat]? = some (m.rows[e.1.toNat]'(by omega)) := List.getElem?_eq_getElem (by omega)
  have hrl := (hv.row _ (List.getElem_mem (show e.1.toNat < m.rows.length by omega))).1
  generalize m.rows[e.1.toNat]'(by omega) = r3 at h3 hrl
  have hsm : stepM m e.1 a = (r3.2[a.toNat]?).getD (-1, -1) := by rw [stepM, h3]; rfl
  have hi1 := hv.ins
  have hro1 := hv.rows
  apply EvC.seq
  apply EvC.drd mixed
  · (simp only [go_sem, h1, h2, rowC, edgeC, List.length_map]) <;> rfl
  · simp; try omega
  · kernel_rfl
  refine EvC.frzB 20 (by (simp only [go_sem]) <;> rfl) ?_
  refine EvC.seq (EvC.rg (by (simp only [go_sem, List.length_map]) <;> rfl) (by simp) ?_)
  apply EvC.seq
  apply EvC.trd
  · (simp only [go_sem, inN_if]) <;> rfl
  · simp
  apply EvC.seq
  apply EvC.trd
  · (simp only [go_sem, inN_if]) <;> rfl
  · simp
  refine EvC.seq ?_
  refine EvC.seq (EvC.rg (by (simp only [go_sem]) <;> rfl) (by simp) ?_)
  refine EvC.block ?_  -- 0
  have hno : ¬ (kd = 0 ∨ kd = 1 ∨ kd = 2 ∨ kd = 3 ∨ kd = 4) → plainB ⟨kd, s, i, t, a, o⟩ = false := fun h => by
    unfold plainB
    simp only
    rw [if_neg (by omega), if_neg (by omega), if_neg (by omega), if_neg (by omega), if_neg (by omega)]
  by_cases hk0 : kd = 0
  · -- output
    subst hk0
    refine EvC.seq (EvC.rg (by (simp only [go_sem]) <;> rfl) (by simp) ?_)
    refine EvC.cond_true (by (simp only [go_sem]) <;> rfl) ?_
    apply EvC.seq
    apply EvC.trd
    · (simp only [go_sem, inN_if]) <;> rfl
    · simp
    refine EvC.ret ⟨.inl rfl, _, (by (simp only [go_sem]) <;> rfl), ?_, rfl⟩
    simp only [go_sem]
    unfold plainB
    generalize inN o m.outs = b
    by_cases e1 : t = 0 <;> by_cases e2 : a = 0 <;> cases b <;> simp [e1, e2]
  have dk0 : decide (kd = 0) = false := decide_eq_false hk0
  refine EvC.seq (EvC.rg (by (simp only [go_sem, dk0]) <;> rfl) (by simp) ?_)
  refine EvC.cond_false (by (simp only [go_sem]) <;> rfl) ?_
  by_cases hk1 : kd = 1
  · -- transfer
    subst hk1
    refine EvC.seq (EvC.rg (by (simp only [go_sem]) <;> rfl) (by simp) ?_)
    refine EvC.cond_true (by (simp only [go_sem]) <;> rfl) ?_
    apply EvC.seq
    apply EvC.trd
    · (simp only [go_sem, inN_if]) <;> rfl
    · simp
    refine EvC.ret ⟨.inl rfl, _, (by (simp only [go_sem]) <;> rfl), ?_, rfl⟩
    simp only [go_sem]
    unfold plainB
    generalize inN t m.rows.length = b
    by_cases e1 : o = 0 <;> by_cases e2 : a = 0 <;> cases b <;> simp [e1, e2]
  have dk1 : decide (kd = 1) = false := decide_eq_false hk1
  refine EvC.seq (EvC.rg (by (simp only [go_sem, dk1]) <;> rfl) (by simp) ?_)
  refine EvC.cond_false (by (simp only [go_sem]) <;> rfl) ?_
  by_cases hk2 : kd = 2
  · -- missing
    subst hk2
    refine EvC.seq (EvC.rg (by (simp only [go_sem]) <;> rfl) (by simp) ?_)
    refine EvC.cond_true (by (simp only [go_sem]) <;> rfl) ?_
    apply EvC.seq
    apply EvC.trd
    · (simp only [go_sem, inN_if]) <;> rfl
    · simp
    refine EvC.ret ⟨.inl rfl, _, (by (simp only [go_sem]) <;> rfl), ?_, rfl⟩
    simp only [go_sem]
    unfold plainB
    by_cases e1 : o = 0 <;> by_cases e2 : a = 0 <;> by_cases e3 : t = 0 <;> simp [e1, e2, e3]
  have dk2 : decide (kd = 2) = false := decide_eq_false hk2
  refine EvC.seq (EvC.rg (by (simp only [go_sem, dk2]) <;> rfl) (by simp) ?_)
  refine EvC.cond_false (by (simp only [go_sem]) <;> rfl) ?_
  by_cases hk3 : kd = 3
  · -- extra
    subst hk3
    refine EvC.seq (EvC.rg (by (simp only [go_sem]) <;> rfl) (by simp) ?_)
    refine EvC.cond_true (by (simp only [go_sem]) <;> rfl) ?_
    apply EvC.seq
    apply EvC.trd
    · (simp only [go_sem, inN_if]) <;> rfl
    · simp
    refine EvC.ret ⟨.inl rfl, _, (by (simp only [go_sem]) <;> rfl), ?_, rfl⟩
    simp only [go_sem]
    unfold plainB
    generalize inN t m.rows.length = b
    by_cases e1 : o = 0 <;> by_cases e2 : a = 0 <;> cases b <;> simp [e1, e2]
  have dk3 : decide (kd = 3) = false := decide_eq_false hk3
  refine EvC.seq (EvC.rg (by (simp only [go_sem, dk3]) <;> rfl) (by simp) ?_)
  refine EvC.cond_false (by (simp only [go_sem]) <;> rfl) ?_
  by_cases hk4 : kd = 4
  rotate_left
  · -- none of them
    have dk4 : decide (kd = 4) = false := decide_eq_false hk4
    rw [hno (by omega)]
    refine EvC.seq (EvC.rg (by (simp only [go_sem, dk4]) <;> rfl) (by simp) ?_)
    refine EvC.cond_false (by (simp only [go_sem]) <;> rfl) ?_
    refine EvC.skip ?_
    refine EvC.seq (EvC.rg (by (simp only [go_sem]) <;> rfl) (by simp) ?_)
    refine EvC.ret ⟨.inl rfl, _, (by (simp only [go_sem]) <;> rfl), ?_, rfl⟩
    simp only [go_sem]
  subst hk4
  have qd2 := defined66_is hv e.1 a
  refine EvC.seq (EvC.rg (by (simp only [go_sem]) <;> rfl) (by simp) ?_)
  refine EvC.cond_true (by (simp only [go_sem]) <;> rfl) ?_
  have hp4 : plainB ⟨4, s, i, t, a, o⟩ = decide (t = 0) := rfl
  rw [hp4]
  rw [hsm]
  cases h4 : r3.2[a.toNat]? with
  | none =>
    have hdf : definedB m e.1 a = false := by
      cases hx : definedB m e.1 a with
      | false => rfl
      | true =>
        obtain ⟨_, k2, _⟩ := definedB_iff.1 hx
        have := List.getElem?_eq_none_iff.1 h4
        omega
    rw [hdf] at qd2
    rw [hdf]
    simp only [Bool.false_and, Bool.and_false]
    by_cases ht0 : t = 0
    · have d1 : decide (t = 0) = true := decide_eq_true ht0
      apply EvC.seq
      apply EvC.drw mixed
      · apply Tr.run
        · (simp only [go_sem, d1, h3, h4, rowC, List.length_map, Mach.cells]) <;> rfl
        · simp
        apply Tr.cons
        · exact .callG rfl rfl (by (simp only [go_sem]) <;> rfl) rfl (by (simp only [go_sem]) <;> rfl) (by (simp only [go_sem]) <;> rfl) (by (simp only [go_sem]) <;> rfl) (by (simp only [go_sem]) <;> rfl) (by (simp only [go_sem]) <;> rfl) (qd2)
        apply Tr.run
        · (simp only [go_sem, d1, h3, h4, rowC, List.length_map, Mach.cells]) <;> rfl
        · simp
        apply Tr.cons
        · exact .skipv (.ia [.sc (.int .i64 0), .sc (.int .i64 0)]) rfl rfl (by (simp only [go_sem]) <;> rfl) (by (simp only [go_sem]) <;> rfl)
        apply Tr.done
        · (simp only [go_sem, d1, h3, h4, rowC, List.length_map, Mach.cells]) <;> rfl
        · simp
      · kernel_rfl
      refine EvC.ret ⟨.inl rfl, _, (by (simp only [go_sem]) <;> rfl), ?_, rfl⟩
      simp only [go_sem]
    · have d1 : decide (t = 0) = false := decide_eq_false ht0
      apply EvC.seq
      apply EvC.drw mixed
      · apply Tr.run
        · (simp only [go_sem, d1, h3, h4, rowC, List.length_map, Mach.cells]) <;> rfl
        · simp
        apply Tr.cons
        · exact .skipv (.sc (.bool false)) rfl rfl (by (simp only [go_sem]) <;> rfl) (by (simp only [go_sem]) <;> rfl)
        apply Tr.run
        · (simp only [go_sem, d1, h3, h4, rowC, List.length_map, Mach.cells]) <;> rfl
        · simp
        apply Tr.cons
        · exact .skipv (.ia [.sc (.int .i64 0), .sc (.int .i64 0)]) rfl rfl (by (simp only [go_sem]) <;> rfl) (by (simp only [go_sem]) <;> rfl)
        apply Tr.done
        · (simp only [go_sem, d1, h3, h4, rowC, List.length_map, Mach.cells]) <;> rfl
        · simp
      · kernel_rfl
      refine EvC.ret ⟨.inl rfl, _, (by (simp only [go_sem]) <;> rfl), ?_, rfl⟩
      simp only [go_sem]
  | some e4 =>
    have hal : a.toNat < r3.2.length := (List.getElem?_eq_some_iff.1 h4).1
    by_cases ht0 : t = 0
    rotate_left
    · have d1 : decide (t = 0) = false := decide_eq_false ht0
      apply EvC.seq
      apply EvC.drw mixed
      · apply Tr.run
        · (simp only [go_sem, d1, h3, h4, edgeC, rowC, List.length_map, Mach.cells]) <;> rfl
        · simp
        apply Tr.cons
        · exact .skipv (.sc (.bool false)) rfl rfl (by (simp only [go_sem]) <;> rfl) (by (simp only [go_sem]) <;> rfl)
        apply Tr.done
        · (simp only [go_sem, d1, h3, h4, edgeC, rowC, List.length_map, Mach.cells]) <;> rfl
        · simp
      · kernel_rfl
      refine EvC.ret ⟨.inl rfl, _, (by (simp only [go_sem]) <;> rfl), ?_, rfl⟩
      simp only [go_sem]
      rw [d1]; rfl
    have d1 : decide (t = 0) = true := decide_eq_true ht0
    cases hdf : definedB m e.1 a with
    | false =>
      rw [hdf] at qd2
      apply EvC.seq
      apply EvC.drw mixed
      · apply Tr.run
        · (simp only [go_sem, d1, h3, h4, edgeC, rowC, List.length_map, Mach.cells]) <;> rfl
        · simp
        apply Tr.cons
        · exact .callG rfl rfl (by (simp only [go_sem]) <;> rfl) rfl (by (simp only [go_sem]) <;> rfl) (by (simp only [go_sem]) <;> rfl) (by (simp only [go_sem]) <;> rfl) (by (simp only [go_sem]) <;> rfl) (by (simp only [go_sem]) <;> rfl) (qd2)
        apply Tr.done
        · (simp only [go_sem, d1, h3, h4, edgeC, rowC, List.length_map, Mach.cells]) <;> rfl
        · simp
      · kernel_rfl
      refine EvC.ret ⟨.inl rfl, _, (by (simp only [go_sem]) <;> rfl), ?_, rfl⟩
      simp only [go_sem]
    | true =>
      rw [hdf] at qd2
      obtain ⟨k1, k2, _⟩ := definedB_iff.1 hdf
      apply EvC.seq
      apply EvC.drw mixed
      · apply Tr.run
        · (simp only [go_sem, d1, h3, h4, edgeC, rowC, List.length_map, Mach.cells]) <;> rfl
        · simp; try omega
        apply Tr.cons
        · exact .callG rfl rfl (by (simp only [go_sem]) <;> rfl) rfl (by (simp only [go_sem]) <;> rfl) (by (simp only [go_sem]) <;> rfl) (by (simp only [go_sem]) <;> rfl) (by (simp only [go_sem]) <;> rfl) (by (simp only [go_sem]) <;> rfl) (qd2)
        apply Tr.done
        · (simp only [go_sem, d1, h3, h4, edgeC, rowC, List.length_map, Mach.cells]) <;> rfl
        · simp; try omega
      · kernel_rfl
      refine EvC.ret ⟨.inl rfl, _, (by (simp only [go_sem]) <;> rfl), ?_, rfl⟩
      simp only [go_sem]
      generalize inN o m.outs = b
      rw [d1]
      cases b <;> simp
end Go.Avl
namespace Go.Avl
open Go Go.Proofs.Tryd
set_option maxRecDepth 10000
set_option linter.unusedSimpArgs false

/-! ### All faults of some kinds -/
def faO (m : Mach) (k s i t a : Int) : Nat → List FA
  | 0 => []
  | n + 1 => faO m k s i t a n ++ (if faultB m ⟨k, s, i, t, a, n⟩ = true then [⟨k, s, i, t, a, n⟩] else [])
def faA (m : Mach) (k s i t : Int) : Nat → List FA
  | 0 => []
  | n + 1 => faA m k s i t n ++ faO m k s i t n m.outs.toNat
def faT (m : Mach) (k s i : Int) : Nat → List FA
  | 0 => []
  | n + 1 => faT m k s i n ++ faA m k s i n m.ins.toNat
def faI (m : Mach) (k s : Int) : Nat → List FA
  | 0 => []
  | n + 1 => faI m k s n ++ faT m k s n m.rows.length
def faS (m : Mach) (k : Int) : Nat → List FA
  | 0 => []
  | n + 1 => faS m k n ++ faI m k n m.ins.toNat
def faK (m : Mach) (ks : List Int) : Nat → List FA
  | 0 => []
  | n + 1 => faK m ks n ++ faS m ((ks[n]?).getD 0) m.rows.length
def allF (m : Mach) (ks : List Int) : List FA := faK m ks ks.length
theorem faO_len (m : Mach) (k s i t a : Int) : ∀ n, (faO m k s i t a n).length ≤ n
  | 0 => Nat.le_refl _
  | n + 1 => by
    have := faO_len m k s i t a n
    rw [faO, List.length_append]
    split <;> simp <;> omega
theorem faA_len {m : Mach} (hv : Valid m) (k s i t : Int) : ∀ n, (faA m k s i t n).length ≤ n * 16
  | 0 => Nat.le_refl _
  | n + 1 => by
    have := faA_len hv k s i t n
    have := faO_len m k s i t n m.outs.toNat
    have := hv.outs
    rw [faA, List.length_append]; omega
theorem faT_len {m : Mach} (hv : Valid m) (k s i : Int) : ∀ n, (faT m k s i n).length ≤ n * 256
  | 0 => Nat.le_refl _
  | n + 1 => by
    have := faT_len hv k s i n
    have := faA_len hv k s i n m.ins.toNat
    have := hv.ins
    rw [faT, List.length_append]; omega
theorem faI_len {m : Mach} (hv : Valid m) (k s : Int) : ∀ n, (faI m k s n).length ≤ n * 16384
  | 0 => Nat.le_refl _
  | n + 1 => by
    have := faI_len hv k s n
    have := faT_len hv k s n m.rows.length
    have := hv.rows
    rw [faI, List.length_append]; omega
theorem faS_len {m : Mach} (hv : Valid m) (k : Int) : ∀ n, (faS m k n).length ≤ n * 262144
  | 0 => Nat.le_refl _
  | n + 1 => by
    have := faS_len hv k n
    have := faI_len hv k n m.ins.toNat
    have := hv.ins
    rw [faS, List.length_append]; omega
theorem faK_len {m : Mach} (hv : Valid m) (ks : List Int) : ∀ n, (faK m ks n).length ≤ n * 16777216
  | 0 => Nat.le_refl _
  | n + 1 => by
    have := faK_len hv ks n
    have := faS_len hv ((ks[n]?).getD 0) m.rows.length
    have := hv.rows
    rw [faK, List.length_append]; omega
@[go_sem] theorem norefs_faL (l : List FA) : (l.map FA.cells).all AV.norefs = true := by simp [List.all_eq_true, FA.cells, AV.norefs, AV.noref]
def apF (a b : List FA) : List FA := a ++ b
theorem apF_nil (a : List FA) : apF a [] = a := List.append_nil a
theorem apF_app (a b c : List FA) : apF a (b ++ c) = apF (apF a b) c := (List.append_assoc a b c).symm
theorem apF_len (a b : List FA) : (apF a b).length = a.length + b.length := List.length_append
set_option maxHeartbeats 8000000 in
theorem all48_is {m : Mach} (hv : Valid m) (kn : Bool) (ks : List Int) (kc : Cp) (hks : ks.length ≤ 1000) : PureIs prog 48 [.ag m.cells, .sl kn (ks.map intC) kc] (.sl (allF m ks).isEmpty ((allF m ks).map FA.cells) .unk) := by
  have hmi := hv.ins
  have hmo := hv.outs
  have hmr := hv.rows
  refine PureIs.of (nv := 3) (hid := [4, 5, 6, 7, 8, 9, 10, 11, 12, 16, 23, 29, 36, 42, 48, 63]) func48 rfl (by kernel_rfl) (by simp [ntmps48]) fun _ => ?_
  rw [ntmps48, results48]
  refine EvC.seq (EvC.rg (by (simp only [go_sem, Mach.cells]) <;> rfl) (by simp) ?_)
  refine EvC.frzB 0 (by (simp only [go_sem]) <;> rfl) ?_
  refine EvC.seq (EvC.rg (by (simp only [go_sem]) <;> rfl) (by simp) ?_)
  refine EvC.seq ?_
  refine EvC.seq (EvC.rg (by (simp only [go_sem]) <;> rfl) (by simp) ?_)
  refine EvC.block ?_  -- 0
  obtain ⟨pre, hpre⟩ : ∃ pre : List FA, pre = [] := ⟨_, rfl⟩
  have hpl : pre.length ≤ 0 := by rw [hpre]; exact Nat.le_refl _
  refine EvC.loopS (σ := Nat) (fun n => ⟨[(1, .sl kn (ks.map intC) kc), (2, .ia m.cells), (5, .tl 0 (apF pre (faK m ks n)).length (apF pre (faK m ks n)).isEmpty), (6, .sc (.int .i64 n))], [], [(0, .arr 6 ((apF pre (faK m ks n)).map FA.cells) true)], 1⟩) (fun n => ks.length - n) (fun n => n ≤ ks.length) [1, 2, 5, 6] 1 ?_ ?_
  · exact ⟨[(2, 0)], 0, rfl, (by rw [hpre, show apF [] (faK m ks 0) = [] from rfl]; (simp only [go_sem, Int.natCast_zero, List.map_nil, List.length_nil, List.isEmpty_nil]) <;> rfl), Nat.zero_le _⟩
  intro kN hkN
  refine EvC.seq ?_
  refine EvC.seq (EvC.rg (by (simp only [go_sem, Mach.cells, List.length_map]) <;> rfl) (by simp) ?_)
  refine EvC.cond (by (simp only [go_sem]) <;> rfl) (fun hc => ?_) (fun hc => ?_)
  rotate_left
  · -- else
    refine EvC.exit ?_  -- 0
    obtain rfl : ks.length = kN := by have : ¬ (kN : Int) < ks.length := (by simpa using hc); omega
    clear hc
    subst hpre
    rw [show apF [] (faK m ks ks.length) = allF m ks from rfl]
    refine EvC.seq (EvC.rg (by (simp only [go_sem]) <;> rfl) (by simp) ?_)
    refine EvC.frz 0 (by (simp only [go_sem, List.length_map]) <;> rfl) ?_
    refine EvC.ret ⟨.inl rfl, _, (by (simp only [go_sem]) <;> rfl), ?_, rfl⟩
    simp only [go_sem]
  have hkNl : kN + 1 ≤ ks.length := by have : (kN : Int) < ks.length := (by simpa using hc); omega
  clear hc
  have he : ks[kN]? = some (ks[kN]'hkNl) := List.getElem?_eq_getElem hkNl
  generalize ks[kN]'hkNl = k at he
  obtain ⟨kZ, hZ⟩ : ∃ z : Int, z = (kN : Int) := ⟨_, rfl⟩
  have hin : kZ.toNat = kN := by omega
  rw [← hZ]
  have hnK : apF pre (faK m ks (kN + 1)) = apF (apF pre (faK m ks kN)) (faS m k m.rows.length) := by rw [faK, he, Option.getD_some, apF_app]
  have hlenK := faK_len hv ks kN
  have hplK : (apF pre (faK m ks kN)).length ≤ 16777216 * 1000 := by rw [apF_len]; omega
  generalize apF pre (faK m ks kN) = pre1 at hnK hplK ⊢
  clear hlenK
  refine EvC.skip ?_
  refine EvC.seq ?_
  refine EvC.block ?_  -- 1
  refine EvC.seq (EvC.rg (by (simp only [go_sem]) <;> rfl) (by simp) ?_)
  refine EvC.block ?_  -- 2
  clear hpre
  refine EvC.loopS (σ := Nat) (fun n => ⟨[(1, .sl kn (ks.map intC) kc), (2, .ia m.cells), (5, .tl 0 (apF pre1 (faS m k n)).length (apF pre1 (faS m k n)).isEmpty), (6, .sc (.int .i64 kZ)), (7, .sc (.int .i64 n))], [], [(0, .arr 6 ((apF pre1 (faS m k n)).map FA.cells) true)], 1⟩) (fun n => m.rows.length - n) (fun n => n ≤ m.rows.length) [1, 2, 5, 6, 7] 1 ?_ ?_
  · exact ⟨[(0, 0)], 0, rfl, (by rw [show faS m k 0 = [] from rfl, apF_nil]; (simp only [go_sem, Int.natCast_zero]) <;> rfl), Nat.zero_le _⟩
  intro sN hsN
  refine EvC.seq ?_
  refine EvC.seq (EvC.rg (by (simp only [go_sem, Mach.cells, List.length_map]) <;> rfl) (by simp) ?_)
  refine EvC.cond (by (simp only [go_sem]) <;> rfl) (fun hc => ?_) (fun hc => ?_)
  rotate_left
  · -- else
    refine EvC.exit ?_  -- 2
    obtain rfl : m.rows.length = sN := by have : ¬ (sN : Int) < m.rows.length := (by simpa using hc); omega
    clear hc
    refine EvC.rg (by (simp only [go_sem]) <;> rfl) (by exact inI64_of (by omega) (by omega)) ?_
    exact ⟨[(0, 0)], kN + 1, rfl, (by rw [hnK]; (simp only [go_sem, Int.natCast_add, Int.natCast_one, hZ]) <;> rfl), hkNl, by omega⟩
  have hsNl : sN + 1 ≤ m.rows.length := by have : (sN : Int) < m.rows.length := (by simpa using hc); omega
  clear hc
  obtain ⟨s, hsZ⟩ : ∃ z : Int, z = (sN : Int) := ⟨_, rfl⟩
  have hnS : apF pre1 (faS m k (sN + 1)) = apF (apF pre1 (faS m k sN)) (faI m k s m.ins.toNat) := by rw [faS, apF_app, hsZ]
  rw [← hsZ]
  have hlenS := faS_len hv k sN
  have hplS : (apF pre1 (faS m k sN)).length ≤ 16777216 * 1001 := by rw [apF_len]; omega
  generalize apF pre1 (faS m k sN) = pre2 at hnS hplS ⊢
  clear hlenS
  refine EvC.skip ?_
  refine EvC.seq ?_
  refine EvC.block ?_  -- 3
  refine EvC.seq (EvC.rg (by (simp only [go_sem]) <;> rfl) (by simp) ?_)
  refine EvC.block ?_  -- 4
  refine EvC.loopS (σ := Nat) (fun n => ⟨[(1, .sl kn (ks.map intC) kc), (2, .ia m.cells), (5, .tl 0 (apF pre2 (faI m k s n)).length (apF pre2 (faI m k s n)).isEmpty), (6, .sc (.int .i64 kZ)), (7, .sc (.int .i64 s)), (8, .sc (.int .i64 n))], [], [(0, .arr 6 ((apF pre2 (faI m k s n)).map FA.cells) true)], 1⟩) (fun n => m.ins.toNat - n) (fun n => n ≤ m.ins.toNat) [1, 2, 5, 6, 7, 8] 1 ?_ ?_
  · exact ⟨[(0, 0)], 0, rfl, (by rw [show faI m k s 0 = [] from rfl, apF_nil]; (simp only [go_sem, Int.natCast_zero]) <;> rfl), Nat.zero_le _⟩
  intro iN hiN
  refine EvC.seq ?_
  refine EvC.seq (EvC.rg (by (simp only [go_sem, Mach.cells, List.length_map]) <;> rfl) (by simp) ?_)
  refine EvC.cond (by (simp only [go_sem]) <;> rfl) (fun hc => ?_) (fun hc => ?_)
  rotate_left
  · -- else
    refine EvC.exit ?_  -- 4
    obtain rfl : iN = m.ins.toNat := by have : ¬ (iN : Int) < m.ins := (by simpa using hc); omega
    clear hc
    refine EvC.rg (by (simp only [go_sem]) <;> rfl) (by exact inI64_of (by omega) (by omega)) ?_
    exact ⟨[(0, 0)], sN + 1, rfl, (by rw [hnS]; (simp only [go_sem, Int.natCast_add, Int.natCast_one, hsZ]) <;> rfl), hsNl, by omega⟩
  have hiNl : iN + 1 ≤ m.ins.toNat := by have : (iN : Int) < m.ins := (by simpa using hc); omega
  clear hc
  obtain ⟨i, hiZ⟩ : ∃ z : Int, z = (iN : Int) := ⟨_, rfl⟩
  have hnI : apF pre2 (faI m k s (iN + 1)) = apF (apF pre2 (faI m k s iN)) (faT m k s i m.rows.length) := by rw [faI, apF_app, hiZ]
  rw [← hiZ]
  have hlenI := faI_len hv k s iN
  have hplI : (apF pre2 (faI m k s iN)).length ≤ 16777216 * 1002 := by rw [apF_len]; omega
  generalize apF pre2 (faI m k s iN) = pre3 at hnI hplI ⊢
  clear hlenI
  refine EvC.skip ?_
  refine EvC.seq ?_
  refine EvC.block ?_  -- 5
  refine EvC.seq (EvC.rg (by (simp only [go_sem]) <;> rfl) (by simp) ?_)
  refine EvC.block ?_  -- 6
  refine EvC.loopS (σ := Nat) (fun n => ⟨[(1, .sl kn (ks.map intC) kc), (2, .ia m.cells), (5, .tl 0 (apF pre3 (faT m k s i n)).length (apF pre3 (faT m k s i n)).isEmpty), (6, .sc (.int .i64 kZ)), (7, .sc (.int .i64 s)), (8, .sc (.int .i64 i)), (9, .sc (.int .i64 n))], [], [(0, .arr 6 ((apF pre3 (faT m k s i n)).map FA.cells) true)], 1⟩) (fun n => m.rows.length - n) (fun n => n ≤ m.rows.length) [1, 2, 5, 6, 7, 8, 9] 1 ?_ ?_
  · exact ⟨[(0, 0)], 0, rfl, (by rw [show faT m k s i 0 = [] from rfl, apF_nil]; (simp only [go_sem, Int.natCast_zero]) <;> rfl), Nat.zero_le _⟩
  intro tN htN
  refine EvC.seq ?_
  refine EvC.seq (EvC.rg (by (simp only [go_sem, Mach.cells, List.length_map]) <;> rfl) (by simp) ?_)
  refine EvC.cond (by (simp only [go_sem]) <;> rfl) (fun hc => ?_) (fun hc => ?_)
  rotate_left
  · -- else
    refine EvC.exit ?_  -- 6
    obtain rfl : m.rows.length = tN := by have : ¬ (tN : Int) < m.rows.length := (by simpa using hc); omega
    clear hc
    refine EvC.rg (by (simp only [go_sem]) <;> rfl) (by exact inI64_of (by omega) (by omega)) ?_
    exact ⟨[(0, 0)], iN + 1, rfl, (by rw [hnI]; (simp only [go_sem, Int.natCast_add, Int.natCast_one, hiZ]) <;> rfl), hiNl, by omega⟩
  have htNl : tN + 1 ≤ m.rows.length := by have : (tN : Int) < m.rows.length := (by simpa using hc); omega
  clear hc
  obtain ⟨t, htZ⟩ : ∃ z : Int, z = (tN : Int) := ⟨_, rfl⟩
  have hnT : apF pre3 (faT m k s i (tN + 1)) = apF (apF pre3 (faT m k s i tN)) (faA m k s i t m.ins.toNat) := by rw [faT, apF_app, htZ]
  rw [← htZ]
  have hlenT := faT_len hv k s i tN
  have hplT : (apF pre3 (faT m k s i tN)).length ≤ 16777216 * 1003 := by rw [apF_len]; omega
  generalize apF pre3 (faT m k s i tN) = pre4 at hnT hplT ⊢
  clear hlenT
  refine EvC.skip ?_
  refine EvC.seq ?_
  refine EvC.block ?_  -- 7
  refine EvC.seq (EvC.rg (by (simp only [go_sem]) <;> rfl) (by simp) ?_)
  refine EvC.block ?_  -- 8
  refine EvC.loopS (σ := Nat) (fun n => ⟨[(1, .sl kn (ks.map intC) kc), (2, .ia m.cells), (5, .tl 0 (apF pre4 (faA m k s i t n)).length (apF pre4 (faA m k s i t n)).isEmpty), (6, .sc (.int .i64 kZ)), (7, .sc (.int .i64 s)), (8, .sc (.int .i64 i)), (9, .sc (.int .i64 t)), (10, .sc (.int .i64 n))], [], [(0, .arr 6 ((apF pre4 (faA m k s i t n)).map FA.cells) true)], 1⟩) (fun n => m.ins.toNat - n) (fun n => n ≤ m.ins.toNat) [1, 2, 5, 6, 7, 8, 9, 10] 1 ?_ ?_
  · exact ⟨[(0, 0)], 0, rfl, (by rw [show faA m k s i t 0 = [] from rfl, apF_nil]; (simp only [go_sem, Int.natCast_zero]) <;> rfl), Nat.zero_le _⟩
  intro aN haN
  refine EvC.seq ?_
  refine EvC.seq (EvC.rg (by (simp only [go_sem, Mach.cells, List.length_map]) <;> rfl) (by simp) ?_)
  refine EvC.cond (by (simp only [go_sem]) <;> rfl) (fun hc => ?_) (fun hc => ?_)
  rotate_left
  · -- else
    refine EvC.exit ?_  -- 8
    obtain rfl : aN = m.ins.toNat := by have : ¬ (aN : Int) < m.ins := (by simpa using hc); omega
    clear hc
    refine EvC.rg (by (simp only [go_sem]) <;> rfl) (by exact inI64_of (by omega) (by omega)) ?_
    exact ⟨[(0, 0)], tN + 1, rfl, (by rw [hnT]; (simp only [go_sem, Int.natCast_add, Int.natCast_one, htZ]) <;> rfl), htNl, by omega⟩
  have haNl : aN + 1 ≤ m.ins.toNat := by have : (aN : Int) < m.ins := (by simpa using hc); omega
  clear hc
  obtain ⟨a, haZ⟩ : ∃ z : Int, z = (aN : Int) := ⟨_, rfl⟩
  have hnA : apF pre4 (faA m k s i t (aN + 1)) = apF (apF pre4 (faA m k s i t aN)) (faO m k s i t a m.outs.toNat) := by rw [faA, apF_app, haZ]
  rw [← haZ]
  have hlenA := faA_len hv k s i t aN
  have hplA : (apF pre4 (faA m k s i t aN)).length ≤ 16777216 * 1004 := by rw [apF_len]; omega
  generalize apF pre4 (faA m k s i t aN) = pre5 at hnA hplA ⊢
  clear hlenA
  refine EvC.skip ?_
  refine EvC.seq ?_
  refine EvC.block ?_  -- 9
  refine EvC.seq (EvC.rg (by (simp only [go_sem]) <;> rfl) (by simp) ?_)
  refine EvC.block ?_  -- 10
  refine EvC.loopS (σ := Nat) (fun n => ⟨[(1, .sl kn (ks.map intC) kc), (2, .ia m.cells), (5, .tl 0 (apF pre5 (faO m k s i t a n)).length (apF pre5 (faO m k s i t a n)).isEmpty), (6, .sc (.int .i64 kZ)), (7, .sc (.int .i64 s)), (8, .sc (.int .i64 i)), (9, .sc (.int .i64 t)), (10, .sc (.int .i64 a)), (11, .sc (.int .i64 n))], [], [(0, .arr 6 ((apF pre5 (faO m k s i t a n)).map FA.cells) true)], 1⟩) (fun n => m.outs.toNat - n) (fun n => n ≤ m.outs.toNat) [1, 2, 5, 6, 7, 8, 9, 10, 11] 1 ?_ ?_
  · exact ⟨[(0, 0)], 0, rfl, (by rw [show faO m k s i t a 0 = [] from rfl, apF_nil]; (simp only [go_sem, Int.natCast_zero]) <;> rfl), Nat.zero_le _⟩
  intro oN hoN
  refine EvC.seq ?_
  refine EvC.seq (EvC.rg (by (simp only [go_sem, Mach.cells, List.length_map]) <;> rfl) (by simp) ?_)
  refine EvC.cond (by (simp only [go_sem]) <;> rfl) (fun hc => ?_) (fun hc => ?_)
  rotate_left
  · -- else
    refine EvC.exit ?_  -- 10
    obtain rfl : oN = m.outs.toNat := by have : ¬ (oN : Int) < m.outs := (by simpa using hc); omega
    clear hc
    refine EvC.rg (by (simp only [go_sem]) <;> rfl) (by exact inI64_of (by omega) (by omega)) ?_
    exact ⟨[(0, 0)], aN + 1, rfl, (by rw [hnA]; (simp only [go_sem, Int.natCast_add, Int.natCast_one, haZ]) <;> rfl), haNl, by omega⟩
  have hoNl : oN + 1 ≤ m.outs.toNat := by have : (oN : Int) < m.outs := (by simpa using hc); omega
  clear hc
  have hlenO := faO_len m k s i t a oN
  have hplO : (apF pre5 (faO m k s i t a oN)).length ≤ 16777216 * 1005 := by rw [apF_len]; omega
  have q := is40_is hv ⟨k, s, i, t, a, oN⟩
  have hnO : apF pre5 (faO m k s i t a (oN + 1)) = apF (apF pre5 (faO m k s i t a oN)) (if faultB m ⟨k, s, i, t, a, oN⟩ = true then [⟨k, s, i, t, a, oN⟩] else []) := by rw [faO, apF_app]
  generalize apF pre5 (faO m k s i t a oN) = L at hnO hplO ⊢
  refine EvC.skip ?_
  refine EvC.seq ?_
  refine EvC.block ?_  -- 11
  refine EvC.seq (EvC.rg (by (simp only [go_sem, he, hin, intC]) <;> rfl) (by simp; try omega) ?_)
  cases hF : faultB m ⟨k, s, i, t, a, oN⟩ with
  | false =>
    rw [hF] at q hnO
    rw [if_neg (by simp), apF_nil] at hnO
    apply EvC.seq
    apply EvC.tr
    · apply Tr.run
      · (simp only [go_sem, Mach.cells, FA.cells]) <;> rfl
      · simp
      apply Tr.cons
      · exact .call rfl rfl (by (simp only [go_sem]) <;> rfl) (by (simp only [go_sem]) <;> rfl) (by (simp only [go_sem]) <;> rfl) (by (simp only [go_sem]) <;> rfl) (by (simp only [go_sem]) <;> rfl) (q)
      apply Tr.done
      · (simp only [go_sem]) <;> rfl
      · simp
    refine EvC.cond_false (by (simp only [go_sem]) <;> rfl) ?_
    refine EvC.skip ?_
    refine EvC.rg (by (simp only [go_sem]) <;> rfl) (by exact inI64_of (by omega) (by omega)) ?_
    exact ⟨[(0, 0)], oN + 1, rfl, (by rw [hnO]; (simp only [go_sem, Int.natCast_add, Int.natCast_one]) <;> rfl), hoNl, by omega⟩
  | true =>
    rw [hF] at q hnO
    rw [if_pos rfl] at hnO
    have hnO : apF pre5 (faO m k s i t a (oN + 1)) = L ++ [(⟨k, s, i, t, a, oN⟩ : FA)] := hnO
    apply EvC.seq
    apply EvC.tr
    · apply Tr.run
      · (simp only [go_sem, Mach.cells, FA.cells]) <;> rfl
      · simp
      apply Tr.cons
      · exact .call rfl rfl (by (simp only [go_sem]) <;> rfl) (by (simp only [go_sem]) <;> rfl) (by (simp only [go_sem]) <;> rfl) (by (simp only [go_sem]) <;> rfl) (by (simp only [go_sem]) <;> rfl) (q)
      apply Tr.done
      · (simp only [go_sem]) <;> rfl
      · simp
    refine EvC.cond_true (by (simp only [go_sem]) <;> rfl) ?_
    have hsn : L.map FA.cells ++ [[.sc (.int .i64 k), .sc (.int .i64 s), .sc (.int .i64 i), .sc (.int .i64 t), .sc (.int .i64 a), .sc (.int .i64 (oN : Int))]] = (L ++ [(⟨k, s, i, t, a, oN⟩ : FA)]).map FA.cells := by simp [FA.cells]
    have hsl : L.length + 1 = (L ++ [(⟨k, s, i, t, a, oN⟩ : FA)]).length := by simp
    have hse : (L ++ [(⟨k, s, i, t, a, oN⟩ : FA)]).isEmpty = false := by simp
    have hr2 : room (L.length + 1) 48 = true := by simp only [room_eq, decide_eq_true_eq]; omega
    rw [hsl] at hr2
    rw [← hnO] at hsn hsl hse hr2
    generalize hT' : apF pre5 (faO m k s i t a (oN + 1)) = T' at hsn hsl hse hr2
    refine EvC.rg (by (simp only [go_sem, hsn, hsl, List.length_map]) <;> rfl) (by simp [hr2]) ?_
    refine EvC.rg (by (simp only [go_sem]) <;> rfl) (by exact inI64_of (by omega) (by omega)) ?_
    exact ⟨[(0, 0)], oN + 1, rfl, (by rw [hT']; (simp only [go_sem, hse, Int.natCast_add, Int.natCast_one]) <;> rfl), hoNl, by omega⟩
end Go.Avl
namespace Go.Avl
open Go Go.Proofs.Tryd
set_option maxRecDepth 10000
set_option linter.unusedSimpArgs false

theorem faO_mem {m : Mach} {k s i t a : Int} {f : FA} : ∀ {n}, f ∈ faO m k s i t a n → faultB m f = true
  | n + 1, h => by
    rw [faO] at h
    rcases List.mem_append.1 h with h | h
    · exact faO_mem h
    · split at h
      · rename_i hf; rw [List.mem_singleton.1 h]; exact hf
      · cases h
theorem faA_mem {m : Mach} {k s i t : Int} {f : FA} : ∀ {n}, f ∈ faA m k s i t n → faultB m f = true
  | n + 1, h => by
    rw [faA] at h
    rcases List.mem_append.1 h with h | h
    · exact faA_mem h
    · exact faO_mem h
theorem faT_mem {m : Mach} {k s i : Int} {f : FA} : ∀ {n}, f ∈ faT m k s i n → faultB m f = true
  | n + 1, h => by
    rw [faT] at h
    rcases List.mem_append.1 h with h | h
    · exact faT_mem h
    · exact faA_mem h
theorem faI_mem {m : Mach} {k s : Int} {f : FA} : ∀ {n}, f ∈ faI m k s n → faultB m f = true
  | n + 1, h => by
    rw [faI] at h
    rcases List.mem_append.1 h with h | h
    · exact faI_mem h
    · exact faT_mem h
theorem faS_mem {m : Mach} {k : Int} {f : FA} : ∀ {n}, f ∈ faS m k n → faultB m f = true
  | n + 1, h => by
    rw [faS] at h
    rcases List.mem_append.1 h with h | h
    · exact faS_mem h
    · exact faI_mem h
theorem faK_mem {m : Mach} {ks : List Int} {f : FA} : ∀ {n}, f ∈ faK m ks n → faultB m f = true
  | n + 1, h => by
    rw [faK] at h
    rcases List.mem_append.1 h with h | h
    · exact faK_mem h
    · exact faS_mem h
/-- Faults by numbers. -/
def pickF (all : List FA) (ls : List Int) : Nat → List FA
  | 0 => []
  | k + 1 => pickF all ls k ++ ((ls[k]?).bind fun v => all[(v % (all.length : Int)).toNat]?).toList
theorem pickF_mem {all : List FA} {ls : List Int} {f : FA} : ∀ {k}, f ∈ pickF all ls k → f ∈ all
  | k + 1, h => by
    rw [pickF] at h
    rcases List.mem_append.1 h with h | h
    · exact pickF_mem h
    · rw [Option.mem_toList] at h
      cases hl : ls[k]? with
      | none => rw [hl] at h; cases h
      | some v => rw [hl] at h; exact List.mem_of_getElem? h
theorem pickF_len (all : List FA) (ls : List Int) : ∀ k, (pickF all ls k).length ≤ k
  | 0 => Nat.le_refl _
  | k + 1 => by
    have := pickF_len all ls k
    have h2 : ∀ o : Option FA, o.toList.length ≤ 1 := fun o => by cases o <;> simp
    have := h2 ((ls[k]?).bind fun v => all[(v % (all.length : Int)).toNat]?)
    rw [pickF, List.length_append]; omega
theorem pickF_empty (ls : List Int) : ∀ k, pickF [] ls k = []
  | 0 => rfl
  | k + 1 => by
    rw [pickF, pickF_empty ls k]
    cases ls[k]? <;> rfl
theorem pickF_more (all : List FA) (ls : List Int) : ∀ {k n : Nat}, ls.length ≤ k → k ≤ n → pickF all ls n = pickF all ls k
  | k, 0, h, hn => by rw [show k = 0 by omega]
  | k, n + 1, h, hn => by
    rcases Nat.lt_or_ge k (n + 1) with h1 | h1
    · rw [pickF, pickF_more all ls h (by omega : k ≤ n), List.getElem?_eq_none (by omega)]; simp
    · rw [show k = n + 1 by omega]
def allK : List Int := [0, 1, 2, 3, 4]
def sOfL (x : LM) (ls : List Int) : List FA := pickF (allF x.mach allK) ls 16
set_option maxHeartbeats 4000000 in
theorem sOf19_is {x : LM} (hx : x.Ok) (ln : Bool) (ls : List Int) (lc : Cp) (hls : ∀ v ∈ ls, 0 ≤ v ∧ v < 65536) :
    PureIs prog 19 [.ag (x.cells ++ [.sl ln (ls.map u16C) lc])] (.tu [.ag x.mach.cells, .sl (sOfL x ls).isEmpty ((sOfL x ls).map FA.cells) .unk]) := by
  have va := LM.valid hx
  unfold sOfL
  obtain ⟨m, hm⟩ : ∃ m, m = x.mach := ⟨_, rfl⟩
  rw [← hm] at va ⊢
  have hA : PureIs prog 34 [.ag [.sc (.int .u8 x.st), .sc (.int .u8 x.ins), .sc (.int .u8 x.outs), .sc (.bool x.part), .sl x.nl (x.es.map u16C) x.cap]] (.ag [.sc (.int .i64 m.ins), .sc (.int .i64 m.outs), .sl m.nl (m.rows.map rowC) .unk]) := by
    have := mOf_is hx; rw [← hm] at this; exact this
  have qa := all48_is va false allK .full (by decide)
  obtain ⟨A, hA2⟩ : ∃ A, A = allF m allK := ⟨_, rfl⟩
  have hAl : A.length ≤ 5 * 16777216 := by rw [hA2]; exact faK_len va allK 5
  rw [← hA2] at qa ⊢
  have hcl : x.cells ++ [AV.sl ln (ls.map u16C) lc] = [.sc (.int .u8 x.st), .sc (.int .u8 x.ins), .sc (.int .u8 x.outs), .sc (.bool x.part), .sl x.nl (x.es.map u16C) x.cap, .sl ln (ls.map u16C) lc] := rfl
  rw [hcl]
  have hk5 : allK.map intC = [[.sc (.int .i64 0)], [.sc (.int .i64 1)], [.sc (.int .i64 2)], [.sc (.int .i64 3)], [.sc (.int .i64 4)]] := rfl
  rw [hk5] at qa
  refine PureIs.of (nv := 8) (hid := [27]) func19 rfl (by kernel_rfl) (by simp [ntmps19]) fun _ => ?_
  rw [ntmps19, results19]
  refine EvC.seq (EvC.rg (by (simp only [go_sem]) <;> rfl) (by simp) ?_)
  apply EvC.seq
  apply EvC.tr
  · apply Tr.run
    · (simp only [go_sem]) <;> rfl
    · simp
    apply Tr.cons
    · exact .call rfl rfl (by (simp only [go_sem]) <;> rfl) (by (simp only [go_sem]) <;> rfl) (by (simp only [go_sem]) <;> rfl) (by (simp only [go_sem]) <;> rfl) (by (simp only [go_sem]) <;> rfl) (hA)
    apply Tr.done
    · (simp only [go_sem]) <;> rfl
    · simp
  apply EvC.seq
  apply EvC.tr
  · apply Tr.run
    · (simp only [go_sem]) <;> rfl
    · simp
    apply Tr.cons
    · exact .call rfl rfl (by (simp only [go_sem]) <;> rfl) (by (simp only [go_sem]) <;> rfl) (by (simp only [go_sem]) <;> rfl) (by (simp only [go_sem]) <;> rfl) (by (simp only [go_sem]) <;> rfl) (qa)
    apply Tr.done
    · (simp only [go_sem]) <;> rfl
    · simp
  refine EvC.seq (EvC.rg (by (simp only [go_sem]) <;> rfl) (by simp) ?_)
  refine EvC.seq ?_
  refine EvC.seq (EvC.rg (by (simp only [go_sem]) <;> rfl) (by simp) ?_)
  refine EvC.frzB 0 (by (simp only [go_sem]) <;> rfl) ?_
  refine EvC.frzB 6 (by (simp only [go_sem]) <;> rfl) ?_
  refine EvC.block ?_  -- 0
  have hAn := norefs_faL A
  obtain ⟨xc, hxc⟩ : ∃ xc : List AV, xc = [.sc (.int .u8 x.st), .sc (.int .u8 x.ins), .sc (.int .u8 x.outs), .sc (.bool x.part), .sl x.nl (x.es.map u16C) x.cap] := ⟨_, rfl⟩
  have hxn : AV.norefs xc = true := by rw [hxc]; simp [AV.norefs, AV.noref]
  refine EvC.loopS (σ := Nat) (fun i => ⟨[(1, .ia [.sc (.int .u8 x.st), .sc (.int .u8 x.ins), .sc (.int .u8 x.outs), .sc (.bool x.part), .sl x.nl (x.es.map u16C) x.cap, .sl ln (ls.map u16C) lc]), (2, .rf 0 0), (4, .ia m.cells), (5, .sl A.isEmpty (A.map FA.cells) .unk), (6, .tl 1 (pickF A ls i).length (pickF A ls i).isEmpty), (7, .sc (.int .i64 i))], [], [(0, .cells [.sc (.int .i64 0), .sc (.int .i64 0), .sl true [] .zer]), (1, .arr 6 ((pickF A ls i).map FA.cells) true)], 2⟩) (fun i => 16 - i) (fun i => i ≤ ls.length ∧ i ≤ 16 ∧ (A.length = 0 → i = 0)) [1, 2, 4, 5, 6, 7] 2 ?_ ?_
  · exact ⟨[(1, 0), (12, 1)], 0, rfl, (by (simp only [go_sem, Int.natCast_zero, pickF, List.map_nil, List.length_nil, List.isEmpty_nil, Mach.cells]) <;> rfl), Nat.zero_le _, Nat.zero_le _, fun _ => rfl⟩
  rintro i ⟨h1, h2, h3⟩
  refine EvC.seq ?_
  by_cases hend : i < ls.length ∧ i < 16 ∧ 0 < A.length
  rotate_left
  · -- else
    have hcf : (if (if decide ((i : Int) < ls.length) = true then decide ((i : Int) < 16) else false) = true then decide ((0 : Int) < A.length) else false) = false := by
      by_cases k1 : i < ls.length
      · rw [decide_eq_true (show (i : Int) < ls.length by omega), if_pos rfl]
        by_cases k2 : i < 16
        · rw [decide_eq_true (show (i : Int) < 16 by omega), if_pos rfl]; exact decide_eq_false (by omega)
        · rw [decide_eq_false (show ¬ (i : Int) < 16 by omega)]; rfl
      · rw [decide_eq_false (show ¬ (i : Int) < ls.length by omega)]; rfl
    have hend2 : pickF A ls 16 = pickF A ls i := by
      by_cases k3 : A.length = 0
      · have hA0 := List.eq_nil_of_length_eq_zero k3
        rw [hA0, pickF_empty, pickF_empty]
      · by_cases k1 : i < ls.length
        · rw [show i = 16 by omega]
        · exact pickF_more A ls (by omega) h2
    rw [hend2]
    generalize pickF A ls i = L
    apply EvC.seq
    apply EvC.trd
    · (simp only [go_sem, List.length_map]) <;> rfl
    · simp
    refine EvC.cond_false (by (simp only [go_sem, hcf]) <;> rfl) ?_
    refine EvC.exit ?_  -- 0
    refine EvC.frz 1 (by (simp only [go_sem, List.length_map]) <;> rfl) ?_
    refine EvC.seq (EvC.rg (by (simp only [go_sem, Mach.cells]) <;> rfl) (by simp) ?_)
    refine EvC.ret ⟨.inl rfl, _, (by (simp only [go_sem]) <;> rfl), ?_, rfl⟩
    simp only [go_sem]
    rfl
  obtain ⟨k1, k2, k3⟩ := hend
  have d1 : decide ((i : Int) < ls.length) = true := decide_eq_true (by omega)
  have d2 : decide ((i : Int) < 16) = true := decide_eq_true (by omega)
  have d3 : decide ((0 : Int) < A.length) = true := decide_eq_true (by omega)
  apply EvC.seq
  apply EvC.trd
  · (simp only [go_sem, List.length_map, d1, d2, d3]) <;> rfl
  · simp
  refine EvC.cond_true (by (simp only [go_sem]) <;> rfl) ?_
  refine EvC.skip ?_
  refine EvC.seq ?_
  refine EvC.block ?_  -- 1
  have hin : (i : Int).toNat = i := Int.toNat_natCast i
  have he : ls[i]? = some (ls[i]'k1) := List.getElem?_eq_getElem k1
  have hv := hls _ (List.getElem_mem k1)
  have hnx : pickF A ls (i + 1) = pickF A ls i ++ (A[((ls[i]'k1) % (A.length : Int)).toNat]?).toList := by rw [pickF, he]; rfl
  generalize ls[i]'k1 = v at he hv hnx
  have hm1 := Int.emod_nonneg v (show (A.length : Int) ≠ 0 by omega)
  have hm2 := Int.emod_lt_of_pos v (show (0 : Int) < A.length by omega)
  generalize hj : v % (A.length : Int) = j at hnx hm1 hm2
  have hja : j.toNat < A.length := by omega
  have hf : A[j.toNat]? = some (A[j.toNat]'hja) := List.getElem?_eq_getElem hja
  generalize A[j.toNat]'hja = f at hf
  rw [hf] at hnx
  have hnx : pickF A ls (i + 1) = pickF A ls i ++ [f] := hnx
  have hpl := pickF_len A ls i
  generalize pickF A ls i = L at hnx hpl
  have hsn : L.map FA.cells ++ [f.cells] = (L ++ [f]).map FA.cells := by simp
  have hsl : L.length + 1 = (L ++ [f]).length := by simp
  have hse : (L ++ [f]).isEmpty = false := by simp
  have hr2 : room (L.length + 1) 48 = true := by simp only [room_eq, decide_eq_true_eq]; omega
  rw [hsl] at hr2
  rw [← hnx] at hsn hsl hse hr2
  generalize hT' : pickF A ls (i + 1) = T' at hsn hsl hse hr2
  obtain ⟨f1, f2, f3, f4, f5, f6⟩ := f
  simp only [FA.cells] at hsn
  have hz : decide ((A.length : Int) = 0) = false := decide_eq_false (by omega)
  refine EvC.rg (by (simp only [go_sem, he, u16C, hin, hj, hf, FA.cells, hsn, hsl, List.length_map, hz]) <;> rfl) (by simp [hr2]; exact ⟨⟨inI64_of (by omega) (by omega), hv.1, k3⟩, hm1⟩) ?_
  refine EvC.rg (by (simp only [go_sem]) <;> rfl) (by exact inI64_of (by omega) (by omega)) ?_
  exact ⟨[(0, 0), (1, 1)], i + 1, rfl, (by rw [hT']; (simp only [go_sem, hse, Int.natCast_add, Int.natCast_one, Mach.cells]) <;> rfl), ⟨by omega, by omega, by omega⟩, by omega⟩
end Go.Avl
namespace Go.Avl
open Go Go.Proofs.Tryd
set_option maxRecDepth 10000
set_option linter.unusedSimpArgs false

set_option maxHeartbeats 8000000 in
theorem apply55_is {m : Mach} (hv : Valid m) (f : FA) (hf : faultB m f = true) : PureIs prog 55 [.ag m.cells, .ag f.cells] (.ag (mutF m f).cells) := by
  have hfb := hf
  obtain ⟨kd, s, i, t, a, o⟩ := f
  unfold faultB at hfb
  simp only [Bool.and_eq_true] at hfb
  obtain ⟨hp, hd, hkb⟩ := hfb
  obtain ⟨r, h1, h2, he⟩ := step_in hv hd
  obtain ⟨b1, b2, _⟩ := definedB_iff.1 hd
  have hkd := plainB_kind hp
  simp only at hkd
  obtain ⟨S, hS⟩ : ∃ S : Nat, S = s.toNat := ⟨_, rfl⟩
  have hSl : S < m.rows.length := by omega
  rw [← hS] at h1
  have hn1 := hv.rows
  have hrl := (hv.row _ (List.mem_of_getElem? h1)).1
  have hi1 := hv.ins
  refine PureIs.of (nv := 9) (hid := [18, 30, 44, 45, 50, 55, 58, 70, 77]) func55 rfl (by kernel_rfl) (by simp [ntmps55]) fun _ => ?_
  rw [ntmps55, results55]
  refine EvC.seq (EvC.rg (by (simp only [go_sem, Mach.cells, FA.cells]) <;> rfl) (by simp) ?_)
  refine EvC.frzB 0 (by (simp only [go_sem]) <;> rfl) ?_
  refine EvC.frzB 1 (by (simp only [go_sem]) <;> rfl) ?_
  refine EvC.seq (EvC.rg (by (simp only [go_sem]) <;> rfl) (by simp) ?_)
  refine EvC.ownC 8 2 1 (by (simp only [go_sem]) <;> rfl) ?_
  refine EvC.thaw 10 (by (simp only [go_sem]) <;> rfl) ?_
  refine EvC.seq ?_
  refine EvC.seq (EvC.rg (by (simp only [go_sem]) <;> rfl) (by simp) ?_)
  refine EvC.block ?_  -- 0
  obtain ⟨n, hn⟩ : ∃ n, n = r.2.length := ⟨_, rfl⟩
  have hn0 : n ≠ 0 := by omega
  obtain ⟨memK, hmK⟩ : ∃ memK : Nat → Mem, memK = fun k => (0, RObj.cells [.sc (.int .i64 0), .sc (.int .i64 0), .sl true [] .zer]) :: (1, .cells [.sc (.int .i64 m.ins), .sc (.int .i64 m.outs), .tl 2 k (decide (k = 0))]) :: (2, .arr 1 (rowsK m k S (.tl 3 n false)) false) :: (if S < k then [(3, .arr 2 (r.2.map edgeC) false)] else []) := ⟨_, rfl⟩
  have hlo : ∀ k, k ≤ S → memK k = [(0, RObj.cells [.sc (.int .i64 0), .sc (.int .i64 0), .sl true [] .zer]), (1, .cells [.sc (.int .i64 m.ins), .sc (.int .i64 m.outs), .tl 2 k (decide (k = 0))]), (2, .arr 1 (((m.rows.take k).map fun r => ((false, r.2) : Row)).map rowC) false)] := fun k hk => by
    rw [hmK]
    simp only
    rw [if_neg (by omega), rowsK, List.set_eq_of_length_le (by simp; omega)]
  have hhi : ∀ k, S < k → memK k = [(0, RObj.cells [.sc (.int .i64 0), .sc (.int .i64 0), .sl true [] .zer]), (1, .cells [.sc (.int .i64 m.ins), .sc (.int .i64 m.outs), .tl 2 k (decide (k = 0))]), (2, .arr 1 (rowsK m k S (.tl 3 n false)) false), (3, .arr 2 (r.2.map edgeC) false)] := fun k hk => by
    rw [hmK]
    simp only
    rw [if_pos hk]
  refine EvC.loopS (σ := Nat) (fun k => ⟨[(2, .ia [.sc (.int .i64 m.ins), .sc (.int .i64 m.outs), .sl m.nl (m.rows.map rowC) .unk]), (3, .ia [.sc (.int .i64 kd), .sc (.int .i64 s), .sc (.int .i64 i), .sc (.int .i64 t), .sc (.int .i64 a), .sc (.int .i64 o)]), (4, .rf 0 0), (5, .rf 1 0), (6, .sc (.int .i64 k))], [], memK k, 4⟩) (fun k => m.rows.length - k) (fun k => k ≤ m.rows.length) [2, 3, 4, 5, 6] 4 ?_ ?_
  · exact ⟨[(2, 0), (8, 1), (10, 2)], 0, rfl, (by rw [hlo 0 (by omega)]; (simp only [go_sem, Int.natCast_zero, List.take_zero, List.map_nil]) <;> rfl), Nat.zero_le _⟩
  intro k hk1
  by_cases hkl : k < m.rows.length
  rotate_left
  · -- behind the loop
    obtain rfl : k = m.rows.length := by omega
    rw [hhi m.rows.length hSl]
    have dk : decide ((m.rows.length : Int) < m.rows.length) = false := decide_eq_false (by omega)
    refine EvC.seq ?_
    refine EvC.seq (EvC.rg (by (simp only [go_sem, List.length_map]) <;> rfl) (by simp) ?_)
    refine EvC.cond_false (by (simp only [go_sem, dk]) <;> rfl) ?_
    refine EvC.exit ?_  -- 0
    have hNd : decide (m.rows.length = 0) = false := decide_eq_false (by omega)
    have hg := rowsK_get (v := .tl 3 n false) hSl (Nat.le_refl m.rows.length)
    have hRl := rowsK_len (S := S) (v := .tl 3 n false) (Nat.le_refl m.rows.length)
    have hel : (r.2.map edgeC).length = n := by rw [List.length_map]; exact hn.symm
    have hin : i.toNat < n := by omega
    rw [hNd]
    apply EvC.seq
    apply EvC.drd mixed
    · (simp only [go_sem, h1, h2, ← hS, rowC, edgeC, List.length_map]) <;> rfl
    · simp; try omega
    · kernel_rfl
    have hrowAt : rowAt m s = r.2 := by unfold rowAt; rw [← hS, h1]; rfl
    generalize hE : stepM m s i = e at *
    refine EvC.mergeC (α := (Int × Int) × List (List AV)) (fun p => ⟨[(3, .ia [.sc (.int .i64 kd), .sc (.int .i64 s), .sc (.int .i64 i), .sc (.int .i64 t), .sc (.int .i64 a), .sc (.int .i64 o)]), (4, .rf 0 0), (5, .rf 1 0), (7, .rf 4 0)], [], [(0, .cells [.sc (.int .i64 0), .sc (.int .i64 0), .sl true [] .zer]), (1, .cells [.sc (.int .i64 m.ins), .sc (.int .i64 m.outs), .tl 2 (m.rows.length + p.2.length) false]), (2, .arr 1 (rowsK m m.rows.length S (.tl 3 n false) ++ p.2) false), (3, .arr 2 (r.2.map edgeC) false), (4, .cells [.sc (.int .i64 p.1.1), .sc (.int .i64 p.1.2)])], 5⟩)
      (fun p => p.2.all AV.norefs = true ∧ (∀ c ∈ p.2, c.length = 1) ∧ rowsK m m.rows.length S (.sl false ((r.2.set i.toNat p.1).map edgeC) .unk) ++ p.2 = (mutRows m ⟨kd, s, i, t, a, o⟩).map rowC) ?_ ?_
    rotate_left
    · -- the end
      rintro ⟨e', ex⟩ ⟨hex1, hex2, hraw⟩
      simp only at hex1 hex2 hraw ⊢
      have hRe : (rowsK m m.rows.length S (.tl 3 n false) ++ ex).length = m.rows.length + ex.length := by rw [List.length_append, hRl]
      have hge : (rowsK m m.rows.length S (.tl 3 n false) ++ ex)[S]? = some [.tl 3 n false] := by rw [List.getElem?_append_left (by rw [hRl]; exact hSl)]; exact hg
      have hse : ∀ v, (rowsK m m.rows.length S (.tl 3 n false) ++ ex).set S [v] = rowsK m m.rows.length S v ++ ex := fun v => by
        rw [List.set_append_left _ _ (by rw [hRl]; exact hSl)]
        unfold rowsK
        rw [List.set_set]
      obtain ⟨RR, hRR⟩ : ∃ RR, RR = rowsK m m.rows.length S (.sl false ((r.2.set i.toNat e').map edgeC) .unk) ++ ex := ⟨_, rfl⟩
      have hse1 := hse (.sl false ((r.2.set i.toNat e').map edgeC) .unk)
      rw [← hRR] at hse1 hraw
      generalize rowsK m m.rows.length S (.tl 3 n false) ++ ex = RW at hRe hge hse1
      have hgE : (r.2.map edgeC)[i.toNat]? = some (edgeC e) := by rw [List.getElem?_map, h2]; rfl
      have hsE : ∀ x y : Int, (r.2.map edgeC).set i.toNat [.sc (.int .i64 x), .sc (.int .i64 y)] = (r.2.set i.toNat (x, y)).map edgeC := fun x y => by rw [List.map_set]; rfl
      have hset2 : ((r.2.set i.toNat e').map edgeC).length = n := by rw [List.length_map, List.length_set]; exact hn.symm
      have hmr : (mutRows m ⟨kd, s, i, t, a, o⟩).map rowC = RR := hraw.symm
      have hRR2 : RR.length = m.rows.length + ex.length := by rw [hRR, List.length_append, rowsK_len (Nat.le_refl _)]
      apply EvC.seq
      apply EvC.drd mixed
      · (simp only [go_sem, hge, hRe, ← hS, hgE, hsE, edgeC, hel]) <;> rfl
      · simp; try omega
      · kernel_rfl
      refine EvC.frz 3 (by (simp only [go_sem, hset2]) <;> rfl) ?_
      refine EvC.snapE 2 S (by (simp only [go_sem, hge, hRe, hse1, hset2]) <;> rfl) ?_
      have hRRn : RR.all AV.norefs = true := by
        rw [← hmr]
        simp only [List.all_eq_true]
        intro c hc
        obtain ⟨r, _, rfl⟩ := List.mem_map.1 hc
        exact rowC_norefs r
      have hRR1 : ∀ c ∈ RR, c.length = 1 := by
        rw [← hmr]
        intro c hc
        obtain ⟨r, _, rfl⟩ := List.mem_map.1 hc
        rfl
      have hmc : (mutF m ⟨kd, s, i, t, a, o⟩).cells = [.sc (.int .i64 m.ins), .sc (.int .i64 m.outs), .sl false RR .unk] := by rw [← hmr]; rfl
      rw [hmc]
      clear hse1 hRR hraw hmr hmc
      refine EvC.frzD 2 (by (simp only [go_sem, hRRn, hRR2]) <;> rfl) ?_
      refine EvC.seq (EvC.rg (by (simp only [go_sem, hRRn, hRR2]) <;> rfl) (by simp) ?_)
      refine EvC.ret ⟨.inl rfl, _, (by (simp only [go_sem, hRRn, hRR2]) <;> rfl), ?_, by simp [AV.noref, AV.norefs, hRRn]⟩
      simp only [go_sem, hRRn]
    · -- the switch
      have hnr : (rowsK m m.rows.length S (.tl 3 n false)).all AV.norefs = false := rowsK_norefs hSl (Nat.le_refl _) rfl
      have hrn := rowsK_ren m m.rows.length S (.tl 3 n false) [(0, 0), (1, 1), (2, 2), (3, 3), (19, 4)]
      have hraw : ∀ e' : Int × Int, rowsK m m.rows.length S (.sl false ((r.2.set i.toNat e').map edgeC) .unk) = (putR m s i e').map rowC := fun e' => by
        unfold rowsK putR copyR
        rw [List.take_length, ← hS, hrowAt]
        show (((m.rows.map fun r => ((false, r.2) : Row)).map rowC).set S (rowC (false, r.2.set i.toNat e'))) = _
        exact List.map_set.symm
      refine EvC.seq (EvC.rg (by (simp only [go_sem]) <;> rfl) (by simp) ?_)
      refine EvC.block ?_  -- 2
      rcases hkd with rfl | rfl | rfl | rfl | rfl
      · -- output
        refine EvC.seq (EvC.rg (by (simp only [go_sem]) <;> rfl) (by simp) ?_)
        refine EvC.cond_true (by (simp only [go_sem]) <;> rfl) ?_
        refine EvC.rg (by (simp only [go_sem]) <;> rfl) (by simp) ?_
        refine ⟨rfl, ((e.1, o), []), ⟨rfl, (fun _ h => by cases h), ?_⟩, fun c Q h => ?_⟩
        · rw [List.append_nil, hraw, mutRows, if_pos rfl, hE]
        refine EvC.gcE [3, 4, 5, 7] [(0, 0), (1, 1), (2, 2), (3, 3), (19, 4)] 5 rfl (by (simp only [go_sem, hnr, hrn, Bool.and_false, List.append_nil, List.length_nil]) <;> rfl) h
      · -- transfer
        refine EvC.seq (EvC.rg (by (simp only [go_sem]) <;> rfl) (by simp) ?_)
        refine EvC.cond_false (by (simp only [go_sem]) <;> rfl) ?_
        refine EvC.seq (EvC.rg (by (simp only [go_sem]) <;> rfl) (by simp) ?_)
        refine EvC.cond_true (by (simp only [go_sem]) <;> rfl) ?_
        refine EvC.rg (by (simp only [go_sem]) <;> rfl) (by simp) ?_
        refine ⟨rfl, ((t, e.2), []), ⟨rfl, (fun _ h => by cases h), ?_⟩, fun c Q h => ?_⟩
        · rw [List.append_nil, hraw, mutRows, if_neg (show ¬ (1 : Int) = 0 by decide), if_pos (show (1 : Int) = 1 from rfl), hE]
        refine EvC.gcE [3, 4, 5, 7] [(0, 0), (1, 1), (2, 2), (3, 3), (19, 4)] 5 rfl (by (simp only [go_sem, hnr, hrn, Bool.and_false, List.append_nil, List.length_nil]) <;> rfl) h
      · -- missing
        refine EvC.seq (EvC.rg (by (simp only [go_sem]) <;> rfl) (by simp) ?_)
        refine EvC.cond_false (by (simp only [go_sem]) <;> rfl) ?_
        refine EvC.seq (EvC.rg (by (simp only [go_sem]) <;> rfl) (by simp) ?_)
        refine EvC.cond_false (by (simp only [go_sem]) <;> rfl) ?_
        refine EvC.seq (EvC.rg (by (simp only [go_sem]) <;> rfl) (by simp) ?_)
        refine EvC.cond_true (by (simp only [go_sem]) <;> rfl) ?_
        refine EvC.rg (by (simp only [go_sem]) <;> rfl) (by simp) ?_
        refine ⟨rfl, ((-1, -1), []), ⟨rfl, (fun _ h => by cases h), ?_⟩, fun c Q h => ?_⟩
        · rw [List.append_nil, hraw, mutRows, if_neg (show ¬ (2 : Int) = 0 by decide), if_neg (show ¬ (2 : Int) = 1 by decide), if_pos (show (2 : Int) = 2 from rfl)]
        refine EvC.gcE [3, 4, 5, 7] [(0, 0), (1, 1), (2, 2), (3, 3), (19, 4)] 5 rfl (by (simp only [go_sem, hnr, hrn, Bool.and_false, List.append_nil, List.length_nil]) <;> rfl) h
      · -- extra
        have htn : 0 ≤ t ∧ t < m.rows.length := by
          unfold kindB at hkb
          rw [if_neg (show ¬ (3 : Int) = 0 by decide), if_neg (show ¬ (3 : Int) = 1 by decide), if_neg (show ¬ (3 : Int) = 2 by decide), if_pos (show (3 : Int) = 3 from rfl)] at hkb
          simpa [inN] using hkb
        have h5 : m.rows[t.toNat]? = some (m.rows[t.toNat]'(by omega)) := List.getElem?_eq_getElem (by omega)
        have h5m := List.getElem_mem (show t.toNat < m.rows.length by omega)
        have h5r := (hv.row _ h5m).1
        have hrt : rowAt m t = (m.rows[t.toNat]'(by omega)).2 := by unfold rowAt; rw [h5]; rfl
        generalize m.rows[t.toNat]'(by omega) = r5 at h5 h5r hrt
        obtain ⟨b5, e5⟩ := r5
        simp only at h5r hrt
        have hr8 : room (m.rows.length + 1) 24 = true := by simp only [room_eq, decide_eq_true_eq]; omega
        have hr16 : room e5.length 16 = true := by simp only [room_eq, decide_eq_true_eq]; omega
        have hl2 : ∀ x : Int × Int, (edgeC x).length = 2 := fun _ => rfl
        have hel5 : (e5.map edgeC).length = e5.length := List.length_map _
        refine EvC.seq (EvC.rg (by (simp only [go_sem]) <;> rfl) (by simp) ?_)
        refine EvC.cond_false (by (simp only [go_sem]) <;> rfl) ?_
        refine EvC.seq (EvC.rg (by (simp only [go_sem]) <;> rfl) (by simp) ?_)
        refine EvC.cond_false (by (simp only [go_sem]) <;> rfl) ?_
        refine EvC.seq (EvC.rg (by (simp only [go_sem]) <;> rfl) (by simp) ?_)
        refine EvC.cond_false (by (simp only [go_sem]) <;> rfl) ?_
        refine EvC.seq (EvC.rg (by (simp only [go_sem]) <;> rfl) (by simp) ?_)
        refine EvC.cond_true (by (simp only [go_sem]) <;> rfl) ?_
        apply EvC.seq
        apply EvC.drd mixed
        · (simp only [go_sem, h5, rowC, hel5, hRl]) <;> rfl
        · simp [hr8, hr16, hl2]; try omega
        · kernel_rfl
        refine EvC.frz 40 (by (simp only [go_sem, hel5]) <;> rfl) ?_
        have hgl : (rowsK m m.rows.length S (.tl 3 n false) ++ [[AV.tl 40 e5.length false]])[m.rows.length]? = some [AV.tl 40 e5.length false] := by rw [List.getElem?_append_right (by omega), hRl, Nat.sub_self]; rfl
        have hsl : ∀ v, (rowsK m m.rows.length S (.tl 3 n false) ++ [[v]]).set m.rows.length [.sl false (e5.map edgeC) .unk] = rowsK m m.rows.length S (.tl 3 n false) ++ [[.sl false (e5.map edgeC) .unk]] := fun v => by rw [List.set_append_right _ _ (by omega), hRl, Nat.sub_self]; rfl
        refine EvC.snapE 2 m.rows.length (by (simp only [go_sem, hgl, hsl, hel5, hRl]) <;> rfl) ?_
        refine EvC.rg (by (simp only [go_sem, List.length_map]) <;> rfl) (by simp) ?_
        have hex1 : ([[.sl false (e5.map edgeC) .unk]] : List (List AV)).all AV.norefs = true := by simp [AV.norefs, AV.noref, norefs_edges]
        have hex3 : ([[.sl false (e5.map edgeC) .unk]] : List (List AV)).map (fun c => c.map (AV.ren [(0, 0), (1, 1), (2, 2), (3, 3), (19, 4)])) = [[.sl false (e5.map edgeC) .unk]] := by simp [AV.ren, AV.noref, norefs_edges]
        have hXr : ([[.sl false (e5.map edgeC) .unk]] : List (List AV)) = [(false, e5)].map rowC := rfl
        generalize hXX : ([[.sl false (e5.map edgeC) .unk]] : List (List AV)) = XX at hex1 hex3 hXr ⊢
        have hXl : XX.length = 1 := by rw [← hXX]; rfl
        refine ⟨rfl, (((m.rows.length : Int), e.2), XX), ⟨hex1, (fun c hc => by subst hXX; simp only [List.mem_singleton] at hc; rw [hc]; rfl), ?_⟩, fun c Q h => ?_⟩
        · rw [hraw, mutRows, if_neg (show ¬ (3 : Int) = 0 by decide), if_neg (show ¬ (3 : Int) = 1 by decide), if_neg (show ¬ (3 : Int) = 2 by decide), if_pos (show (3 : Int) = 3 from rfl), hE, hrt, hXr, ← List.map_append]
        simp only [hXl] at h
        refine EvC.gcE [3, 4, 5, 7] [(0, 0), (1, 1), (2, 2), (3, 3), (19, 4)] 5 rfl (by (simp only [go_sem, hnr, hrn, List.all_append, Bool.false_and, hex1, hex3, List.map_append]) <;> rfl) h
      · -- deep
        have hd2 : definedB m e.1 a = true := by
          unfold kindB at hkb
          rw [if_neg (show ¬ (4 : Int) = 0 by decide), if_neg (show ¬ (4 : Int) = 1 by decide), if_neg (show ¬ (4 : Int) = 2 by decide), if_neg (show ¬ (4 : Int) = 3 by decide)] at hkb
          simp only [Bool.and_eq_true] at hkb
          rw [hE] at hkb
          exact hkb.2.1
        obtain ⟨r5, h5, h5i, _⟩ := step_in hv hd2
        obtain ⟨c1, c2, _⟩ := definedB_iff.1 hd2
        have h5m := List.mem_of_getElem? h5
        have h5r := (hv.row _ h5m).1
        have hrt : rowAt m e.1 = r5.2 := by unfold rowAt; rw [h5]; rfl
        obtain ⟨b5, e5⟩ := r5
        simp only at h5r hrt h5i
        have hr8 : room (m.rows.length + 1) 24 = true := by simp only [room_eq, decide_eq_true_eq]; omega
        have hr16 : room e5.length 16 = true := by simp only [room_eq, decide_eq_true_eq]; omega
        have hl2 : ∀ x : Int × Int, (edgeC x).length = 2 := fun _ => rfl
        have hel5 : (e5.map edgeC).length = e5.length := List.length_map _
        have h5g : (e5.map edgeC)[a.toNat]? = some (edgeC (stepM m e.1 a)) := by rw [List.getElem?_map, h5i]; rfl
        have h5s : ∀ x y : Int, (e5.map edgeC).set a.toNat [.sc (.int .i64 x), .sc (.int .i64 y)] = (e5.set a.toNat (x, y)).map edgeC := fun x y => by rw [List.map_set]; rfl
        have h5l : (e5.set a.toNat ((stepM m e.1 a).1, o)).length = e5.length := List.length_set
        refine EvC.seq (EvC.rg (by (simp only [go_sem]) <;> rfl) (by simp) ?_)
        refine EvC.cond_false (by (simp only [go_sem]) <;> rfl) ?_
        refine EvC.seq (EvC.rg (by (simp only [go_sem]) <;> rfl) (by simp) ?_)
        refine EvC.cond_false (by (simp only [go_sem]) <;> rfl) ?_
        refine EvC.seq (EvC.rg (by (simp only [go_sem]) <;> rfl) (by simp) ?_)
        refine EvC.cond_false (by (simp only [go_sem]) <;> rfl) ?_
        refine EvC.seq (EvC.rg (by (simp only [go_sem]) <;> rfl) (by simp) ?_)
        refine EvC.cond_false (by (simp only [go_sem]) <;> rfl) ?_
        refine EvC.seq (EvC.rg (by (simp only [go_sem]) <;> rfl) (by simp) ?_)
        refine EvC.cond_true (by (simp only [go_sem]) <;> rfl) ?_
        refine EvC.seq (EvC.rg (by (simp only [go_sem, h5, rowC, hel5, hRl]) <;> rfl) (by simp [hr8, hr16, hl2]; try omega) ?_)
        refine EvC.seq (EvC.rg (by (simp only [go_sem, h5g, h5s, edgeC, hel5]) <;> rfl) (by simp; try omega) ?_)
        refine EvC.frz 40 (by (simp only [go_sem, List.length_map, h5l]) <;> rfl) ?_
        refine EvC.seq (EvC.rg (by (simp only [go_sem, hRl, hr8]) <;> rfl) (by simp) ?_)
        refine EvC.rg (by (simp only [go_sem, List.length_map]) <;> rfl) (by simp) ?_
        obtain ⟨E5, hE5⟩ : ∃ E5, E5 = e5.set a.toNat ((stepM m e.1 a).1, o) := ⟨_, rfl⟩
        rw [← hE5]
        have hex1 : ([[.sl false (E5.map edgeC) .unk]] : List (List AV)).all AV.norefs = true := by simp [AV.norefs, AV.noref, norefs_edges]
        have hex3 : ([[.sl false (E5.map edgeC) .unk]] : List (List AV)).map (fun c => c.map (AV.ren [(0, 0), (1, 1), (2, 2), (3, 3), (19, 4)])) = [[.sl false (E5.map edgeC) .unk]] := by simp [AV.ren, AV.noref, norefs_edges]
        have hXr : ([[.sl false (E5.map edgeC) .unk]] : List (List AV)) = [(false, E5)].map rowC := rfl
        generalize hXX : ([[.sl false (E5.map edgeC) .unk]] : List (List AV)) = XX at hex1 hex3 hXr ⊢
        have hXl : XX.length = 1 := by rw [← hXX]; rfl
        refine ⟨rfl, (((m.rows.length : Int), e.2), XX), ⟨hex1, (fun c hc => by subst hXX; simp only [List.mem_singleton] at hc; rw [hc]; rfl), ?_⟩, fun c Q h => ?_⟩
        · rw [hraw, mutRows, if_neg (show ¬ (4 : Int) = 0 by decide), if_neg (show ¬ (4 : Int) = 1 by decide), if_neg (show ¬ (4 : Int) = 2 by decide), if_neg (show ¬ (4 : Int) = 3 by decide), hE, hrt, hXr, ← List.map_append, hE5]
        simp only [hXl] at h
        refine EvC.gcE [3, 4, 5, 7] [(0, 0), (1, 1), (2, 2), (3, 3), (19, 4)] 5 rfl (by (simp only [go_sem, hnr, hrn, List.all_append, Bool.false_and, hex1, hex3, List.map_append]) <;> rfl) h
  have dk : decide ((k : Int) < m.rows.length) = true := decide_eq_true (by omega)
  have hk : m.rows[k]? = some (m.rows[k]'hkl) := List.getElem?_eq_getElem hkl
  have hkm := List.getElem_mem hkl
  have hkr := (hv.row _ hkm).1
  generalize m.rows[k]'hkl = rk at hk hkr
  obtain ⟨bk, es⟩ := rk
  simp only at hkr
  have hin : (k : Int).toNat = k := Int.toNat_natCast k
  have hr8 : room (k + 1) 24 = true := by simp only [room_eq, decide_eq_true_eq]; omega
  have hr16 : room es.length 16 = true := by simp only [room_eq, decide_eq_true_eq]; omega
  have hk1d : decide (k + 1 = 0) = false := decide_eq_false (by omega)
  have hel : (es.map edgeC).length = es.length := List.length_map _
  have hkk : k + 1 ≤ m.rows.length := hkl
  have hRl : (((m.rows.take k).map fun r => ((false, r.2) : Row)).map rowC).length = k := by simp; omega
  by_cases hkS : k = S
  · subst hkS
    have hre : r = (bk, es) := by rw [hk] at h1; exact (Option.some.inj h1).symm
    subst hre
    have hl0 : rowsK m k k (.tl 3 n false) = ((m.rows.take k).map fun r => ((false, r.2) : Row)).map rowC := by rw [rowsK, List.set_eq_of_length_le (by simp; omega)]
    rw [hlo k (by omega)]
    refine EvC.seq ?_
    refine EvC.seq (EvC.rg (by (simp only [go_sem, List.length_map]) <;> rfl) (by simp) ?_)
    refine EvC.cond_true (by (simp only [go_sem, dk]) <;> rfl) ?_
    refine EvC.skip ?_
    refine EvC.seq ?_
    refine EvC.block ?_  -- 1
    have hl2 : ∀ x : Int × Int, (edgeC x).length = 2 := fun _ => rfl
    have hnl : n = es.length := hn
    have hsn := rowsK_self (m := m) (S := k) (v := .tl 17 n false) (w := .tl 3 n false) hk
    rw [hl0] at hsn
    have hRl4 : (rowsK m (k + 1) k (.tl 17 n false)).length = k + 1 := rowsK_len (by omega)
    apply EvC.drd mixed
    · (simp only [go_sem, hk, hin, rowC, hel, hRl, ← hnl, hsn, hRl4]) <;> rfl
    · simp [hr8, hnl, hr16, hl2]
    · kernel_rfl
    have hnr : (rowsK m (k + 1) k (.tl 17 n false)).all AV.norefs = false := rowsK_norefs (by omega) hkk rfl
    have hrn := rowsK_ren m (k + 1) k (.tl 17 n false) [(0, 0), (1, 1), (2, 2), (17, 3)]
    refine EvC.rg (by (simp only [go_sem]) <;> rfl) (by exact inI64_of (by omega) (by omega)) ?_
    exact ⟨[(0, 0), (1, 1), (2, 2), (17, 3)], k + 1, rfl, (by rw [hhi (k + 1) (by omega)]; (simp only [go_sem, hnr, hrn, hk1d, Bool.and_false, Int.natCast_add, Int.natCast_one]) <;> rfl), hkk, by omega⟩
  have hl2 : ∀ x : Int × Int, (edgeC x).length = 2 := fun _ => rfl
  have hsn := rowsK_other (v := .tl 3 n false) hk hkS
  simp only at hsn
  have hRl2 : (rowsK m k S (.tl 3 n false)).length = k := rowsK_len (by omega)
  have hRl3 : (rowsK m (k + 1) S (.tl 3 n false)).length = k + 1 := rowsK_len (by omega)
  rcases Nat.lt_or_ge k S with hlt | hge
  · have hl0 : rowsK m k S (.tl 3 n false) = ((m.rows.take k).map fun r => ((false, r.2) : Row)).map rowC := by rw [rowsK, List.set_eq_of_length_le (by simp; omega)]
    have hl1 : rowsK m (k + 1) S (.tl 3 n false) = ((m.rows.take (k + 1)).map fun r => ((false, r.2) : Row)).map rowC := by rw [rowsK, List.set_eq_of_length_le (by simp; omega)]
    rw [hl0, hl1] at hsn
    have hsn : List.map rowC (List.map (fun r => (false, r.snd)) (List.take k m.rows)) ++ [[.sl false (es.map edgeC) .unk]] = List.map rowC (List.map (fun r => (false, r.snd)) (List.take (k + 1) m.rows)) := hsn
    rw [hlo k (by omega)]
    refine EvC.seq ?_
    refine EvC.seq (EvC.rg (by (simp only [go_sem, List.length_map]) <;> rfl) (by simp) ?_)
    refine EvC.cond_true (by (simp only [go_sem, dk]) <;> rfl) ?_
    refine EvC.skip ?_
    refine EvC.seq ?_
    refine EvC.block ?_  -- 1
    have hnr : (List.map rowC (List.map (fun r => ((false, r.snd) : Row)) (List.take (k + 1) m.rows))).all AV.norefs = true := by
      simp only [List.all_eq_true]
      intro c hc
      obtain ⟨r, _, rfl⟩ := List.mem_map.1 hc
      exact rowC_norefs r
    obtain ⟨R0, hR0⟩ : ∃ R0, R0 = List.map rowC (List.map (fun r => ((false, r.snd) : Row)) (List.take k m.rows)) := ⟨_, rfl⟩
    rw [← hR0] at hsn hRl ⊢
    apply EvC.drd mixed
    · (simp only [go_sem, hk, hin, rowC, hel, hRl]) <;> rfl
    · simp [hr8, hr16, hl2]
    · kernel_rfl
    refine EvC.frz 17 (by (simp only [go_sem, hel]) <;> rfl) ?_
    have hgl : (R0 ++ [[AV.tl 17 es.length false]])[k]? = some [AV.tl 17 es.length false] := by rw [List.getElem?_append_right (by omega), hRl, Nat.sub_self]; rfl
    have hsl : ∀ v, (R0 ++ [[v]]).set k [.sl false (es.map edgeC) .unk] = R0 ++ [[.sl false (es.map edgeC) .unk]] := fun v => by rw [List.set_append_right _ _ (by omega), hRl, Nat.sub_self]; rfl
    rw [hsn] at hsl
    have hRl1 : (List.map rowC (List.map (fun r => ((false, r.snd) : Row)) (List.take (k + 1) m.rows))).length = k + 1 := by simp; omega
    obtain ⟨R1, hR1⟩ : ∃ R1, R1 = List.map rowC (List.map (fun r => ((false, r.snd) : Row)) (List.take (k + 1) m.rows)) := ⟨_, rfl⟩
    rw [← hR1] at hsl hnr hRl1
    refine EvC.snapE 2 k (by (simp only [go_sem, hgl, hsl, hel, hRl]) <;> rfl) ?_
    refine EvC.rg (by (simp only [go_sem]) <;> rfl) (by exact inI64_of (by omega) (by omega)) ?_
    exact ⟨[(0, 0), (1, 1), (2, 2)], k + 1, rfl, (by rw [hlo (k + 1) (by omega), ← hR1]; (simp only [go_sem, hnr, hk1d, Int.natCast_add, Int.natCast_one]) <;> rfl), hkk, by omega⟩
  · have hSk : S < k := by omega
    rw [hhi k hSk]
    refine EvC.seq ?_
    refine EvC.seq (EvC.rg (by (simp only [go_sem, List.length_map]) <;> rfl) (by simp) ?_)
    refine EvC.cond_true (by (simp only [go_sem, dk]) <;> rfl) ?_
    refine EvC.skip ?_
    refine EvC.seq ?_
    refine EvC.block ?_  -- 1
    have hk0d : decide (k = 0) = false := decide_eq_false (by omega)
    have hnr : (rowsK m (k + 1) S (.tl 3 n false)).all AV.norefs = false := rowsK_norefs (by omega) hkk rfl
    have hrn := rowsK_ren m (k + 1) S (.tl 3 n false) [(0, 0), (1, 1), (2, 2), (3, 3)]
    obtain ⟨R0, hR0⟩ : ∃ R0, R0 = rowsK m k S (.tl 3 n false) := ⟨_, rfl⟩
    rw [← hR0] at hsn hRl2 ⊢
    apply EvC.drd mixed
    · (simp only [go_sem, hk, hin, rowC, hel, hRl2]) <;> rfl
    · simp [hr8, hr16, hl2]
    · kernel_rfl
    refine EvC.frz 17 (by (simp only [go_sem, hel]) <;> rfl) ?_
    have hgl : (R0 ++ [[AV.tl 17 es.length false]])[k]? = some [AV.tl 17 es.length false] := by rw [List.getElem?_append_right (by omega), hRl2, Nat.sub_self]; rfl
    have hsl : ∀ v, (R0 ++ [[v]]).set k [.sl false (es.map edgeC) .unk] = R0 ++ [[.sl false (es.map edgeC) .unk]] := fun v => by rw [List.set_append_right _ _ (by omega), hRl2, Nat.sub_self]; rfl
    have hsn : R0 ++ [[.sl false (es.map edgeC) .unk]] = rowsK m (k + 1) S (.tl 3 n false) := hsn
    rw [hsn] at hsl
    refine EvC.snapE 2 k (by (simp only [go_sem, hgl, hsl, hel, hRl2]) <;> rfl) ?_
    refine EvC.rg (by (simp only [go_sem]) <;> rfl) (by exact inI64_of (by omega) (by omega)) ?_
    exact ⟨[(0, 0), (1, 1), (2, 2), (3, 3)], k + 1, rfl, (by rw [hhi (k + 1) (by omega)]; (simp only [go_sem, hnr, hrn, hk1d, hRl3, Bool.and_false, Int.natCast_add, Int.natCast_one]) <;> rfl), hkk, by omega⟩
end Go.Avl
namespace Go.Avl
open Go Go.Proofs.Tryd
set_option maxRecDepth 10000
set_option linter.unusedSimpArgs false

/-- A fault of the machine with the number of states that it adds to. -/
theorem mutF_valid2 {m : Mach} (hv : Valid m) {f : FA} (h : faultB m f = true) (hr : m.rows.length ≤ 63) : Valid (mutF m f) := mutF_valid hv (by rw [checkF, if_pos h, if_neg (by omega)])
def itemsK (m : Mach) (fs : List FA) (a b : Int) (l : List Wd) (k : Nat) : List Item := (l.take k).map (itemF m fs a b)
set_option maxHeartbeats 4000000 in
theorem refItems_is {m : Mach} (hv : Valid m) (hr63 : m.rows.length ≤ 63) (fn : Bool) (fs : List FA) (fc : Cp) (hfl : fs.length < 1000000) (hfs : ∀ f ∈ fs, faultB m f = true) (ln : Bool) (l : List Wd) (lc : Cp) (hll : l.length < 1000000) (hwl : ∀ w ∈ l, w.2.length ≤ 256 ∧ ∀ a ∈ w.2, 0 ≤ a ∧ a < m.ins) (a b : Int) (hab : (0 ≤ a ∧ a ≤ 1000) ∧ (0 ≤ b ∧ b ≤ 1000)) :
    PureIs prog 23 [.ag m.cells, .sl fn (fs.map FA.cells) fc, .sl ln (l.map wdC) lc, .sc (.int .i64 a), .sc (.int .i64 b)] (.sl (l.map (itemF m fs a b)).isEmpty ((l.map (itemF m fs a b)).map itemC) .unk) := by
  refine PureIs.of (nv := 6) (hid := [10, 11, 12, 13, 14, 18, 34, 55]) func23 rfl (by kernel_rfl) (by simp [ntmps23]) fun _ => ?_
  rw [ntmps23, results23]
  refine EvC.seq (EvC.rg (by (simp only [go_sem, Mach.cells]) <;> rfl) (by simp) ?_)
  refine EvC.frzB 0 (by (simp only [go_sem]) <;> rfl) ?_
  refine EvC.seq (EvC.rg (by (simp only [go_sem]) <;> rfl) (by simp) ?_)
  refine EvC.seq ?_
  refine EvC.seq (EvC.rg (by (simp only [go_sem]) <;> rfl) (by simp) ?_)
  refine EvC.thaw 2 (by (simp only [go_sem]) <;> rfl) ?_
  refine EvC.block ?_  -- 0
  refine EvC.loopS (σ := Nat) (fun k => ⟨[(1, .sl fn (fs.map FA.cells) fc), (2, .sl ln (l.map wdC) lc), (3, .sc (.int .i64 a)), (4, .sc (.int .i64 b)), (5, .ia m.cells), (11, .tl 0 (itemsK m fs a b l k).length (itemsK m fs a b l k).isEmpty), (12, .sc (.int .i64 k))], [], [(0, .arr 2 ((itemsK m fs a b l k).map itemC) false)], 1⟩) (fun k => l.length - k) (fun k => k ≤ l.length) [1, 2, 3, 4, 5, 11, 12] 1 ?_ ?_
  · exact ⟨[(2, 0)], 0, rfl, (by (simp only [go_sem, Int.natCast_zero, itemsK, List.take_zero, List.map_nil, List.length_nil, List.isEmpty_nil, Mach.cells, norefs_faL]) <;> rfl), Nat.zero_le _⟩
  intro k hk
  refine EvC.seq ?_
  refine EvC.seq (EvC.rg (by (simp only [go_sem, List.length_map]) <;> rfl) (by simp) ?_)
  refine EvC.cond (by (simp only [go_sem]) <;> rfl) (fun hc => ?_) (fun hc => ?_)
  rotate_left
  · -- else
    refine EvC.exit ?_  -- 0
    obtain rfl : k = l.length := by have : ¬ (k : Int) < l.length := (by simpa using hc); omega
    clear hc
    rw [show itemsK m fs a b l l.length = l.map (itemF m fs a b) by rw [itemsK, List.take_length]]
    generalize l.map (itemF m fs a b) = L
    refine EvC.frz 0 (by (simp only [go_sem, List.length_map]) <;> rfl) ?_
    refine EvC.seq (EvC.rg (by (simp only [go_sem]) <;> rfl) (by simp) ?_)
    refine EvC.ret ⟨.inl rfl, _, (by (simp only [go_sem]) <;> rfl), ?_, rfl⟩
    simp only [go_sem]
  have hkl : k < l.length := by have : (k : Int) < l.length := (by simpa using hc); omega
  clear hc
  have he : l[k]? = some (l[k]'hkl) := List.getElem?_eq_getElem hkl
  obtain ⟨hww, hwo⟩ := hwl _ (List.getElem_mem hkl)
  have htk : l.take (k + 1) = l.take k ++ [l[k]'hkl] := List.take_succ_eq_append_getElem hkl
  generalize l[k]'hkl = w at he htk hww hwo
  have hin : (k : Int).toNat = k := Int.toNat_natCast k
  have hmul : 0 ≤ b * (w.2.length : Int) ∧ b * (w.2.length : Int) ≤ 1000 * 256 := ⟨Int.mul_nonneg hab.2.1 (by omega), Int.mul_le_mul hab.2.2 (by omega) (by omega) (by omega)⟩
  have hnx : itemsK m fs a b l (k + 1) = itemsK m fs a b l k ++ [itemF m fs a b w] := by rw [itemsK, htk, List.map_append]; rfl
  have hLl : (itemsK m fs a b l k).length = k := by simp [itemsK]; omega
  generalize itemsK m fs a b l k = L0 at hnx hLl
  generalize hL1 : itemsK m fs a b l (k + 1) = L1 at hnx
  refine EvC.skip ?_
  refine EvC.seq ?_
  refine EvC.block ?_  -- 1
  refine EvC.seq (EvC.rg (by (simp only [go_sem, he, wdC, hin, List.length_map]) <;> rfl) (by simp [inI64_of (x := b * (w.2.length : Int)) (by omega) (by omega), inI64_of (x := a + b * (w.2.length : Int)) (by omega) (by omega)]) ?_)
  refine EvC.ownC 15 1 1 (by (simp only [go_sem]) <;> rfl) ?_
  refine EvC.seq ?_
  refine EvC.seq (EvC.rg (by (simp only [go_sem]) <;> rfl) (by simp) ?_)
  refine EvC.block ?_  -- 2
  have hlk0 : killsK m fs w.2 0 = [] := rfl
  refine EvC.loopS (σ := Nat) (fun j => ⟨[(1, .sl fn (fs.map FA.cells) fc), (2, .sl ln (l.map wdC) lc), (3, .sc (.int .i64 a)), (4, .sc (.int .i64 b)), (5, .ia m.cells), (11, .tl 0 L0.length L0.isEmpty), (12, .sc (.int .i64 k)), (13, .rf 1 0), (14, .sc (.int .i64 j))], [], [(0, .arr 2 (L0.map itemC) false), (1, .cells [.sc (.int .i64 (a + b * (w.2.length : Int))), .tl 2 (killsK m fs w.2 j).length (killsK m fs w.2 j).isEmpty]), (2, .arr 1 ((killsK m fs w.2 j).map intC) true)], 3⟩) (fun j => fs.length - j) (fun j => j ≤ fs.length) [1, 2, 3, 4, 5, 11, 12, 13, 14] 3 ?_ ?_
  · exact ⟨[(0, 0), (15, 1), (17, 2)], 0, rfl, (by rw [hlk0]; (simp only [go_sem, Int.natCast_zero, List.map_nil, List.length_nil, List.isEmpty_nil, Mach.cells, norefs_faL]) <;> rfl), Nat.zero_le _⟩
  intro j hj1
  refine EvC.seq ?_
  refine EvC.seq (EvC.rg (by (simp only [go_sem, List.length_map]) <;> rfl) (by simp) ?_)
  refine EvC.cond (by (simp only [go_sem]) <;> rfl) (fun hc => ?_) (fun hc => ?_)
  rotate_left
  · -- else
    refine EvC.exit ?_  -- 2
    obtain rfl : j = fs.length := by have : ¬ (j : Int) < fs.length := (by simpa using hc); omega
    clear hc
    refine EvC.frzD 2 (by (simp only [go_sem, List.length_map]) <;> rfl) ?_
    have hUc : itemC (itemF m fs a b w) = [.sc (.int .i64 (a + b * (w.2.length : Int))), .sl (killsK m fs w.2 fs.length).isEmpty ((killsK m fs w.2 fs.length).map intC) .unk] := rfl
    generalize killsK m fs w.2 fs.length = T at hUc
    have hsn : L0.map itemC ++ [[.sc (.int .i64 (a + b * (w.2.length : Int))), .sl T.isEmpty (T.map intC) .unk]] = (L0 ++ [itemF m fs a b w]).map itemC := by rw [List.map_append, ← hUc]; rfl
    have hsl : L0.length + 1 = (L0 ++ [itemF m fs a b w]).length := by simp
    have hse : (L0 ++ [itemF m fs a b w]).isEmpty = false := by simp
    have hr2 : room (L0.length + 1) 32 = true := by simp only [room_eq, decide_eq_true_eq]; omega
    rw [hsl] at hr2
    rw [← hnx] at hsn hsl hse hr2
    refine EvC.rg (by (simp only [go_sem, hsn, hsl, List.length_map]) <;> rfl) (by simp [hr2]) ?_
    refine EvC.rg (by (simp only [go_sem]) <;> rfl) (by exact inI64_of (by omega) (by omega)) ?_
    exact ⟨[(0, 0)], k + 1, rfl, (by rw [hL1]; (simp only [go_sem, hse, norefs_faL, Mach.cells, Int.natCast_add, Int.natCast_one]) <;> rfl), hkl, by omega⟩
  have hjl : j < fs.length := by have : (j : Int) < fs.length := (by simpa using hc); omega
  clear hc
  have hfe : fs[j]? = some (fs[j]'hjl) := List.getElem?_eq_getElem hjl
  have hfv := hfs _ (List.getElem_mem hjl)
  have hst : killsK m fs w.2 (j + 1) = if decide ((fs[j]?).map (fun f => runR (mutF m f) 0 w.2) = some (runR m 0 w.2)) = true then killsK m fs w.2 j else killsK m fs w.2 j ++ [(j : Int)] := rfl
  rw [hfe, Option.map_some] at hst
  generalize fs[j]'hjl = f at hfe hfv hst
  have hkl2 := killsK_len m fs w.2 j
  have hjn : (j : Int).toNat = j := Int.toNat_natCast j
  have hvf := mutF_valid2 hv hfv hr63
  have q1 := run04_is hv 0 (by have := hv.rows; omega) w.1 w.2 .unk hwo (by omega)
  have q2 := apply55_is hv f hfv
  have q3 := run04_is hvf 0 (by have := hvf.rows; omega) w.1 w.2 .unk hwo (by omega)
  have hl1 := runR_len m 0 w.2
  generalize runR m 0 w.2 = RM at q1 hst hl1
  generalize runR (mutF m f) 0 w.2 = RF at q3 hst
  have q4 := same_is RM.isEmpty RM .unk RF.isEmpty RF .unk (by omega)
  have hst : killsK m fs w.2 (j + 1) = if decide (RM = RF) = true then killsK m fs w.2 j else killsK m fs w.2 j ++ [(j : Int)] := by
    rw [hst]
    by_cases h : RM = RF
    · subst h; simp
    · rw [if_neg (by simpa using fun e => h e.symm), if_neg (by simpa using h)]
  obtain ⟨f1, f2, f3, f4, f5, f6⟩ := f
  simp only [FA.cells] at q2
  generalize mutF m ⟨f1, f2, f3, f4, f5, f6⟩ = mf at q2 q3
  simp only [Mach.cells] at q2 q3
  refine EvC.skip ?_
  refine EvC.seq ?_
  refine EvC.block ?_  -- 3
  apply EvC.seq
  apply EvC.drw mixed
  · apply Tr.run
    · (simp only [go_sem, he, wdC, hin, hfe, FA.cells, hjn, List.length_map, Mach.cells]) <;> rfl
    · simp; try omega
    apply Tr.cons
    · exact .call rfl rfl (by (simp only [go_sem]) <;> rfl) (by (simp only [go_sem]) <;> rfl) (by (simp only [go_sem]) <;> rfl) (by (simp only [go_sem]) <;> rfl) (by (simp only [go_sem]) <;> rfl) (q1)
    apply Tr.run
    · (simp only [go_sem, he, wdC, hin, hfe, FA.cells, hjn, List.length_map, Mach.cells]) <;> rfl
    · simp; try omega
    apply Tr.cons
    · exact .call rfl rfl (by (simp only [go_sem]) <;> rfl) (by (simp only [go_sem]) <;> rfl) (by (simp only [go_sem]) <;> rfl) (by (simp only [go_sem]) <;> rfl) (by (simp only [go_sem]) <;> rfl) (q2)
    apply Tr.run
    · (simp only [go_sem, he, wdC, hin, hfe, FA.cells, hjn, List.length_map, Mach.cells]) <;> rfl
    · simp; try omega
    apply Tr.cons
    · exact .call rfl rfl (by (simp only [go_sem]) <;> rfl) (by (simp only [go_sem]) <;> rfl) (by (simp only [go_sem]) <;> rfl) (by (simp only [go_sem]) <;> rfl) (by (simp only [go_sem]) <;> rfl) (q3)
    apply Tr.run
    · (simp only [go_sem, he, wdC, hin, hfe, FA.cells, hjn, List.length_map, Mach.cells]) <;> rfl
    · simp; try omega
    apply Tr.cons
    · exact .call rfl rfl (by (simp only [go_sem]) <;> rfl) (by (simp only [go_sem]) <;> rfl) (by (simp only [go_sem]) <;> rfl) (by (simp only [go_sem]) <;> rfl) (by (simp only [go_sem]) <;> rfl) (q4)
    apply Tr.done
    · (simp only [go_sem, he, wdC, hin, hfe, FA.cells, hjn, List.length_map, Mach.cells]) <;> rfl
    · simp
  · kernel_rfl
  have hin' : j + 1 ≤ fs.length := hjl
  by_cases hRF : RM = RF
  · have d1 : decide (RM = RF) = true := decide_eq_true hRF
    rw [if_pos d1] at hst
    refine EvC.cond_false (by (simp only [go_sem, d1]) <;> rfl) ?_
    refine EvC.skip ?_
    refine EvC.rg (by (simp only [go_sem]) <;> rfl) (by exact inI64_of (by omega) (by omega)) ?_
    exact ⟨[(0, 0), (1, 1), (2, 2)], j + 1, rfl, (by rw [hst]; (simp only [go_sem, norefs_faL, Mach.cells, Int.natCast_add, Int.natCast_one]) <;> rfl), hin', by omega⟩
  have d1 : decide (RM = RF) = false := decide_eq_false hRF
  rw [if_neg (by rw [d1]; simp)] at hst
  refine EvC.cond_true (by (simp only [go_sem, d1]) <;> rfl) ?_
  have hsn : (killsK m fs w.2 j).map intC ++ [[.sc (.int .i64 (j : Int))]] = (killsK m fs w.2 j ++ [(j : Int)]).map intC := by simp [intC]
  have hsl : (killsK m fs w.2 j).length + 1 = (killsK m fs w.2 j ++ [(j : Int)]).length := by simp
  have hse : (killsK m fs w.2 j ++ [(j : Int)]).isEmpty = false := by simp
  have hr2 : room ((killsK m fs w.2 j).length + 1) 8 = true := by simp only [room_eq, decide_eq_true_eq]; omega
  rw [hsl] at hr2
  rw [← hst] at hsn hsl hse hr2
  generalize hT' : killsK m fs w.2 (j + 1) = T' at hsn hsl hse hr2
  generalize killsK m fs w.2 j = T at hsn hsl
  refine EvC.rg (by (simp only [go_sem, hsn, hsl, List.length_map]) <;> rfl) (by simp [hr2]) ?_
  refine EvC.rg (by (simp only [go_sem]) <;> rfl) (by exact inI64_of (by omega) (by omega)) ?_
  exact ⟨[(0, 0), (1, 1), (2, 2)], j + 1, rfl, (by rw [hT']; (simp only [go_sem, hse, norefs_faL, Mach.cells, Int.natCast_add, Int.natCast_one]) <;> rfl), hin', by omega⟩
end Go.Avl
namespace Go.Avl
open Go Go.Proofs.Tryd
set_option maxRecDepth 10000
set_option linter.unusedSimpArgs false

theorem killBad_no : ∀ {ks : List Int} {p : Option Int}, (∀ n ∈ ks, 0 ≤ n ∧ n < 256) → ks.Pairwise (· < ·) → (∀ q, p = some q → ∀ n ∈ ks, q < n) → killBad p ks = false
  | [], _, _, _, _ => rfl
  | n :: r, p, hb, hs, hp => by
    have hn := hb n List.mem_cons_self
    have hs := List.pairwise_cons.1 hs
    have ih : killBad (some n) r = false := killBad_no (fun m hm => hb m (List.mem_cons_of_mem _ hm)) hs.2 (fun q hq m hm => by cases hq; exact hs.1 m hm)
    have e1 : decide (n < 0) = false := decide_eq_false (by omega)
    have e2 : decide (256 ≤ n) = false := decide_eq_false (by omega)
    cases p with
    | none => simp only [killBad, ih, e1, e2, Bool.or_false]
    | some q =>
      have e3 : decide (n ≤ q) = false := decide_eq_false (by have := hp q rfl n List.mem_cons_self; omega)
      simp only [killBad, ih, e1, e2, e3, Bool.or_false]
theorem killsK_bd (m : Mach) (fs : List FA) (w : List Int) : ∀ {k : Nat}, ∀ n ∈ killsK m fs w k, 0 ≤ n ∧ n < (k : Int)
  | k + 1, n, h => by
    rw [killsK] at h
    split at h
    · have := killsK_bd m fs w n h; omega
    · rcases List.mem_append.1 h with h | h
      · have := killsK_bd m fs w n h; omega
      · rw [List.mem_singleton.1 h]; omega
theorem killsK_inc (m : Mach) (fs : List FA) (w : List Int) : ∀ k : Nat, (killsK m fs w k).Pairwise (· < ·)
  | 0 => .nil
  | k + 1 => by
    rw [killsK]
    split
    · exact killsK_inc m fs w k
    · exact List.pairwise_append.2 ⟨killsK_inc m fs w k, List.pairwise_singleton _ _, fun x hx y hy => by
        rw [List.mem_singleton.1 hy]; exact (killsK_bd m fs w x hx).2⟩
theorem errFs_of {m : Mach} : ∀ {fs : List FA}, (∀ f ∈ fs, checkF m f = 0) → errFs m fs = 0
  | [], _ => rfl
  | f :: r, h => by
    rw [errFs, if_pos (h f (List.mem_cons_self ..))]
    exact errFs_of fun g hg => h g (List.mem_cons_of_mem _ hg)
theorem ints_unks (l : List Int) : AV.unkss (l.map intC) = l.map intC := unkss_map intC (fun _ => rfl) l
theorem itemU_unks (l : List Item) : AV.unkss (l.map itemU) = l.map itemC := by
  rw [unkss_eq, List.map_map]
  refine List.map_congr_left fun x _ => ?_
  show AV.unks (itemU x) = itemC x
  simp only [itemU, AV.unks, AV.unk, ints_unks]; rfl
theorem itemsF_good {m : Mach} {fs : List FA} {l : List Wd} {a b : Int} (hf : fs.length ≤ 256) (hl : l.length ≤ 256) (hw : ∀ w ∈ l, w.2.length ≤ 8) (ha : 1 ≤ a ∧ a ≤ 1000) (hb : 0 ≤ b ∧ b ≤ 1000) : checkI (l.map (itemF m fs a b)) = 0 := by
  refine checkI_ok (by rw [List.length_map]; omega) ?_
  rw [List.any_eq_false]
  intro x hx
  obtain ⟨w, hwm, rfl⟩ := List.mem_map.1 hx
  have hw8 := hw w hwm
  have hmul : 0 ≤ b * (w.2.length : Int) ∧ b * (w.2.length : Int) ≤ 1000 * 8 := ⟨Int.mul_nonneg hb.1 (by omega), Int.mul_le_mul hb.2 (by omega) (by omega) (by omega)⟩
  have h1 : costBad (itemF m fs a b w) = false := by
    unfold costBad itemF
    simp only
    rw [decide_eq_false (by omega), decide_eq_false (by omega)]; rfl
  have h2 : killBad none (itemF m fs a b w).kills = false :=
    killBad_no (fun n hn => by have := killsK_bd m fs w.2 n hn; omega) (killsK_inc m fs w.2 _) (fun q hq => by cases hq)
  rw [itemBad, h1, h2]; simp
theorem plansItems_args {x : LM} (hx : x.Ok) (ls : List Int) : ∀ f ∈ sOfL x ls, faultB x.mach f = true := fun f hf => faK_mem (pickF_mem hf)
set_option maxHeartbeats 8000000 in
theorem plansItems_is {x : LM} (hx : x.Ok) (ln : Bool) (ls : List Int) (lc : Cp) (hls : ∀ v ∈ ls, 0 ≤ v ∧ v < 65536) (wn : Bool) (ws : List (Bool × List Int)) (wc : Cp) (hws : ∀ y ∈ ws, ∀ e ∈ y.2, 0 ≤ e ∧ e < 256) (p0 p1 : Int) (hp0 : 0 ≤ p0 ∧ p0 < 256) (hp1 : 0 ≤ p1 ∧ p1 < 256) :
    PureIs prog 4 [.ag (x.cells ++ [.sl ln (ls.map u16C) lc]), .sl wn (ws.map wbR) wc, .ag [.sc (.int .u8 p0), .sc (.int .u8 p1)]] (.sc (.bool true)) := by
  have va := LM.valid hx
  have q0 := sOf19_is hx ln ls lc hls
  have hfv := plansItems_args hx ls
  have hfl : (sOfL x ls).length ≤ 16 := pickF_len _ _ 16
  have hnn : NoNil x.mach := fun r hr h => by
    simp only [LM.mach, List.mem_map] at hr
    obtain ⟨s, _, rfl⟩ := hr
    cases h
  have hr6 : x.mach.rows.length ≤ 6 := by
    have := (LM.bounds hx).2.1
    simpa [LM.mach] using this
  have hmi := va.ins
  have hcl : x.cells ++ [AV.sl ln (ls.map u16C) lc] = [.sc (.int .u8 x.st), .sc (.int .u8 x.ins), .sc (.int .u8 x.outs), .sc (.bool x.part), .sl x.nl (x.es.map u16C) x.cap, .sl ln (ls.map u16C) lc] := rfl
  rw [hcl] at q0 ⊢
  generalize sOfL x ls = fs at q0 hfv hfl
  generalize x.mach = m at va q0 hfv hnn hr6 hmi
  have hck := checkM_of va
  have hfn := norefs_faL fs
  refine PureIs.of (nv := 4) (hid := [5, 6, 7, 8, 9, 10, 11, 12, 13, 14, 15, 28, 81, 85, 100]) func4 rfl (by kernel_rfl) (by simp [ntmps4]) fun _ => ?_
  rw [ntmps4, results4]
  refine EvC.seq (EvC.rg (by (simp only [go_sem]) <;> rfl) (by simp) ?_)
  apply EvC.seq
  apply EvC.tr
  · apply Tr.run
    · (simp only [go_sem]) <;> rfl
    · simp
    apply Tr.cons
    · exact .call rfl rfl (by (simp only [go_sem]) <;> rfl) (by (simp only [go_sem]) <;> rfl) (by (simp only [go_sem]) <;> rfl) (by (simp only [go_sem]) <;> rfl) (by (simp only [go_sem]) <;> rfl) (q0)
    apply Tr.done
    · (simp only [go_sem, Mach.cells]) <;> rfl
    · simp
  refine EvC.frzB 1 (by (simp only [go_sem]) <;> rfl) ?_
  refine EvC.frzB 8 (by (simp only [go_sem]) <;> rfl) ?_
  refine EvC.seq (EvC.rg (by (simp only [go_sem]) <;> rfl) (by simp) ?_)
  refine EvC.seq ?_
  refine EvC.seq (EvC.rg (by (simp only [go_sem]) <;> rfl) (by simp) ?_)
  refine EvC.thaw 11 (by (simp only [go_sem]) <;> rfl) ?_
  refine EvC.block ?_  -- 0
  refine EvC.loopS (σ := Nat) (fun i => ⟨[(1, .sl wn (ws.map wbR) wc), (5, .ia [.sc (.int .u8 p0), .sc (.int .u8 p1)]), (7, .ia m.cells), (8, .sl fs.isEmpty (fs.map FA.cells) .unk), (9, .tl 0 (wordsTo ws m.ins 8 i).length (wordsTo ws m.ins 8 i).isEmpty), (10, .sc (.int .i64 i))], [], [(0, .arr 1 ((wordsTo ws m.ins 8 i).map wC) false)], 1⟩) (fun i => ws.length - i) (fun i => i ≤ ws.length ∧ i ≤ 10) [1, 5, 7, 8, 9, 10] 1 ?_ ?_
  · exact ⟨[(11, 0)], 0, rfl, (by (simp only [go_sem, Int.natCast_zero, wordsTo, List.take_zero, List.map_nil, List.length_nil, List.isEmpty_nil, Mach.cells]) <;> rfl), Nat.zero_le _, Nat.zero_le _⟩
  rintro i ⟨h1, h2⟩
  refine EvC.seq ?_
  by_cases hend : i < ws.length ∧ i < 10
  rotate_left
  · -- else
    have hcf : (if decide ((i : Int) < ws.length) = true then decide ((i : Int) < 10) else false) = false := by
      by_cases h : i < ws.length
      · rw [decide_eq_true (show (i : Int) < ws.length by omega), if_pos rfl]; exact decide_eq_false (by omega)
      · rw [decide_eq_false (show ¬ (i : Int) < ws.length by omega)]; rfl
    have hl20 := wordsTo_len ws m.ins 8 i
    have hlm : ∀ w ∈ wordsTo ws m.ins 8 i, w.length ≤ 8 ∧ ∀ a ∈ w, 0 ≤ a ∧ a < m.ins := fun w hw => wordsTo_mem hmi.1 hw
    generalize wordsTo ws m.ins 8 i = L at hl20 hlm
    apply EvC.seq
    apply EvC.trd
    · (simp only [go_sem, List.length_map]) <;> rfl
    · simp
    refine EvC.cond_false (by (simp only [go_sem, hcf]) <;> rfl) ?_
    refine EvC.exit ?_  -- 0
    refine EvC.frz 0 (by (simp only [go_sem, List.length_map]) <;> rfl) ?_
    obtain ⟨A, hA⟩ : ∃ A : Int, A = 1 + p0 := ⟨_, rfl⟩
    have hA1 : 1 ≤ A ∧ A ≤ 1000 := by omega
    have hwW : L.map wC = (L.map wW).map wdC := by rw [List.map_map]; rfl
    have hwm : ∀ w ∈ L.map wW, w.2.length ≤ 8 ∧ ∀ a ∈ w.2, 0 ≤ a ∧ a < m.ins := fun w hw => by
      obtain ⟨v, hv, rfl⟩ := List.mem_map.1 hw
      exact hlm v hv
    have hWl : (L.map wW).length ≤ 10 := by rw [List.length_map]; omega
    have hWe : L.isEmpty = (L.map wW).isEmpty := by cases L <;> rfl
    rw [hwW, hWe]
    generalize L.map wW = W at hwm hWl
    have hWn : (W.map wdC).all AV.norefs = true := norefs_wds W
    have p1' := items21_is va hck hnn fs.isEmpty fs .unk (by omega) W.isEmpty W .unk (by omega) (fun w hw => by have := (hwm w hw).1; omega) A p1
    have hcz : costZ A p1 W = false := by
      unfold costZ
      rw [List.any_eq_false]
      intro w hw
      have h8 := (hwm w hw).1
      have hmul : 0 ≤ p1 * (w.2.length : Int) := Int.mul_nonneg hp1.1 (by omega)
      rw [decide_eq_false (by omega)]; simp
    have hpb : pricesBad A p1 = false := by
      unfold pricesBad
      rw [decide_eq_false (by omega), decide_eq_false (by omega), decide_eq_false (by omega), decide_eq_false (by omega)]; rfl
    have hef : errFs m fs = 0 := errFs_of fun f hf => by rw [checkF, if_pos (hfv f hf), if_neg (by omega)]
    have hwe : wordsErr m.ins W = 0 := wordsErr_of fun w hw => wordErr_of hmi (by have := (hwm w hw).1; omega) (hwm w hw).2
    rw [itemsR, if_neg (by omega), if_neg (fun h => h hef), if_neg (fun h => h hwe), if_neg (by rw [hpb]; simp), if_neg (by rw [hcz]; simp)] at p1'
    have p2 := refItems_is va (by omega) fs.isEmpty fs .unk (by omega) hfv W.isEmpty W .unk (by omega) (fun w hw => ⟨by have := (hwm w hw).1; omega, (hwm w hw).2⟩) A p1 ⟨by omega, by omega⟩
    have hgood := itemsF_good (m := m) (fs := fs) (l := W) (a := A) (b := p1) (by omega) (by omega) (fun w hw => (hwm w hw).1) hA1 ⟨by omega, by omega⟩
    have hIl : (W.map (itemF m fs A p1)).length ≤ 10 := by rw [List.length_map]; exact hWl
    have hIk : ∀ y ∈ W.map (itemF m fs A p1), y.kills.length < 1000000 := fun y hy => by
      obtain ⟨w, _, rfl⟩ := List.mem_map.1 hy
      have := killsK_len m fs w.2 fs.length
      show (killsK m fs w.2 fs.length).length < 1000000
      omega
    generalize W.map (itemF m fs A p1) = I at p1' p2 hgood hIl hIk
    have p3 : PureIs prog 22 [.sl false (I.map itemU) .full, .sl I.isEmpty (I.map itemC) .unk] (.sc (.bool true)) := by
      have q := sameI_is false I.isEmpty I I .unk .unk (by omega) hIk
      rw [sameI_refl] at q
      refine PureIs.weak ?_
      simp only [List.map_cons, List.map_nil, AV.unk, itemU_unks]
      rw [show AV.unkss (I.map itemC) = I.map itemC from unkss_map itemC (fun x => by simp only [itemC, AV.unks, AV.unk, ints_unks]) I]
      exact q
    have p4 : PureIs prog 12 [.sl false (I.map itemU) .full] (.sc (.int .i64 0)) := by
      have q := refCheck_is false I .unk hIk
      rw [hgood] at q
      refine PureIs.weak ?_
      simp only [List.map_cons, List.map_nil, AV.unk, itemU_unks]
      exact q
    have hIn : (I.map itemU).all AV.norefs = true := norefs_itemU I
    have hIa : inI64 (1 + p0) = true := inI64_of (by omega) (by omega)
    have hIb : inI64 p0 = true := inI64_of (by omega) (by omega)
    have hIc : inI64 p1 = true := inI64_of (by omega) (by omega)
    refine EvC.seq (EvC.rg (by (simp only [go_sem]) <;> rfl) (by simp [hIa, hIb, hp0.1]) ?_)
    refine EvC.seq (EvC.rg (by (simp only [go_sem]) <;> rfl) (by simp [hIc, hp1.1]) ?_)
    rw [← hA]
    apply EvC.seq
    apply EvC.tr
    · apply Tr.run
      · (simp only [go_sem, Mach.cells, hWn]) <;> rfl
      · simp
      apply Tr.cons
      · exact .call rfl rfl (by (simp only [go_sem]) <;> rfl) (by (simp only [go_sem]) <;> rfl) (by (simp only [go_sem]) <;> rfl) (by (simp only [go_sem]) <;> rfl) (by (simp only [go_sem]) <;> rfl) (p1')
      apply Tr.done
      · (simp only [go_sem, Mach.cells, hIn, hWn]) <;> rfl
      · simp
    refine EvC.seq ?_
    apply EvC.seq
    apply EvC.tr
    · apply Tr.run
      · (simp only [go_sem, Mach.cells, hWn, hIn, List.length_map, decide_true]) <;> rfl
      · simp
      apply Tr.cons
      · exact .callG rfl rfl (by (simp only [go_sem]) <;> rfl) rfl (by (simp only [go_sem]) <;> rfl) (by (simp only [go_sem]) <;> rfl) (by (simp only [go_sem]) <;> rfl) (by (simp only [go_sem]) <;> rfl) (by (simp only [go_sem]) <;> rfl) (p2)
      apply Tr.run
      · (simp only [go_sem, Mach.cells, hWn, hIn, List.length_map, decide_true]) <;> rfl
      · simp
      apply Tr.cons
      · exact .callG rfl rfl (by (simp only [go_sem]) <;> rfl) rfl (by (simp only [go_sem]) <;> rfl) (by (simp only [go_sem]) <;> rfl) (by (simp only [go_sem]) <;> rfl) (by (simp only [go_sem]) <;> rfl) (by (simp only [go_sem]) <;> rfl) (p3)
      apply Tr.run
      · (simp only [go_sem, Mach.cells, hWn, hIn, List.length_map, decide_true]) <;> rfl
      · simp
      apply Tr.cons
      · exact .callG rfl rfl (by (simp only [go_sem]) <;> rfl) rfl (by (simp only [go_sem]) <;> rfl) (by (simp only [go_sem]) <;> rfl) (by (simp only [go_sem]) <;> rfl) (by (simp only [go_sem]) <;> rfl) (by (simp only [go_sem]) <;> rfl) (p4)
      apply Tr.done
      · (simp only [go_sem]) <;> rfl
      · simp
    refine EvC.cond_false (by (simp only [go_sem]) <;> rfl) ?_
    refine EvC.skip ?_
    refine EvC.seq ?_
    refine EvC.seq (EvC.rg (by (simp only [go_sem]) <;> rfl) (by simp) ?_)
    refine EvC.block ?_  -- 2
    refine EvC.loopS (σ := Nat) (fun k => ⟨[(13, .sl false (I.map itemU) .full), (15, .sc (.int .i64 k))], [], [], 0⟩) (fun k => I.length - k) (fun k => k ≤ I.length) [13, 15] 0 ?_ ?_
    · exact ⟨[], 0, rfl, (by (simp only [go_sem, Int.natCast_zero, hIn]) <;> rfl), Nat.zero_le _⟩
    intro k hk
    refine EvC.seq ?_
    refine EvC.seq (EvC.rg (by (simp only [go_sem, List.length_map]) <;> rfl) (by simp) ?_)
    refine EvC.cond (by (simp only [go_sem]) <;> rfl) (fun hc => ?_) (fun hc => ?_)
    rotate_left
    · -- else
      refine EvC.exit ?_  -- 2
      apply EvC.seq
      apply EvC.tr
      · apply Tr.run
        · (simp only [go_sem]) <;> rfl
        · simp
        apply Tr.cons
        · exact .call rfl rfl (by (simp only [go_sem]) <;> rfl) (by (simp only [go_sem]) <;> rfl) (by (simp only [go_sem]) <;> rfl) (by (simp only [go_sem]) <;> rfl) (by (simp only [go_sem]) <;> rfl) (lives_is)
        apply Tr.done
        · (simp only [go_sem]) <;> rfl
        · simp
      refine EvC.ret ⟨.inl rfl, _, (by (simp only [go_sem]) <;> rfl), ?_, rfl⟩
      simp only [go_sem]
    have hkl : k < I.length := by have : (k : Int) < I.length := (by simpa using hc); omega
    clear hc
    have he : I[k]? = some (I[k]'hkl) := List.getElem?_eq_getElem hkl
    generalize I[k]'hkl = y at he
    have hkn : (k : Int).toNat = k := Int.toNat_natCast k
    refine EvC.skip ?_
    refine EvC.seq ?_
    refine EvC.block ?_  -- 3
    apply EvC.seq
    apply EvC.drd mixed
    · (simp only [go_sem, he, itemU, hkn, List.length_map, decide_true]) <;> rfl
    · simp
    · kernel_rfl
    refine EvC.cond_false (by (simp only [go_sem, decide_true]) <;> rfl) ?_
    refine EvC.skip ?_
    refine EvC.rg (by (simp only [go_sem]) <;> rfl) (by exact inI64_of (by omega) (by omega)) ?_
    exact ⟨[], k + 1, rfl, (by (simp only [go_sem, Int.natCast_add, Int.natCast_one, hIn]) <;> rfl), hkl, by omega⟩
  obtain ⟨hi, hi2⟩ := hend
  have d1 : decide ((i : Int) < ws.length) = true := decide_eq_true (by omega)
  have d2 : decide ((i : Int) < 10) = true := decide_eq_true (by omega)
  apply EvC.seq
  apply EvC.trd
  · (simp only [go_sem, List.length_map, d1, d2]) <;> rfl
  · simp
  refine EvC.cond_true (by (simp only [go_sem]) <;> rfl) ?_
  refine EvC.skip ?_
  refine EvC.seq ?_
  refine EvC.block ?_  -- 1
  have hin : (i : Int).toNat = i := Int.toNat_natCast i
  have he : ws[i]? = some (ws[i]'hi) := List.getElem?_eq_getElem hi
  have hwb := hws _ (List.getElem_mem hi)
  have hnx : wordsTo ws m.ins 8 (i + 1) = wordsTo ws m.ins 8 i ++ [wordOf (ws[i]'hi).2 m.ins 8] := by
    unfold wordsTo
    rw [List.take_succ_eq_append_getElem hi, List.map_append]; rfl
  generalize ws[i]'hi = y at he hwb hnx
  have q1 := word20_is y.1 y.2 .unk m.ins 8 hwb (by omega) (by decide)
  rw [show ((8 : Nat) : Int) = 8 from rfl] at q1
  generalize wordOf y.2 m.ins 8 = w at hnx q1
  have hwc : (wordsTo ws m.ins 8 i).map wC ++ [[.sl w.isEmpty (w.map intC) .unk]] = (wordsTo ws m.ins 8 i ++ [w]).map wC := by simp [wC]
  have hwl : (wordsTo ws m.ins 8 i).length + 1 = (wordsTo ws m.ins 8 i ++ [w]).length := by simp
  have hwe : (wordsTo ws m.ins 8 i ++ [w]).isEmpty = false := by simp
  have hTl := wordsTo_len ws m.ins 8 i
  have hr2 : room ((wordsTo ws m.ins 8 i).length + 1) 24 = true := by simp only [room_eq, decide_eq_true_eq]; omega
  rw [hwl] at hr2
  rw [← hnx] at hwc hwl hwe hr2
  generalize hT' : wordsTo ws m.ins 8 (i + 1) = T' at hwc hwl hwe hr2
  generalize wordsTo ws m.ins 8 i = T at hwc hwl hTl
  apply EvC.drw mixed
  · apply Tr.run
    · (simp only [go_sem, he, wbR, hin, List.length_map, Mach.cells]) <;> rfl
    · simp; try omega
    apply Tr.cons
    · exact .call rfl rfl (by (simp only [go_sem]) <;> rfl) (by (simp only [go_sem]) <;> rfl) (by (simp only [go_sem]) <;> rfl) (by (simp only [go_sem]) <;> rfl) (by (simp only [go_sem]) <;> rfl) (q1)
    apply Tr.done
    · (simp only [go_sem, hwc, hwl, List.length_map]) <;> rfl
    · simp [hr2]; try omega
  · kernel_rfl
  refine EvC.rg (by (simp only [go_sem]) <;> rfl) (by exact inI64_of (by omega) (by omega)) ?_
  exact ⟨[(0, 0)], i + 1, rfl, (by rw [hT']; (simp only [go_sem, hwe, hfn, Int.natCast_add, Int.natCast_one, Mach.cells]) <;> rfl), ⟨by omega, by omega⟩, by omega⟩
end Go.Avl
namespace Go.Proofs.YthdaggogdocmfaaDoor
open Go Go.Avl Go.Proofs Go.ChangeShapes Go.RowKit
section
variable {H : Type} {enc : TypeId × Value → H} {w : World}
theorem u16wf {n : Int} (h : (Lit.int .u16 n).wf = true) : 0 ≤ n ∧ n < 65536 := by
  simp [Lit.wf, IntKind.min, IntKind.max, IntKind.signed, IntKind.bits] at h
  omega
theorem rd_u16 : Reads enc Tryd.prog w 107 u16C (fun n => 0 ≤ n ∧ n < 65536) := (Reads.int (by kernel_rfl)).mono fun a h => ⟨a, u16wf h, rfl⟩
theorem rd_u16s : Reads enc Tryd.prog w 39 (fun x : Bool × List Int => [.sl x.1 (x.2.map u16C) .unk]) (fun x => (∀ e ∈ x.2, 0 ≤ e ∧ e < 65536) ∧ (x.2.length : Int) ≤ 140737488355328) :=
  (Reads.slice (by kernel_rfl) rd_u16 (fun a => by rw [show Program.cellsOf Tryd.prog 107 = 1 by kernel_rfl]; rfl) (by rw [show Program.cellsOf Tryd.prog 107 = 1 by kernel_rfl]; exact Nat.succ_pos _)).mono fun a h => ⟨a, ⟨h.1, len_of (b := Program.bytesOf Tryd.prog 107) (by decide +kernel) h.2.2⟩, rfl⟩
theorem rd_LM : Reads enc Tryd.prog w 41 LM.cells LM.Ok := by
  have := (Reads.struct (enc := enc) (w := w) (tot := 5) Tryd.underlying41 (by kernel_rfl) (.cons (sz := 1) rfl (by kernel_rfl) rfl rd_u8 (.cons (sz := 1) rfl (by kernel_rfl) rfl rd_u8 (.cons (sz := 1) rfl (by kernel_rfl) rfl rd_u8 (.cons (sz := 1) rfl (by kernel_rfl) rfl (Reads.bool Tryd.underlying4)
    (.cons (sz := 1) rfl (by kernel_rfl) rfl rd_u16s .nil))))))
  exact this.mono fun a h => ⟨⟨a.1, a.2.1, a.2.2.1, a.2.2.2.1, a.2.2.2.2.1.1, a.2.2.2.2.1.2, .unk⟩, ⟨h.1.1, h.2.1.1, h.2.2.1.1, h.2.2.2.2.1.1⟩, rfl⟩
/-- Words of bytes. -/
abbrev WB := Bool × List Int
def wbC (x : WB) : List AV := [.sl x.1 (x.2.map u8C) .unk]
def WB.Ok (x : WB) : Prop := ∀ e ∈ x.2, 0 ≤ e ∧ e < 256
theorem rd_wbs : Reads enc Tryd.prog w 44 (fun x : Bool × List WB => [.sl x.1 (x.2.map wbC) .unk]) (fun x => ∀ y ∈ x.2, y.Ok) :=
  (Reads.slice Tryd.underlying44 (rd_bytes.mono (g := wbC) (Ok' := WB.Ok) fun a h => ⟨a, h.1, rfl⟩) (fun a => by rw [show Program.cellsOf Tryd.prog 54 = 1 by kernel_rfl]; rfl) (by rw [show Program.cellsOf Tryd.prog 54 = 1 by kernel_rfl]; exact Nat.succ_pos _)).mono fun a h => ⟨a, h.1, rfl⟩
end
end Go.Proofs.YthdaggogdocmfaaDoor
namespace Go.Proofs.YthdaggogdocmfaaDoor
open Go Go.Avl Go.Proofs Go.ChangeShapes Go.RowKit
section
variable {H : Type} {enc : TypeId × Value → H} {w : World}
theorem rd_S : Reads enc Tryd.prog w 43 (fun x : LM × Bool × List Int => x.1.cells ++ [.sl x.2.1 (x.2.2.map u16C) .unk]) (fun x => x.1.Ok ∧ ∀ e ∈ x.2.2, 0 ≤ e ∧ e < 65536) := by
  have := (Reads.struct (enc := enc) (w := w) (tot := 6) Tryd.underlying43 (by kernel_rfl) (.cons (sz := 5) rfl (by kernel_rfl) rfl rd_LM (.cons (sz := 1) rfl (by kernel_rfl) rfl rd_u16s .nil)))
  exact this.mono fun a h => ⟨⟨a.1, a.2.1.1, a.2.1.2⟩, ⟨h.1, h.2.1.1⟩, by simp⟩
theorem rd_u8x2 : Reads enc Tryd.prog w 45 (fun e : Int × Int => [.sc (.int .u8 e.1), .sc (.int .u8 e.2)]) (fun e => (0 ≤ e.1 ∧ e.1 < 256) ∧ 0 ≤ e.2 ∧ e.2 < 256) := (Reads.array (n := 2) (sz := 1) (by kernel_rfl) (by kernel_rfl) (by kernel_rfl) rd_u8).mono fun l h => by
  obtain ⟨h1, h2⟩ := h
  match l, h1 with
  | [a, b], _ => exact ⟨(a, b), ⟨h2 a (by simp), h2 b (by simp)⟩, rfl⟩
end
end Go.Proofs.YthdaggogdocmfaaDoor
namespace Go.Proofs.YthdaggogdocmfaaDoor
open Go Go.Avl Go.Proofs Go.ChangeShapes Go.RowKit

set_option maxRecDepth 100000 in
theorem plansItems_lifted (os : Os) (started : os.Started) (H : Type) (enc : TypeId × Value → H) :
    ReturnsInHanded {} Tryd.checked os 4 .any (fun w args => (Rows.plansItemsSpec.pre enc Tryd.prog Tryd.f4 Rows.plansItemsRow.domain false w args ∧ laidMetH Tryd.prog laidT w) ∧ sizedMet enc Tryd.prog Tryd.f4 (OpenSpec.ofChange Rows.plansItemsSpec) false w args)
      (Rows.plansItemsSpec.post enc Tryd.prog Tryd.f4 false true false false) := by
  refine returnsInHanded_of_change_and (C := Tryd.checked) (X := fun w _ => laidMetH Tryd.prog laidT w) (fun _ _ _ hh h => h.of_heap hh) Tryd.own started (by kernel_rfl) Tryd.func4
    (ChangeSpec.witness_shaped (enc := enc) (C := Tryd.checked) (os := os) (X := fun w _ => laidMetH Tryd.prog laidT w) false (World.doorLaid Tryd.prog 400 os) #[.agg #[.int .u8 0, .int .u8 0, .int .u8 0, .bool false, .slice none 0 0, .slice none 0 0], .slice none 0 0, .agg #[.int .u8 0, .int .u8 0]] 8 rfl (World.shaped_of_RefB (by kernel_rfl) (by kernel_rfl)) (by kernel_rfl) (by kernel_rfl) (by kernel_rfl) (door_met os _)) ?_
  intro W base args ds gs before hval hW _ hz hL _
  have hgl := globs_of hL
  have hW' := hW
  obtain ⟨p, q, hA, hV, rfl, _, _⟩ := hW'
  obtain ⟨rfl, rfl⟩ := trodVars_none hV
  have hA' : DataW.TrodAll enc Tryd.prog W 0 (fun _ => true) true [43, 44, 45] args.toList ds p := by rw [← show Tryd.f4.params.toList = [43, 44, 45] from rfl]; exact hA
  obtain ⟨v0, v1, v2, d0, d1, d2, p0, p1, p2, rfl, rfl, rfl, h0, h1, h2⟩ := trodAll_three hA'
  have hz' : (DataW.weightsEach Tryd.prog [43, 44, 45] [d0, d1, d2]).all (· ≤ reachBytes) = true := hz
  have hf := fits_each (P := Tryd.prog) (ts := [43, 44, 45]) (l := [d0, d1, d2]) fun n hn => by simpa using List.all_eq_true.1 hz' n hn
  obtain ⟨x, hx, i0⟩ := rd_S.imm_struct Tryd.underlying43 (hval 0 43 v0 rfl rfl) (hf 0 43 d0 rfl rfl) h0
  obtain ⟨b, hb, i1⟩ := rd_wbs.imm_slice Tryd.underlying44 (hval 1 44 v1 rfl rfl) (hf 1 44 d1 rfl rfl) h1
  obtain ⟨p, hp, i2⟩ := rd_u8x2.imm_array Tryd.underlying45 (hval 2 45 v2 rfl rfl) (hf 2 45 d2 rfl rfl) h2
  exact law_calls Tryd.laidOut (by kernel_rfl) rfl (by kernel_rfl) rfl rfl (plansItems_is hx.1 x.2.1 x.2.2 .unk hx.2 b.1 b.2 .unk (fun y hy => hb y hy) p.1 p.2 hp.1 hp.2) (Imms.append (.one i0) (Imms.append (.one i1) (.one i2))) hW hgl

theorem plansItems_said : Rows.PlansItemsSaid :=
  OpenClaim.holds_of_wide 4 Tryd.f4 rfl rfl rfl rfl rfl rfl rfl ⟨rfl, rfl, rfl, rfl, rfl⟩ rfl rfl rfl rfl rfl (by kernel_rfl) Tryd.func4 (by kernel_rfl)
    (of_decide_eq_true (by kernel_rfl)) (by unfold Func.isWrapper; first | (rw [if_pos (by decide +kernel)]; kernel_rfl) | (rw [if_neg (by decide +kernel)]; exact ⟨rfl, rfl⟩))
    (fun os started H enc _ => plansItems_lifted os started H enc)

theorem plansItems_holds : Rows.PlansItemsCardSaid :=
  Claim7.holds_tied_plain_at .later [] [.widerDeep] true (true, "6d3ff7fe0d9779fedb791cf0751605ad5cd5bfdc42f52104730e367675225e7a") false
    plansItems_said (fun _ h => by cases h) (by kernel_rfl) (fun _ h => by cases h) plansItems_row_tie rfl ⟨rfl, rfl⟩ (by kernel_rfl) rfl
    (fun f fn hf hfn => by
      obtain rfl : f = 4 := (Option.some.inj ((show Tryd.prog.funcNamed "gauntlet/gauntletlaw43.PlansItems" = some 4 by kernel_rfl).symm.trans hf)).symm
      obtain rfl : fn = Tryd.f4 := (Option.some.inj (Tryd.func4.symm.trans hfn)).symm
      refine ⟨by kernel_rfl, fun j t ht => ?_⟩
      have key : (Tryd.f4.params.toList.all fun t => Tryd.prog.wantsStandIn t == false) = true := by kernel_rfl
      have hm : t ∈ Tryd.f4.params.toList := by
        rw [← Array.getElem?_toList] at ht
        exact List.mem_of_getElem? ht
      exact eq_of_beq (List.all_eq_true.1 key t hm))
    (by kernel_rfl)
#print axioms plansItems_holds
end Go.Proofs.YthdaggogdocmfaaDoor
