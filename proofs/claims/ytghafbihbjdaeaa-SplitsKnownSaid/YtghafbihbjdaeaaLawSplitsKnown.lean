/-
  Lemmas.
  Lemmas.
  Lemmas.
  SplitsKnown returns true at every input, and each argument reads behind the call as it read before.
  Conditions: those of the given row alone (no others).
-/
import Derived.Test.YtghafbihbjdaeaaPart8
set_option linter.unusedSimpArgs false
set_option linter.unusedVariables false
set_option linter.unnecessarySimpa false
set_option linter.deprecated false
namespace Go.Avl
open Go Go.Proofs.Try
set_option maxRecDepth 10000
set_option linter.unusedSimpArgs false

set_option maxHeartbeats 8000000 in
theorem splitsAfterLaw_is {x : LM} (hx : x.Ok) (nl : Bool) (a0 : List Int) (ca : Cp) (ha0 : ∀ e ∈ a0, 0 ≤ e ∧ e < 256) :
    PureIs prog 7 [.ag x.cells, .ag [.sl nl (a0.map u8C) ca]] (.sc (.bool true)) := by
  obtain ⟨b1, b2, b3, b4, b5, b6, -, -⟩ := LM.bounds hx
  have hv := LM.valid hx
  have hn : x.mach.rows.length = x.n := by simp [LM.mach]
  obtain ⟨m, hm⟩ : ∃ m, m = x.mach := ⟨_, rfl⟩
  have hmo := mOf_is hx
  rw [← hm] at hv hn hmo
  have hrw := hv.rows
  have hins := hv.ins
  have h0 := checkM_of hv
  refine PureIs.of (nv := 11) (hid := [20, 58]) func7 rfl (by kernel_rfl) (by simp [ntmps7]) fun _ => ?_
  rw [ntmps7, results7]
  refine EvC.seq (EvC.rg (by (simp only [go_sem, LM.cells]) <;> rfl) (by simp) ?_)
  apply EvC.seq
  apply EvC.tr
  · apply Tr.run
    · (simp only [go_sem, LM.cells]) <;> rfl
    · simp
    apply Tr.cons
    · exact .call rfl rfl (by (simp only [go_sem]) <;> rfl) (by (simp only [go_sem]) <;> rfl) (by (simp only [go_sem]) <;> rfl) (by (simp only [go_sem]) <;> rfl) (by (simp only [go_sem]) <;> rfl) (hmo)
    apply Tr.done
    · (simp only [go_sem, Mach.cells]) <;> rfl
    · simp
  refine EvC.frzB 5 (by (simp only [go_sem]) <;> rfl) ?_
  apply EvC.seq
  apply EvC.tr
  · apply Tr.run
    · (simp only [go_sem, Mach.cells]) <;> rfl
    · simp
    apply Tr.cons
    · exact .call rfl rfl (by (simp only [go_sem]) <;> rfl) (by (simp only [go_sem]) <;> rfl) (by (simp only [go_sem]) <;> rfl) (by (simp only [go_sem]) <;> rfl) (by (simp only [go_sem]) <;> rfl) (wOf_is nl a0 ca m.ins hins.1 ha0)
    apply Tr.done
    · (simp only [go_sem]) <;> rfl
    · simp
  have hal : (wOf a0 m.ins).length ≤ 12 := wOf_len _ _
  have hao : ∀ e ∈ wOf a0 m.ins, 0 ≤ e ∧ e < m.ins := wOf_ok hins.1
  generalize wOf a0 m.ins = a at hal hao
  refine EvC.seq (EvC.rg (by (simp only [go_sem]) <;> rfl) (by simp) ?_)
  refine EvC.seq ?_
  refine EvC.seq (EvC.rg (by (simp only [go_sem]) <;> rfl) (by simp) ?_)
  refine EvC.block ?_  -- 0
  refine EvC.frz 12 (by (simp only [go_sem]) <;> rfl) ?_
  refine EvC.loopS (σ := Nat) (fun i => ⟨[(5, .ia m.cells), (6, .sl a.isEmpty (a.map intC) .unk), (7, befA m a i), (8, .sc (.int .i64 i))], [], [], 0⟩) (fun i => a.length + 1 - i) (fun i => i ≤ a.length + 1) [5, 6, 7, 8] 0 ?_ ?_
  · exact ⟨[], 0, rfl, (by (simp only [go_sem, Mach.cells, befA]) <;> rfl), Nat.zero_le _⟩
  intro i hi
  have hfin : ∀ (p q : List Int) (cp cq : Cp), p.length = m.rows.length → q.length = m.rows.length → (∀ i k : Nat, i < m.rows.length → k < m.rows.length → p[i]? = p[k]? → q[i]? = q[k]?) → PureIs prog 25 [.sl false (p.map intC) cp, .sl false (q.map intC) cq] (.sc (.int .i64 1)) := fun p q cp cq hp hq h =>
    finer_is false p cp false q cq (by omega) (by omega) fun i k h1 h2 h3 => h i k (by omega) (by omega) h3
  refine EvC.seq ?_
  refine EvC.seq (EvC.rg (by (simp only [go_sem]) <;> rfl) (by simp) ?_)
  refine EvC.cond (by (simp only [go_sem]) <;> rfl) (fun hc => ?_) (fun hc => ?_)
  rotate_left
  · refine EvC.exit ?_  -- 0
    obtain rfl : i = a.length + 1 := by have : ¬ (i : Int) ≤ a.length := by simpa using hc
                                        omega
    clear hc
    have hf := hfin (classL m) (namesL m (a.take a.length)) .unk .full (classL_len m) (namesL_len _ _) fun i k h1 h2 h3 => (namesL_eq h1 h2).2 ((classL_eq hv h1 h2).1 h3 _ fun e he => by
      have := hao e (List.mem_of_mem_take he); omega)
    rw [befA]
    have hcl := classes_is hv
    generalize classL m = L at hf hcl
    generalize namesL m (a.take a.length) = K at hf
    apply EvC.seq
    apply EvC.tr  -- R11
    · apply Tr.run
      · (simp only [go_sem, Mach.cells]) <;> rfl
      · simp
      apply Tr.cons
      · exact .call rfl rfl (by (simp only [go_sem]) <;> rfl) (by (simp only [go_sem]) <;> rfl) (by (simp only [go_sem]) <;> rfl) (by (simp only [go_sem]) <;> rfl) (by (simp only [go_sem]) <;> rfl) hcl
      apply Tr.run
      · (simp only [go_sem]) <;> rfl
      · simp
      apply Tr.cons
      · exact .call rfl rfl (by (simp only [go_sem]) <;> rfl) (by (simp only [go_sem]) <;> rfl) (by (simp only [go_sem]) <;> rfl) (by (simp only [go_sem]) <;> rfl) (by (simp only [go_sem]) <;> rfl) hf
      apply Tr.run
      · (simp only [go_sem]) <;> rfl
      · simp
      apply Tr.cons
      · exact .callG rfl rfl (by (simp only [go_sem]) <;> rfl) rfl (by (simp only [go_sem]) <;> rfl) (by (simp only [go_sem]) <;> rfl) (by (simp only [go_sem]) <;> rfl) (by (simp only [go_sem]) <;> rfl) (by (simp only [go_sem]) <;> rfl) lives_is
      apply Tr.done
      · (simp only [go_sem]) <;> rfl
      · simp
    refine EvC.ret ⟨.inl rfl, _, (by (simp only [go_sem]) <;> rfl), ?_, rfl⟩
    simp only [go_sem]
    try rfl
  have hil : i ≤ a.length := by have : (i : Int) ≤ a.length := by simpa using hc
                                omega
  clear hc
  have hto : ∀ e ∈ a.take i, 0 ≤ e ∧ e < m.ins := fun e he => hao e (List.mem_of_mem_take he)
  have htl : (a.take i).length ≤ 12 := by rw [List.length_take]; omega
  have hA : ∀ b cp, PureIs prog 23 [.ag m.cells, .sl b ((a.take i).map intC) cp] (.tu [.sl false ((namesL m (a.take i)).map intC) .full, .sc (.int .i64 0)]) := fun b cp => by
    have := splitsAfter_is m hv.small b (a.take i) cp (by omega)
    rw [afterA, if_neg (by simp [h0]), if_neg (by rw [wordErr_of hins (by omega) hto]; simp)] at this
    exact this
  have hR : ∀ b cp, PureIs prog 24 [.ag m.cells, .sl b ((a.take i).map intC) cp] (.sl (namesL m (a.take i)).isEmpty ((namesL m (a.take i)).map intC) .unk) := fun b cp =>
    refAfter_is hv b (a.take i) cp hto (by omega)
  have hmt : List.take i (a.map intC) = (a.take i).map intC := List.map_take.symm
  have hLl : (namesL m (a.take i)).length = m.rows.length := namesL_len _ _
  have hls : PureIs prog 14 [.sl false ((namesL m (a.take i)).map intC) .full, .sc (.int .i64 0), .sl (namesL m (a.take i)).isEmpty ((namesL m (a.take i)).map intC) .unk, .sc (.int .i64 0)] (.sc (.bool true)) := by
    simpa using list_is false (namesL m (a.take i)) (namesL m (a.take i)).isEmpty (namesL m (a.take i)) .unk 0 0 (by omega)
  have hI8 : inI64 ((i : Int) + 1) = true := inI64_of (by omega) (by omega)
  have hce : ∀ l : List Int, ((l.map intC).all fun y => decide (y.length = 1)) = true := fun l => by simp [List.all_eq_true, intC]
  refine EvC.skip ?_
  refine EvC.seq ?_
  refine EvC.block ?_  -- 1
  apply EvC.seq
  apply EvC.drw mixed
  · apply Tr.run
    · (simp only [go_sem, Mach.cells, hmt, Int.toNat_natCast, List.drop_zero]) <;> rfl
    · simp [intC]; try omega
    apply Tr.cons
    · exact .call rfl rfl (by (simp only [go_sem]) <;> rfl) (by (simp only [go_sem]) <;> rfl) (by (simp only [go_sem]) <;> rfl) (by (simp only [go_sem]) <;> rfl) (by (simp only [go_sem]) <;> rfl) (hA _ _)
    apply Tr.done
    · (simp only [go_sem]) <;> rfl
    · simp
  · kernel_rfl
  have hne1 : ((1 : Int) = 1) := rfl
  have hij : i = 0 ∨ ∃ j, i = j + 1 := by cases i; exact .inl rfl; exact .inr ⟨_, rfl⟩
  rcases hij with rfl | ⟨j, rfl⟩
  · have hn0 := names_nil (m := m) hrw.1
    have hcn := count_is false (namesL m []) .full (by rw [namesL_len]; omega) fun e he => by rw [hn0.1 e he]; exact ⟨by omega, by omega⟩
    rw [hn0.2] at hcn
    rw [List.take_zero] at hR hls hLl
    clear hmt
    rw [List.take_zero, show befA m a 0 = .sl true [] .unk from rfl]
    refine EvC.seq ?_
    apply EvC.seq
    apply EvC.drw mixed  -- R8
    · apply Tr.run
      · (simp only [go_sem, Mach.cells, Int.natCast_zero, Int.toNat_zero, List.take_zero, List.drop_zero, List.drop_nil]) <;> rfl
      · simp [intC]
      apply Tr.cons
      · exact .call rfl rfl (by (simp only [go_sem]) <;> rfl) (by (simp only [go_sem]) <;> rfl) (by (simp only [go_sem]) <;> rfl) (by (simp only [go_sem]) <;> rfl) (by (simp only [go_sem]) <;> rfl) (hR _ _)
      apply Tr.run
      · (simp only [go_sem]) <;> rfl
      · simp
      apply Tr.cons
      · exact .call rfl rfl (by (simp only [go_sem]) <;> rfl) (by (simp only [go_sem]) <;> rfl) (by (simp only [go_sem]) <;> rfl) (by (simp only [go_sem]) <;> rfl) (by (simp only [go_sem]) <;> rfl) hls
      apply Tr.run
      · (simp only [go_sem, Int.natCast_zero, decide_false]) <;> rfl
      · simp
      apply Tr.cons
      · exact .skipv (.sc (.int .i64 0)) rfl rfl (by (simp only [go_sem, Int.natCast_zero]) <;> rfl) (by (simp only [go_sem]) <;> rfl)
      apply Tr.run
      · (simp only [go_sem, Int.natCast_zero, decide_true]) <;> rfl
      · simp
      apply Tr.cons
      · exact .callG rfl rfl (by (simp only [go_sem]) <;> rfl) rfl (by (simp only [go_sem]) <;> rfl) (by (simp only [go_sem]) <;> rfl) (by (simp only [go_sem]) <;> rfl) (by (simp only [go_sem]) <;> rfl) (by (simp only [go_sem]) <;> rfl) hcn
      apply Tr.done
      · (simp only [go_sem]) <;> rfl
      · simp
    · kernel_rfl
    refine EvC.cond_false (by (simp only [go_sem]) <;> rfl) ?_
    refine EvC.skip ?_
    refine EvC.rg (by (simp only [go_sem]) <;> rfl) (by simp) ?_
    refine EvC.rg (by (simp only [go_sem]) <;> rfl) (by simpa using hI8) ?_
    exact ⟨[], 1, rfl, (by (simp only [go_sem, befA, List.take_zero, Int.natCast_zero, Int.zero_add, Int.natCast_one]) <;> rfl), by omega, by omega⟩
  · have hf := hfin (namesL m (a.take (j + 1))) (namesL m (a.take j)) .full .full (namesL_len _ _) (namesL_len _ _) fun i k h1 h2 h3 => (namesL_eq h1 h2).2 (by
      have h4 := (namesL_eq h1 h2).1 h3
      have h5 : a[j]? = some a[j] := List.getElem?_eq_getElem (by omega)
      rw [take_snoc h5] at h4
      exact runR_prefix m _ _ _ _ h4)
    rw [show befA m a (j + 1) = .sl false ((namesL m (a.take j)).map intC) .full from rfl]
    have hj0 : decide ((0 : Int) < ((j + 1 : Nat) : Int)) = true := decide_eq_true (by omega)
    have hj1 : decide (((j + 1 : Nat) : Int) = 0) = false := decide_eq_false (by omega)
    obtain ⟨L, hL⟩ : ∃ L, L = namesL m (a.take (j + 1)) := ⟨_, rfl⟩
    rw [← hL] at hf hR hls
    obtain ⟨i, hi'⟩ : ∃ i, i = j + 1 := ⟨_, rfl⟩
    have hij : (((j + 1 : Nat)) : Int) = (i : Int) := by rw [hi']
    rw [hij] at hj0 hj1 hI8
    rw [← hi'] at hmt hR hil hL ⊢
    refine EvC.seq ?_
    apply EvC.seq
    apply EvC.drw mixed  -- R8
    · apply Tr.run
      · (simp only [go_sem, Mach.cells, hmt, Int.toNat_natCast, List.drop_zero]) <;> rfl
      · simp [intC]; try omega
      apply Tr.cons
      · exact .call rfl rfl (by (simp only [go_sem]) <;> rfl) (by (simp only [go_sem]) <;> rfl) (by (simp only [go_sem]) <;> rfl) (by (simp only [go_sem]) <;> rfl) (by (simp only [go_sem]) <;> rfl) (hR _ _)
      apply Tr.run
      · (simp only [go_sem, ← hL]) <;> rfl
      · simp
      apply Tr.cons
      · exact .call rfl rfl (by (simp only [go_sem]) <;> rfl) (by (simp only [go_sem]) <;> rfl) (by (simp only [go_sem]) <;> rfl) (by (simp only [go_sem, ← hL]) <;> rfl) (by (simp only [go_sem]) <;> rfl) hls
      apply Tr.run
      · (simp only [go_sem, hj0]) <;> rfl
      · simp
      apply Tr.cons
      · exact .callG rfl rfl (by (simp only [go_sem]) <;> rfl) rfl (by (simp only [go_sem]) <;> rfl) (by (simp only [go_sem]) <;> rfl) (by (simp only [go_sem]) <;> rfl) (by (simp only [go_sem, ← hL]) <;> rfl) (by (simp only [go_sem]) <;> rfl) hf
      apply Tr.run
      · (simp only [go_sem, hj1]) <;> rfl
      · simp
      apply Tr.cons
      · exact .skipv (.sc (.int .i64 0)) rfl rfl (by (simp only [go_sem, hj1]) <;> rfl) (by (simp only [go_sem]) <;> rfl)
      apply Tr.done
      · (simp only [go_sem]) <;> rfl
      · simp
    · kernel_rfl
    refine EvC.cond_false (by (simp only [go_sem]) <;> rfl) ?_
    refine EvC.skip ?_
    refine EvC.rg (by (simp only [go_sem]) <;> rfl) (by simp) ?_
    refine EvC.rg (by (simp only [go_sem]) <;> rfl) (by simpa using hI8) ?_
    exact ⟨[], i + 1, rfl, (by (simp only [go_sem, befA, ← hL, Int.natCast_add, Int.natCast_one]) <;> rfl), by omega, by omega⟩
end Go.Avl
namespace Go.Avl
open Go Go.Proofs.Try
set_option maxRecDepth 10000
set_option linter.unusedSimpArgs false

/-- A chain of n states. -/
def chRow (n s : Nat) : List (Int × Int) := [((s : Int), 0), (((min (s + 1) (n - 1) : Nat) : Int), (((s + 1) / n : Nat) : Int))]
def chM (n : Nat) : Mach := ⟨2, 2, false, (List.range n).map fun s => (false, chRow n s)⟩
theorem chM_len (n : Nat) : (chM n).rows.length = n := by simp [chM]
theorem chRow_at {n s : Nat} (hs : s < n) : rowAt (chM n) s = chRow n s := by simp [rowAt, chM, hs]
theorem chM_valid {n : Nat} (h1 : 1 ≤ n) (h2 : n ≤ 64) : Valid (chM n) := by
  refine ⟨by simp [chM], by simp [chM], by rw [chM_len]; exact ⟨h1, h2⟩, fun r hr => ?_⟩
  rw [chM_len]
  simp only [chM, List.mem_map, List.mem_range] at hr ⊢
  obtain ⟨s, hs, rfl⟩ := hr
  refine ⟨by simp [chRow], fun e he => ?_⟩
  have hd : (s + 1) / n ≤ 1 := by
    rw [Nat.div_le_iff_le_mul_add_pred (by omega)]; omega
  simp only [chRow, List.mem_cons, List.not_mem_nil, or_false] at he
  rcases he with rfl | rfl
  · simp [fitsR]; omega
  · generalize (s + 1) / n = d at hd ⊢
    simp only [fitsR, Bool.or_eq_true, Bool.and_eq_true, decide_eq_true_eq]
    right
    omega
theorem ch_step0 {n s : Nat} (hs : s < n) : ex (rowAt (chM n) s) 0 = ((s : Int), 0) := by rw [chRow_at hs]; rfl
theorem ch_step1 {n s : Nat} (hs : s < n) : ex (rowAt (chM n) s) 1 = (((min (s + 1) (n - 1) : Nat) : Int), (((s + 1) / n : Nat) : Int)) := by rw [chRow_at hs]; rfl
theorem ch_zero {n : Nat} : ∀ (w : List Int) (s : Nat), WOk 2 w → s + w.length < n → runR (chM n) s w = List.replicate w.length 0
  | [], _, _, _ => rfl
  | a :: w, s, ha, h => by
    have hl : s + w.length + 1 < n := by simp at h; omega
    have h0 := ha.head
    have : a = 0 ∨ a = 1 := by omega
    rcases this with rfl | rfl
    · have := run_cons (chM n) s 0 w
      rw [ch_step0 (by omega)] at this
      rw [show ((0 : Nat) : Int) = 0 from rfl] at this
      rw [this, ch_zero w s ha.tail (by omega)]; rfl
    · have := run_cons (chM n) s 1 w
      rw [ch_step1 (by omega), show min (s + 1) (n - 1) = s + 1 by omega, show (s + 1) / n = 0 from Nat.div_eq_of_lt (by omega)] at this
      rw [show ((1 : Nat) : Int) = 1 from rfl] at this
      rw [this, ch_zero w (s + 1) ha.tail (by omega)]; rfl
theorem ch_one {n : Nat} : ∀ (d t : Nat), t + d + 1 = n → runR (chM n) t (List.replicate (d + 1) 1) ≠ List.replicate (d + 1) 0
  | 0, t, h => by
    have := run_cons (chM n) t 1 []
    rw [ch_step1 (by omega), show (t + 1) / n = 1 by rw [show t + 1 = n by omega]; exact Nat.div_self (by omega)] at this
    rw [show ((1 : Nat) : Int) = 1 from rfl] at this
    rw [show List.replicate (0 + 1) (1 : Int) = [1] from rfl, this]
    intro e
    have := (List.cons.inj e).1
    simp at this
  | d + 1, t, h => by
    have := run_cons (chM n) t 1 (List.replicate (d + 1) 1)
    rw [ch_step1 (by omega), show min (t + 1) (n - 1) = t + 1 by omega] at this
    rw [show ((1 : Nat) : Int) = 1 from rfl] at this
    rw [show List.replicate (d + 1 + 1) (1 : Int) = 1 :: List.replicate (d + 1) 1 from rfl, this]
    intro e
    exact ch_one d (t + 1) (by omega) (List.cons.inj e).2
theorem ch_sep {n s t : Nat} (h1 : n ≤ 64) (hst : s < t) (ht : t < n) : (sepW (chM n) s t).length = n - t ∧ WOk 2 (sepW (chM n) s t) ∧ runR (chM n) s (sepW (chM n) s t) ≠ runR (chM n) t (sepW (chM n) s t) := by
  have hv := chM_valid (n := n) (by omega) h1
  have hi : (chM n).ins.toNat = 2 := rfl
  have hr : WOk 2 (List.replicate (n - t) 1) := fun x hx => by
    have := (List.mem_replicate.1 hx).2; omega
  have hd : runR (chM n) s (List.replicate (n - t) 1) ≠ runR (chM n) t (List.replicate (n - t) 1) := by
    rw [ch_zero _ s hr (by simp; omega), List.length_replicate]
    obtain ⟨d, hd⟩ : ∃ d, n - t = d + 1 := ⟨n - t - 1, by omega⟩
    rw [hd]
    exact (ch_one d t (by omega)).symm
  rcases sepW_spec hv (s := s) (t := t) (by rw [chM_len]; omega) (by rw [chM_len]; exact ht) with ⟨_, h3⟩ | ⟨_, h3⟩
  · exact absurd (h3 _ (by rw [hi]; exact hr)) hd
  · obtain ⟨k1, k2, k3⟩ := h3
    rw [hi] at k1 k3
    refine ⟨?_, k1, k2⟩
    have h4 := rank_lt_len hr (k3 _ hr hd)
    rw [List.length_replicate] at h4
    have h5 : ¬ (sepW (chM n) s t).length < n - t := fun h => k2 (by rw [ch_zero _ s k1 (by omega), ch_zero _ t k1 (by omega)])
    omega
theorem ch_height {n : Nat} (h1 : 1 ≤ n) (h2 : n ≤ 64) : maxLen (tblL (chM n)) = (n : Int) - 1 := by
  rcases maxLen_ex (tblL (chM n)) with h | ⟨p, h3, h4⟩
  · by_cases hn : n = 1
    · subst hn; rw [h]; rfl
    · have := maxLen_ge (tblL_mem (m := chM n) (p := ((0, 1), sepW (chM n) 0 1)) |>.2 ⟨Nat.zero_lt_one, by rw [chM_len]; show 1 < n; omega, rfl⟩)
      have h5 := (ch_sep (n := n) (s := 0) (t := 1) h2 (by omega) (by omega)).1
      simp only [h5] at this
      omega
  · obtain ⟨k1, k2, k3⟩ := tblL_mem.1 h3
    rw [chM_len] at k2
    have h5 := (ch_sep (n := n) h2 k1 k2).1
    rw [← k3] at h5
    have := maxLen_ge (tblL_mem (m := chM n) (p := ((0, 1), sepW (chM n) 0 1)) |>.2 ⟨Nat.zero_lt_one, by rw [chM_len]; show 1 < n; omega, rfl⟩)
    have h6 := (ch_sep (n := n) (s := 0) (t := 1) h2 (by omega) (by omega)).1
    simp only [h6] at this
    omega
theorem ch_last {n : Nat} (h1 : 2 ≤ n) (h2 : n ≤ 64) : sepW (chM n) 0 (n - 1) = [1] := by
  obtain ⟨k1, k2, k3⟩ := ch_sep (n := n) (s := 0) (t := n - 1) h2 (by omega) (by omega)
  rw [show n - (n - 1) = 1 by omega] at k1
  obtain ⟨a, ha⟩ := List.length_eq_one_iff.1 k1
  rw [ha] at k2 k3 ⊢
  have h0 := k2.head
  have : a = 0 ∨ a = 1 := by omega
  rcases this with rfl | rfl
  · exfalso
    apply k3
    have e1 := run_cons (chM n) 0 0 []
    have e2 := run_cons (chM n) (n - 1) 0 []
    rw [ch_step0 (by omega)] at e1 e2
    exact e1.trans e2.symm
  · rfl
end Go.Avl
namespace Go.Avl
open Go Go.Proofs.Try
set_option maxRecDepth 10000
set_option linter.unusedSimpArgs false

def chRowA (n s : Nat) : List AV := [.sl false ((chRow n s).map edgeC) .full]
@[go_sem] theorem norefs_chRow (n : Nat) (l : List Nat) : (l.map (chRowA n)).all AV.norefs = true := by simp [List.all_eq_true, chRowA, AV.norefs, AV.noref]

theorem chM_unks {n : Nat} : AV.unks [.sc (.int .i64 2), .sc (.int .i64 2), .sl false ((List.range n).map (chRowA n)) .unk] = (chM n).cells := by
  simp only [AV.unks, AV.unk, unkss_eq, List.map_map, Mach.cells, chM]
  congr 4

set_option maxHeartbeats 8000000 in
set_option maxRecDepth 1000000 in
theorem splitsKnown_is : PureIs prog 9 [] (.sc (.bool true)) := by
  refine PureIs.of (nv := 15) (hid := [16, 25, 90, 92, 96, 171]) func9 rfl (by kernel_rfl) (by simp [ntmps9]) fun _ => ?_
  rw [ntmps9, results9]
  refine EvC.seq (EvC.rg (by (simp only [go_sem]) <;> rfl) (by simp) ?_)
  refine EvC.seq ?_
  refine EvC.seq (EvC.rg (by (simp only [go_sem]) <;> rfl) (by simp) ?_)
  refine EvC.block ?_  -- 0
  refine EvC.loopS (σ := Nat) (fun n => ⟨[(1, .sc (.int .i64 n))], [], [], 0⟩) (fun n => 200 - n) (fun n => 1 ≤ n ∧ n ≤ 150) [1] 0 ?_ ?_
  · refine ⟨[], 1, rfl, (by (simp only [go_sem, Int.natCast_one]) <;> rfl), by omega⟩
  rintro n ⟨h1, h2⟩
  refine EvC.seq ?_
  refine EvC.seq (EvC.rg (by (simp only [go_sem]) <;> rfl) (by simp) ?_)
  refine EvC.cond (by (simp only [go_sem]) <;> rfl) (fun hc => ?_) (fun hc => ?_)
  rotate_left
  · refine EvC.exit ?_  -- 0
    clear hc h1 h2
    refine EvC.seq (EvC.rg (by (simp only [go_sem]) <;> rfl) (by simp) ?_)
    refine EvC.seq ?_
    refine EvC.seq (EvC.rg (by (simp only [go_sem]) <;> rfl) (by simp) ?_)
    refine EvC.block ?_  -- 4
    refine EvC.loopS (σ := Nat × Int) (fun g => ⟨[(9, .sc (.int .i64 g.2)), (10, .sc (.int .i64 g.1))], [], [], 0⟩) (fun g => 60 - g.1) (fun g => g.1 ≤ 60 ∧ 0 ≤ g.2 ∧ g.2 < 100003) [9, 10] 0 ?_ ?_
    · refine ⟨[], (0, 1), rfl, (by (simp only [go_sem, Int.natCast_one, Int.natCast_zero]) <;> rfl), by simp only; omega, by simp only; omega⟩
    rintro ⟨r, z⟩ ⟨hr, hz0, hz⟩
    simp only at hr hz0 hz
    refine EvC.seq ?_
    refine EvC.seq (EvC.rg (by (simp only [go_sem]) <;> rfl) (by simp) ?_)
    refine EvC.cond (by (simp only [go_sem]) <;> rfl) (fun hc => ?_) (fun hc => ?_)
    rotate_left
    · refine EvC.exit ?_  -- 4
      apply EvC.seq
      apply EvC.tr
      · apply Tr.run
        · (simp only [go_sem]) <;> rfl
        · simp
        apply Tr.cons
        · exact .call rfl rfl (by (simp only [go_sem]) <;> rfl) (by (simp only [go_sem]) <;> rfl) (by (simp only [go_sem]) <;> rfl) (by (simp only [go_sem]) <;> rfl) (by (simp only [go_sem]) <;> rfl) (lives_is)
        apply Tr.done
        · (simp only [go_sem]) <;> rfl
        · simp
      refine EvC.ret ⟨.inl rfl, _, (by (simp only [go_sem]) <;> rfl), ?_, rfl⟩
      simp only [go_sem]
    have hr60 : r < 60 := by have : (r : Int) < 60 := by simpa using hc
                             omega
    clear hc
    refine EvC.skip ?_
    refine EvC.seq ?_
    obtain ⟨R, hR⟩ : ∃ R : Int, R = (r : Int) := ⟨_, rfl⟩
    have hRb : 0 ≤ R ∧ R < 60 := by omega
    rw [← hR]
    refine EvC.block ?_  -- 5
    refine EvC.seq (EvC.rg (by (simp only [go_sem]) <;> rfl) (by simp) ?_)
    refine EvC.seq ?_
    refine EvC.seq (EvC.rg (by (simp only [go_sem]) <;> rfl) (by simp) ?_)
    refine EvC.block ?_  -- 6
    refine EvC.loopS (σ := Nat × Int × List Int) (fun g => ⟨[(9, .sc (.int .i64 g.2.1)), (10, .sc (.int .i64 R)), (11, .tl 0 g.1 (g.1 == 0)), (12, .sc (.int .i64 g.1))], [], [(0, .arr 1 (g.2.2.map u16C) true)], 1⟩) (fun g => 18 - g.1)
      (fun g => g.1 ≤ 18 ∧ (0 ≤ g.2.1 ∧ g.2.1 < 100003) ∧ g.2.2.length = g.1 ∧ ∀ e ∈ g.2.2, 0 ≤ e ∧ e < 65536) [9, 10, 11, 12] 1 ?_ ?_
    · exact ⟨[(2, 0)], (0, z, []), rfl, (by (simp only [go_sem, Int.natCast_zero]) <;> rfl), Nat.zero_le _, ⟨hz0, hz⟩, rfl, fun e he => by cases he⟩
    clear hz hz0
    rintro ⟨j, z, es⟩ ⟨k1, k2, k3, k4⟩
    simp only at k1 k2 k3 k4
    refine EvC.seq ?_
    refine EvC.seq (EvC.rg (by (simp only [go_sem]) <;> rfl) (by simp) ?_)
    refine EvC.cond (by (simp only [go_sem]) <;> rfl) (fun hc => ?_) (fun hc => ?_)
    rotate_left
    · refine EvC.exit ?_  -- 6
      obtain rfl : j = 18 := by have : ¬ (j : Int) < 18 := by simpa using hc
                                omega
      clear hc
      refine EvC.frz 0 (by (simp only [go_sem, List.length_map, k3]) <;> rfl) ?_
      have hw8 : ∀ x : Int, 0 ≤ IntKind.u8.wrap x ∧ IntKind.u8.wrap x < 256 := fun x => by simp [IntKind.wrap, IntKind.bits, IntKind.signed]; omega
      have f1 : inI64 (R / 3) = true := inI64_of (by omega) (by omega)
      have f4 : inI64 (z / 7) = true := inI64_of (by omega) (by omega)
      refine EvC.seq (EvC.rg (by (simp only [go_sem]) <;> rfl) (by simp [f1]; try omega) ?_)
      refine EvC.frzB 13 (by (simp only [go_sem]) <;> rfl) ?_
      refine EvC.seq (EvC.rg (by (simp only [go_sem]) <;> rfl) (by simp [f4]; try omega) ?_)
      refine EvC.frzB 27 (by (simp only [go_sem]) <;> rfl) ?_
      obtain ⟨X, hX⟩ : ∃ X : LM, X = ⟨IntKind.u8.wrap R, IntKind.u8.wrap (R / 3), 1, decide (R % 2 = 0), false, es, .unk⟩ := ⟨_, rfl⟩
      have hXo : X.Ok := by rw [hX]; exact ⟨(hw8 _).1, (hw8 _).1, (by decide : (0 : Int) ≤ 1), k4⟩
      obtain ⟨A, hA⟩ : ∃ A : List Int, A = [IntKind.u8.wrap z, IntKind.u8.wrap R] := ⟨_, rfl⟩
      obtain ⟨B, hB⟩ : ∃ B : List Int, B = [1, 2, IntKind.u8.wrap (z / 7)] := ⟨_, rfl⟩
      have hAo : ∀ a ∈ A, 0 ≤ a ∧ a < 256 := by
        rw [hA]
        intro a ha
        simp only [List.mem_cons, List.not_mem_nil, or_false] at ha
        rcases ha with rfl | rfl
        · exact hw8 _
        · exact hw8 _
      have hBo : ∀ a ∈ B, 0 ≤ a ∧ a < 256 := by
        rw [hB]
        intro a ha
        simp only [List.mem_cons, List.not_mem_nil, or_false] at ha
        rcases ha with rfl | rfl | rfl
        · omega
        · omega
        · exact hw8 _
      have cX : X.cells = [.sc (.int .u8 (IntKind.u8.wrap R)), .sc (.int .u8 (IntKind.u8.wrap (R / 3))), .sc (.int .u8 1), .sc (.bool (decide (R % 2 = 0))), .sl false (es.map u16C) .unk] := by rw [hX]; rfl
      have cA : A.map u8C = [[.sc (.int .u8 (IntKind.u8.wrap z))], [.sc (.int .u8 (IntKind.u8.wrap R))]] := by rw [hA]; rfl
      have cB : B.map u8C = [[.sc (.int .u8 1)], [.sc (.int .u8 2)], [.sc (.int .u8 (IntKind.u8.wrap (z / 7)))]] := by rw [hB]; rfl
      have c3 := splitsSeparate_is hXo (IntKind.u8.wrap R) (IntKind.u8.wrap z) (hw8 _) (hw8 _)
      have c4 := splitsSeparates_is hXo false false A B .full .full hAo hBo (IntKind.u8.wrap R) (IntKind.u8.wrap z) 1 (hw8 _) (hw8 _) (by decide)
      have c5 := splitsTable_is hXo
      have c6 := splitsLadder_is hXo
      have c7 := splitsAfterLaw_is hXo false B .full hBo
      rw [cX] at c3 c4 c5 c6 c7
      rw [cA, cB] at c4
      rw [cB] at c7
      clear cX cA cB hX hA hB
      apply EvC.seq
      apply EvC.tr
      · apply Tr.run
        · (simp only [go_sem]) <;> rfl
        · simp
        apply Tr.cons
        · exact .call rfl rfl (by (simp only [go_sem]) <;> rfl) (by (simp only [go_sem]) <;> rfl) (by (simp only [go_sem]) <;> rfl) (by (simp only [go_sem]) <;> rfl) (by (simp only [go_sem]) <;> rfl) (c3)
        apply Tr.run
        · (simp only [go_sem]) <;> rfl
        · simp
        apply Tr.cons
        · exact .callG rfl rfl (by (simp only [go_sem]) <;> rfl) rfl (by (simp only [go_sem]) <;> rfl) (by (simp only [go_sem]) <;> rfl) (by (simp only [go_sem]) <;> rfl) (by (simp only [go_sem]) <;> rfl) (by (simp only [go_sem]) <;> rfl) (c4)
        apply Tr.run
        · (simp only [go_sem]) <;> rfl
        · simp
        apply Tr.cons
        · exact .callG rfl rfl (by (simp only [go_sem]) <;> rfl) rfl (by (simp only [go_sem]) <;> rfl) (by (simp only [go_sem]) <;> rfl) (by (simp only [go_sem]) <;> rfl) (by (simp only [go_sem]) <;> rfl) (by (simp only [go_sem]) <;> rfl) (c5)
        apply Tr.run
        · (simp only [go_sem]) <;> rfl
        · simp
        apply Tr.cons
        · exact .callG rfl rfl (by (simp only [go_sem]) <;> rfl) rfl (by (simp only [go_sem]) <;> rfl) (by (simp only [go_sem]) <;> rfl) (by (simp only [go_sem]) <;> rfl) (by (simp only [go_sem]) <;> rfl) (by (simp only [go_sem]) <;> rfl) (c6)
        apply Tr.run
        · (simp only [go_sem]) <;> rfl
        · simp
        apply Tr.cons
        · exact .callG rfl rfl (by (simp only [go_sem]) <;> rfl) rfl (by (simp only [go_sem]) <;> rfl) (by (simp only [go_sem]) <;> rfl) (by (simp only [go_sem]) <;> rfl) (by (simp only [go_sem]) <;> rfl) (by (simp only [go_sem]) <;> rfl) (c7)
        apply Tr.done
        · (simp only [go_sem]) <;> rfl
        · simp
      refine EvC.cond_false (by (simp only [go_sem]) <;> rfl) ?_
      refine EvC.skip ?_
      refine EvC.rg (by (simp only [go_sem]) <;> rfl) (by exact inI64_of (by omega) (by omega)) ?_
      have hr1 : R + 1 = ((r + 1 : Nat) : Int) := by omega
      exact ⟨[], (r + 1, z), rfl, (by (simp only [go_sem, hr1]) <;> rfl), ⟨by simp only; omega, k2.1, k2.2⟩, by simp only; omega⟩
    have hj : j < 18 := by have : (j : Int) < 18 := by simpa using hc
                           omega
    clear hc
    obtain ⟨J, hJ⟩ : ∃ J : Int, J = (j : Int) := ⟨_, rfl⟩
    obtain ⟨z', hz'⟩ : ∃ z' : Int, z' = (z * 31 + 7 * J + 11) % 100003 := ⟨_, rfl⟩
    have g1 : inI64 (z * 31) = true := inI64_of (by omega) (by omega)
    have g2 : inI64 (7 * J) = true := inI64_of (by omega) (by omega)
    have g3 : inI64 (z * 31 + 7 * J) = true := inI64_of (by omega) (by omega)
    have g4 : inI64 (z * 31 + 7 * J + 11) = true := inI64_of (by omega) (by omega)
    have hI12 : inI64 (J + 1) = true := inI64_of (by omega) (by omega)
    have g5 : 0 ≤ z' ∧ z' < 100003 := by omega
    have g7 : inI64 (8 + R) = true := inI64_of (by omega) (by omega)
    have g9 : decide (8 + R = 0) = false := decide_eq_false (by omega)
    obtain ⟨e, he⟩ : ∃ e, e = IntKind.u16.wrap (z' % (8 + R)) := ⟨_, rfl⟩
    have heb : 0 ≤ e ∧ e < 65536 := by rw [he]; simp [IntKind.wrap, IntKind.bits, IntKind.signed]; omega
    rw [← hJ]
    refine EvC.skip ?_
    refine EvC.seq ?_
    refine EvC.block ?_  -- 7
    refine EvC.seq (EvC.rg (by (simp only [go_sem, ← hz']) <;> rfl) (by simp [g1, g2, g3, g4]; omega) ?_)
    clear hz'
    refine EvC.rg (by (simp only [go_sem, g9, List.length_map, k3, ← he]) <;> rfl) (by simp [room_eq, AV.norefs, AV.noref, k3, g7]; try omega) ?_
    refine EvC.rg (by (simp only [go_sem]) <;> rfl) (by simpa using hI12) ?_
    have hnj : (j + 1 == 0) = false := rfl
    have hj1 : J + 1 = ((j + 1 : Nat) : Int) := by omega
    exact ⟨[(0, 0)], (j + 1, z', es ++ [e]), rfl, (by (simp only [go_sem, hj1, List.map_append, List.map_cons, List.map_nil, u16C, hnj, ← he]) <;> rfl), ⟨by simp only; omega, g5, by simp [k3], fun x hx => by
      rcases List.mem_append.1 hx with hx | hx
      · exact k4 x hx
      · simp at hx; omega⟩, by simp only; omega⟩
  have hn : n ≤ 64 := by have : (n : Int) ≤ 64 := by simpa using hc
                         omega
  clear hc
  refine EvC.skip ?_
  refine EvC.seq ?_
  refine EvC.block ?_  -- 1
  refine EvC.seq (EvC.rg (by (simp only [go_sem]) <;> rfl) (by simp) ?_)
  refine EvC.seq ?_
  refine EvC.seq (EvC.rg (by (simp only [go_sem]) <;> rfl) (by simp) ?_)
  refine EvC.block ?_  -- 2
  refine EvC.ownC 3 2 1 (by (simp only [go_sem]) <;> rfl) ?_
  have hne0 : decide ((n : Int) = 0) = false := decide_eq_false (by omega)
  refine EvC.loopS (σ := Nat) (fun s => ⟨[(1, .sc (.int .i64 n)), (2, .rf 0 0), (3, .sc (.int .i64 s))], [], [(0, .cells [.sc (.int .i64 2), .sc (.int .i64 2), .tl 1 s (s == 0)]), (1, .arr 1 ((List.range s).map (chRowA n)) true)], 2⟩) (fun s => n - s) (fun s => s ≤ n) [1, 2, 3] 2 ?_ ?_
  · exact ⟨[(3, 0), (6, 1)], 0, rfl, (by (simp only [go_sem, List.range_zero]) <;> rfl), Nat.zero_le _⟩
  intro s hs
  have hls : ((List.range s).map (chRowA n)).length = s := by simp
  refine EvC.seq ?_
  refine EvC.seq (EvC.rg (by (simp only [go_sem]) <;> rfl) (by simp) ?_)
  refine EvC.cond (by (simp only [go_sem]) <;> rfl) (fun hc => ?_) (fun hc => ?_)
  rotate_left
  · refine EvC.exit ?_  -- 2
    obtain rfl : s = n := by have : ¬ s < n := by simpa using hc
                             omega
    clear hc
    have hv := chM_valid h1 hn
    have hh := height_is (chM s) hv.small
    rw [heightA, if_neg (by rw [checkM_of hv]; simp), ch_height h1 hn, ← chM_unks] at hh
    have hh' : PureIs prog 21 [.ag [.sc (.int .i64 2), .sc (.int .i64 2), .sl false ((List.range s).map (chRowA s)) .unk]] _ := PureIs.weak hh
    have hn0 : (s == 0) = false := by simp; omega
    refine EvC.frzD 1 (by (simp only [go_sem, hls, hn0]) <;> rfl) ?_
    have hI0 : inI64 ((s : Int) - 1) = true := inI64_of (by omega) (by omega)
    have hn1 : ((s : Int) - 1) = ((s - 1 : Nat) : Int) := by omega
    have hst : stateErr (chM s) [(0 : Int), (s : Int) - 1] = 0 := stateErr_of hv (by simp [chM_len]; omega)
    apply EvC.seq
    apply EvC.tr
    · apply Tr.run
      · (simp only [go_sem]) <;> rfl
      · simp
      apply Tr.cons
      · exact .call rfl rfl (by (simp only [go_sem]) <;> rfl) (by (simp only [go_sem]) <;> rfl) (by (simp only [go_sem]) <;> rfl) (by (simp only [go_sem]) <;> rfl) (by (simp only [go_sem]) <;> rfl) (hh')
      apply Tr.done
      · (simp only [go_sem]) <;> rfl
      · simp
    have hsp : s = 1 ∨ 2 ≤ s := by omega
    have hwt : ((s : Int) - 1).toNat = s - 1 := by omega
    have hJ1 : inI64 ((s : Int) * 2) = true := inI64_of (by omega) (by omega)
    have hJ2 : inI64 ((s : Int) % 3) = true := inI64_of (by omega) (by omega)
    have hJ3 : inI64 ((s : Int) * 2 + (s : Int) % 3) = true := inI64_of (by omega) (by omega)
    have hnx : (s : Int) * 2 + (s : Int) % 3 = ((s * 2 + s % 3 : Nat) : Int) := by simp
    have heq : decide ((s : Int) - 1 = (s : Int) - 1) = true := by simp
    rcases hsp with hs1 | hs2
    · have hw0 : sepW (chM s) (0 : Int).toNat ((s : Int) - 1).toNat = [] := by rw [hwt, hs1]; exact sepW_refl (chM_valid (Nat.le_refl 1) (by omega)) (by rw [chM_len]; show 0 < 1; omega)
      have hsg := separate_good hv.small hst (w := []) (b := false) hw0 rfl
      rw [← chM_unks] at hsg
      have hsg' : PureIs prog 11 [.ag [.sc (.int .i64 2), .sc (.int .i64 2), .sl false ((List.range s).map (chRowA s)) .unk], .sc (.int .i64 0), .sc (.int .i64 ((s : Int) - 1))] _ := PureIs.weak hsg
      have hgt : decide ((1 : Int) < (s : Int)) = false := decide_eq_false (by omega)
      apply EvC.seq
      apply EvC.tr
      · apply Tr.run
        · (simp only [go_sem]) <;> rfl
        · simp [hI0]
        apply Tr.cons
        · exact .call rfl rfl (by (simp only [go_sem]) <;> rfl) (by (simp only [go_sem]) <;> rfl) (by (simp only [go_sem]) <;> rfl) (by (simp only [go_sem]) <;> rfl) (by (simp only [go_sem]) <;> rfl) (hsg')
        apply Tr.done
        · (simp only [go_sem]) <;> rfl
        · simp
      apply EvC.seq
      apply EvC.tr  -- R11
      · apply Tr.run
        · (simp only [go_sem, heq, hgt, decide_not, decide_true]) <;> rfl
        · simp [hI0]
        apply Tr.cons
        · exact .skipv (.ia [.sc (.int .i64 0)]) rfl rfl (by (simp only [go_sem]) <;> rfl) (by (simp only [go_sem]) <;> rfl)
        apply Tr.done
        · (simp only [go_sem]) <;> rfl
        · simp
      refine EvC.cond_false (by (simp only [go_sem, heq, hgt]) <;> rfl) ?_
      refine EvC.skip ?_
      refine EvC.rg (by (simp only [go_sem]) <;> rfl) (by simp [hJ1, hJ2, hJ3]) ?_
      exact ⟨[], s * 2 + s % 3, rfl, (by (simp only [go_sem, hnx]) <;> rfl), ⟨by omega, by omega⟩, by omega⟩
    · have hw1 : sepW (chM s) (0 : Int).toNat ((s : Int) - 1).toNat = [1] := by rw [hwt]; exact ch_last hs2 hn
      have hsg := separate_good hv.small hst (w := [1]) (b := true) hw1 rfl
      rw [← chM_unks] at hsg
      have hsg' : PureIs prog 11 [.ag [.sc (.int .i64 2), .sc (.int .i64 2), .sl false ((List.range s).map (chRowA s)) .unk], .sc (.int .i64 0), .sc (.int .i64 ((s : Int) - 1))] _ := PureIs.weak hsg
      have hgt : decide ((1 : Int) < (s : Int)) = true := decide_eq_true (by omega)
      apply EvC.seq
      apply EvC.tr
      · apply Tr.run
        · (simp only [go_sem]) <;> rfl
        · simp [hI0]
        apply Tr.cons
        · exact .call rfl rfl (by (simp only [go_sem]) <;> rfl) (by (simp only [go_sem]) <;> rfl) (by (simp only [go_sem]) <;> rfl) (by (simp only [go_sem]) <;> rfl) (by (simp only [go_sem]) <;> rfl) (hsg')
        apply Tr.done
        · (simp only [go_sem]) <;> rfl
        · simp
      apply EvC.seq
      apply EvC.trd
      · (simp only [go_sem, heq, hgt, decide_not, decide_true]) <;> rfl
      · simp [hI0, intC]
      refine EvC.cond_false (by (simp only [go_sem, heq, hgt]) <;> rfl) ?_
      refine EvC.skip ?_
      refine EvC.rg (by (simp only [go_sem]) <;> rfl) (by simp [hJ1, hJ2, hJ3]) ?_
      exact ⟨[], s * 2 + s % 3, rfl, (by (simp only [go_sem, hnx]) <;> rfl), ⟨by omega, by omega⟩, by omega⟩
  have hsn : s < n := by simpa using hc
  clear hc
  refine EvC.skip ?_
  refine EvC.seq ?_
  refine EvC.block ?_  -- 3
  have hI1 : inI64 ((s : Int) + 1) = true := inI64_of (by omega) (by omega)
  have hI2 : inI64 ((n : Int) - 1) = true := inI64_of (by omega) (by omega)
  have hmin : (if (s : Int) + 1 ≤ (n : Int) - 1 then (s : Int) + 1 else (n : Int) - 1) = ((min (s + 1) (n - 1) : Nat) : Int) := by split <;> omega
  have hdv : ((s : Int) + 1) / (n : Int) = (((s + 1) / n : Nat) : Int) := by rw [Int.natCast_ediv]; rfl
  have hd1 : (s + 1) / n ≤ s + 1 := Nat.div_le_self _ _
  have hIs : ∀ d : Nat, d ≤ 100 → inI64 (d : Int) = true := fun d h => inI64_of (by omega) (by omega)
  have hI3 := hIs _ (Nat.le_trans hd1 (by omega))
  have hI4 : inI64 (((s : Int) + 1) / (n : Int)) = true := by rw [hdv]; exact hI3
  apply EvC.drw mixed
  · apply Tr.run
    · (simp only [go_sem, hne0, hmin, hdv]) <;> rfl
    · simp [hI1, hI2, hI4]; try omega
    apply Tr.cons
    · exact .call rfl rfl (by (simp only [go_sem]) <;> rfl) (by (simp only [go_sem]) <;> rfl) (by (simp only [go_sem]) <;> rfl) (by (simp only [go_sem]) <;> rfl) (by (simp only [go_sem]) <;> rfl) (edge_is s 0)
    apply Tr.run
    · (simp only [go_sem, hne0, hmin, hdv]) <;> rfl
    · simp [hI1, hI2, hI4]; try omega
    apply Tr.cons
    · exact .call rfl rfl (by (simp only [go_sem]) <;> rfl) (by (simp only [go_sem]) <;> rfl) (by (simp only [go_sem]) <;> rfl) (by (simp only [go_sem]) <;> rfl) (by (simp only [go_sem]) <;> rfl) (edge_is ((min (s + 1) (n - 1) : Nat) : Int) (((s + 1) / n : Nat) : Int))
    apply Tr.done
    · (simp only [go_sem, hls]) <;> rfl
    · simp [room_eq, AV.norefs, AV.noref, hls]; try omega
  · kernel_rfl
  refine EvC.rg (by (simp only [go_sem]) <;> rfl) (by simpa using hI1) ?_
  have hnes : (s + 1 == 0) = false := rfl
  exact ⟨[(0, 0), (1, 1)], s + 1, rfl, (by (simp only [go_sem, List.range_succ, List.map_append, List.map_cons, List.map_nil, chRowA, chRow, edgeC, hnes, List.length_map, List.length_range, Int.natCast_add, Int.natCast_one]) <;> rfl), hsn, by omega⟩
end Go.Avl
namespace Go.Proofs.Ytghafbihbjdaeaa
open Go Go.Avl Go.Proofs Go.ChangeShapes Go.RowKit

set_option maxRecDepth 100000 in
theorem splitsKnown_lifted (os : Os) (started : os.Started) (H : Type) (enc : TypeId × Value → H) :
    ReturnsInHanded {} Try.checked os 9 .any (Rows.splitsKnownSpec.pre6 enc Try.prog Try.f9 Rows.splitsKnownRow.domain false) (Rows.splitsKnownSpec.post enc Try.prog Try.f9 false true false false) := by
  refine returnsInHanded_of_change_sized (C := Try.checked) Try.own started (by kernel_rfl) Try.func9
    (ChangeSpec.witness6 (enc := enc) (C := Try.checked) false ⟨#[], #[], []⟩ 8 (by kernel_rfl) (by kernel_rfl) (by kernel_rfl) (by kernel_rfl)) ?_
  intro W base args ds gs before hval hW _ hz _
  have hW' := hW
  obtain ⟨p, q, hA, hV, rfl, _, _⟩ := hW'
  obtain ⟨rfl, rfl⟩ := trodVars_none hV
  have hA' : DataW.TrodAll enc Try.prog W 0 (fun _ => true) true [] args.toList ds p := by rw [← show Try.f9.params.toList = [] from rfl]; exact hA
  obtain ⟨rfl, rfl, rfl⟩ := trodAll_none hA'
  have hz' : (DataW.weightsEach Try.prog [] []).all (· ≤ reachBytes) = true := hz
  have hf := fits_each (P := Try.prog) (ts := []) (l := []) fun n hn => by simpa using List.all_eq_true.1 hz' n hn
  exact law_calls Try.laidOut (by kernel_rfl) rfl (by kernel_rfl) rfl rfl splitsKnown_is ⟨rfl, fun _ h => absurd h (Nat.not_lt_zero _)⟩ hW

theorem splitsKnown_holds : Rows.SplitsKnownSaid :=
  OpenClaim.holds_of_wide 9 Try.f9 rfl rfl rfl rfl rfl rfl rfl ⟨rfl, rfl, rfl, rfl, rfl⟩ rfl rfl rfl rfl rfl (by kernel_rfl) Try.func9 (by kernel_rfl)
    (of_decide_eq_true (by kernel_rfl)) (by unfold Func.isWrapper; first | (rw [if_pos (by decide +kernel)]; kernel_rfl) | (rw [if_neg (by decide +kernel)]; exact ⟨rfl, rfl⟩))
    (fun os started H enc _ => splitsKnown_lifted os started H enc)
#print axioms splitsKnown_holds
end Go.Proofs.Ytghafbihbjdaeaa
