/-
  Lemmas.
  Lemmas.
  Lemmas.
  PlansCurve returns true at every input, and each argument reads behind the call as it read before; the table of the kinds of faults is tied to the program's text.
  Conditions: those of the given row and card alone (no others).
-/
import Derived.Test.YthdaggogdocmfaaDoorPart10
set_option linter.unusedSimpArgs false
set_option linter.unusedVariables false
set_option linter.unnecessarySimpa false
set_option linter.deprecated false
namespace Go.Avl
open Go Go.Proofs.Tryd
set_option maxRecDepth 10000
set_option linter.unusedSimpArgs false

/-! ### Lists of items by bits are valid -/
theorem killBad_of : ∀ {ks : List Int} {p : Option Int}, (∀ n ∈ ks, 0 ≤ n ∧ n < 256) → ks.Pairwise (· < ·) → (∀ q, p = some q → ∀ n ∈ ks, q < n) → killBad p ks = false
  | [], _, _, _, _ => rfl
  | n :: r, p, hb, hs, hp => by
    have hn := hb n List.mem_cons_self
    have hs := List.pairwise_cons.1 hs
    have ih : killBad (some n) r = false := killBad_of (fun m hm => hb m (List.mem_cons_of_mem _ hm)) hs.2 (fun q hq m hm => by cases hq; exact hs.1 m hm)
    have e1 : decide (n < 0) = false := decide_eq_false (by omega)
    have e2 : decide (256 ≤ n) = false := decide_eq_false (by omega)
    cases p with
    | none => simp only [killBad, ih, e1, e2, Bool.or_false]
    | some q =>
      have e3 : decide (n ≤ q) = false := decide_eq_false (by have := hp q rfl n List.mem_cons_self; omega)
      simp only [killBad, ih, e1, e2, e3, Bool.or_false]
theorem killsTo_bd (K : Int) : ∀ {k : Nat}, ∀ n ∈ killsTo K k, 0 ≤ n ∧ n < 10 * (k : Int)
  | 0, n, h => by cases h
  | k + 1, n, h => by
    rw [killsTo] at h
    split at h
    · rcases List.mem_append.1 h with h | h
      · have := killsTo_bd K n h; omega
      · rw [List.mem_singleton.1 h]; omega
    · have := killsTo_bd K n h; omega
theorem killsTo_inc (K : Int) : ∀ k, (killsTo K k).Pairwise (· < ·)
  | 0 => .nil
  | k + 1 => by
    rw [killsTo]
    split
    · refine List.pairwise_append.2 ⟨killsTo_inc K k, List.pairwise_singleton _ _, fun a ha b hb => ?_⟩
      have := killsTo_bd K a ha
      rw [List.mem_singleton.1 hb]; omega
    · exact killsTo_inc K k
theorem LI.good {x : LI} (h : x.Ok) : itemBad x.item = false := by
  obtain ⟨h1, h2⟩ := h
  have e1 : costBad x.item = false := by
    unfold costBad LI.item
    have a : decide (1 + x.cost < 1) = false := decide_eq_false (by omega)
    have b : decide (1000000 < 1 + x.cost) = false := decide_eq_false (by omega)
    simp [a, b]
  rw [itemBad, e1, Bool.false_or]
  exact killBad_of (fun n hn => by have := killsTo_bd x.kills (k := 24) n hn; omega) (killsTo_inc _ _) (fun q hq => by cases hq)
theorem listOf_len (xs : List LI) (most : Nat) : (listOf xs most).length ≤ most := by simp only [listOf, List.length_map, List.length_take]; omega
theorem listOf_check {xs : List LI} {most : Nat} (hx : ∀ x ∈ xs, x.Ok) (hm : most ≤ 256) : checkI (listOf xs most) = 0 := by
  have hl := listOf_len xs most
  refine checkI_ok (by omega) ?_
  rw [List.any_eq_false]
  intro y hy
  obtain ⟨x, hx', rfl⟩ := List.mem_map.1 hy
  rw [LI.good (hx x (List.mem_of_mem_take hx'))]; simp
theorem listOf_kills {xs : List LI} {most : Nat} : ∀ y ∈ listOf xs most, y.kills.length ≤ 24 := fun y hy => by
  obtain ⟨x, _, rfl⟩ := List.mem_map.1 hy
  exact killsTo_len _ _
theorem listOf_costs {xs : List LI} {most : Nat} (hx : ∀ x ∈ xs, x.Ok) : ∀ y ∈ listOf xs most, 1 ≤ y.cost ∧ y.cost ≤ 256 := fun y hy => by
  obtain ⟨x, hx', rfl⟩ := List.mem_map.1 hy
  have := (hx x (List.mem_of_mem_take hx')).1
  simp only [LI.item]; omega

set_option maxHeartbeats 4000000 in
theorem plansOrder_is (nl : Bool) (xs : List LI) (c : Cp) (hx : ∀ x ∈ xs, x.Ok) : PureIs prog 5 [.sl nl (xs.map liC) c] (.sc (.bool true)) := by
  have q1 := list24_is nl xs c 16 hx (by decide)
  have hl := listOf_len xs 16
  have hk : ∀ y ∈ listOf xs 16, y.kills.length < 1000000 := fun y hy => by have := listOf_kills y hy; omega
  have hcs : ∀ y ∈ listOf xs 16, (0 ≤ y.cost ∧ y.cost ≤ 1000000) ∧ y.kills.length < 1000000 := fun y hy => by
    have := listOf_costs hx y hy
    have := hk y hy
    omega
  have hz := listOf_check (most := 16) hx (by decide)
  generalize listOf xs 16 = l at q1 hl hk hz hcs
  have q2 := order_is l.isEmpty l .unk hk (by omega)
  rw [orderR, if_pos hz] at q2
  have q3 := refOrder_is l.isEmpty l .unk hcs (by omega)
  have q4 := ex_same2_is false (orderA l).isEmpty .full .unk (orderA l) (by have := (orderA_ok l).len; omega)
  have h16 : (((16 : Nat)) : Int) = 16 := rfl
  refine PureIs.of (nv := 1) (hid := [2, 3, 4, 5]) func5 rfl (by kernel_rfl) (by simp [ntmps5]) fun _ => ?_
  rw [ntmps5, results5]
  refine EvC.seq (EvC.rg (by (simp only [go_sem]) <;> rfl) (by simp) ?_)
  apply EvC.seq
  apply EvC.tr
  · apply Tr.run
    · (simp only [go_sem, h16]) <;> rfl
    · simp
    apply Tr.cons
    · exact .call rfl rfl (by (simp only [go_sem]) <;> rfl) (by (simp only [go_sem]) <;> rfl) (by (simp only [go_sem]) <;> rfl) (by (simp only [go_sem]) <;> rfl) (by (simp only [go_sem]) <;> rfl) (q1)
    apply Tr.done
    · (simp only [go_sem]) <;> rfl
    · simp
  apply EvC.seq
  apply EvC.tr
  · apply Tr.run
    · (simp only [go_sem]) <;> rfl
    · simp
    apply Tr.cons
    · exact .call rfl rfl (by (simp only [go_sem]) <;> rfl) (by (simp only [go_sem]) <;> rfl) (by (simp only [go_sem]) <;> rfl) (by (simp only [go_sem]) <;> rfl) (by (simp only [go_sem]) <;> rfl) (q2)
    apply Tr.done
    · (simp only [go_sem]) <;> rfl
    · simp
  apply EvC.seq
  apply EvC.tr
  · apply Tr.run
    · (simp only [go_sem, List.length_map, decide_true]) <;> rfl
    · simp
    apply Tr.cons
    · exact .callG rfl rfl (by (simp only [go_sem]) <;> rfl) rfl (by (simp only [go_sem]) <;> rfl) (by (simp only [go_sem]) <;> rfl) (by (simp only [go_sem]) <;> rfl) (by (simp only [go_sem]) <;> rfl) (by (simp only [go_sem]) <;> rfl) (q3)
    apply Tr.run
    · (simp only [go_sem, List.length_map, decide_true]) <;> rfl
    · simp
    apply Tr.cons
    · exact .callG rfl rfl (by (simp only [go_sem]) <;> rfl) rfl (by (simp only [go_sem]) <;> rfl) (by (simp only [go_sem]) <;> rfl) (by (simp only [go_sem]) <;> rfl) (by (simp only [go_sem]) <;> rfl) (by (simp only [go_sem]) <;> rfl) (q4)
    apply Tr.run
    · (simp only [go_sem, List.length_map, decide_true]) <;> rfl
    · simp
    apply Tr.cons
    · exact .callG rfl rfl (by (simp only [go_sem]) <;> rfl) rfl (by (simp only [go_sem]) <;> rfl) (by (simp only [go_sem]) <;> rfl) (by (simp only [go_sem]) <;> rfl) (by (simp only [go_sem]) <;> rfl) (by (simp only [go_sem]) <;> rfl) (lives_is)
    apply Tr.done
    · (simp only [go_sem]) <;> rfl
    · simp
  refine EvC.ret ⟨.inl rfl, _, (by (simp only [go_sem]) <;> rfl), ?_, rfl⟩
  simp only [go_sem]
end Go.Avl
namespace Go.Avl
open Go Go.Proofs.Tryd
set_option maxRecDepth 10000
set_option linter.unusedSimpArgs false

theorem bestL_inc {l : List Item} (hl : ∀ x ∈ l, 0 ≤ x.cost ∧ x.cost ≤ 1000000) (b : Int) : IncL 0 l.length (bestL l b) := by
  by_cases hb : 0 ≤ b
  · exact (best_spec b hb).1
  · rw [best_neg hl (by omega)]; exact ⟨.nil, fun _ h => by cases h⟩
set_option maxHeartbeats 4000000 in
theorem plansBest_is (nl : Bool) (xs : List LI) (c : Cp) (hx : ∀ x ∈ xs, x.Ok) (b more : Int) (hb : b ≤ 9223372036854775807) (hm : 0 ≤ more ∧ more < 256) :
    PureIs prog 8 [.sl nl (xs.map liC) c, .sc (.int .i64 b), .sc (.int .u8 more)] (.sc (.bool true)) := by
  have q1 := list24_is nl xs c 8 hx (by decide)
  have hl := listOf_len xs 8
  have hk : ∀ y ∈ listOf xs 8, y.kills.length < 1000000 := fun y hy => by have := listOf_kills y hy; omega
  have hcs : ∀ y ∈ listOf xs 8, (0 ≤ y.cost ∧ y.cost ≤ 1000000) ∧ y.kills.length < 1000000 := fun y hy => by
    have := listOf_costs hx y hy
    have := hk y hy
    omega
  have hz := listOf_check (most := 8) hx (by decide)
  generalize listOf xs 8 = l at q1 hl hk hz hcs
  have hc0 : ∀ y ∈ l, 0 ≤ y.cost ∧ y.cost ≤ 1000000 := fun y hy => (hcs y hy).1
  have hR : ∀ d, bestR l d = .tu [.sl (bestL l d).isEmpty ((bestL l d).map intC) .full, .sc (.int .i64 0)] := fun d => by rw [bestR, if_pos hz, if_neg (by omega)]
  have hlen : ∀ d, (bestL l d).length ≤ 256 := fun d => by
    have h := bestL_inc hc0 d
    have : (bestL l d).length ≤ l.length := nodup_len _ _ (h.1.imp fun hab => by omega) fun i hi => by have := h.2 i hi; omega
    omega
  have q2 := best_is l.isEmpty l .unk b hk (by omega) hb
  rw [hR] at q2
  have q3 := refBest_is l.isEmpty l .unk b hcs (by omega)
  have q4 := ex_same2_is (bestL l b).isEmpty (bestL l b).isEmpty .full .unk (bestL l b) (by have := hlen b; omega)
  have h8 : (((8 : Nat)) : Int) = 8 := rfl
  refine PureIs.of (nv := 3) (hid := [6, 7, 8, 9, 10, 11, 36, 38]) func8 rfl (by kernel_rfl) (by simp [ntmps8]) fun _ => ?_
  rw [ntmps8, results8]
  refine EvC.seq (EvC.rg (by (simp only [go_sem]) <;> rfl) (by simp) ?_)
  apply EvC.seq
  apply EvC.tr
  · apply Tr.run
    · (simp only [go_sem, h8]) <;> rfl
    · simp
    apply Tr.cons
    · exact .call rfl rfl (by (simp only [go_sem]) <;> rfl) (by (simp only [go_sem]) <;> rfl) (by (simp only [go_sem]) <;> rfl) (by (simp only [go_sem]) <;> rfl) (by (simp only [go_sem]) <;> rfl) (q1)
    apply Tr.done
    · (simp only [go_sem]) <;> rfl
    · simp
  apply EvC.seq
  apply EvC.tr
  · apply Tr.run
    · (simp only [go_sem]) <;> rfl
    · simp
    apply Tr.cons
    · exact .call rfl rfl (by (simp only [go_sem]) <;> rfl) (by (simp only [go_sem]) <;> rfl) (by (simp only [go_sem]) <;> rfl) (by (simp only [go_sem]) <;> rfl) (by (simp only [go_sem]) <;> rfl) (q2)
    apply Tr.done
    · (simp only [go_sem]) <;> rfl
    · simp
  refine EvC.seq ?_
  apply EvC.seq
  apply EvC.tr
  · apply Tr.run
    · (simp only [go_sem, List.length_map, decide_true]) <;> rfl
    · simp
    apply Tr.cons
    · exact .callG rfl rfl (by (simp only [go_sem]) <;> rfl) rfl (by (simp only [go_sem]) <;> rfl) (by (simp only [go_sem]) <;> rfl) (by (simp only [go_sem]) <;> rfl) (by (simp only [go_sem]) <;> rfl) (by (simp only [go_sem]) <;> rfl) (q3)
    apply Tr.run
    · (simp only [go_sem, List.length_map, decide_true]) <;> rfl
    · simp
    apply Tr.cons
    · exact .callG rfl rfl (by (simp only [go_sem]) <;> rfl) rfl (by (simp only [go_sem]) <;> rfl) (by (simp only [go_sem]) <;> rfl) (by (simp only [go_sem]) <;> rfl) (by (simp only [go_sem]) <;> rfl) (by (simp only [go_sem]) <;> rfl) (q4)
    apply Tr.done
    · (simp only [go_sem]) <;> rfl
    · simp
  refine EvC.cond_false (by (simp only [go_sem]) <;> rfl) ?_
  refine EvC.skip ?_
  refine EvC.seq ?_
  refine EvC.seq (EvC.rg (by (simp only [go_sem]) <;> rfl) (by simp) ?_)
  by_cases hbb : 1000000 < b
  · refine EvC.cond_true (by (simp only [go_sem, decide_eq_true hbb]) <;> rfl) ?_
    apply EvC.seq
    apply EvC.tr
    · apply Tr.run
      · (simp only [go_sem]) <;> rfl
      · simp
      apply Tr.cons
      · exact .call rfl rfl (by (simp only [go_sem]) <;> rfl) (by (simp only [go_sem]) <;> rfl) (by (simp only [go_sem]) <;> rfl) (by (simp only [go_sem]) <;> rfl) (by (simp only [go_sem]) <;> rfl) (lives_is)
      apply Tr.done
      · (simp only [go_sem]) <;> rfl
      · simp
    refine EvC.ret ⟨.inl rfl, _, (by (simp only [go_sem]) <;> rfl), ?_, rfl⟩
    simp only [go_sem]
  refine EvC.cond_false (by (simp only [go_sem, decide_eq_false hbb]) <;> rfl) ?_
  refine EvC.skip ?_
  obtain ⟨d, hd, hd0, hdb, hd1⟩ : ∃ d : Int, (if b ≤ 0 then 0 else b) + more = d ∧ 0 ≤ d ∧ b ≤ d ∧ d ≤ 2000000 := ⟨_, rfl, by split <;> omega, by split <;> omega, by split <;> omega⟩
  have q5 := best_is l.isEmpty l .unk d hk (by omega) (by omega)
  rw [hR] at q5
  have hg := best_grows hc0 hdb hd0
  have k1 := killed_is l.isEmpty l .unk (bestL l d).isEmpty (bestL l d) .full hk (InC (bestL_inc hc0 d)) (by have := hlen d; omega)
  have k2 := killed_is l.isEmpty l .unk (bestL l b).isEmpty (bestL l b) .full hk (InC (bestL_inc hc0 b)) (by have := hlen b; omega)
  have dg : decide (((killedN l (bestL l b) : Nat) : Int) ≤ ((killedN l (bestL l d) : Nat) : Int)) = true := decide_eq_true (by omega)
  have hdi : inI64 d = true := inI64_of (by omega) (by omega)
  have hmi : inI64 more = true := inI64_of (by omega) (by omega)
  apply EvC.seq
  apply EvC.tr
  · apply Tr.run
    · (simp only [go_sem, hd]) <;> rfl
    · simp [hmi, hdi]
    apply Tr.cons
    · exact .call rfl rfl (by (simp only [go_sem]) <;> rfl) (by (simp only [go_sem]) <;> rfl) (by (simp only [go_sem]) <;> rfl) (by (simp only [go_sem]) <;> rfl) (by (simp only [go_sem]) <;> rfl) (q5)
    apply Tr.done
    · (simp only [go_sem]) <;> rfl
    · simp
  apply EvC.seq
  apply EvC.tr
  · apply Tr.run
    · (simp only [go_sem, dg]) <;> rfl
    · simp
    apply Tr.cons
    · exact .callG rfl rfl (by (simp only [go_sem]) <;> rfl) rfl (by (simp only [go_sem]) <;> rfl) (by (simp only [go_sem]) <;> rfl) (by (simp only [go_sem]) <;> rfl) (by (simp only [go_sem]) <;> rfl) (by (simp only [go_sem]) <;> rfl) (k1)
    apply Tr.run
    · (simp only [go_sem, dg]) <;> rfl
    · simp
    apply Tr.cons
    · exact .callG rfl rfl (by (simp only [go_sem]) <;> rfl) rfl (by (simp only [go_sem]) <;> rfl) (by (simp only [go_sem]) <;> rfl) (by (simp only [go_sem]) <;> rfl) (by (simp only [go_sem]) <;> rfl) (by (simp only [go_sem]) <;> rfl) (k2)
    apply Tr.run
    · (simp only [go_sem, dg]) <;> rfl
    · simp
    apply Tr.cons
    · exact .callG rfl rfl (by (simp only [go_sem]) <;> rfl) rfl (by (simp only [go_sem]) <;> rfl) (by (simp only [go_sem]) <;> rfl) (by (simp only [go_sem]) <;> rfl) (by (simp only [go_sem]) <;> rfl) (by (simp only [go_sem]) <;> rfl) (lives_is)
    apply Tr.done
    · (simp only [go_sem]) <;> rfl
    · simp
  refine EvC.ret ⟨.inl rfl, _, (by (simp only [go_sem]) <;> rfl), ?_, rfl⟩
  simp only [go_sem]
end Go.Avl
namespace Go.Avl
open Go Go.Proofs.Tryd
set_option maxRecDepth 10000
set_option linter.unusedSimpArgs false

theorem costN_take {l : List Item} (hl : ∀ x ∈ l, 1 ≤ x.cost) {ch : List Int} (hch : InCh l ch) {k : Nat} (hk : k < ch.length) : costN l (ch.take k) < costN l (ch.take (k + 1)) := by
  rw [List.take_succ_eq_append_getElem hk, costN_app, costN_one]
  have hm := itemAt_get (hch _ (List.getElem_mem hk))
  have := hl _ (List.mem_of_getElem? hm)
  have : costN l [] = 0 := rfl
  omega
theorem OkA.inCh {l : List Item} {os : List Int} (h : OkA l os) : InCh l os := h.rng
theorem pairC_at (p : Int × Int) : pairC p = [.sc (.int .i64 p.1), .sc (.int .i64 p.2)] := rfl
set_option maxHeartbeats 8000000 in
theorem plansCurve_is (nl : Bool) (xs : List LI) (c : Cp) (hx : ∀ x ∈ xs, x.Ok) (bn : Bool) (bs : List Int) (cb : Cp) (hb : ∀ b ∈ bs, 0 ≤ b ∧ b < 256) (hbl : (bs.length : Int) ≤ 140737488355328) (rn : Bool) (raw : List Int) (cr : Cp) :
    PureIs prog 6 [.sl nl (xs.map liC) c, .sl bn (bs.map u8C) cb, .sl rn (raw.map intC) cr] (.sc (.bool true)) := by
  have q1 := list24_is nl xs c 16 hx (by decide)
  have hl := listOf_len xs 16
  have hk : ∀ y ∈ listOf xs 16, y.kills.length < 1000000 := fun y hy => by have := listOf_kills y hy; omega
  have hcs1 := listOf_costs (most := 16) hx
  have hcs : ∀ y ∈ listOf xs 16, (0 ≤ y.cost ∧ y.cost ≤ 1000000) ∧ y.kills.length < 1000000 := fun y hy => by
    have := hcs1 y hy
    have := hk y hy
    omega
  have hz := listOf_check (most := 16) hx (by decide)
  generalize listOf xs 16 = l at q1 hl hk hz hcs hcs1
  have q2 := choice27_is l.isEmpty l .unk bn bs cb hb (by omega) hbl
  have hok : OkA l (choiceOf l bs) := by
    unfold choiceOf; split
    · exact OkA.nil l
    · exact choiceTo_ok l bs _
  generalize choiceOf l bs = ch at q2 hok
  have hchl : ch.length ≤ 16 := by have := hok.len; omega
  have q3 := curve_is l.isEmpty l .unk ch.isEmpty ch .unk hk (by omega)
  have q4 := late_is l.isEmpty l .unk ch.isEmpty ch .unk hk (by omega)
  rw [curveR, if_pos hz, if_pos (choiceB_ok.2 hok)] at q3
  rw [lateR, if_pos hz, if_pos (choiceB_ok.2 hok)] at q4
  have q5 := refCurve_is l.isEmpty l .unk ch.isEmpty ch .unk hcs hok.inCh (by omega)
  have q6 := refLate_is l.isEmpty l .unk ch.isEmpty ch .unk hcs hok.inCh (by omega)
  have hcl : (curveOf l ch).length = ch.length := curveTo_len l ch _
  have q7 := curves_is false (curveOf l ch).isEmpty (curveOf l ch) (curveOf l ch) .unk (by omega)
  rw [decide_eq_true rfl] at q7
  have h16 : (((16 : Nat)) : Int) = 16 := rfl
  refine PureIs.of (nv := 3) (hid := [6, 7, 8, 9, 10, 11, 12, 13, 16, 54, 58, 86, 102]) func6 rfl (by kernel_rfl) (by simp [ntmps6]) fun _ => ?_
  rw [ntmps6, results6]
  refine EvC.seq (EvC.rg (by (simp only [go_sem]) <;> rfl) (by simp) ?_)
  refine EvC.seq ?_
  refine EvC.seq (EvC.rg (by (simp only [go_sem, List.length_map]) <;> rfl) (by simp) ?_)
  refine EvC.cond (by (simp only [go_sem]) <;> rfl) (fun hc => ?_) (fun hc => ?_)
  · -- then
    refine EvC.seq (EvC.rg (by (simp only [go_sem]) <;> rfl) (by simp) ?_)
    refine EvC.ret ⟨.inl rfl, _, (by (simp only [go_sem]) <;> rfl), ?_, rfl⟩
    simp only [go_sem]
  have hrl : raw.length ≤ 20 := by have : ¬ (20 : Int) < raw.length := by simpa using hc
                                   omega
  clear hc
  refine EvC.skip ?_
  apply EvC.seq
  apply EvC.tr
  · apply Tr.run
    · (simp only [go_sem, h16]) <;> rfl
    · simp
    apply Tr.cons
    · exact .call rfl rfl (by (simp only [go_sem]) <;> rfl) (by (simp only [go_sem]) <;> rfl) (by (simp only [go_sem]) <;> rfl) (by (simp only [go_sem]) <;> rfl) (by (simp only [go_sem]) <;> rfl) (q1)
    apply Tr.done
    · (simp only [go_sem]) <;> rfl
    · simp
  apply EvC.seq
  apply EvC.tr
  · apply Tr.run
    · (simp only [go_sem]) <;> rfl
    · simp
    apply Tr.cons
    · exact .call rfl rfl (by (simp only [go_sem]) <;> rfl) (by (simp only [go_sem]) <;> rfl) (by (simp only [go_sem]) <;> rfl) (by (simp only [go_sem]) <;> rfl) (by (simp only [go_sem]) <;> rfl) (q2)
    apply Tr.done
    · (simp only [go_sem]) <;> rfl
    · simp
  apply EvC.seq
  apply EvC.tr
  · apply Tr.run
    · (simp only [go_sem]) <;> rfl
    · simp
    apply Tr.cons
    · exact .call rfl rfl (by (simp only [go_sem]) <;> rfl) (by (simp only [go_sem]) <;> rfl) (by (simp only [go_sem]) <;> rfl) (by (simp only [go_sem]) <;> rfl) (by (simp only [go_sem]) <;> rfl) (q3)
    apply Tr.done
    · (simp only [go_sem]) <;> rfl
    · simp
  apply EvC.seq
  apply EvC.tr
  · apply Tr.run
    · (simp only [go_sem]) <;> rfl
    · simp
    apply Tr.cons
    · exact .call rfl rfl (by (simp only [go_sem]) <;> rfl) (by (simp only [go_sem]) <;> rfl) (by (simp only [go_sem]) <;> rfl) (by (simp only [go_sem]) <;> rfl) (by (simp only [go_sem]) <;> rfl) (q4)
    apply Tr.done
    · (simp only [go_sem]) <;> rfl
    · simp
  refine EvC.seq ?_
  apply EvC.seq
  apply EvC.tr
  · apply Tr.run
    · (simp only [go_sem, decide_true]) <;> rfl
    · simp
    apply Tr.cons
    · exact .callG rfl rfl (by (simp only [go_sem]) <;> rfl) rfl (by (simp only [go_sem]) <;> rfl) (by (simp only [go_sem]) <;> rfl) (by (simp only [go_sem]) <;> rfl) (by (simp only [go_sem]) <;> rfl) (by (simp only [go_sem]) <;> rfl) (q5)
    apply Tr.run
    · (simp only [go_sem, decide_true]) <;> rfl
    · simp
    apply Tr.cons
    · exact .callG rfl rfl (by (simp only [go_sem]) <;> rfl) rfl (by (simp only [go_sem]) <;> rfl) (by (simp only [go_sem]) <;> rfl) (by (simp only [go_sem]) <;> rfl) (by (simp only [go_sem]) <;> rfl) (by (simp only [go_sem]) <;> rfl) (q7)
    apply Tr.run
    · (simp only [go_sem, decide_true]) <;> rfl
    · simp
    apply Tr.cons
    · exact .callG rfl rfl (by (simp only [go_sem]) <;> rfl) rfl (by (simp only [go_sem]) <;> rfl) (by (simp only [go_sem]) <;> rfl) (by (simp only [go_sem]) <;> rfl) (by (simp only [go_sem]) <;> rfl) (by (simp only [go_sem]) <;> rfl) (q6)
    apply Tr.done
    · (simp only [go_sem]) <;> rfl
    · simp
  refine EvC.cond_false (by (simp only [go_sem, decide_true]) <;> rfl) ?_
  refine EvC.skip ?_
  refine EvC.seq ?_
  refine EvC.seq (EvC.rg (by (simp only [go_sem]) <;> rfl) (by simp) ?_)
  refine EvC.block ?_  -- 0
  refine EvC.loopS (σ := Nat) (fun i => ⟨[(2, .sl rn (raw.map intC) cr), (7, .sl l.isEmpty (l.map itemC) .unk), (9, .sl false ((curveOf l ch).map pairC) .full), (13, .sc (.int .i64 i))], [], [], 0⟩) (fun i => ch.length + 1 - i) (fun i => 1 ≤ i ∧ i ≤ ch.length + 1) [2, 7, 9, 13] 0 ?_ ?_
  · exact ⟨[], 1, rfl, (by (simp only [go_sem, Int.natCast_one]) <;> rfl), by omega, by omega⟩
  rintro i ⟨h1, h2⟩
  refine EvC.seq ?_
  refine EvC.seq (EvC.rg (by (simp only [go_sem, List.length_map, hcl]) <;> rfl) (by simp) ?_)
  refine EvC.cond (by (simp only [go_sem]) <;> rfl) (fun hc => ?_) (fun hc => ?_)
  rotate_left
  · -- else
    refine EvC.exit ?_  -- 0
    have w3 := curve_is l.isEmpty l .unk rn raw cr hk (by omega)
    have w4 := late_is l.isEmpty l .unk rn raw cr hk (by omega)
    have w2 := choice31_is l.isEmpty l .unk rn raw cr (by omega)
    rw [curveR, if_pos hz] at w3
    rw [lateR, if_pos hz] at w4
    clear hc q1 q2 q3 q4 q5 q6 q7
    by_cases hch : choiceB l raw = true
    rotate_left
    · rw [if_neg hch] at w3 w4
      rw [Bool.eq_false_iff.2 hch] at w2
      apply EvC.seq
      apply EvC.tr
      · apply Tr.run
        · (simp only [go_sem]) <;> rfl
        · simp
        apply Tr.cons
        · exact .call rfl rfl (by (simp only [go_sem]) <;> rfl) (by (simp only [go_sem]) <;> rfl) (by (simp only [go_sem]) <;> rfl) (by (simp only [go_sem]) <;> rfl) (by (simp only [go_sem]) <;> rfl) (w3)
        apply Tr.done
        · (simp only [go_sem]) <;> rfl
        · simp
      apply EvC.seq
      apply EvC.tr
      · apply Tr.run
        · (simp only [go_sem]) <;> rfl
        · simp
        apply Tr.cons
        · exact .call rfl rfl (by (simp only [go_sem]) <;> rfl) (by (simp only [go_sem]) <;> rfl) (by (simp only [go_sem]) <;> rfl) (by (simp only [go_sem]) <;> rfl) (by (simp only [go_sem]) <;> rfl) (w4)
        apply Tr.done
        · (simp only [go_sem]) <;> rfl
        · simp
      refine EvC.seq ?_
      apply EvC.seq
      apply EvC.tr
      · apply Tr.run
        · (simp only [go_sem]) <;> rfl
        · simp
        apply Tr.cons
        · exact .call rfl rfl (by (simp only [go_sem]) <;> rfl) (by (simp only [go_sem]) <;> rfl) (by (simp only [go_sem]) <;> rfl) (by (simp only [go_sem]) <;> rfl) (by (simp only [go_sem]) <;> rfl) (w2)
        apply Tr.done
        · (simp only [go_sem]) <;> rfl
        · simp
      refine EvC.cond_true (by (simp only [go_sem]) <;> rfl) ?_
      apply EvC.seq
      apply EvC.tr
      · apply Tr.run
        · (simp only [go_sem]) <;> rfl
        · simp
        apply Tr.cons
        · exact .callG rfl rfl (by (simp only [go_sem]) <;> rfl) rfl (by (simp only [go_sem]) <;> rfl) (by (simp only [go_sem]) <;> rfl) (by (simp only [go_sem]) <;> rfl) (by (simp only [go_sem]) <;> rfl) (by (simp only [go_sem]) <;> rfl) (lives_is)
        apply Tr.done
        · (simp only [go_sem]) <;> rfl
        · simp
      refine EvC.ret ⟨.inl rfl, _, (by (simp only [go_sem]) <;> rfl), ?_, rfl⟩
      simp only [go_sem]
    rw [if_pos hch] at w3 w4
    rw [hch] at w2
    have hokr := choiceB_ok.1 hch
    have w5 := refCurve_is l.isEmpty l .unk rn raw cr hcs hokr.inCh (by omega)
    have w6 := refLate_is l.isEmpty l .unk rn raw cr hcs hokr.inCh (by omega)
    have hclr : (curveOf l raw).length = raw.length := curveTo_len l raw _
    have w7 := curves_is false (curveOf l raw).isEmpty (curveOf l raw) (curveOf l raw) .unk (by omega)
    rw [decide_eq_true rfl] at w7
    apply EvC.seq
    apply EvC.tr
    · apply Tr.run
      · (simp only [go_sem]) <;> rfl
      · simp
      apply Tr.cons
      · exact .call rfl rfl (by (simp only [go_sem]) <;> rfl) (by (simp only [go_sem]) <;> rfl) (by (simp only [go_sem]) <;> rfl) (by (simp only [go_sem]) <;> rfl) (by (simp only [go_sem]) <;> rfl) (w3)
      apply Tr.done
      · (simp only [go_sem]) <;> rfl
      · simp
    apply EvC.seq
    apply EvC.tr
    · apply Tr.run
      · (simp only [go_sem]) <;> rfl
      · simp
      apply Tr.cons
      · exact .call rfl rfl (by (simp only [go_sem]) <;> rfl) (by (simp only [go_sem]) <;> rfl) (by (simp only [go_sem]) <;> rfl) (by (simp only [go_sem]) <;> rfl) (by (simp only [go_sem]) <;> rfl) (w4)
      apply Tr.done
      · (simp only [go_sem]) <;> rfl
      · simp
    refine EvC.seq ?_
    apply EvC.seq
    apply EvC.tr
    · apply Tr.run
      · (simp only [go_sem]) <;> rfl
      · simp
      apply Tr.cons
      · exact .call rfl rfl (by (simp only [go_sem]) <;> rfl) (by (simp only [go_sem]) <;> rfl) (by (simp only [go_sem]) <;> rfl) (by (simp only [go_sem]) <;> rfl) (by (simp only [go_sem]) <;> rfl) (w2)
      apply Tr.done
      · (simp only [go_sem]) <;> rfl
      · simp
    refine EvC.cond_false (by (simp only [go_sem]) <;> rfl) ?_
    refine EvC.skip ?_
    apply EvC.seq
    apply EvC.tr
    · apply Tr.run
      · (simp only [go_sem, decide_true]) <;> rfl
      · simp
      apply Tr.cons
      · exact .callG rfl rfl (by (simp only [go_sem]) <;> rfl) rfl (by (simp only [go_sem]) <;> rfl) (by (simp only [go_sem]) <;> rfl) (by (simp only [go_sem]) <;> rfl) (by (simp only [go_sem]) <;> rfl) (by (simp only [go_sem]) <;> rfl) (w5)
      apply Tr.run
      · (simp only [go_sem, decide_true]) <;> rfl
      · simp
      apply Tr.cons
      · exact .callG rfl rfl (by (simp only [go_sem]) <;> rfl) rfl (by (simp only [go_sem]) <;> rfl) (by (simp only [go_sem]) <;> rfl) (by (simp only [go_sem]) <;> rfl) (by (simp only [go_sem]) <;> rfl) (by (simp only [go_sem]) <;> rfl) (w7)
      apply Tr.run
      · (simp only [go_sem, decide_true]) <;> rfl
      · simp
      apply Tr.cons
      · exact .callG rfl rfl (by (simp only [go_sem]) <;> rfl) rfl (by (simp only [go_sem]) <;> rfl) (by (simp only [go_sem]) <;> rfl) (by (simp only [go_sem]) <;> rfl) (by (simp only [go_sem]) <;> rfl) (by (simp only [go_sem]) <;> rfl) (w6)
      apply Tr.run
      · (simp only [go_sem, decide_true]) <;> rfl
      · simp
      apply Tr.cons
      · exact .callG rfl rfl (by (simp only [go_sem]) <;> rfl) rfl (by (simp only [go_sem]) <;> rfl) (by (simp only [go_sem]) <;> rfl) (by (simp only [go_sem]) <;> rfl) (by (simp only [go_sem]) <;> rfl) (by (simp only [go_sem]) <;> rfl) (lives_is)
      apply Tr.done
      · (simp only [go_sem]) <;> rfl
      · simp
    refine EvC.ret ⟨.inl rfl, _, (by (simp only [go_sem]) <;> rfl), ?_, rfl⟩
    simp only [go_sem]
  have hil : i < ch.length := by have : (i : Int) < ch.length := by simpa using hc
                                 omega
  clear hc
  have he : (curveOf l ch)[i]? = some (costN l (ch.take (i + 1)), ((killedN l (ch.take (i + 1)) : Nat) : Int)) := curveTo_get l ch hil
  have hf : (curveOf l ch)[i - 1]? = some (costN l (ch.take i), ((killedN l (ch.take i) : Nat) : Int)) := by
    have := curveTo_get l ch (n := ch.length) (k := i - 1) (by omega)
    rwa [show i - 1 + 1 = i by omega] at this
  have hlt := costN_take (fun x hx => (hcs1 x hx).1) hok.inCh hil
  have hmn := killedN_mono l ch i
  generalize costN l (ch.take (i + 1)) = a at he hlt
  generalize killedN l (ch.take (i + 1)) = b at he hmn
  generalize costN l (ch.take i) = a' at hf hlt
  generalize killedN l (ch.take i) = b' at hf hmn
  have d1 : decide (a ≤ a') = false := decide_eq_false (by omega)
  have d2 : decide ((b : Int) < (b' : Int)) = false := decide_eq_false (by omega)
  have hin : (i : Int).toNat = i := Int.toNat_natCast i
  have hip : ((i : Int) - 1).toNat = i - 1 := by omega
  have hp0 : inI64 ((i : Int) - 1) = true := inI64_of (by omega) (by omega)
  refine EvC.skip ?_
  refine EvC.seq ?_
  refine EvC.block ?_  -- 1
  apply EvC.seq
  apply EvC.drd mixed
  · (simp only [go_sem, he, hf, hin, hip, d1, d2, pairC, hp0]) <;> rfl
  · simp; try omega
  · kernel_rfl
  refine EvC.cond_false (by (simp only [go_sem]) <;> rfl) ?_
  refine EvC.skip ?_
  refine EvC.rg (by (simp only [go_sem]) <;> rfl) (by exact inI64_of (by omega) (by omega)) ?_
  exact ⟨[], i + 1, rfl, (by (simp only [go_sem, Int.natCast_add, Int.natCast_one]) <;> rfl), ⟨by omega, by omega⟩, by omega⟩
end Go.Avl
namespace Go.Proofs.YthdaggogdocmfaaDoor
open Go Go.Avl Go.Proofs Go.ChangeShapes Go.RowKit

set_option maxRecDepth 100000 in
theorem plansCurve_lifted (os : Os) (started : os.Started) (H : Type) (enc : TypeId × Value → H) :
    ReturnsInHanded {} Tryd.checked os 6 .any (fun w args => (Rows.plansCurveSpec.pre enc Tryd.prog Tryd.f6 Rows.plansCurveRow.domain false w args ∧ laidMetH Tryd.prog laidT w) ∧ sizedMet enc Tryd.prog Tryd.f6 (OpenSpec.ofChange Rows.plansCurveSpec) false w args)
      (Rows.plansCurveSpec.post enc Tryd.prog Tryd.f6 false true false false) := by
  refine returnsInHanded_of_change_and (C := Tryd.checked) (X := fun w _ => laidMetH Tryd.prog laidT w) (fun _ _ _ hh h => h.of_heap hh) Tryd.own started (by kernel_rfl) Tryd.func6
    (ChangeSpec.witness_shaped (enc := enc) (C := Tryd.checked) (os := os) (X := fun w _ => laidMetH Tryd.prog laidT w) false (World.doorLaid Tryd.prog 400 os) #[.slice none 0 0, .slice none 0 0, .slice none 0 0] 8 rfl (World.shaped_of_RefB (by kernel_rfl) (by kernel_rfl)) (by kernel_rfl) (by kernel_rfl) (by kernel_rfl) (door_met os _)) ?_
  intro W base args ds gs before hval hW _ hz hL _
  have hgl := globs_of hL
  have hW' := hW
  obtain ⟨p, q, hA, hV, rfl, _, _⟩ := hW'
  obtain ⟨rfl, rfl⟩ := trodVars_none hV
  have hA' : DataW.TrodAll enc Tryd.prog W 0 (fun _ => true) true [60, 54, 23] args.toList ds p := by rw [← show Tryd.f6.params.toList = [60, 54, 23] from rfl]; exact hA
  obtain ⟨v0, v1, v2, d0, d1, d2, p0, p1, p2, rfl, rfl, rfl, h0, h1, h2⟩ := trodAll_three hA'
  have hz' : (DataW.weightsEach Tryd.prog [60, 54, 23] [d0, d1, d2]).all (· ≤ reachBytes) = true := hz
  have hf := fits_each (P := Tryd.prog) (ts := [60, 54, 23]) (l := [d0, d1, d2]) fun n hn => by simpa using List.all_eq_true.1 hz' n hn
  obtain ⟨x, hx, i0⟩ := rd_lis.imm_slice Tryd.underlying60 (hval 0 60 v0 rfl rfl) (hf 0 60 d0 rfl rfl) h0
  obtain ⟨b, hb, i1⟩ := rd_bytes.imm_slice Tryd.underlying54 (hval 1 54 v1 rfl rfl) (hf 1 54 d1 rfl rfl) h1
  obtain ⟨r, hr, i2⟩ := rd_ints.imm_slice Tryd.underlying23 (hval 2 23 v2 rfl rfl) (hf 2 23 d2 rfl rfl) h2
  exact law_calls Tryd.laidOut (by kernel_rfl) rfl (by kernel_rfl) rfl rfl (plansCurve_is x.1 x.2 .unk hx b.1 b.2 .unk hb.1 hb.2 r.1 r.2 .unk) (Imms.append (.one i0) (Imms.append (.one i1) (.one i2))) hW hgl

theorem plansCurve_said : Rows.PlansCurveSaid :=
  OpenClaim.holds_of_wide 6 Tryd.f6 rfl rfl rfl rfl rfl rfl rfl ⟨rfl, rfl, rfl, rfl, rfl⟩ rfl rfl rfl rfl rfl (by kernel_rfl) Tryd.func6 (by kernel_rfl)
    (of_decide_eq_true (by kernel_rfl)) (by unfold Func.isWrapper; first | (rw [if_pos (by decide +kernel)]; kernel_rfl) | (rw [if_neg (by decide +kernel)]; exact ⟨rfl, rfl⟩))
    (fun os started H enc _ => plansCurve_lifted os started H enc)

theorem plansCurve_holds : Rows.PlansCurveCardSaid :=
  Claim7.holds_tied_plain_at .later [] [.widerDeep] true (true, "6d3ff7fe0d9779fedb791cf0751605ad5cd5bfdc42f52104730e367675225e7a") false
    plansCurve_said (fun _ h => by cases h) (by kernel_rfl) (fun _ h => by cases h) plansCurve_row_tie rfl ⟨rfl, rfl⟩ (by kernel_rfl) rfl
    (fun f fn hf hfn => by
      obtain rfl : f = 6 := (Option.some.inj ((show Tryd.prog.funcNamed "gauntlet/gauntletlaw43.PlansCurve" = some 6 by kernel_rfl).symm.trans hf)).symm
      obtain rfl : fn = Tryd.f6 := (Option.some.inj (Tryd.func6.symm.trans hfn)).symm
      refine ⟨by kernel_rfl, fun j t ht => ?_⟩
      have key : (Tryd.f6.params.toList.all fun t => Tryd.prog.wantsStandIn t == false) = true := by kernel_rfl
      have hm : t ∈ Tryd.f6.params.toList := by
        rw [← Array.getElem?_toList] at ht
        exact List.mem_of_getElem? ht
      exact eq_of_beq (List.all_eq_true.1 key t hm))
    (by kernel_rfl)
#print axioms plansCurve_holds
end Go.Proofs.YthdaggogdocmfaaDoor
