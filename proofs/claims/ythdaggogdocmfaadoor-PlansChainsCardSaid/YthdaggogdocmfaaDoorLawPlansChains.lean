/-
  Lemmas.
  Lemmas.
  Lemmas.
  Lemmas.
  How the machines of the laws read.
  PlansChains returns true at every input, and each argument reads behind the call as it read before; the table of the kinds of faults is tied to the program's text.
  Conditions: those of the given row and card alone (no others).
-/
import Derived.Test.YthdaggogdocmfaaDoorPart10
set_option linter.unusedSimpArgs false
set_option linter.unusedVariables false
set_option linter.unnecessarySimpa false
set_option linter.deprecated false
namespace Go.Avl
open Go Go.Proofs.Tryd
set_option maxRecDepth 10000
set_option linter.unusedSimpArgs false

/-! ### Words by bytes -/
def wordOf (es : List Int) (n : Int) (most : Nat) : List Int := (es.take most).map (· % n)
theorem wordOf_len (es : List Int) (n : Int) (most : Nat) : (wordOf es n most).length ≤ most := by simp only [wordOf, List.length_map, List.length_take]; omega
theorem wordOf_in {es : List Int} {n : Int} {most : Nat} (hn : 1 ≤ n) : ∀ a ∈ wordOf es n most, 0 ≤ a ∧ a < n := fun a ha => by
  obtain ⟨x, _, rfl⟩ := List.mem_map.1 ha
  exact ⟨Int.emod_nonneg _ (by omega), Int.emod_lt_of_pos _ (by omega)⟩
theorem word20_is (nl : Bool) (es : List Int) (c : Cp) (n : Int) (most : Nat) (he : ∀ x ∈ es, 0 ≤ x ∧ x < 256) (hn : 1 ≤ n ∧ n ≤ 1000000) (hm : most < 1000) :
    PureIs prog 20 [.sl nl (es.map u8C) c, .sc (.int .i64 n), .sc (.int .i64 most)] (.sl (wordOf es n most).isEmpty ((wordOf es n most).map intC) .unk) := by
  refine PureIs.of (nv := 3) (hid := [6, 7, 8, 17]) func20 rfl (by kernel_rfl) (by simp [ntmps20]) fun _ => ?_
  rw [ntmps20, results20]
  refine EvC.seq (EvC.rg (by (simp only [go_sem]) <;> rfl) (by simp) ?_)
  refine EvC.seq (EvC.rg (by (simp only [go_sem]) <;> rfl) (by simp) ?_)
  refine EvC.seq ?_
  refine EvC.seq (EvC.rg (by (simp only [go_sem]) <;> rfl) (by simp) ?_)
  refine EvC.block ?_  -- 0
  refine EvC.loopS (σ := Nat) (fun i => ⟨[(0, .sl nl (es.map u8C) c), (1, .sc (.int .i64 n)), (2, .sc (.int .i64 most)), (7, .tl 0 (wordOf es n i).length (wordOf es n i).isEmpty), (8, .sc (.int .i64 i))], [], [(0, .arr 1 ((wordOf es n i).map intC) true)], 1⟩) (fun i => most - i) (fun i => i ≤ most ∧ i ≤ es.length) [0, 1, 2, 7, 8] 1 ?_ ?_
  · exact ⟨[(1, 0)], 0, rfl, (by (simp only [go_sem, Int.natCast_zero, wordOf, List.take_zero, List.map_nil, List.length_nil, List.isEmpty_nil]) <;> rfl), Nat.zero_le _, Nat.zero_le _⟩
  rintro i ⟨hi, hi2⟩
  refine EvC.seq ?_
  by_cases hend : i < es.length ∧ i < most
  rotate_left
  · -- else
    have hcond : decide ((i : Int) < es.length) = false ∨ (decide ((i : Int) < es.length) = true ∧ decide ((i : Int) < most) = false) := by
      by_cases h : i < es.length
      · exact .inr ⟨decide_eq_true (by omega), decide_eq_false (by omega)⟩
      · exact .inl (decide_eq_false (by omega))
    have htk : wordOf es n most = wordOf es n i := by
      unfold wordOf
      congr 1
      rcases Nat.lt_or_ge i es.length with h | h
      · rw [show most = i by omega]
      · rw [List.take_of_length_le (by omega), List.take_of_length_le (by omega)]
    rw [htk]
    generalize wordOf es n i = L
    rcases hcond with h | ⟨h, h'⟩
    · apply EvC.seq
      apply EvC.trd
      · (simp only [go_sem, List.length_map, h]) <;> rfl
      · simp
      refine EvC.cond_false (by (simp only [go_sem]) <;> rfl) ?_
      refine EvC.exit ?_  -- 0
      refine EvC.frz 0 (by (simp only [go_sem, List.length_map]) <;> rfl) ?_
      refine EvC.seq (EvC.rg (by (simp only [go_sem, List.length_map]) <;> rfl) (by simp) ?_)
      refine EvC.ret ⟨.inl rfl, _, (by (simp only [go_sem]) <;> rfl), ?_, rfl⟩
      simp only [go_sem]
    · apply EvC.seq
      apply EvC.trd
      · (simp only [go_sem, List.length_map, h, h']) <;> rfl
      · simp
      refine EvC.cond_false (by (simp only [go_sem]) <;> rfl) ?_
      refine EvC.exit ?_  -- 0
      refine EvC.frz 0 (by (simp only [go_sem, List.length_map]) <;> rfl) ?_
      refine EvC.seq (EvC.rg (by (simp only [go_sem, List.length_map]) <;> rfl) (by simp) ?_)
      refine EvC.ret ⟨.inl rfl, _, (by (simp only [go_sem]) <;> rfl), ?_, rfl⟩
      simp only [go_sem]
  obtain ⟨h1, h2⟩ := hend
  have d1 : decide ((i : Int) < es.length) = true := decide_eq_true (by omega)
  have d2 : decide ((i : Int) < most) = true := decide_eq_true (by omega)
  apply EvC.seq
  apply EvC.trd
  · (simp only [go_sem, List.length_map, d1, d2]) <;> rfl
  · simp
  refine EvC.cond_true (by (simp only [go_sem]) <;> rfl) ?_
  refine EvC.skip ?_
  refine EvC.seq ?_
  refine EvC.block ?_  -- 1
  have hx : es[i]? = some (es[i]'h1) := List.getElem?_eq_getElem h1
  have hb := he _ (List.getElem_mem h1)
  have hnext : wordOf es n (i + 1) = wordOf es n i ++ [(es[i]'h1) % n] := by
    unfold wordOf
    rw [List.take_succ_eq_append_getElem h1, List.map_append]; rfl
  have hli := wordOf_len es n i
  generalize es[i]'h1 = x at hx hb hnext
  generalize wordOf es n i = T at hnext hli
  have hin : (i : Int).toNat = i := Int.toNat_natCast i
  have hsn : T.map intC ++ [[.sc (.int .i64 (x % n))]] = (T ++ [x % n]).map intC := by simp [intC]
  have hsl : T.length + 1 = (T ++ [x % n]).length := by simp
  have hse : (T ++ [x % n]).isEmpty = false := by simp
  have hr2 : room (T.length + 1) 8 = true := by simp only [room_eq, decide_eq_true_eq]; omega
  rw [hsl] at hr2
  rw [← hnext] at hsn hsl hse hr2
  generalize hT' : wordOf es n (i + 1) = T' at hsn hsl hse hr2
  refine EvC.rg (by (simp only [go_sem, hx, u8C, hin, hsn, hsl, List.length_map]) <;> rfl) (by simp [hr2, hb.1, inI64_of (x := x) (by omega) (by omega)]; try omega) ?_
  refine EvC.rg (by (simp only [go_sem]) <;> rfl) (by exact inI64_of (by omega) (by omega)) ?_
  exact ⟨[(0, 0)], i + 1, rfl, (by rw [hT']; (simp only [go_sem, hse, Int.natCast_add, Int.natCast_one]) <;> rfl), ⟨by omega, by omega⟩, by omega⟩
end Go.Avl
namespace Go.Avl
open Go Go.Proofs.Tryd
set_option maxRecDepth 10000
set_option linter.unusedSimpArgs false

/-! ### The reference's chains: rows of any kind -/
abbrev CW := Option (List Wd × Wd)
def putF (j : Bool) : CW → Wd → CW
  | none, w => some ([], w)
  | some (f, e), w => if (j && decide (e.2.length + w.2.length ≤ 256)) = true then some (f, (false, e.2 ++ w.2)) else some (f ++ [e], w)
def cwList : CW → List Wd
  | none => []
  | some (f, e) => f ++ [e]
def wW (w : List Int) : Wd := (w.isEmpty, w)
theorem wdC_wW (w : List Int) : wdC (wW w) = wC w := rfl
def rpass1 (m : Mach) : List (List Int) → CW × List (List Int) → CW × List (List Int)
  | [], p => p
  | w :: r, (s, o) => if afterR m 0 w = 0 then rpass1 m r (putF true s (wW w), o) else rpass1 m r (s, o ++ [w])
def rpass2 : Bool → List (List Int) → CW → CW
  | _, [], s => s
  | j, w :: r, s => rpass2 false r (putF j s (wW w))
def refChains (m : Mach) (l : List (List Int)) : List Wd := cwList (rpass2 true (rpass1 m l (none, [])).2 (rpass1 m l (none, [])).1)
/-- What both keep of a list of chains. -/
def toCS (s : CW) : CS := s.map fun p => (p.1.map (·.2), p.2.2)
theorem toCS_put (j : Bool) (s : CW) (w : List Int) : toCS (putF j s (wW w)) = putO j (toCS s) w := by
  rcases s with _ | ⟨f, e⟩
  · rfl
  · by_cases h : (j && decide (e.2.length + w.length ≤ 256)) = true
    · have h1 : putF j (some (f, e)) (wW w) = some (f, (false, e.2 ++ w)) := if_pos h
      have h2 : putO j (toCS (some (f, e))) w = some (f.map (·.2), e.2 ++ w) := if_pos h
      rw [h1, h2]; rfl
    · have h1 : putF j (some (f, e)) (wW w) = some (f ++ [e], wW w) := if_neg h
      have h2 : putO j (toCS (some (f, e))) w = some (f.map (·.2) ++ [e.2], w) := if_neg h
      rw [h1, h2]; simp [toCS, wW]
theorem toCS_list (s : CW) : (cwList s).map (·.2) = csList (toCS s) := by
  rcases s with _ | ⟨f, e⟩
  · rfl
  · simp [cwList, csList, toCS]
theorem rpass1_eq (m : Mach) : ∀ (l : List (List Int)) (s : CW) (o : List (List Int)), toCS (rpass1 m l (s, o)).1 = (pass1 m l (toCS s, o)).1 ∧ (rpass1 m l (s, o)).2 = (pass1 m l (toCS s, o)).2
  | [], s, o => ⟨rfl, rfl⟩
  | w :: r, s, o => by
    rw [rpass1, pass1]
    split
    · rw [← toCS_put]; exact rpass1_eq m r _ o
    · exact rpass1_eq m r s _
theorem rpass2_eq : ∀ (l : List (List Int)) (j : Bool) (s : CW), toCS (rpass2 j l s) = pass2 j l (toCS s)
  | [], _, _ => rfl
  | w :: r, j, s => by rw [rpass2, pass2, rpass2_eq r, toCS_put]
theorem refChains_eq (m : Mach) (l : List (List Int)) : (refChains m l).map (·.2) = chainsL m l := by
  obtain ⟨h1, h2⟩ := rpass1_eq m l none []
  rw [refChains, chainsL, toCS_list, rpass2_eq, h1, h2]; rfl
theorem wdC_norefs (l : List Wd) (v : AV) (h : v.noref = true) : (l.map wdC ++ [[v]]).all AV.norefs = true := by rw [List.all_append, norefs_wds]; simp [AV.norefs, h]
theorem list_cons {α : Type} {l : List α} {i : Nat} {x : α} (h : l[i]? = some x) : l.drop i = x :: l.drop (i + 1) := list_step h

set_option maxHeartbeats 8000000 in
theorem refChains_is {m : Mach} (hv : Valid m) (ln : Bool) (l : List (List Int)) (lc : Cp) (hll : l.length < 1000000) (hw : ∀ w ∈ l, w.length ≤ 256 ∧ ∀ a ∈ w, 0 ≤ a ∧ a < m.ins) :
    PureIs prog 38 [.ag m.cells, .sl ln (l.map wC) lc] (.sl (refChains m l).isEmpty ((refChains m l).map wdC) .unk) := by
  refine PureIs.of (nv := 3) (hid := [4, 5, 6, 7, 8, 9, 10, 11, 15, 28, 37, 68, 93]) func38 rfl (by kernel_rfl) (by simp [ntmps38]) fun _ => ?_
  rw [ntmps38, results38]
  refine EvC.seq (EvC.rg (by (simp only [go_sem, Mach.cells]) <;> rfl) (by simp) ?_)
  refine EvC.frzB 0 (by (simp only [go_sem]) <;> rfl) ?_
  refine EvC.seq (EvC.rg (by (simp only [go_sem]) <;> rfl) (by simp) ?_)
  refine EvC.seq (EvC.rg (by (simp only [go_sem]) <;> rfl) (by simp) ?_)
  refine EvC.seq ?_
  refine EvC.seq (EvC.rg (by (simp only [go_sem]) <;> rfl) (by simp) ?_)
  refine EvC.thaw 2 (by (simp only [go_sem]) <;> rfl) ?_
  refine EvC.thaw 3 (by (simp only [go_sem]) <;> rfl) ?_
  refine EvC.block ?_  -- 0
  refine EvC.loopS (σ := Nat × CW × List (List Int)) (fun g => ⟨[(1, .sl ln (l.map wC) lc), (2, .ia m.cells), (5, .tl 0 (cwList g.2.1).length (cwList g.2.1).isEmpty), (6, .tl 1 g.2.2.length g.2.2.isEmpty), (7, .sc (.int .i64 g.1))], [], [(0, .arr 1 ((cwList g.2.1).map wdC) false), (1, .arr 1 (g.2.2.map wC) false)], 2⟩) (fun g => l.length - g.1)
    (fun g => g.1 ≤ l.length ∧ rpass1 m (l.drop g.1) g.2 = rpass1 m l (none, []) ∧ (cwList g.2.1).length ≤ g.1 ∧ g.2.2.length ≤ g.1 ∧ (∀ w ∈ g.2.2, w.length ≤ 256) ∧ (∀ w ∈ cwList g.2.1, w.2.length ≤ 256)) [1, 2, 5, 6, 7] 2 ?_ ?_
  · exact ⟨[(2, 0), (3, 1)], (0, none, []), rfl, (by (simp only [go_sem, Int.natCast_zero, cwList, Mach.cells]) <;> rfl), by simp [cwList]⟩
  rintro ⟨i, s, o⟩ ⟨hi, hinv, hsl, hol, how, hsw⟩
  simp only at hi hinv hsl hol how hsw
  refine EvC.seq ?_
  refine EvC.seq (EvC.rg (by (simp only [go_sem, List.length_map]) <;> rfl) (by simp) ?_)
  refine EvC.cond (by (simp only [go_sem]) <;> rfl) (fun hc => ?_) (fun hc => ?_)
  rotate_left
  · -- else
    refine EvC.exit ?_  -- 0
    obtain rfl : i = l.length := by have : ¬ (i : Int) < l.length := (by simpa using hc); omega
    clear hc
    have hS : rpass1 m l (none, []) = (s, o) := by rw [← hinv, List.drop_length]; rfl
    have hol2 : o.length < 1000000 := by omega
    unfold refChains
    rw [hS]
    simp only
    clear hinv hS
    refine EvC.seq ?_
    refine EvC.seq (EvC.rg (by (simp only [go_sem]) <;> rfl) (by simp) ?_)
    refine EvC.block ?_  -- 3
    refine EvC.loopS (σ := Nat × CW) (fun g => ⟨[(5, .tl 0 (cwList g.2).length (cwList g.2).isEmpty), (6, .tl 1 o.length o.isEmpty), (10, .sc (.int .i64 g.1))], [], [(0, .arr 1 ((cwList g.2).map wdC) false), (1, .arr 1 (o.map wC) false)], 2⟩) (fun g => o.length - g.1)
      (fun g => g.1 ≤ o.length ∧ rpass2 (decide (g.1 = 0)) (o.drop g.1) g.2 = rpass2 true o s ∧ (g.1 = 0 ∨ g.2 ≠ none) ∧ (cwList g.2).length ≤ 1000000 + g.1 ∧ (∀ w ∈ cwList g.2, w.2.length ≤ 256)) [5, 6, 10] 2 ?_ ?_
    · exact ⟨[(0, 0), (1, 1)], (0, s), rfl, (by (simp only [go_sem, Int.natCast_zero]) <;> rfl), Nat.zero_le _, rfl, .inl rfl, by simp only; omega, hsw⟩
    clear hsl hsw
    rintro ⟨k, z⟩ ⟨hk, hinv, hz, hsl, hsw⟩
    simp only at hk hinv hz hsl hsw
    refine EvC.seq ?_
    refine EvC.seq (EvC.rg (by (simp only [go_sem, List.length_map]) <;> rfl) (by simp) ?_)
    refine EvC.cond (by (simp only [go_sem]) <;> rfl) (fun hc => ?_) (fun hc => ?_)
    rotate_left
    · -- else
      refine EvC.exit ?_  -- 3
      obtain rfl : k = o.length := by have : ¬ (k : Int) < o.length := (by simpa using hc); omega
      rw [List.drop_length] at hinv
      rw [← hinv]
      simp only [rpass2]
      generalize cwList z = L
      refine EvC.frz 0 (by (simp only [go_sem, List.length_map]) <;> rfl) ?_
      refine EvC.seq (EvC.rg (by (simp only [go_sem]) <;> rfl) (by simp) ?_)
      refine EvC.ret ⟨.inl rfl, _, (by (simp only [go_sem]) <;> rfl), ?_, rfl⟩
      simp only [go_sem]
    have hkl : k < o.length := by have : (k : Int) < o.length := (by simpa using hc); omega
    clear hc
    have he : o[k]? = some (o[k]'hkl) := List.getElem?_eq_getElem hkl
    have hwl := how _ (List.getElem_mem hkl)
    generalize o[k]'hkl = w at he hwl
    rw [list_cons he, rpass2] at hinv
    have hin : (k : Int).toNat = k := Int.toNat_natCast k
    have hk1 : decide (k + 1 = 0) = false := decide_eq_false (by omega)
    refine EvC.skip ?_
    refine EvC.seq ?_
    refine EvC.block ?_  -- 4
    refine EvC.seq (EvC.rg (by (simp only [go_sem]) <;> rfl) (by simp) ?_)
    rcases z with _ | ⟨f, e⟩
    · -- the first chain
      obtain rfl : k = 0 := by simpa using hz
      have hkl0 : decide ((0 : Int) < (o.length : Int)) = true := decide_eq_true (by omega)
      have e1 : cwList none = [] := rfl
      have r1 : room 1 24 = true := by simp only [room_eq, decide_eq_true_eq]; omega
      have hinv : rpass2 false (o.drop (0 + 1)) (some ([], wW w)) = rpass2 true o s := hinv
      rw [e1, List.length_nil, List.map_nil, List.isEmpty_nil]
      apply EvC.seq
      apply EvC.drw mixed
      · apply Tr.run
        · (simp only [go_sem, he, wC, hkl0, Int.natCast_zero]) <;> rfl
        · simp
        apply Tr.cons
        · exact .skipv (.sl true [] .zer) rfl rfl (by (simp only [go_sem]) <;> rfl) (by (simp only [go_sem]) <;> rfl)
        apply Tr.done
        · (simp only [go_sem, he, wC, hkl0, Int.natCast_zero]) <;> rfl
        · simp
      · kernel_rfl
      refine EvC.cond_false (by (simp only [go_sem]) <;> rfl) ?_
      refine EvC.rg (by (simp only [go_sem, he, wC, hin, List.length_map, Int.natCast_zero, hkl0]) <;> rfl) (by simp [r1]; try omega) ?_
      refine EvC.rg (by (simp only [go_sem]) <;> rfl) (by exact inI64_of (by omega) (by omega)) ?_
      exact ⟨[(0, 0), (1, 1)], (0 + 1, some ([], wW w)), rfl, (by (simp only [go_sem, cwList, wW, wdC, Int.natCast_add, Int.natCast_one, Int.natCast_zero]) <;> rfl), ⟨hkl, hinv, .inr (by simp), by simp [cwList], by simp [cwList, wW]; exact hwl⟩, by simp only; omega⟩
    have hel : e.2.length ≤ 256 := hsw e (by simp [cwList])
    have hfw : ∀ v ∈ f, v.2.length ≤ 256 := fun v hv => hsw v (by simp [cwList, hv])
    obtain ⟨n, hn⟩ : ∃ n, (cwList (some (f, e))).length = n := ⟨_, rfl⟩
    have hnf : n = f.length + 1 := by rw [← hn]; simp [cwList]
    have hem : (cwList (some (f, e))).isEmpty = false := by simp [cwList]
    have hget : ((cwList (some (f, e))).map wdC)[f.length]? = some [.sl e.1 (e.2.map intC) .unk] := by simp [cwList, wdC]
    have happ : (cwList (some (f, e))).map wdC ++ [[.sl w.isEmpty (w.map intC) .unk]] = (cwList (some (f ++ [e], wW w))).map wdC := by simp [cwList, wdC, wW]
    have hset : ∀ v, ((cwList (some (f, e))).map wdC).set f.length [v] = f.map wdC ++ [[v]] := fun v => by
      rw [cwList, List.map_append, List.set_append_right _ _ (by simp), List.length_map, Nat.sub_self]; rfl
    rw [hn] at hsl
    rw [hn, hem]
    have hLl : ((cwList (some (f, e))).map wdC).length = n := by rw [List.length_map, hn]
    generalize (cwList (some (f, e))).map wdC = LL at hget happ hset hLl
    have d0 : decide ((0 : Int) < (n : Int)) = true := decide_eq_true (by omega)
    have hn1 : ((n : Int) - 1).toNat = f.length := by omega
    have hni : inI64 ((n : Int) - 1) = true := inI64_of (by omega) (by omega)
    have hsi : inI64 ((e.2.length : Int) + (w.length : Int)) = true := inI64_of (by omega) (by omega)
    have hcl2 : (cwList (some (f ++ [e], wW w))).length = n + 1 := by simp [cwList, hnf]
    have hce2 : (cwList (some (f ++ [e], wW w))).isEmpty = false := by simp [cwList]
    have hsw2 : ∀ v ∈ cwList (some (f ++ [e], wW w)), v.2.length ≤ 256 := fun v hv => by
      simp only [cwList, List.mem_append, List.mem_singleton] at hv
      rcases hv with (hv | rfl) | rfl
      · exact hfw v hv
      · exact hel
      · exact hwl
    have r1 : room (n + 1) 24 = true := by simp only [room_eq, decide_eq_true_eq]; omega
    by_cases hk0 : k = 0
    rotate_left
    · -- not the first one
      have dk : decide ((k : Int) = 0) = false := decide_eq_false (by omega)
      have hpf : putF (decide (k = 0)) (some (f, e)) (wW w) = some (f ++ [e], wW w) := by rw [decide_eq_false hk0]; rfl
      rw [hpf] at hinv
      apply EvC.seq
      apply EvC.drd mixed
      · (simp only [go_sem, dk, hn1, hget, he, wC, hin, List.length_map, hLl]) <;> rfl
      · simp [hni, hsi]; try omega
      · kernel_rfl
      refine EvC.cond_false (by (simp only [go_sem]) <;> rfl) ?_
      refine EvC.rg (by (simp only [go_sem, he, wC, hin, happ, hLl, List.length_map, hcl2, Int.natCast_zero]) <;> rfl) (by simp [r1]; try omega) ?_
      refine EvC.rg (by (simp only [go_sem]) <;> rfl) (by exact inI64_of (by omega) (by omega)) ?_
      exact ⟨[(0, 0), (1, 1)], (k + 1, some (f ++ [e], wW w)), rfl, (by (simp only [go_sem, hcl2, hce2, Int.natCast_add, Int.natCast_one, Int.natCast_zero]) <;> rfl), ⟨hkl, hinv, .inr (by simp), by simp only; omega, hsw2⟩, by simp only; omega⟩
    subst hk0
    have hin : (0 : Int).toNat = 0 := rfl
    by_cases hj : e.2.length + w.length ≤ 256
    rotate_left
    · -- another chain
      have d1 : decide ((e.2.length : Int) + (w.length : Int) ≤ 256) = false := decide_eq_false (by omega)
      have hpf : putF (decide (0 = 0)) (some (f, e)) (wW w) = some (f ++ [e], wW w) := if_neg (by show ¬ ((true && decide (e.2.length + w.length ≤ 256)) = true); rw [Bool.true_and, decide_eq_true_eq]; exact hj)
      rw [hpf] at hinv
      apply EvC.seq
      apply EvC.drd mixed
      · (simp only [go_sem, d0, hn1, hget, he, wC, hin, List.length_map, d1, hLl, Int.natCast_zero]) <;> rfl
      · simp [hni, hsi]; try omega
      · kernel_rfl
      refine EvC.cond_false (by (simp only [go_sem]) <;> rfl) ?_
      refine EvC.rg (by (simp only [go_sem, he, wC, hin, happ, hLl, List.length_map, hcl2, Int.natCast_zero]) <;> rfl) (by simp [r1]; try omega) ?_
      refine EvC.rg (by (simp only [go_sem]) <;> rfl) (by exact inI64_of (by omega) (by omega)) ?_
      exact ⟨[(0, 0), (1, 1)], (0 + 1, some (f ++ [e], wW w)), rfl, (by (simp only [go_sem, hcl2, hce2, Int.natCast_add, Int.natCast_one, Int.natCast_zero]) <;> rfl), ⟨hkl, hinv, .inr (by simp), by simp only; omega, hsw2⟩, by simp only; omega⟩
    have d1 : decide ((e.2.length : Int) + (w.length : Int) ≤ 256) = true := decide_eq_true (by omega)
    have hpf : putF (decide (0 = 0)) (some (f, e)) (wW w) = some (f, (false, e.2 ++ w)) := if_pos (by show (true && decide (e.2.length + w.length ≤ 256)) = true; rw [Bool.true_and, decide_eq_true_eq]; exact hj)
    rw [hpf] at hinv
    apply EvC.seq
    apply EvC.drd mixed
    · (simp only [go_sem, d0, hn1, hget, he, wC, hin, List.length_map, d1, hLl, Int.natCast_zero]) <;> rfl
    · simp [hni, hsi]; try omega
    · kernel_rfl
    refine EvC.cond_true (by (simp only [go_sem]) <;> rfl) ?_
    have hsn : e.2.map intC ++ w.map intC = (e.2 ++ w).map intC := by simp
    have hsl2 : e.2.length + w.length = (e.2 ++ w).length := by simp
    have hr1 : room e.2.length 8 = true := by simp only [room_eq, decide_eq_true_eq]; omega
    have hr2 : room (e.2.length + w.length) 8 = true := by simp only [room_eq, decide_eq_true_eq]; omega
    have hr3 : ∀ x ∈ e.2, (intC x).length = 1 := fun _ _ => rfl
    have hr4 : ∀ x ∈ w, (intC x).length = 1 := fun _ _ => rfl
    rw [hsl2] at hr2
    generalize hE : e.2 ++ w = E at hsn hsl2 hr2 hinv
    apply EvC.drd mixed
    · (simp only [go_sem, hn1, hget, he, wC, hin, hsn, hsl2, hLl, List.length_map, hset, Int.natCast_zero]) <;> rfl
    · simp [hr1, hr2, hni]; exact ⟨⟨by omega, by omega⟩, hr3, hkl, hr4, by omega, by omega⟩
    · kernel_rfl
    refine EvC.frz 39 (by (simp only [go_sem, List.length_map]) <;> rfl) ?_
    have hgl : (f.map wdC ++ [[AV.tl 39 E.length false]])[f.length]? = some [AV.tl 39 E.length false] := by rw [List.getElem?_append_right (by simp), List.length_map, Nat.sub_self]; rfl
    have hsl3 : ∀ v, (f.map wdC ++ [[v]]).set f.length [.sl false (E.map intC) .unk] = (cwList (some (f, (false, E)))).map wdC := fun v => by
      rw [List.set_append_right _ _ (by simp), List.length_map, Nat.sub_self]; simp [cwList, wdC]
    have hcl3 : (cwList (some (f, (false, E)))).length = n := by simp [cwList, hnf]
    have hce3 : (cwList (some (f, ((false, E) : Wd)))).isEmpty = false := by simp [cwList]
    refine EvC.snapE 0 f.length (by (simp only [go_sem, hgl, hsl3, List.length_map]) <;> rfl) ?_
    refine EvC.rg (by (simp only [go_sem]) <;> rfl) (by exact inI64_of (by omega) (by omega)) ?_
    exact ⟨[(0, 0), (1, 1)], (0 + 1, some (f, (false, E))), rfl, (by (simp only [go_sem, hcl3, hce3, Int.natCast_add, Int.natCast_one, Int.natCast_zero]) <;> rfl), ⟨hkl, hinv, .inr (by simp), by simp only; omega, fun v hv => by
      simp only [cwList, List.mem_append, List.mem_singleton] at hv
      rcases hv with hv | rfl
      · exact hfw v hv
      · rw [← hsl2]; exact hj⟩, by simp only; omega⟩
  have hil : i < l.length := by have : (i : Int) < l.length := by simpa using hc
                                omega
  clear hc
  have he : l[i]? = some (l[i]'hil) := List.getElem?_eq_getElem hil
  obtain ⟨hwl, hwm⟩ := hw _ (List.getElem_mem hil)
  generalize l[i]'hil = w at he hwl hwm
  rw [list_cons he, rpass1] at hinv
  have hin : (i : Int).toNat = i := Int.toNat_natCast i
  have q := after35_is hv w 0 w.isEmpty .unk (by have := hv.rows; omega) hwm (by omega)
  refine EvC.skip ?_
  refine EvC.seq ?_
  refine EvC.block ?_  -- 1
  refine EvC.seq (EvC.rg (by (simp only [go_sem, he, hin, wC, List.length_map]) <;> rfl) (by simp) ?_)
  refine EvC.seq (EvC.rg (by (simp only [go_sem, List.length_map]) <;> rfl) (by simp) ?_)
  refine EvC.block ?_  -- 2
  by_cases h0 : afterR m 0 w = 0
  rotate_left
  · -- put aside
    rw [if_neg h0] at hinv
    have s1 : o.map wC ++ [[.sl w.isEmpty (w.map intC) .unk]] = (o ++ [w]).map wC := by simp [wC]
    have l1 : o.length + 1 = (o ++ [w]).length := by simp
    have b1 : (o ++ [w]).isEmpty = false := by simp
    have r1 : room (o.length + 1) 24 = true := by simp only [room_eq, decide_eq_true_eq]; omega
    rw [l1] at r1
    generalize hO : o ++ [w] = O at hinv s1 l1 b1 r1
    apply EvC.seq
    apply EvC.tr
    · apply Tr.run
      · (simp only [go_sem, Mach.cells]) <;> rfl
      · simp
      apply Tr.cons
      · exact .call rfl rfl (by (simp only [go_sem]) <;> rfl) (by (simp only [go_sem]) <;> rfl) (by (simp only [go_sem]) <;> rfl) (by (simp only [go_sem]) <;> rfl) (by (simp only [go_sem]) <;> rfl) (q)
      apply Tr.done
      · (simp only [go_sem]) <;> rfl
      · simp
    refine EvC.cond_true (by (simp only [go_sem, decide_eq_false h0]) <;> rfl) ?_
    refine EvC.rg (by (simp only [go_sem, s1, l1, List.length_map]) <;> rfl) (by simp [r1]) ?_
    refine EvC.rg (by (simp only [go_sem]) <;> rfl) (by exact inI64_of (by omega) (by omega)) ?_
    exact ⟨[(0, 0), (1, 1)], (i + 1, s, O), rfl, (by (simp only [go_sem, b1, Int.natCast_add, Int.natCast_one, Mach.cells]) <;> rfl), ⟨hil, hinv, by simp only; omega, by simp only; omega, fun v hv => by
      rw [← hO] at hv
      rcases List.mem_append.1 hv with hv | hv
      · exact how v hv
      · rw [List.mem_singleton.1 hv]; exact hwl, hsw⟩, by simp only; omega⟩
  rw [if_pos h0] at hinv
  rcases s with _ | ⟨f, e⟩
  · -- the first chain
    have hinv : rpass1 m (l.drop (i + 1)) (some ([], wW w), o) = rpass1 m l (none, []) := hinv
    have e1 : cwList none = [] := rfl
    have r1 : room 1 24 = true := by simp only [room_eq, decide_eq_true_eq]; omega
    rw [e1, List.length_nil, List.map_nil, List.isEmpty_nil]
    apply EvC.seq
    apply EvC.tr
    · apply Tr.run
      · (simp only [go_sem, Mach.cells]) <;> rfl
      · simp
      apply Tr.cons
      · exact .call rfl rfl (by (simp only [go_sem]) <;> rfl) (by (simp only [go_sem]) <;> rfl) (by (simp only [go_sem]) <;> rfl) (by (simp only [go_sem]) <;> rfl) (by (simp only [go_sem]) <;> rfl) (q)
      apply Tr.done
      · (simp only [go_sem]) <;> rfl
      · simp
    refine EvC.cond_false (by (simp only [go_sem, decide_eq_true h0]) <;> rfl) ?_
    apply EvC.seq
    apply EvC.tr
    · apply Tr.run
      · (simp only [go_sem, Int.natCast_zero]) <;> rfl
      · simp
      apply Tr.cons
      · exact .skipv (.sl true [] .zer) rfl rfl (by (simp only [go_sem]) <;> rfl) (by (simp only [go_sem]) <;> rfl)
      apply Tr.done
      · (simp only [go_sem, Int.natCast_zero]) <;> rfl
      · simp
    refine EvC.cond_false (by (simp only [go_sem]) <;> rfl) ?_
    refine EvC.rg (by (simp only [go_sem, wdC, wW]) <;> rfl) (by simp [r1]) ?_
    refine EvC.rg (by (simp only [go_sem]) <;> rfl) (by exact inI64_of (by omega) (by omega)) ?_
    exact ⟨[(0, 0), (1, 1)], (i + 1, some ([], wW w), o), rfl, (by (simp only [go_sem, cwList, wW, wdC, Int.natCast_add, Int.natCast_one, Mach.cells]) <;> rfl), ⟨hil, hinv, by simp [cwList], by simp only; omega, how, by simp [cwList, wW]; exact hwl⟩, by simp only; omega⟩
  have hel : e.2.length ≤ 256 := hsw e (by simp [cwList])
  have hfw : ∀ v ∈ f, v.2.length ≤ 256 := fun v hv => hsw v (by simp [cwList, hv])
  obtain ⟨n, hn⟩ : ∃ n, (cwList (some (f, e))).length = n := ⟨_, rfl⟩
  have hnf : n = f.length + 1 := by rw [← hn]; simp [cwList]
  have hem : (cwList (some (f, e))).isEmpty = false := by simp [cwList]
  have hget : ((cwList (some (f, e))).map wdC)[f.length]? = some [.sl e.1 (e.2.map intC) .unk] := by simp [cwList, wdC]
  have happ : (cwList (some (f, e))).map wdC ++ [[.sl w.isEmpty (w.map intC) .unk]] = (cwList (some (f ++ [e], wW w))).map wdC := by simp [cwList, wdC, wW]
  have hset : ∀ v, ((cwList (some (f, e))).map wdC).set f.length [v] = f.map wdC ++ [[v]] := fun v => by
    rw [cwList, List.map_append, List.set_append_right _ _ (by simp), List.length_map, Nat.sub_self]; rfl
  rw [hn] at hsl
  rw [hn, hem]
  have hLl : ((cwList (some (f, e))).map wdC).length = n := by rw [List.length_map, hn]
  generalize (cwList (some (f, e))).map wdC = LL at hget happ hset hLl
  have d0 : decide ((0 : Int) < (n : Int)) = true := decide_eq_true (by omega)
  have hn1 : ((n : Int) - 1).toNat = f.length := by omega
  have hni : inI64 ((n : Int) - 1) = true := inI64_of (by omega) (by omega)
  have hsi : inI64 ((e.2.length : Int) + (w.length : Int)) = true := inI64_of (by omega) (by omega)
  apply EvC.seq
  apply EvC.tr
  · apply Tr.run
    · (simp only [go_sem, Mach.cells]) <;> rfl
    · simp
    apply Tr.cons
    · exact .call rfl rfl (by (simp only [go_sem]) <;> rfl) (by (simp only [go_sem]) <;> rfl) (by (simp only [go_sem]) <;> rfl) (by (simp only [go_sem]) <;> rfl) (by (simp only [go_sem]) <;> rfl) (q)
    apply Tr.done
    · (simp only [go_sem]) <;> rfl
    · simp
  refine EvC.cond_false (by (simp only [go_sem, decide_eq_true h0]) <;> rfl) ?_
  by_cases hj : e.2.length + w.length ≤ 256
  rotate_left
  · -- another chain
    have d1 : decide ((e.2.length : Int) + (w.length : Int) ≤ 256) = false := decide_eq_false (by omega)
    have hpf : putF true (some (f, e)) (wW w) = some (f ++ [e], wW w) := if_neg (by show ¬ ((true && decide (e.2.length + w.length ≤ 256)) = true); rw [Bool.true_and, decide_eq_true_eq]; exact hj)
    rw [hpf] at hinv
    apply EvC.seq
    apply EvC.trd
    · (simp only [go_sem, d0, hn1, hget, List.length_map, d1, hLl]) <;> rfl
    · simp [hni, hsi]; exact ⟨by omega, by omega⟩
    refine EvC.cond_false (by (simp only [go_sem]) <;> rfl) ?_
    have r1 : room (n + 1) 24 = true := by simp only [room_eq, decide_eq_true_eq]; omega
    have hcl2 : (cwList (some (f ++ [e], wW w))).length = n + 1 := by simp [cwList, hnf]
    have hce2 : (cwList (some (f ++ [e], wW w))).isEmpty = false := by simp [cwList]
    refine EvC.rg (by (simp only [go_sem, happ, hLl, List.length_map, hcl2]) <;> rfl) (by simp [r1]) ?_
    refine EvC.rg (by (simp only [go_sem]) <;> rfl) (by exact inI64_of (by omega) (by omega)) ?_
    exact ⟨[(0, 0), (1, 1)], (i + 1, some (f ++ [e], wW w), o), rfl, (by (simp only [go_sem, hcl2, hce2, Int.natCast_add, Int.natCast_one, Mach.cells]) <;> rfl), ⟨hil, hinv, by simp only; omega, by simp only; omega, how, fun v hv => by
      simp only [cwList, List.mem_append, List.mem_singleton] at hv
      rcases hv with (hv | rfl) | rfl
      · exact hfw v hv
      · exact hel
      · exact hwl⟩, by simp only; omega⟩
  have d1 : decide ((e.2.length : Int) + (w.length : Int) ≤ 256) = true := decide_eq_true (by omega)
  have hpf : putF true (some (f, e)) (wW w) = some (f, (false, e.2 ++ w)) := if_pos (by show (true && decide (e.2.length + w.length ≤ 256)) = true; rw [Bool.true_and, decide_eq_true_eq]; exact hj)
  rw [hpf] at hinv
  apply EvC.seq
  apply EvC.trd
  · (simp only [go_sem, d0, hn1, hget, List.length_map, d1, hLl]) <;> rfl
  · simp [hni, hsi]; exact ⟨by omega, by omega⟩
  refine EvC.cond_true (by (simp only [go_sem]) <;> rfl) ?_
  have hsn : e.2.map intC ++ w.map intC = (e.2 ++ w).map intC := by simp
  have hsl2 : e.2.length + w.length = (e.2 ++ w).length := by simp
  have hr1 : room e.2.length 8 = true := by simp only [room_eq, decide_eq_true_eq]; omega
  have hr2 : room (e.2.length + w.length) 8 = true := by simp only [room_eq, decide_eq_true_eq]; omega
  have hr3 : ∀ x ∈ e.2, (intC x).length = 1 := fun _ _ => rfl
  have hr4 : ∀ x ∈ w, (intC x).length = 1 := fun _ _ => rfl
  rw [hsl2] at hr2
  generalize hE : e.2 ++ w = E at hsn hsl2 hr2 hinv
  refine EvC.rg (by (simp only [go_sem, hn1, hget, hsn, hsl2, hLl, List.length_map, hset]) <;> rfl) (by simp [hr1, hr2, hni]; exact ⟨⟨⟨⟨by omega, by omega⟩, hr3⟩, hr4⟩, by omega, by omega⟩) ?_
  refine EvC.frz 43 (by (simp only [go_sem, List.length_map]) <;> rfl) ?_
  have hgl : (f.map wdC ++ [[AV.tl 43 E.length false]])[f.length]? = some [AV.tl 43 E.length false] := by rw [List.getElem?_append_right (by simp), List.length_map, Nat.sub_self]; rfl
  have hsl3 : ∀ v, (f.map wdC ++ [[v]]).set f.length [.sl false (E.map intC) .unk] = (cwList (some (f, (false, E)))).map wdC := fun v => by
    rw [List.set_append_right _ _ (by simp), List.length_map, Nat.sub_self]; simp [cwList, wdC]
  have hcl3 : (cwList (some (f, (false, E)))).length = n := by simp [cwList, hnf]
  have hce3 : (cwList (some (f, ((false, E) : Wd)))).isEmpty = false := by simp [cwList]
  refine EvC.snapE 0 f.length (by (simp only [go_sem, hgl, hsl3, List.length_map]) <;> rfl) ?_
  refine EvC.rg (by (simp only [go_sem]) <;> rfl) (by exact inI64_of (by omega) (by omega)) ?_
  exact ⟨[(0, 0), (1, 1)], (i + 1, some (f, (false, E)), o), rfl, (by (simp only [go_sem, hcl3, hce3, Int.natCast_add, Int.natCast_one, Mach.cells]) <;> rfl), ⟨hil, hinv, by simp only; omega, by simp only; omega, how, fun v hv => by
    simp only [cwList, List.mem_append, List.mem_singleton] at hv
    rcases hv with hv | rfl
    · exact hfw v hv
    · rw [← hsl2]; exact hj⟩, by simp only; omega⟩
end Go.Avl
namespace Go.Avl
open Go Go.Proofs.Tryd
set_option maxRecDepth 10000
set_option linter.unusedSimpArgs false

/-! ### What the chains are, where the words are short -/
def homeB (m : Mach) (w : List Int) : Bool := decide (afterR m 0 w = 0)
def homesL (m : Mach) (l : List (List Int)) : List (List Int) := l.filter (homeB m)
def othersL (m : Mach) (l : List (List Int)) : List (List Int) := l.filter fun w => !homeB m w
def totL : List (List Int) → Nat
  | [] => 0
  | w :: r => w.length + totL r
theorem totL_flat : ∀ (l : List (List Int)), totL l = l.flatten.length
  | [] => rfl
  | w :: r => by rw [totL, totL_flat r, List.flatten_cons, List.length_append]
theorem afterR_app (m : Mach) : ∀ (a b : List Int) (s : Int), afterR m s (a ++ b) = afterR m (afterR m s a) b
  | [], _, _ => rfl
  | x :: a, b, s => by rw [List.cons_append, afterR, afterR, afterR_app m a b]
theorem after_homes {m : Mach} : ∀ {l : List (List Int)}, (∀ w ∈ l, homeB m w = true) → afterR m 0 l.flatten = 0
  | [], _ => rfl
  | w :: r, h => by
    have h1 : afterR m 0 w = 0 := of_decide_eq_true (h w (List.mem_cons_self ..))
    rw [List.flatten_cons, afterR_app, h1]
    exact after_homes fun v hv => h v (List.mem_cons_of_mem _ hv)
theorem pass1_others (m : Mach) : ∀ (l : List (List Int)) (s : CS) (o : List (List Int)), (pass1 m l (s, o)).2 = o ++ othersL m l
  | [], s, o => by simp [pass1, othersL]
  | w :: r, s, o => by
    rw [pass1]
    by_cases h : afterR m 0 w = 0
    · rw [if_pos h, pass1_others m r]; simp [othersL, homeB, h]
    · rw [if_neg h, pass1_others m r]; simp [othersL, homeB, h]
theorem pass1_some (m : Mach) : ∀ (l : List (List Int)) (e : List Int) (o : List (List Int)), e.length + totL l ≤ 256 → (pass1 m l (some ([], e), o)).1 = some ([], e ++ (homesL m l).flatten)
  | [], e, o, _ => by simp [pass1, homesL]
  | w :: r, e, o, hl => by
    rw [totL] at hl
    rw [pass1]
    by_cases h : afterR m 0 w = 0
    · have hp : putO true (some ([], e)) w = some ([], e ++ w) := by
        rw [putO, if_pos (by rw [Bool.true_and, decide_eq_true_eq]; omega)]
      rw [if_pos h, hp, pass1_some m r _ _ (by rw [List.length_append]; omega)]
      simp [homesL, homeB, h]
    · rw [if_neg h, pass1_some m r _ _ (by omega)]; simp [homesL, homeB, h]
theorem pass1_none (m : Mach) : ∀ (l : List (List Int)) (o : List (List Int)), totL l ≤ 256 → (pass1 m l (none, o)).1 = if (homesL m l).isEmpty = true then none else some ([], (homesL m l).flatten)
  | [], o, _ => by simp [pass1, homesL]
  | w :: r, o, hl => by
    rw [totL] at hl
    rw [pass1]
    by_cases h : afterR m 0 w = 0
    · have hp : putO true none w = some ([], w) := rfl
      rw [if_pos h, hp, pass1_some m r _ _ (by omega)]
      simp [homesL, homeB, h]
    · rw [if_neg h, pass1_none m r _ (by omega)]; simp [homesL, homeB, h]
theorem pass2_false : ∀ (r : List (List Int)) (f : List (List Int)) (e : List Int), csList (pass2 false r (some (f, e))) = f ++ e :: r
  | [], f, e => by simp [pass2, csList]
  | w :: r, f, e => by
    have hp : putO false (some (f, e)) w = some (f ++ [e], w) := by rw [putO, if_neg (by simp)]
    rw [pass2, hp, pass2_false r]; simp
theorem tot_part (m : Mach) : ∀ l : List (List Int), totL (homesL m l) + totL (othersL m l) = totL l
  | [] => rfl
  | w :: r => by
    have := tot_part m r
    by_cases h : homeB m w = true
    · simp only [homesL, othersL, List.filter_cons, h, Bool.not_true, if_true, if_false, totL, Bool.false_eq_true] at this ⊢
      omega
    · rw [Bool.not_eq_true] at h
      simp only [homesL, othersL, List.filter_cons, h, Bool.not_false, if_true, if_false, totL, Bool.false_eq_true] at this ⊢
      omega
theorem chainsL_eq {m : Mach} {l : List (List Int)} (hl : totL l ≤ 256) : chainsL m l = if l.isEmpty = true then [] else ((homesL m l).flatten ++ (othersL m l).headD []) :: (othersL m l).tail := by
  have ht := tot_part m l
  have hfl := totL_flat (homesL m l)
  have hle : ∀ x : List Int, l.isEmpty = true → homesL m l = [] ∧ othersL m l = [] := fun _ h => by
    rw [List.isEmpty_iff] at h; subst h; exact ⟨rfl, rfl⟩
  rw [chainsL, pass1_none m l [] hl, pass1_others, List.nil_append]
  by_cases h1 : (homesL m l).isEmpty = true
  · rw [if_pos h1]
    have h1' := List.isEmpty_iff.1 h1
    cases ho : othersL m l with
    | nil =>
      have : l = [] := by
        cases l with
        | nil => rfl
        | cons w r =>
          exfalso
          have hm : w ∈ homesL m (w :: r) ∨ w ∈ othersL m (w :: r) := by
            by_cases h : homeB m w = true
            · exact .inl (List.mem_filter.2 ⟨List.mem_cons_self .., h⟩)
            · exact .inr (List.mem_filter.2 ⟨List.mem_cons_self .., by simpa using h⟩)
          rw [h1', ho] at hm
          simp at hm
      rw [if_pos (by rw [this]; rfl)]; rfl
    | cons w r =>
      have : ¬ l.isEmpty = true := fun h => by have := (hle [] h).2; rw [ho] at this; cases this
      rw [if_neg this, h1']
      have hp : putO true none w = some ([], w) := rfl
      rw [pass2, hp, pass2_false]; rfl
  · rw [if_neg h1]
    have hne : ¬ l.isEmpty = true := fun h => h1 (by rw [(hle [] h).1]; rfl)
    rw [if_neg hne]
    cases ho : othersL m l with
    | nil => simp [pass2, csList]
    | cons w r =>
      rw [ho, totL] at ht
      have hp : putO true (some ([], (homesL m l).flatten)) w = some ([], (homesL m l).flatten ++ w) := by
        rw [putO, if_pos (by rw [Bool.true_and, decide_eq_true_eq]; omega)]
      rw [pass2, hp, pass2_false]; rfl
theorem chainsL_len {m : Mach} {l : List (List Int)} (hl : totL l ≤ 256) : (chainsL m l).length = max (othersL m l).length (min l.length 1) := by
  rw [chainsL_eq hl]
  cases l with
  | nil => rfl
  | cons w r =>
    simp only [List.isEmpty_cons, Bool.false_eq_true, if_false, List.length_cons, List.length_tail]
    omega
/-- A word stands in a chain at a place, and what stands ahead of it leads back to the initial state. -/
def hitB (m : Mach) (c w : List Int) (a : Nat) : Bool := decide ((c.drop a).take w.length = w) && decide (afterR m 0 (c.take a) = 0)
def hitN (m : Mach) (c w : List Int) : Nat → Bool
  | 0 => false
  | n + 1 => hitN m c w n || hitB m c w n
def thereN (m : Mach) (cs : List (List Int)) (w : List Int) : Nat → Bool
  | 0 => false
  | k + 1 => thereN m cs w k || ((cs[k]?).map fun c => hitN m c w (c.length + 1 - w.length)).getD false
theorem hitN_of {m : Mach} {c w : List Int} {a : Nat} (h : hitB m c w a = true) : ∀ {n : Nat}, a < n → hitN m c w n = true
  | n + 1, hn => by
    rw [hitN]
    rcases Nat.lt_or_ge a n with h1 | h1
    · rw [hitN_of h h1, Bool.true_or]
    · rw [show n = a by omega, h, Bool.or_true]
theorem thereN_of {m : Mach} {cs : List (List Int)} {c w : List Int} {k : Nat} (hk : cs[k]? = some c) {a : Nat} (h : hitB m c w a = true) (ha : a + w.length ≤ c.length) : ∀ {n : Nat}, k < n → thereN m cs w n = true
  | n + 1, hn => by
    rw [thereN]
    rcases Nat.lt_or_ge k n with h1 | h1
    · rw [thereN_of hk h ha h1, Bool.true_or]
    · rw [show n = k by omega, hk, Option.map_some, Option.getD_some, hitN_of h (by omega), Bool.or_true]
theorem hitB_mid {m : Mach} {c a w b : List Int} (hc : c = a ++ w ++ b) (ha : afterR m 0 a = 0) : hitB m c w a.length = true ∧ a.length + w.length ≤ c.length := by
  subst hc
  refine ⟨?_, by simp⟩
  unfold hitB
  rw [Bool.and_eq_true, decide_eq_true_eq, decide_eq_true_eq, List.append_assoc]
  exact ⟨by simp, by simpa using ha⟩
theorem chains_there {m : Mach} {l : List (List Int)} (hl : totL l ≤ 256) {w : List Int} (hw : w ∈ l) : thereN m (chainsL m l) w (chainsL m l).length = true := by
  have hne : ¬ l.isEmpty = true := fun h => by rw [List.isEmpty_iff] at h; rw [h] at hw; cases hw
  have hhs : ∀ v ∈ homesL m l, homeB m v = true := fun v hv => (List.mem_filter.1 hv).2
  rw [chainsL_eq hl, if_neg hne]
  by_cases h : homeB m w = true
  · have hm : w ∈ homesL m l := List.mem_filter.2 ⟨hw, h⟩
    obtain ⟨a, b, hab⟩ := List.append_of_mem hm
    have e : (homesL m l).flatten ++ (othersL m l).headD [] = a.flatten ++ w ++ (b.flatten ++ (othersL m l).headD []) := by rw [hab]; simp
    obtain ⟨h1, h2⟩ := hitB_mid (m := m) e (after_homes fun v hv => hhs v (by rw [hab]; simp [hv]))
    exact thereN_of (k := 0) rfl h1 h2 (by simp)
  · have hm : w ∈ othersL m l := List.mem_filter.2 ⟨hw, by simpa using h⟩
    cases ho : othersL m l with
    | nil => rw [ho] at hm; cases hm
    | cons v r =>
      rw [ho] at hm
      rcases List.mem_cons.1 hm with rfl | hm
      · obtain ⟨h1, h2⟩ := hitB_mid (m := m) (c := (homesL m l).flatten ++ w) (a := (homesL m l).flatten) (w := w) (b := []) (by simp) (after_homes hhs)
        exact thereN_of (k := 0) rfl h1 h2 (by simp)
      · obtain ⟨k, hk, he⟩ := List.getElem_of_mem hm
        obtain ⟨h1, h2⟩ := hitB_mid (m := m) (c := w) (a := []) (w := w) (b := []) (by simp) rfl
        refine thereN_of (k := k + 1) (c := w) ?_ h1 h2 ?_
        · simp only [List.tail_cons, List.getElem?_cons_succ, List.getElem?_eq_getElem hk, he]
        · simp; omega
/-- Symbols of the chains are those of the words. -/
theorem chainsL_mem {m : Mach} {l : List (List Int)} (hl : totL l ≤ 256) {c : List Int} (hc : c ∈ chainsL m l) : ∀ a ∈ c, ∃ w ∈ l, a ∈ w := by
  rw [chainsL_eq hl] at hc
  split at hc
  · cases hc
  have hh : ∀ w ∈ homesL m l, w ∈ l := fun w h => (List.mem_filter.1 h).1
  have ho : ∀ w ∈ othersL m l, w ∈ l := fun w h => (List.mem_filter.1 h).1
  intro a ha
  rcases List.mem_cons.1 hc with rfl | hc
  · rcases List.mem_append.1 ha with ha | ha
    · obtain ⟨w, hw, haw⟩ := List.mem_flatten.1 ha
      exact ⟨w, hh w hw, haw⟩
    · cases hol : othersL m l with
      | nil => rw [hol] at ha; cases ha
      | cons v r =>
        rw [hol] at ha
        exact ⟨v, ho v (by rw [hol]; exact List.mem_cons_self ..), ha⟩
  · exact ⟨c, ho c (List.mem_of_mem_tail hc), ha⟩
theorem chainsL_small {m : Mach} {l : List (List Int)} (hl : totL l ≤ 256) {c : List Int} (hc : c ∈ chainsL m l) : c.length ≤ 256 := by
  rw [chainsL_eq hl] at hc
  have ht := tot_part m l
  have hf := totL_flat (homesL m l)
  split at hc
  · cases hc
  rcases List.mem_cons.1 hc with rfl | hc
  · cases hol : othersL m l with
    | nil => rw [List.headD_nil, List.append_nil]; omega
    | cons v r => rw [hol, totL] at ht; rw [List.headD_cons, List.length_append]; omega
  · have hm : ∀ {L : List (List Int)} {c : List Int}, c ∈ L → c.length ≤ totL L := fun {L c} => by
      intro h
      induction L with
      | nil => cases h
      | cons x r ih =>
        rw [totL]
        rcases List.mem_cons.1 h with rfl | h
        · omega
        · have := ih h; omega
    have := hm (List.mem_of_mem_tail hc)
    omega
end Go.Avl
namespace Go.Avl
open Go Go.Proofs.Tryd
set_option maxRecDepth 10000
set_option linter.unusedSimpArgs false

theorem LM.valid {x : LM} (h : x.Ok) : Valid x.mach := by
  obtain ⟨b1, b2, b3, b4, b5, b6, -, -⟩ := LM.bounds h
  have hl : x.mach.rows.length = x.n := by simp [LM.mach]
  refine ⟨⟨by show (1 : Int) ≤ x.i; omega, by show (x.i : Int) ≤ 16; omega⟩, ⟨b5, by show x.o ≤ 16; omega⟩, by rw [hl]; omega, fun r hr => ?_⟩
  rw [hl]
  simp only [LM.mach, List.mem_map, List.mem_range] at hr ⊢
  obtain ⟨s, hs, rfl⟩ := hr
  refine ⟨by simp [LM.row], fun e he => ?_⟩
  simp only [LM.row, List.mem_map, List.mem_range] at he
  obtain ⟨i, hi, rfl⟩ := he
  obtain ⟨v1, v2⟩ := LM.v_ok h s i
  unfold LM.edge
  split
  · simp [fitsR]
  · have h1 := Int.emod_nonneg (x.v s i / 4) (b := x.n) (by omega)
    have h2 := Int.emod_lt_of_pos (x.v s i / 4) (b := x.n) (by omega)
    have h3 := Int.emod_nonneg (x.v s i / 4 / x.n) (b := x.o) (by omega)
    have h4 := Int.emod_lt_of_pos (x.v s i / 4 / x.n) (b := x.o) (by omega)
    simp [fitsR, h1, h2, h3, h4]
theorem wordErr_ok {n : Int} (hn : 1 ≤ n ∧ n ≤ 16) {w : List Int} (hl : w.length ≤ 256) (h : ∀ a ∈ w, 0 ≤ a ∧ a < n) : wordErr n w = 0 := wordErr_of hn hl h
theorem wordsErr_of {n : Int} : ∀ {l : List Wd}, (∀ w ∈ l, wordErr n w.2 = 0) → wordsErr n l = 0
  | [], _ => rfl
  | w :: r, h => by
    rw [wordsErr, if_pos (h w (List.mem_cons_self ..))]
    exact wordsErr_of fun v hv => h v (List.mem_cons_of_mem _ hv)
/-- Words by bytes, the first k of them. -/
def wbR (x : Bool × List Int) : List AV := [.sl x.1 (x.2.map u8C) .unk]
def wordsTo (ws : List (Bool × List Int)) (n : Int) (most k : Nat) : List (List Int) := (ws.take k).map fun x => wordOf x.2 n most
theorem wordsTo_len (ws : List (Bool × List Int)) (n : Int) (most k : Nat) : (wordsTo ws n most k).length ≤ k := by simp only [wordsTo, List.length_map, List.length_take]; omega
theorem wordsTo_mem {ws : List (Bool × List Int)} {n : Int} {most k : Nat} (hn : 1 ≤ n) {w : List Int} (hw : w ∈ wordsTo ws n most k) : w.length ≤ most ∧ ∀ a ∈ w, 0 ≤ a ∧ a < n := by
  obtain ⟨x, _, rfl⟩ := List.mem_map.1 hw
  exact ⟨wordOf_len _ _ _, wordOf_in hn⟩
theorem totL_le {most : Nat} : ∀ {l : List (List Int)}, (∀ w ∈ l, w.length ≤ most) → totL l ≤ most * l.length
  | [], _ => Nat.zero_le _
  | w :: r, h => by
    have h1 := h w (List.mem_cons_self ..)
    have h2 := totL_le fun v hv => h v (List.mem_cons_of_mem _ hv)
    rw [totL, List.length_cons, Nat.mul_succ]; omega
theorem othersL_snoc (m : Mach) (l : List (List Int)) (w : List Int) : othersL m (l ++ [w]) = if afterR m 0 w = 0 then othersL m l else othersL m l ++ [w] := by
  unfold othersL
  rw [List.filter_append]
  by_cases h : afterR m 0 w = 0
  · rw [if_pos h]; simp [homeB, h]
  · rw [if_neg h]; simp [homeB, h]
def chD' (w : List Int) : List AV := [.sl w.isEmpty (w.map intC) .full]
set_option maxHeartbeats 8000000 in
theorem plansChains_is {x : LM} (hx : x.Ok) (wn : Bool) (ws : List (Bool × List Int)) (wc : Cp) (hws : ∀ y ∈ ws, ∀ e ∈ y.2, 0 ≤ e ∧ e < 256) :
    PureIs prog 9 [.ag x.cells, .sl wn (ws.map wbR) wc] (.sc (.bool true)) := by
  have va := LM.valid hx
  obtain ⟨m, hm⟩ : ∃ m, m = x.mach := ⟨_, rfl⟩
  rw [← hm] at va
  have hA : PureIs prog 34 [.ag [.sc (.int .u8 x.st), .sc (.int .u8 x.ins), .sc (.int .u8 x.outs), .sc (.bool x.part), .sl x.nl (x.es.map u16C) x.cap]] (.ag [.sc (.int .i64 m.ins), .sc (.int .i64 m.outs), .sl m.nl (m.rows.map rowC) .unk]) := by
    have := mOf_is hx; rw [← hm] at this; exact this
  have hmr := va.rows
  have hmi := va.ins
  refine PureIs.of (nv := 3) (hid := [4, 5, 6, 7, 8, 9, 10, 11, 12, 13, 14, 15, 25, 42, 77, 81, 87, 102, 138]) func9 rfl (by kernel_rfl) (by simp [ntmps9]) fun _ => ?_
  rw [ntmps9, results9]
  refine EvC.seq (EvC.rg (by (simp only [go_sem, LM.cells]) <;> rfl) (by simp) ?_)
  apply EvC.seq
  apply EvC.tr
  · apply Tr.run
    · (simp only [go_sem]) <;> rfl
    · simp
    apply Tr.cons
    · exact .call rfl rfl (by (simp only [go_sem]) <;> rfl) (by (simp only [go_sem]) <;> rfl) (by (simp only [go_sem]) <;> rfl) (by (simp only [go_sem]) <;> rfl) (by (simp only [go_sem]) <;> rfl) (hA)
    apply Tr.done
    · (simp only [go_sem]) <;> rfl
    · simp
  refine EvC.frzB 4 (by (simp only [go_sem]) <;> rfl) ?_
  refine EvC.seq (EvC.rg (by (simp only [go_sem]) <;> rfl) (by simp) ?_)
  refine EvC.seq (EvC.rg (by (simp only [go_sem]) <;> rfl) (by simp) ?_)
  refine EvC.seq ?_
  refine EvC.seq (EvC.rg (by (simp only [go_sem]) <;> rfl) (by simp) ?_)
  refine EvC.thaw 6 (by (simp only [go_sem]) <;> rfl) ?_
  refine EvC.block ?_  -- 0
  refine EvC.loopS (σ := Nat) (fun i => ⟨[(1, .sl wn (ws.map wbR) wc), (5, .ia m.cells), (6, .tl 0 (wordsTo ws m.ins 10 i).length (wordsTo ws m.ins 10 i).isEmpty), (7, .sc (.int .i64 (othersL m (wordsTo ws m.ins 10 i)).length)), (8, .sc (.int .i64 i))], [], [(0, .arr 1 ((wordsTo ws m.ins 10 i).map wC) false)], 1⟩) (fun i => ws.length - i) (fun i => i ≤ ws.length ∧ i ≤ 20) [1, 5, 6, 7, 8] 1 ?_ ?_
  · exact ⟨[(6, 0)], 0, rfl, (by (simp only [go_sem, Int.natCast_zero, wordsTo, List.take_zero, List.map_nil, List.length_nil, List.isEmpty_nil, othersL, List.filter_nil, Mach.cells]) <;> rfl), Nat.zero_le _, Nat.zero_le _⟩
  rintro i ⟨h1, h2⟩
  refine EvC.seq ?_
  by_cases hend : i < ws.length ∧ i < 20
  rotate_left
  · -- else
    have hcf : (if decide ((i : Int) < ws.length) = true then decide ((i : Int) < 20) else false) = false := by
      by_cases h : i < ws.length
      · rw [decide_eq_true (show (i : Int) < ws.length by omega), if_pos rfl]; exact decide_eq_false (by omega)
      · rw [decide_eq_false (show ¬ (i : Int) < ws.length by omega)]; rfl
    have hl20 := wordsTo_len ws m.ins 10 i
    have hlm : ∀ w ∈ wordsTo ws m.ins 10 i, w.length ≤ 10 ∧ ∀ a ∈ w, 0 ≤ a ∧ a < m.ins := fun w hw => wordsTo_mem hmi.1 hw
    generalize wordsTo ws m.ins 10 i = L at hl20 hlm
    apply EvC.seq
    apply EvC.trd
    · (simp only [go_sem, List.length_map]) <;> rfl
    · simp
    refine EvC.cond_false (by (simp only [go_sem, hcf]) <;> rfl) ?_
    refine EvC.exit ?_  -- 0
    have ht200 : totL L ≤ 200 := by
      have := totL_le fun w hw => (hlm w hw).1
      omega
    have hck := checkM_of va
    have hLw : ∀ w ∈ L, w.length < 1000000 := fun w hw => by have := (hlm w hw).1; omega
    have p1 := chains36_is va hck L.isEmpty L .unk (by omega) hLw
    have hwe : wordsE m.ins L = 0 := wordsErr_of fun w hw => by
      obtain ⟨v, hv, rfl⟩ := List.mem_map.1 hw
      exact wordErr_of hmi (by have := (hlm v hv).1; simp only; omega) (hlm v hv).2
    rw [chainsR, if_neg (by omega), if_neg (fun h => h hwe)] at p1
    have p2 := refChains_is va L.isEmpty L .unk (by omega) fun w hw => ⟨by have := (hlm w hw).1; omega, (hlm w hw).2⟩
    have hRL := refChains_eq m L
    have hcs : ∀ w ∈ L, thereN m (chainsL m L) w (chainsL m L).length = true := fun w hw => chains_there (by omega) hw
    have hcm := fun c => @chainsL_mem m L (by omega) c
    have hcsm := fun c => @chainsL_small m L (by omega) c
    have hlen := chainsL_len (m := m) (l := L) (by omega)
    have hcl : (chainsL m L).length ≤ 1000 := by
      rw [hlen]
      have : (othersL m L).length ≤ L.length := List.length_filter_le _ _
      omega
    generalize refChains m L = RC at p2 hRL
    generalize chainsL m L = CL at p1 hRL hcs hcm hcsm hlen hcl
    have p3 := same37_is CL.isEmpty RC.isEmpty (CL.map fun w => ((w.isEmpty, w, Cp.full) : RW)) (RC.map fun w => ((w.1, w.2, Cp.unk) : RW)) .full .unk (by simp; omega) (by
      intro x hx
      obtain ⟨v, hv, rfl⟩ := List.mem_map.1 hx
      have := hcsm v hv
      simp only; omega)
    rw [sameW_eq, List.map_map, List.map_map, List.map_map, List.map_map] at p3
    have e1 : List.map ((fun x : RW => x.2.1) ∘ fun w : List Int => ((w.isEmpty, w, Cp.full) : RW)) CL = CL := List.map_id CL
    have e2 : List.map ((fun x : RW => x.2.1) ∘ fun w : Wd => ((w.1, w.2, Cp.unk) : RW)) RC = CL := hRL
    have e3 : List.map (rwC ∘ fun w : List Int => ((w.isEmpty, w, Cp.full) : RW)) CL = CL.map chD := rfl
    have e4 : List.map (rwC ∘ fun w : Wd => ((w.1, w.2, Cp.unk) : RW)) RC = RC.map wdC := rfl
    rw [e1, e2, e3, e4, decide_eq_true rfl] at p3
    have e5 : (CL.map fun w => [AV.sl w.isEmpty (w.map intC) .full]) = CL.map chD := rfl
    rw [e5] at p1
    have hmx : decide ((CL.length : Int) = if ((othersL m L).length : Int) ≤ (if (L.length : Int) ≤ 1 then (L.length : Int) else 1) then (if (L.length : Int) ≤ 1 then (L.length : Int) else 1) else ((othersL m L).length : Int)) = true := decide_eq_true (by split <;> split <;> omega)
    generalize (othersL m L).length = oth at *
    refine EvC.frz 0 (by (simp only [go_sem, List.length_map]) <;> rfl) ?_
    apply EvC.seq
    apply EvC.tr
    · apply Tr.run
      · (simp only [go_sem, Mach.cells]) <;> rfl
      · simp
      apply Tr.cons
      · exact .call rfl rfl (by (simp only [go_sem]) <;> rfl) (by (simp only [go_sem]) <;> rfl) (by (simp only [go_sem]) <;> rfl) (by (simp only [go_sem]) <;> rfl) (by (simp only [go_sem]) <;> rfl) (p1)
      apply Tr.done
      · (simp only [go_sem]) <;> rfl
      · simp
    have hCn : (CL.map chD).all AV.norefs = true := by simp [List.all_eq_true, chD, AV.norefs, AV.noref]
    refine EvC.seq ?_
    apply EvC.seq
    apply EvC.tr
    · apply Tr.run
      · (simp only [go_sem, Mach.cells, List.length_map, hmx, decide_true, hCn]) <;> rfl
      · simp
      apply Tr.cons
      · exact .callG rfl rfl (by (simp only [go_sem]) <;> rfl) rfl (by (simp only [go_sem]) <;> rfl) (by (simp only [go_sem]) <;> rfl) (by (simp only [go_sem]) <;> rfl) (by (simp only [go_sem]) <;> rfl) (by (simp only [go_sem]) <;> rfl) (p2)
      apply Tr.run
      · (simp only [go_sem, Mach.cells, List.length_map, hmx, decide_true, hCn]) <;> rfl
      · simp
      apply Tr.cons
      · exact .callG rfl rfl (by (simp only [go_sem]) <;> rfl) rfl (by (simp only [go_sem]) <;> rfl) (by (simp only [go_sem]) <;> rfl) (by (simp only [go_sem]) <;> rfl) (by (simp only [go_sem]) <;> rfl) (by (simp only [go_sem]) <;> rfl) (p3)
      apply Tr.done
      · (simp only [go_sem]) <;> rfl
      · simp
    refine EvC.cond_false (by (simp only [go_sem, hmx, decide_true]) <;> rfl) ?_
    refine EvC.skip ?_
    refine EvC.seq ?_
    refine EvC.seq (EvC.rg (by (simp only [go_sem]) <;> rfl) (by simp) ?_)
    refine EvC.block ?_  -- 2
    refine EvC.loopS (σ := Nat) (fun k => ⟨[(5, .ia m.cells), (6, .sl L.isEmpty (L.map wC) .unk), (10, .sl CL.isEmpty (CL.map chD) .full), (12, .sc (.int .i64 k))], [], [], 0⟩) (fun k => L.length - k) (fun k => k ≤ L.length) [5, 6, 10, 12] 0 ?_ ?_
    · exact ⟨[], 0, rfl, (by (simp only [go_sem, Int.natCast_zero, Mach.cells, hCn]) <;> rfl), Nat.zero_le _⟩
    intro j hj
    refine EvC.seq ?_
    refine EvC.seq (EvC.rg (by (simp only [go_sem, List.length_map]) <;> rfl) (by simp) ?_)
    refine EvC.cond (by (simp only [go_sem]) <;> rfl) (fun hc => ?_) (fun hc => ?_)
    rotate_left
    · -- else
      refine EvC.exit ?_  -- 2
      apply EvC.seq
      apply EvC.tr
      · apply Tr.run
        · (simp only [go_sem]) <;> rfl
        · simp
        apply Tr.cons
        · exact .call rfl rfl (by (simp only [go_sem]) <;> rfl) (by (simp only [go_sem]) <;> rfl) (by (simp only [go_sem]) <;> rfl) (by (simp only [go_sem]) <;> rfl) (by (simp only [go_sem]) <;> rfl) (lives_is)
        apply Tr.done
        · (simp only [go_sem]) <;> rfl
        · simp
      refine EvC.ret ⟨.inl rfl, _, (by (simp only [go_sem]) <;> rfl), ?_, rfl⟩
      simp only [go_sem]
    have hjl : j < L.length := by have : (j : Int) < L.length := (by simpa using hc); omega
    clear hc
    have hw : L[j]? = some (L[j]'hjl) := List.getElem?_eq_getElem hjl
    have hwm := hlm _ (List.getElem_mem hjl)
    have hwt := hcs _ (List.getElem_mem hjl)
    generalize L[j]'hjl = w at hw hwm hwt
    have hjn : (j : Int).toNat = j := Int.toNat_natCast j
    refine EvC.skip ?_
    refine EvC.seq ?_
    refine EvC.block ?_  -- 3
    refine EvC.seq (EvC.rg (by (simp only [go_sem]) <;> rfl) (by simp) ?_)
    refine EvC.seq ?_
    refine EvC.seq (EvC.rg (by (simp only [go_sem]) <;> rfl) (by simp) ?_)
    refine EvC.block ?_  -- 4
    refine EvC.loopS (σ := Nat) (fun k => ⟨[(5, .ia m.cells), (6, .sl L.isEmpty (L.map wC) .unk), (10, .sl CL.isEmpty (CL.map chD) .full), (12, .sc (.int .i64 j)), (13, .sc (.bool (thereN m CL w k))), (14, .sc (.int .i64 k))], [], [], 0⟩) (fun k => CL.length - k) (fun k => k ≤ CL.length) [5, 6, 10, 12, 13, 14] 0 ?_ ?_
    · exact ⟨[], 0, rfl, (by (simp only [go_sem, Int.natCast_zero, Mach.cells, hCn, thereN]) <;> rfl), Nat.zero_le _⟩
    intro k hk
    refine EvC.seq ?_
    refine EvC.seq (EvC.rg (by (simp only [go_sem, List.length_map]) <;> rfl) (by simp) ?_)
    refine EvC.cond (by (simp only [go_sem]) <;> rfl) (fun hc => ?_) (fun hc => ?_)
    rotate_left
    · -- else
      refine EvC.exit ?_  -- 4
      obtain rfl : k = CL.length := by have : ¬ (k : Int) < CL.length := (by simpa using hc); omega
      clear hc
      rw [hwt]
      refine EvC.seq (EvC.rg (by (simp only [go_sem]) <;> rfl) (by simp) ?_)
      refine EvC.cond_false (by (simp only [go_sem]) <;> rfl) ?_
      refine EvC.skip ?_
      refine EvC.rg (by (simp only [go_sem]) <;> rfl) (by exact inI64_of (by omega) (by omega)) ?_
      exact ⟨[], j + 1, rfl, (by (simp only [go_sem, Int.natCast_add, Int.natCast_one, Mach.cells, hCn]) <;> rfl), hjl, by omega⟩
    have hkl : k < CL.length := by have : (k : Int) < CL.length := (by simpa using hc); omega
    clear hc
    have hce : CL[k]? = some (CL[k]'hkl) := List.getElem?_eq_getElem hkl
    have hcm1 := hcm _ (List.getElem_mem hkl)
    have hcl1 := hcsm _ (List.getElem_mem hkl)
    have hth : thereN m CL w (k + 1) = (thereN m CL w k || hitN m (CL[k]'hkl) w ((CL[k]'hkl).length + 1 - w.length)) := by rw [thereN, hce]; rfl
    generalize CL[k]'hkl = c at hce hcm1 hcl1 hth
    have hkn : (k : Int).toNat = k := Int.toNat_natCast k
    refine EvC.skip ?_
    refine EvC.seq ?_
    refine EvC.block ?_  -- 5
    refine EvC.seq (EvC.rg (by (simp only [go_sem]) <;> rfl) (by simp) ?_)
    refine EvC.block ?_  -- 6
    refine EvC.loopS (σ := Nat) (fun a => ⟨[(5, .ia m.cells), (6, .sl L.isEmpty (L.map wC) .unk), (10, .sl CL.isEmpty (CL.map chD) .full), (12, .sc (.int .i64 j)), (13, .sc (.bool (thereN m CL w k || hitN m c w a))), (14, .sc (.int .i64 k)), (15, .sc (.int .i64 a))], [], [], 0⟩) (fun a => c.length + 1 - w.length - a) (fun a => a ≤ c.length + 1 - w.length) [5, 6, 10, 12, 13, 14, 15] 0 ?_ ?_
    · exact ⟨[], 0, rfl, (by (simp only [go_sem, Int.natCast_zero, Mach.cells, hCn, hitN, Bool.or_false]) <;> rfl), Nat.zero_le _⟩
    intro a ha
    refine EvC.seq ?_
    apply EvC.seq
    apply EvC.drd mixed
    · (simp only [go_sem, hw, wC, hjn, hce, chD, hkn, List.length_map]) <;> rfl
    · exact inI64_of (by omega) (by omega)
    · kernel_rfl
    refine EvC.cond (by (simp only [go_sem]) <;> rfl) (fun hc => ?_) (fun hc => ?_)
    rotate_left
    · -- else
      refine EvC.exit ?_  -- 6
      have hcle : ¬ a + w.length ≤ c.length := by
        have : ¬ (a : Int) + w.length ≤ c.length := by simpa using hc
        omega
      obtain rfl : a = c.length + 1 - w.length := by omega
      clear hc
      refine EvC.rg (by (simp only [go_sem]) <;> rfl) (by exact inI64_of (by omega) (by omega)) ?_
      exact ⟨[], k + 1, rfl, (by rw [hth]; (simp only [go_sem, Int.natCast_add, Int.natCast_one, Mach.cells, hCn]) <;> rfl), hkl, by omega⟩
    have hac : a + w.length ≤ c.length := by
      have : (a : Int) + w.length ≤ c.length := by simpa using hc
      omega
    clear hc
    have han : (a : Int).toNat = a := Int.toNat_natCast a
    have hawn : ((a : Int) + (w.length : Int)).toNat = a + w.length := by omega
    have hawi : inI64 ((a : Int) + (w.length : Int)) = true := inI64_of (by omega) (by omega)
    have hit1 : hitN m c w (a + 1) = (hitN m c w a || hitB m c w a) := rfl
    refine EvC.skip ?_
    refine EvC.seq ?_
    refine EvC.block ?_  -- 7
    cases hT : (thereN m CL w k || hitN m c w a) with
    | true =>
      apply EvC.drw mixed
      · apply Tr.run
        · (simp only [go_sem, hw, wC, hjn, hce, chD, hkn, List.length_map, han, hawn]) <;> rfl
        · simp [hawi]; try omega
        apply Tr.cons
        · exact .skipv (.sc (.bool true)) rfl rfl (by (simp only [go_sem]) <;> rfl) (by (simp only [go_sem]) <;> rfl)
        apply Tr.run
        · (simp only [go_sem, hw, wC, hjn, hce, chD, hkn, List.length_map, han, hawn]) <;> rfl
        · simp [hawi]; try omega
        apply Tr.cons
        · exact .skipv (.sc (.int .i64 0)) rfl rfl (by (simp only [go_sem]) <;> rfl) (by (simp only [go_sem]) <;> rfl)
        apply Tr.done
        · (simp only [go_sem]) <;> rfl
        · simp
      · kernel_rfl
      have hnx : (thereN m CL w k || hitN m c w (a + 1)) = true := by rw [hit1, ← Bool.or_assoc, hT, Bool.true_or]
      refine EvC.rg (by (simp only [go_sem]) <;> rfl) (by exact inI64_of (by omega) (by omega)) ?_
      exact ⟨[], a + 1, rfl, (by rw [hnx]; (simp only [go_sem, Int.natCast_add, Int.natCast_one, Mach.cells, hCn]) <;> rfl), by omega, by omega⟩
    | false =>
      have hsl : List.drop a (List.take (a + w.length) (c.map intC)) = ((c.drop a).take w.length).map intC := by
        rw [List.drop_take, Nat.add_sub_cancel_left, ← List.map_drop, ← List.map_take]
      have hta : List.take a (c.map intC) = (c.take a).map intC := by rw [List.map_take]
      have hi1 : ∀ x : Int, (intC x).length = 1 := fun _ => rfl
      have hcn2 : ((c.drop a).take w.length).length < 1000000 := by simp; omega
      have q3 := same_is c.isEmpty ((c.drop a).take w.length) .unk w.isEmpty w .unk hcn2
      have q4 := after35_is va (c.take a) 0 c.isEmpty .unk (by omega) (fun b hb => by
        obtain ⟨v, hv, hbv⟩ := hcm1 b (List.mem_of_mem_take hb)
        exact (hlm v hv).2 b hbv) (by rw [List.length_take]; omega)
      have hnx : (thereN m CL w k || hitN m c w (a + 1)) = hitB m c w a := by rw [hit1, ← Bool.or_assoc, hT, Bool.false_or]
      have hnr : ∀ l : List Int, (l.map intC).all AV.norefs = true := fun l => by simp [List.all_eq_true, intC, AV.norefs, AV.noref]
      cases hs1 : decide ((c.drop a).take w.length = w) with
      | false =>
        rw [hs1] at q3
        have hb : hitB m c w a = false := by rw [hitB, hs1, Bool.false_and]
        rw [hb] at hnx
        apply EvC.drw mixed
        · apply Tr.run
          · (simp only [go_sem, hw, wC, hjn, hce, chD, hkn, List.length_map, han, hawn, hsl, hta]) <;> rfl
          · simp [hawi, hi1]; try omega
          apply Tr.cons
          · exact .callG rfl rfl (by (simp only [go_sem]) <;> rfl) rfl (by (simp only [go_sem]) <;> rfl) (by (simp only [go_sem]) <;> rfl) (by (simp only [go_sem]) <;> rfl) (by (simp only [go_sem]) <;> rfl) (by (simp only [go_sem]) <;> rfl) (q3)
          apply Tr.run
          · (simp only [go_sem, hw, wC, hjn, hce, chD, hkn, List.length_map, han, hawn, hsl, hta]) <;> rfl
          · simp [hawi, hi1]; try omega
          apply Tr.cons
          · exact .skipv (.sc (.int .i64 0)) rfl rfl (by (simp only [go_sem]) <;> rfl) (by (simp only [go_sem]) <;> rfl)
          apply Tr.done
          · (simp only [go_sem]) <;> rfl
          · simp
        · kernel_rfl
        refine EvC.rg (by (simp only [go_sem]) <;> rfl) (by exact inI64_of (by omega) (by omega)) ?_
        exact ⟨[], a + 1, rfl, (by rw [hnx]; (simp only [go_sem, Int.natCast_add, Int.natCast_one, Mach.cells, hCn]) <;> rfl), by omega, by omega⟩
      | true =>
        rw [hs1] at q3
        have hb : hitB m c w a = decide (afterR m 0 (c.take a) = 0) := by rw [hitB, hs1, Bool.true_and]
        rw [hb] at hnx
        apply EvC.drw mixed
        · apply Tr.run
          · (simp only [go_sem, hw, wC, hjn, hce, chD, hkn, List.length_map, han, hawn, hsl, hta, Mach.cells]) <;> rfl
          · simp [hawi, hi1]; try omega
          apply Tr.cons
          · exact .callG rfl rfl (by (simp only [go_sem]) <;> rfl) rfl (by (simp only [go_sem]) <;> rfl) (by (simp only [go_sem]) <;> rfl) (by (simp only [go_sem]) <;> rfl) (by (simp only [go_sem]) <;> rfl) (by (simp only [go_sem]) <;> rfl) (q3)
          apply Tr.run
          · (simp only [go_sem, hw, wC, hjn, hce, chD, hkn, List.length_map, han, hawn, hsl, hta, Mach.cells]) <;> rfl
          · simp [hawi, hi1]; try omega
          apply Tr.cons
          · exact .callG rfl rfl (by (simp only [go_sem]) <;> rfl) rfl (by (simp only [go_sem]) <;> rfl) (by (simp only [go_sem]) <;> rfl) (by (simp only [go_sem]) <;> rfl) (by (simp only [go_sem]) <;> rfl) (by (simp only [go_sem]) <;> rfl) (q4)
          apply Tr.done
          · (simp only [go_sem]) <;> rfl
          · simp
        · kernel_rfl
        refine EvC.rg (by (simp only [go_sem]) <;> rfl) (by exact inI64_of (by omega) (by omega)) ?_
        exact ⟨[], a + 1, rfl, (by rw [hnx]; (simp only [go_sem, Int.natCast_add, Int.natCast_one, Mach.cells, hCn]) <;> rfl), by omega, by omega⟩
  obtain ⟨hi, hi2⟩ := hend
  have d1 : decide ((i : Int) < ws.length) = true := decide_eq_true (by omega)
  have d2 : decide ((i : Int) < 20) = true := decide_eq_true (by omega)
  apply EvC.seq
  apply EvC.trd
  · (simp only [go_sem, List.length_map, d1, d2]) <;> rfl
  · simp
  refine EvC.cond_true (by (simp only [go_sem]) <;> rfl) ?_
  refine EvC.skip ?_
  refine EvC.seq ?_
  refine EvC.block ?_  -- 1
  have hin : (i : Int).toNat = i := Int.toNat_natCast i
  have he : ws[i]? = some (ws[i]'hi) := List.getElem?_eq_getElem hi
  have hwb := hws _ (List.getElem_mem hi)
  have hnx : wordsTo ws m.ins 10 (i + 1) = wordsTo ws m.ins 10 i ++ [wordOf (ws[i]'hi).2 m.ins 10] := by
    unfold wordsTo
    rw [List.take_succ_eq_append_getElem hi, List.map_append]; rfl
  have hlw := wordOf_len (ws[i]'hi).2 m.ins 10
  have hmw := wordOf_in (es := (ws[i]'hi).2) (most := 10) hmi.1
  generalize ws[i]'hi = y at he hwb hnx hlw hmw
  have q1 := word20_is y.1 y.2 .unk m.ins 10 hwb (by omega) (by decide)
  rw [show ((10 : Nat) : Int) = 10 from rfl] at q1
  generalize wordOf y.2 m.ins 10 = w at hnx hlw hmw q1
  have q2 := after35_is va w 0 w.isEmpty .unk (by omega) hmw (by omega)
  apply EvC.seq
  apply EvC.drw mixed
  · apply Tr.run
    · (simp only [go_sem, he, wbR, hin, List.length_map, Mach.cells]) <;> rfl
    · simp; try omega
    apply Tr.cons
    · exact .call rfl rfl (by (simp only [go_sem]) <;> rfl) (by (simp only [go_sem]) <;> rfl) (by (simp only [go_sem]) <;> rfl) (by (simp only [go_sem]) <;> rfl) (by (simp only [go_sem]) <;> rfl) (q1)
    apply Tr.done
    · (simp only [go_sem]) <;> rfl
    · simp
  · kernel_rfl
  have hwc : (wordsTo ws m.ins 10 i).map wC ++ [[.sl w.isEmpty (w.map intC) .unk]] = (wordsTo ws m.ins 10 i ++ [w]).map wC := by simp [wC]
  have hwl : (wordsTo ws m.ins 10 i).length + 1 = (wordsTo ws m.ins 10 i ++ [w]).length := by simp
  have hwe : (wordsTo ws m.ins 10 i ++ [w]).isEmpty = false := by simp
  have ho := othersL_snoc m (wordsTo ws m.ins 10 i) w
  have hTl := wordsTo_len ws m.ins 10 i
  have hoL : (othersL m (wordsTo ws m.ins 10 i)).length ≤ (wordsTo ws m.ins 10 i).length := List.length_filter_le _ _
  have hr2 : room ((wordsTo ws m.ins 10 i).length + 1) 24 = true := by simp only [room_eq, decide_eq_true_eq]; omega
  rw [hwl] at hr2
  rw [← hnx] at hwc hwl hwe ho hr2
  generalize hT' : wordsTo ws m.ins 10 (i + 1) = T' at hwc hwl hwe ho hr2
  generalize wordsTo ws m.ins 10 i = T at hwc hwl ho hTl hoL
  refine EvC.seq (EvC.rg (by (simp only [go_sem, hwc, hwl, List.length_map]) <;> rfl) (by simp [hr2]; try omega) ?_)
  apply EvC.seq
  apply EvC.tr
  · apply Tr.run
    · (simp only [go_sem, Mach.cells]) <;> rfl
    · simp
    apply Tr.cons
    · exact .call rfl rfl (by (simp only [go_sem]) <;> rfl) (by (simp only [go_sem]) <;> rfl) (by (simp only [go_sem]) <;> rfl) (by (simp only [go_sem]) <;> rfl) (by (simp only [go_sem]) <;> rfl) (q2)
    apply Tr.done
    · (simp only [go_sem]) <;> rfl
    · simp
  by_cases h0 : afterR m 0 w = 0
  · rw [if_pos h0] at ho
    refine EvC.cond_false (by (simp only [go_sem, decide_eq_true h0]) <;> rfl) ?_
    refine EvC.skip ?_
    refine EvC.rg (by (simp only [go_sem]) <;> rfl) (by exact inI64_of (by omega) (by omega)) ?_
    exact ⟨[(0, 0)], i + 1, rfl, (by rw [hT', ho]; (simp only [go_sem, hwe, Int.natCast_add, Int.natCast_one, Mach.cells]) <;> rfl), ⟨by omega, by omega⟩, by omega⟩
  · rw [if_neg h0] at ho
    have hol : (othersL m T').length = (othersL m T).length + 1 := by rw [ho]; simp
    refine EvC.cond_true (by (simp only [go_sem, decide_eq_false h0]) <;> rfl) ?_
    refine EvC.rg (by (simp only [go_sem]) <;> rfl) (by exact inI64_of (by omega) (by omega)) ?_
    refine EvC.rg (by (simp only [go_sem]) <;> rfl) (by exact inI64_of (by omega) (by omega)) ?_
    exact ⟨[(0, 0)], i + 1, rfl, (by rw [hT', hol]; (simp only [go_sem, hwe, Int.natCast_add, Int.natCast_one, Mach.cells]) <;> rfl), ⟨by omega, by omega⟩, by omega⟩
end Go.Avl
namespace Go.Proofs.YthdaggogdocmfaaDoor
open Go Go.Avl Go.Proofs Go.ChangeShapes Go.RowKit
section
variable {H : Type} {enc : TypeId × Value → H} {w : World}
theorem u16wf {n : Int} (h : (Lit.int .u16 n).wf = true) : 0 ≤ n ∧ n < 65536 := by
  simp [Lit.wf, IntKind.min, IntKind.max, IntKind.signed, IntKind.bits] at h
  omega
theorem rd_u16 : Reads enc Tryd.prog w 107 u16C (fun n => 0 ≤ n ∧ n < 65536) := (Reads.int (by kernel_rfl)).mono fun a h => ⟨a, u16wf h, rfl⟩
theorem rd_u16s : Reads enc Tryd.prog w 39 (fun x : Bool × List Int => [.sl x.1 (x.2.map u16C) .unk]) (fun x => (∀ e ∈ x.2, 0 ≤ e ∧ e < 65536) ∧ (x.2.length : Int) ≤ 140737488355328) :=
  (Reads.slice (by kernel_rfl) rd_u16 (fun a => by rw [show Program.cellsOf Tryd.prog 107 = 1 by kernel_rfl]; rfl) (by rw [show Program.cellsOf Tryd.prog 107 = 1 by kernel_rfl]; exact Nat.succ_pos _)).mono fun a h => ⟨a, ⟨h.1, len_of (b := Program.bytesOf Tryd.prog 107) (by decide +kernel) h.2.2⟩, rfl⟩
theorem rd_LM : Reads enc Tryd.prog w 41 LM.cells LM.Ok := by
  have := (Reads.struct (enc := enc) (w := w) (tot := 5) Tryd.underlying41 (by kernel_rfl) (.cons (sz := 1) rfl (by kernel_rfl) rfl rd_u8 (.cons (sz := 1) rfl (by kernel_rfl) rfl rd_u8 (.cons (sz := 1) rfl (by kernel_rfl) rfl rd_u8 (.cons (sz := 1) rfl (by kernel_rfl) rfl (Reads.bool Tryd.underlying4)
    (.cons (sz := 1) rfl (by kernel_rfl) rfl rd_u16s .nil))))))
  exact this.mono fun a h => ⟨⟨a.1, a.2.1, a.2.2.1, a.2.2.2.1, a.2.2.2.2.1.1, a.2.2.2.2.1.2, .unk⟩, ⟨h.1.1, h.2.1.1, h.2.2.1.1, h.2.2.2.2.1.1⟩, rfl⟩
/-- Words of bytes. -/
abbrev WB := Bool × List Int
def wbC (x : WB) : List AV := [.sl x.1 (x.2.map u8C) .unk]
def WB.Ok (x : WB) : Prop := ∀ e ∈ x.2, 0 ≤ e ∧ e < 256
theorem rd_wbs : Reads enc Tryd.prog w 44 (fun x : Bool × List WB => [.sl x.1 (x.2.map wbC) .unk]) (fun x => ∀ y ∈ x.2, y.Ok) :=
  (Reads.slice Tryd.underlying44 (rd_bytes.mono (g := wbC) (Ok' := WB.Ok) fun a h => ⟨a, h.1, rfl⟩) (fun a => by rw [show Program.cellsOf Tryd.prog 54 = 1 by kernel_rfl]; rfl) (by rw [show Program.cellsOf Tryd.prog 54 = 1 by kernel_rfl]; exact Nat.succ_pos _)).mono fun a h => ⟨a, h.1, rfl⟩
end
end Go.Proofs.YthdaggogdocmfaaDoor
namespace Go.Proofs.YthdaggogdocmfaaDoor
open Go Go.Avl Go.Proofs Go.ChangeShapes Go.RowKit

set_option maxRecDepth 100000 in
theorem plansChains_lifted (os : Os) (started : os.Started) (H : Type) (enc : TypeId × Value → H) :
    ReturnsInHanded {} Tryd.checked os 9 .any (fun w args => (Rows.plansChainsSpec.pre enc Tryd.prog Tryd.f9 Rows.plansChainsRow.domain false w args ∧ laidMetH Tryd.prog laidT w) ∧ sizedMet enc Tryd.prog Tryd.f9 (OpenSpec.ofChange Rows.plansChainsSpec) false w args)
      (Rows.plansChainsSpec.post enc Tryd.prog Tryd.f9 false true false false) := by
  refine returnsInHanded_of_change_and (C := Tryd.checked) (X := fun w _ => laidMetH Tryd.prog laidT w) (fun _ _ _ hh h => h.of_heap hh) Tryd.own started (by kernel_rfl) Tryd.func9
    (ChangeSpec.witness_shaped (enc := enc) (C := Tryd.checked) (os := os) (X := fun w _ => laidMetH Tryd.prog laidT w) false (World.doorLaid Tryd.prog 400 os) #[.agg #[.int .u8 0, .int .u8 0, .int .u8 0, .bool false, .slice none 0 0], .slice none 0 0] 8 rfl (World.shaped_of_RefB (by kernel_rfl) (by kernel_rfl)) (by kernel_rfl) (by kernel_rfl) (by kernel_rfl) (door_met os _)) ?_
  intro W base args ds gs before hval hW _ hz hL _
  have hgl := globs_of hL
  have hW' := hW
  obtain ⟨p, q, hA, hV, rfl, _, _⟩ := hW'
  obtain ⟨rfl, rfl⟩ := trodVars_none hV
  have hA' : DataW.TrodAll enc Tryd.prog W 0 (fun _ => true) true [41, 44] args.toList ds p := by rw [← show Tryd.f9.params.toList = [41, 44] from rfl]; exact hA
  obtain ⟨v0, v1, d0, d1, p0, p1, rfl, rfl, rfl, h0, h1⟩ := trodAll_two hA'
  have hz' : (DataW.weightsEach Tryd.prog [41, 44] [d0, d1]).all (· ≤ reachBytes) = true := hz
  have hf := fits_each (P := Tryd.prog) (ts := [41, 44]) (l := [d0, d1]) fun n hn => by simpa using List.all_eq_true.1 hz' n hn
  obtain ⟨x, hx, i0⟩ := rd_LM.imm_struct Tryd.underlying41 (hval 0 41 v0 rfl rfl) (hf 0 41 d0 rfl rfl) h0
  obtain ⟨b, hb, i1⟩ := rd_wbs.imm_slice Tryd.underlying44 (hval 1 44 v1 rfl rfl) (hf 1 44 d1 rfl rfl) h1
  exact law_calls Tryd.laidOut (by kernel_rfl) rfl (by kernel_rfl) rfl rfl (plansChains_is hx b.1 b.2 .unk fun y hy => hb y hy) (Imms.append (.one i0) (.one i1)) hW hgl

theorem plansChains_said : Rows.PlansChainsSaid :=
  OpenClaim.holds_of_wide 9 Tryd.f9 rfl rfl rfl rfl rfl rfl rfl ⟨rfl, rfl, rfl, rfl, rfl⟩ rfl rfl rfl rfl rfl (by kernel_rfl) Tryd.func9 (by kernel_rfl)
    (of_decide_eq_true (by kernel_rfl)) (by unfold Func.isWrapper; first | (rw [if_pos (by decide +kernel)]; kernel_rfl) | (rw [if_neg (by decide +kernel)]; exact ⟨rfl, rfl⟩))
    (fun os started H enc _ => plansChains_lifted os started H enc)

theorem plansChains_holds : Rows.PlansChainsCardSaid :=
  Claim7.holds_tied_plain_at .later [] [.widerDeep] true (true, "6d3ff7fe0d9779fedb791cf0751605ad5cd5bfdc42f52104730e367675225e7a") false
    plansChains_said (fun _ h => by cases h) (by kernel_rfl) (fun _ h => by cases h) plansChains_row_tie rfl ⟨rfl, rfl⟩ (by kernel_rfl) rfl
    (fun f fn hf hfn => by
      obtain rfl : f = 9 := (Option.some.inj ((show Tryd.prog.funcNamed "gauntlet/gauntletlaw43.PlansChains" = some 9 by kernel_rfl).symm.trans hf)).symm
      obtain rfl : fn = Tryd.f9 := (Option.some.inj (Tryd.func9.symm.trans hfn)).symm
      refine ⟨by kernel_rfl, fun j t ht => ?_⟩
      have key : (Tryd.f9.params.toList.all fun t => Tryd.prog.wantsStandIn t == false) = true := by kernel_rfl
      have hm : t ∈ Tryd.f9.params.toList := by
        rw [← Array.getElem?_toList] at ht
        exact List.mem_of_getElem? ht
      exact eq_of_beq (List.all_eq_true.1 key t hm))
    (by kernel_rfl)
#print axioms plansChains_holds
end Go.Proofs.YthdaggogdocmfaaDoor
