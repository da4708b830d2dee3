/-
  live11 returns true.
  Lemmas.
-/
import Derived.Test.YtnolphljopdomaaGreatDoorPart16
set_option linter.unusedSimpArgs false
set_option linter.unusedVariables false
set_option linter.unnecessarySimpa false
set_option linter.deprecated false
namespace Go.Avl
open Go Go.Proofs
set_option maxRecDepth 100000
noncomputable def known : List Kn := [kn28, kn29, kn30, kn14, kn31, kn32, kn33, kn34, kn8, kn35, kn6, kn9, kn17, kn36]
theorem known_ok : ∀ k ∈ known, PureIs Tryz.prog k.f k.xs k.r := by
 intro k hk
 simp only [known, List.mem_cons, List.not_mem_nil, or_false] at hk
 rcases hk with rfl | rfl | rfl | rfl | rfl | rfl | rfl | rfl | rfl | rfl | rfl | rfl | rfl | rfl
 ·exact kn28_ok
 ·exact kn29_ok
 ·exact kn30_ok
 ·exact kn14_ok
 ·exact kn31_ok
 ·exact kn32_ok
 ·exact kn33_ok
 ·exact kn34_ok
 ·exact kn8_ok
 ·exact kn35_ok
 ·exact kn6_ok
 ·exact kn9_ok
 ·exact kn17_ok
 ·exact kn36_ok
theorem live12_ev : evP Tryz.prog (tabK known) 3000 16 12 [] = some (.sc (.bool true)) := by kernel_rfl
theorem live12_is : PureIs Tryz.prog 12 [] (.sc (.bool true)) := .ev (tabK_ok known_ok) noNum mixedOk live12_ev
open Go Go.Proofs.Tryz
set_option maxRecDepth 10000
def stepJ (a b : Mach) (par : Int) (p : Int × Int) (i : Int) : (Int × Int) × Int :=
 if (stepR a p.1 i).1 < 0 then ((0, 0), -1)
 else if par = 1 then
  if (stepR b p.2 i).1 < 0 then ((0, 0), -1) else (((stepR a p.1 i).1, (stepR b p.2 i).1), (stepR a p.1 i).2 * b.outs + (stepR b p.2 i).2)
 else if (stepR b p.2 (stepR a p.1 i).2).1 < 0 then ((0, 0), -1) else (((stepR a p.1 i).1, (stepR b p.2 (stepR a p.1 i).2).1), (stepR b p.2 (stepR a p.1 i).2).2)
structure Fit (a b : Mach) (par : Int) : Prop where
 va : Valid a
 vb : Valid b
 p : par = 0 ∨ par = 1
 ser : par = 0 → a.outs = b.ins
 par : par = 1 → a.ins = b.ins
abbrev Pr := Int × Int
abbrev StF := Pr → Nat → Option (Pr × Int)
def jput (L : List Pr) (x : Pr) : List Pr := if x ∈ L then L else L ++ [x]
def jadd (st : StF) (p : Pr) (L : List Pr) (i : Nat) : List Pr := match st p i with
 | none => L
 | some q => jput L q.1
def jl (st : StF) (p : Pr) (L : List Pr) : Nat → List Pr
 | 0 => L
 | i + 1 => jadd st p (jl st p L i) i
def jq (st : StF) (n : Nat) : Nat → List Pr
 | 0 => [(0, 0)]
 | k + 1 => match (jq st n k)[k]? with
   | none => jq st n k
   | some p => jl st p (jq st n k) n
def jed (st : StF) (L : List Pr) (p : Pr) (i : Nat) : Int × Int := match st p i with
 | none => (-1, -1)
 | some q => ((L.idxOf q.1 : Nat), q.2)
def jrow (st : StF) (L : List Pr) (p : Pr) (n : Nat) : List (Int × Int) := (List.range n).map (jed st L p)
def jrows (st : StF) (n : Nat) : Nat → List (List (Int × Int))
 | 0 => []
 | k + 1 => match (jq st n k)[k]? with
   | none => jrows st n k
   | some p => jrows st n k ++ [jrow st (jq st n (k + 1)) p n]
theorem jput_pre (L : List Pr) (x : Pr) : L <+: jput L x := by unfold jput; split; exact List.prefix_refl _; exact List.prefix_append _ _
theorem mem_jput {L : List Pr} {x y : Pr} : y ∈ jput L x ↔ y ∈ L ∨ y = x := by
 unfold jput; split
 ·rename_i h; constructor
  ·exact .inl
  ·rintro (h1 | rfl); exact h1; exact h
 ·simp
theorem jadd_pre (st : StF) (p : Pr) (L : List Pr) (i : Nat) : L <+: jadd st p L i := by unfold jadd; split; exact List.prefix_refl _; exact jput_pre _ _
theorem jl_pre (st : StF) (p : Pr) (L : List Pr) : ∀ i, L <+: jl st p L i
 | 0 => List.prefix_refl _
 | i + 1 => (jl_pre st p L i).trans (jadd_pre _ _ _ _)
theorem jl_mono (st : StF) (p : Pr) (L : List Pr) {i j : Nat} (h : i ≤ j) : jl st p L i <+: jl st p L j := by
 induction h with
 | refl => exact List.prefix_refl _
 | step h ih => exact ih.trans (jadd_pre _ _ _ _)
theorem jq_step (st : StF) (n k : Nat) : jq st n k <+: jq st n (k + 1) := by
 simp only [jq]; split; exact List.prefix_refl _; exact jl_pre _ _ _ _
theorem jq_mono (st : StF) (n : Nat) {i j : Nat} (h : i ≤ j) : jq st n i <+: jq st n j := by
 induction h with
 | refl => exact List.prefix_refl _
 | step h ih => exact ih.trans (jq_step _ _ _)
theorem jput_nodup {L : List Pr} {x : Pr} (h : L.Nodup) : (jput L x).Nodup := by
 unfold jput; split
 ·exact h
 ·rename_i hx
  rw [List.nodup_append]
  exact ⟨h, by simp, fun a ha b hb => by simp at hb; subst hb; exact fun e => hx (e ▸ ha)⟩
theorem jadd_nodup {st : StF} {p : Pr} {L : List Pr} {i : Nat} (h : L.Nodup) : (jadd st p L i).Nodup := by unfold jadd; split; exact h; exact jput_nodup h
theorem jl_nodup {st : StF} {p : Pr} {L : List Pr} (h : L.Nodup) : ∀ i, (jl st p L i).Nodup
 | 0 => h
 | i + 1 => jadd_nodup (jl_nodup h i)
theorem jq_nodup (st : StF) (n : Nat) : ∀ k, (jq st n k).Nodup
 | 0 => by simp [jq]
 | k + 1 => by simp only [jq]; split; exact jq_nodup st n k; exact jl_nodup (jq_nodup st n k) n
theorem jq_pos (st : StF) (n k : Nat) : 1 ≤ (jq st n k).length := by
 have := (jq_mono st n (Nat.zero_le k)).length_le
 simpa [jq] using this
theorem jq_zero (st : StF) (n k : Nat) : (jq st n k)[0]? = some (0, 0) := by
 obtain ⟨t, ht⟩ := jq_mono st n (Nat.zero_le k)
 rw [← ht]; rfl
theorem jq_fix {st : StF} {n k : Nat} (h : (jq st n k).length ≤ k) : ∀ j, jq st n (k + j) = jq st n k ∧ jrows st n (k + j) = jrows st n k
 | 0 => ⟨rfl, rfl⟩
 | j + 1 => by
   obtain ⟨h1, h2⟩ := jq_fix h j
   have h3 : (jq st n (k + j))[k + j]? = none := by rw [h1]; exact List.getElem?_eq_none (by omega)
   rw [← Nat.add_assoc]
   simp only [jq, jrows, h3]
   exact ⟨h1, h2⟩
theorem jq_fix' {st : StF} {n k j : Nat} (h : (jq st n k).length ≤ k) (hk : k ≤ j) : jq st n j = jq st n k ∧ jrows st n j = jrows st n k := by
 obtain ⟨d, rfl⟩ := Nat.exists_eq_add_of_le hk
 exact jq_fix h d
inductive RS (st : StF) (n : Nat) : Pr → Prop
 | zero : RS st n (0, 0)
 | step {p q : Pr} {o : Int} {i : Nat} (h : RS st n p) (hi : i < n) (hs : st p i = some (q, o)) : RS st n q
theorem jl_reach {st : StF} {n : Nat} {p : Pr} {L : List Pr} (hp : RS st n p) (hL : ∀ q ∈ L, RS st n q) : ∀ i, i ≤ n → ∀ q ∈ jl st p L i, RS st n q
 | 0, _, q, h => hL q h
 | i + 1, hi, q, h => by
   simp only [jl, jadd] at h
   split at h
   ·exact jl_reach hp hL i (by omega) q h
   ·rename_i r hr
    rcases mem_jput.1 h with h | rfl
    ·exact jl_reach hp hL i (by omega) q h
    ·exact .step hp hi (o := r.2) hr
theorem jq_reach (st : StF) (n : Nat) : ∀ k, ∀ q ∈ jq st n k, RS st n q
 | 0, q, h => by simp [jq] at h; subst h; exact .zero
 | k + 1, q, h => by
   simp only [jq] at h
   split at h
   ·exact jq_reach st n k q h
   ·rename_i p hp
    exact jl_reach (jq_reach st n k p (List.mem_of_getElem? hp)) (jq_reach st n k) n (Nat.le_refl _) q h
theorem mem_jl {st : StF} {p : Pr} {L : List Pr} {i j : Nat} {q : Pr × Int} (hs : st p i = some q) (hj : i < j) : q.1 ∈ jl st p L j := by
 refine (jl_mono st p L hj).subset ?_
 simp only [jl, jadd, hs]
 exact mem_jput.2 (.inr rfl)
theorem jq_closed {st : StF} {n : Nat} : ∀ {k j i : Nat} {p : Pr} {q : Pr × Int}, j < k → (jq st n k)[j]? = some p → i < n → st p i = some q → q.1 ∈ jq st n k
 | 0, _, _, _, _, h, _, _, _ => by omega
 | k + 1, j, i, p, q, h, hp, hi, hs => by
   by_cases hk : k < (jq st n k).length
   ·have hg : (jq st n k)[k]? = some (jq st n k)[k] := List.getElem?_eq_getElem hk
    have e : jq st n (k + 1) = jl st (jq st n k)[k] (jq st n k) n := by simp only [jq, hg]
    have hpre : (jq st n (k + 1))[j]? = (jq st n k)[j]? := by
     obtain ⟨t, ht⟩ := jq_step st n k
     rw [← ht, List.getElem?_append_left (by omega)]
    rw [hpre] at hp
    by_cases hj : j = k
    ·subst hj
     rw [hg] at hp; cases hp
     rw [e]
     exact mem_jl hs hi
    ·exact (jq_step st n k).subset (jq_closed (by omega) hp hi hs)
   ·have hg : (jq st n k)[k]? = none := List.getElem?_eq_none (by omega)
    have e : jq st n (k + 1) = jq st n k := by simp only [jq, hg]
    rw [e] at hp ⊢
    by_cases hj : j = k
    ·subst hj; rw [hg] at hp; cases hp
    ·exact jq_closed (by omega) hp hi hs
theorem jq_all {st : StF} {n k : Nat} (hk : (jq st n k).length ≤ k) {p : Pr} (h : RS st n p) : p ∈ jq st n k := by
 induction h with
 | zero => exact List.mem_of_getElem? (jq_zero st n k)
 | step h hi hs ih =>
   obtain ⟨j, hj, rfl⟩ := List.getElem_of_mem ih
   exact jq_closed (by omega) (List.getElem?_eq_getElem hj) hi hs
theorem jrows_len {st : StF} {n : Nat} : ∀ {k : Nat}, k ≤ (jq st n k).length → (jrows st n k).length = k
 | 0, _ => rfl
 | k + 1, h => by
   by_cases hk : k < (jq st n k).length
   ·simp only [jrows, List.getElem?_eq_getElem hk, List.length_append, List.length_singleton, jrows_len (Nat.le_of_lt hk)]
   ·have hg : (jq st n k)[k]? = none := List.getElem?_eq_none (by omega)
    have e : jq st n (k + 1) = jq st n k := by simp only [jq, hg]
    rw [e] at h; omega
theorem idxOf_pre {L L' : List Pr} (h : L <+: L') {x : Pr} (hx : x ∈ L) : L'.idxOf x = L.idxOf x := by
 obtain ⟨t, rfl⟩ := h
 rw [List.idxOf_append, if_pos hx]
theorem jrow_pre {st : StF} {L L' : List Pr} {p : Pr} {n : Nat} (h : L <+: L') (hc : ∀ i q, i < n → st p i = some q → q.1 ∈ L) : jrow st L' p n = jrow st L p n := by
 refine List.map_congr_left fun i hi => ?_
 unfold jed
 split
 ·rfl
 ·rename_i q hq
  rw [idxOf_pre h (hc i q (List.mem_range.1 hi) hq)]
theorem jrows_eq {st : StF} {n : Nat} : ∀ {k m : Nat}, k ≤ m → k ≤ (jq st n k).length → jrows st n k = ((jq st n m).take k).map fun p => jrow st (jq st n m) p n
 | 0, _, _, _ => by simp [jrows]
 | k + 1, m, hm, h => by
   by_cases hk : k < (jq st n k).length
   ·have hg : (jq st n k)[k]? = some (jq st n k)[k] := List.getElem?_eq_getElem hk
    simp only [jrows, hg]
    have hgm : (jq st n m)[k]? = some (jq st n k)[k] := by
     obtain ⟨t, ht⟩ := jq_mono st n (show k ≤ m by omega)
     rw [← ht, List.getElem?_append_left hk]; exact hg
    rw [List.take_add_one, hgm, List.map_append, jrows_eq (show k ≤ m by omega) (Nat.le_of_lt hk)]
    congr 1
    simp only [Option.toList_some, List.map_singleton]
    rw [jrow_pre (jq_mono st n hm) fun i q hi hs => jq_closed (Nat.lt_succ_self k) (by
     obtain ⟨t, ht⟩ := jq_step st n k
     rw [← ht, List.getElem?_append_left hk]; exact hg) hi hs]
   ·have hg : (jq st n k)[k]? = none := List.getElem?_eq_none (by omega)
    have e : jq st n (k + 1) = jq st n k := by simp only [jq, hg]
    rw [e] at h; omega
def jpre (st : StF) (p : Pr) (L : List Pr) (i : Nat) : List (Int × Int) := (List.range i).map fun x => jed st (jl st p L (x + 1)) p x
theorem jpre_len (st : StF) (p : Pr) (L : List Pr) (i : Nat) : (jpre st p L i).length = i := by simp [jpre]
theorem jpre_succ (st : StF) (p : Pr) (L : List Pr) (i : Nat) : jpre st p L (i + 1) = jpre st p L i ++ [jed st (jl st p L (i + 1)) p i] := by simp [jpre, List.range_succ]
theorem jpre_eq (st : StF) (p : Pr) (L : List Pr) (n : Nat) : jpre st p L n = jrow st (jl st p L n) p n := by
 refine List.map_congr_left fun i hi => ?_
 unfold jed
 split
 ·rfl
 ·rename_i q hq
  rw [idxOf_pre (jl_mono st p L (show i + 1 ≤ n by have := List.mem_range.1 hi; omega)) (mem_jl hq (Nat.lt_succ_self i))]
theorem jl_len (st : StF) (p : Pr) (L : List Pr) (i : Nat) : L.length ≤ (jl st p L i).length := (jl_pre st p L i).length_le
theorem clip56_is (nl : Bool) (es : List (List AV)) (c : Cp) (h : (es.all fun y => decide (y.length = 1)) = true) : PureIs prog 82 [.sl nl es c] (.sl nl es .full) := by
 refine PureIs.of1 3 [] func82 ntmps82 results82 fun _ => ?_
 refine EvC.a ?_
 refine EvC.a ?_ (hok := by simp [h])
 refine EvC.rz ?_
 simp only [go_sem]
def zeroM : List AV := [.sc (.int .i64 0), .sc (.int .i64 0), .sl true [] .zer]
def ents : Nat → List Pr → List (Value × AV)
 | _, [] => []
 | i, c :: l => (pairV c, .sc (.int .i64 i)) :: ents (i + 1) l
@[go_sem] theorem norefs_ents : ∀ (l : List Pr) (i : Nat), ((ents i l).all fun p => p.2.noref) = true
 | [], _ => rfl
 | c :: l, i => by simp only [ents, List.all_cons, norefs_ents l, AV.noref, Bool.and_self]
theorem elook_ents (c : Pr) : ∀ (l : List Pr) (i : Nat), elook (ents i l) (pairV c) = if c ∈ l then some (.sc (.int .i64 (i + l.idxOf c : Nat))) else none
 | [], _ => rfl
 | d :: l, i => by
   simp only [ents, elook, eqVal_pair, List.mem_cons, List.idxOf_cons]
   by_cases h : c = d
   ·subst h; simp
   ·rw [if_neg (by simpa using h), elook_ents c l (i + 1)]
    have h' : (d == c) = false := by simp; exact fun e => h e.symm
    simp only [h, false_or, h', Bool.false_eq_true, if_false, cond_false]
    by_cases hc : c ∈ l
    ·rw [if_pos hc, if_pos hc, show i + 1 + l.idxOf c = i + (l.idxOf c + 1) by omega]
    ·rw [if_neg hc, if_neg hc]
theorem eset_ents (c : Pr) : ∀ (l : List Pr) (i : Nat), c ∉ l → eset (ents i l) (pairV c) (.sc (.int .i64 (i + l.length : Nat))) = ents i (l ++ [c])
 | [], _, _ => rfl
 | d :: l, i, h => by
   simp only [List.mem_cons, not_or] at h
   simp only [ents, eset, eqVal_pair, List.cons_append]
   rw [if_neg (by simpa using h.1)]
   congr 1
   have := eset_ents c l (i + 1) h.2
   rw [show i + 1 + l.length = i + (d :: l).length by simp; omega] at this
   exact this
def rowH (r : List (Int × Int)) : List AV := rowG (false, r)
@[go_sem] theorem norefs_rowH (l : List (List (Int × Int))) : (l.map rowH).all AV.norefs = true := by simp [List.all_eq_true, rowH, rowG, AV.norefs, AV.noref]
structure StepFn (fid : FuncId) (caps : List AV) (V : Pr → Prop) (n : Nat) (st : StF) : Prop where
 zero : V (0, 0)
 norefs : AV.norefs caps = true
 call : ∀ p i, V p → i < n → ∃ (to : Pr) (out : Int) (is : Bool), PureIs prog fid (edgeA p :: .sc (.int .i64 (i : Int)) :: caps) (.tu [edgeA to, .sc (.int .i64 out), .sc (.bool is)]) ∧ (is = true → st p i = some (to, out) ∧ V to) ∧ (is = false → st p i = none)
theorem StepFn.all {fid : FuncId} {caps : List AV} {V : Pr → Prop} {n : Nat} {st : StF} (h : StepFn fid caps V n st) {p : Pr} (hp : RS st n p) : V p := by
 induction hp with
 | zero => exact h.zero
 | step hp hi hs ih =>
   obtain ⟨to, out, is, _, h2, h3⟩ := h.call _ _ ih hi
   cases is with
   | false => rw [h3 rfl] at hs; cases hs
   | true => rw [(h2 rfl).1] at hs; cases hs; exact (h2 rfl).2
def jointA (ins outs : Int) (n : Nat) (st : StF) : AV :=
 if (jq st n 64).length ≤ 64 then .tu [.ag [.sc (.int .i64 ins), .sc (.int .i64 outs), .sl false ((jrows st n 64).map rowH) .full], .sc (.int .i64 0)]
 else .tu [.ag zeroM, .sc (.int .i64 3)]
theorem jointA_noref (ins outs : Int) (n : Nat) (st : StF) : (jointA ins outs n st).noref = true := by unfold jointA; split <;> rfl
set_option maxHeartbeats 4000000 in
theorem joint_is {fid : FuncId} {A B : List AV} {V : Pr → Prop} {N : Nat} {st : StF} (hS : StepFn fid [.ia A, .ia B] V N st) (outs : Int) (hN : 1 ≤ N ∧ N ≤ 16) :
  PureIs prog 39 [.sc (.int .i64 (N : Int)), .sc (.int .i64 outs), .fn fid [.ia A, .ia B]] (jointA N outs N st) := by
 have hNN : ((N : Nat) : Int).toNat = N := Int.toNat_natCast N
 have hnc := hS.norefs
 refine PureIs.of1 3 [6, 7, 8, 9, 10, 11, 12, 13, 14, 15, 16, 18, 30, 36, 37, 38, 52, 64, 67, 26, 34] func39 ntmps39 results39 fun _ => ?_
 refine EvC.a ?_
 refine EvC.a ?_
 refine EvC.a ?_
 refine EvC.a ?_
 refine EvC.seq ?_
 refine EvC.a ?_
 refine EvC.block ?_
 refine EvC.ownC 5 2 1 (by simp only [go_sem] <;> rfl) ?_
 refine EvC.loopS (σ := Nat) (fun k => ⟨[(0, .sc (.int .i64 (N : Int))), (2, .fn fid [.ia A, .ia B]), (6, .rf 0 0), (8, .rf 3 0), (9, .mp 1), (10, .tl 2 (jq st N k).length false), (11, .sc (.int .i64 k))], [], [(0, .cells [.sc (.int .i64 0), .sc (.int .i64 0), .sl true [] .zer]), (1, .map 91 (ents 0 (jq st N k))), (2, .arr 2 ((jq st N k).map edgeC) false), (3, .cells [.sc (.int .i64 (N : Int)), .sc (.int .i64 outs), .tl 4 k (k == 0)]), (4, .arr 1 ((jrows st N k).map rowH) true)], 5⟩) (fun k => 100 - k) (fun k => k ≤ (jq st N k).length ∧ (jq st N k).length ≤ 64) [0, 2, 6, 8, 9, 10, 11] 5 ?_ ?_
 ·exact ⟨[(0, 0), (7, 1), (13, 2), (5, 3), (16, 4)], 0, rfl, (by simp only [go_sem, hnc, jq, jrows, ents, edgeC, pairV, List.map_nil, List.map_cons] <;> rfl), Nat.zero_le _, by simp [jq]⟩
 rintro k ⟨hk1, hk2⟩
 have hVL : ∀ q ∈ jq st N k, V q := fun q hq => hS.all (jq_reach st N k q hq)
 have hrl := jrows_len hk1
 refine EvC.seq ?_
 refine EvC.a ?_ (by simp only [go_sem, List.length_map] <;> rfl)
 refine EvC.cd (fun hc => ?_) (fun hc => ?_)
 rotate_left
 ·refine EvC.exit ?_
  have hc : ¬ k < (jq st N k).length := by simpa using hc
  obtain ⟨e1, e2⟩ := jq_fix' (show (jq st N k).length ≤ k by omega) (show k ≤ 64 by omega)
  have hk0 : (k == 0) = false := by have := jq_pos st N k; simp; omega
  refine EvC.frzD 4 (by simp only [go_sem, List.length_map, hrl, hk0] <;> rfl) ?_
  refine EvC.k1 ?_ (c1 := .ca (clip56_is false ((jrows st N k).map rowH) .unk (by simp [rowH, rowG])))
  refine EvC.a ?_
  refine EvC.ret ⟨.inl rfl, _, (by simp only [go_sem] <;> rfl), ?_, jointA_noref _ _ _ _⟩
  simp only [go_sem]
  rw [jointA, e1, e2, if_pos hk2]
 have hkl : k < (jq st N k).length := by simpa using hc
 clear hc
 have he : (jq st N k)[k]? = some (jq st N k)[k] := List.getElem?_eq_getElem hkl
 have hVp : V (jq st N k)[k] := hVL _ (List.getElem_mem hkl)
 have hq1 : jq st N (k + 1) = jl st (jq st N k)[k] (jq st N k) N := by simp only [jq, he]
 have hr1 : jrows st N (k + 1) = jrows st N k ++ [jrow st (jq st N (k + 1)) (jq st N k)[k] N] := by simp only [jrows, he]
 generalize (jq st N k)[k] = p at he hVp hq1 hr1
 obtain ⟨L, hL⟩ : ∃ L, L = jq st N k := ⟨_, rfl⟩
 rw [← hL] at he hq1 hkl hk1 hk2 hVL
 rw [← hL]
 have h64 := (jq_mono st N (show k + 1 ≤ 64 by omega)).length_le
 refine EvC.skip ?_
 refine EvC.seq ?_
 refine EvC.block ?_
 have hrep : List.replicate N [AV.sc (Value.int .i64 0), AV.sc (Value.int .i64 0)] = (List.replicate N ((0, 0) : Int × Int)).map edgeC := by simp [edgeC, List.map_replicate]
 refine EvC.a ?_ (by simp only [go_sem, hNN, hrep, List.length_map, List.length_replicate] <;> rfl) (by simp [room_eq]; omega)
 refine EvC.seq ?_
 refine EvC.a ?_ (by simp only [go_sem, List.length_map, List.length_replicate, List.length_take, Nat.min_self] <;> rfl)
 refine EvC.block ?_
 refine EvC.loopS (σ := Nat) (fun i => ⟨[(0, .sc (.int .i64 (N : Int))), (2, .fn fid [.ia A, .ia B]), (6, .rf 0 0), (8, .rf 3 0), (9, .mp 1), (10, .tl 2 (jl st p L i).length false), (11, .sc (.int .i64 k)), (12, .tv 5 N 0 N (.val N)), (36, .sc (.int .i64 (N : Int))), (37, .sc (.int .i64 i))], [], [(0, .cells [.sc (.int .i64 0), .sc (.int .i64 0), .sl true [] .zer]), (1, .map 91 (ents 0 (jl st p L i))), (2, .arr 2 ((jl st p L i).map edgeC) false), (3, .cells [.sc (.int .i64 (N : Int)), .sc (.int .i64 outs), .tl 4 k (k == 0)]), (4, .arr 1 ((jrows st N k).map rowH) true), (5, .arr 2 ((jpre st p L i ++ List.replicate (N - i) (0, 0)).map edgeC) false)], 6⟩) (fun i => N - i) (fun i => i ≤ N ∧ (jl st p L i).length ≤ 64) [0, 2, 6, 8, 9, 10, 11, 12, 36, 37] 6 ?_ ?_
 ·exact ⟨[(0, 0), (1, 1), (2, 2), (3, 3), (4, 4), (10, 5)], 0, rfl, (by simp only [jl, jpre, List.range_zero, List.map_nil, List.nil_append, Nat.sub_zero]; simp only [go_sem, hnc, Int.natCast_zero] <;> rfl), Nat.zero_le _, hk2⟩
 rintro i ⟨hi, hl64⟩
 obtain ⟨R, hRR⟩ : ∃ R, R = jpre st p L i ++ List.replicate (N - i) ((0, 0) : Int × Int) := ⟨_, rfl⟩
 have hR : R.length = N := by rw [hRR]; simp [jpre_len]; omega
 rw [← hRR]
 refine EvC.a ?_
 refine EvC.seq ?_
 refine EvC.cd (fun hc => ?_) (fun hc => ?_)
 rotate_left
 ·refine EvC.exit ?_
  obtain rfl : i = N := by have : ¬ i < N := by simpa using hc
                           omega
  have hrow : R = jrow st (jl st p L i) p i := by rw [hRR, Nat.sub_self, jpre_eq]; simp
  subst hrow
  clear hRR
  refine EvC.frz 5 (by simp only [go_sem, List.length_map, hR] <;> rfl) ?_
  refine EvC.b ?_ (by simp only [go_sem, hrl] <;> rfl) (by simp [room_eq, AV.norefs, AV.noref, hrl]; omega)
  refine EvC.bi ?_
  have hk0 : (k + 1 == 0) = false := rfl
  exact ⟨[(0, 0), (1, 1), (2, 2), (3, 3), (4, 4)], k + 1, rfl, (by rw [hr1, hq1]; simp only [go_sem, hnc, hk0, hrl, rowH, rowG, List.map_append, List.map_cons, List.map_nil, Int.natCast_add, Int.natCast_one, List.length_map, hR] <;> rfl), ⟨by rw [hq1]; have := jl_len st p L i; omega, by rw [hq1]; exact hl64⟩, by omega⟩
 have hil : i < N := by simpa using hc
 clear hc
 have hIi : inI64 ((i : Int) + 1) = true := inI64_of (by omega) (by omega)
 obtain ⟨m, hm⟩ : ∃ m, N - i = m + 1 := ⟨N - i - 1, by omega⟩
 have hm' : N - (i + 1) = m := by omega
 obtain ⟨L', hL'⟩ : ∃ L', L' = jl st p L i := ⟨_, rfl⟩
 have hl1 : jl st p L (i + 1) = jadd st p L' i := by rw [hL']; rfl
 have hlen := jl_len st p L i
 have heL : L'[k]? = some p := by
  obtain ⟨t, ht⟩ := jl_pre st p L i
  rw [hL', ← ht, List.getElem?_append_left hkl]; exact he
 have hps := jpre_succ st p L i
 rw [hl1] at hps
 have hmono := jl_mono st p L (show i + 1 ≤ N by omega)
 rw [hl1] at hmono
 rw [← hL'] at hlen hl64 ⊢
 have hset : ∀ e : Int × Int, jed st (jadd st p L' i) p i = e → (R.map edgeC).set i [.sc (.int .i64 e.1), .sc (.int .i64 e.2)] = (jpre st p L (i + 1) ++ List.replicate (N - (i + 1)) (0, 0)).map edgeC := fun e h1 => by
  show (R.map edgeC).set i (edgeC e) = _
  have hpl := jpre_len st p L i
  rw [hps, h1, hRR, hm, hm', List.replicate_succ, ← List.map_set, List.set_append_right _ _ (by omega), hpl, Nat.sub_self, List.set_cons_zero]; simp
 have hget : R[i]? = some (0, 0) := by
  rw [hRR, hm, List.replicate_succ, List.getElem?_append_right (by rw [jpre_len]; omega), jpre_len, Nat.sub_self]; rfl
 clear hRR hps
 refine EvC.skip ?_
 refine EvC.seq ?_
 refine EvC.block ?_
 refine EvC.a ?_
 obtain ⟨to, out, is, hcall, hT, hF⟩ := hS.call p i hVp hil
 refine EvC.k1 ?_ (h1 := by simp only [go_sem, heL, edgeC, hnc] <;> rfl) (k1 := by simp; try omega) (c1 := .ca hcall) (h2 := by simp only [go_sem, edgeA] <;> rfl)
 refine EvC.seq ?_
 refine EvC.a ?_
 cases is with
 | false =>
   have hst := hF rfl
   have hja : jadd st p L' i = L' := by simp only [jadd, hst]
   refine EvC.ct ?_
   refine EvC.k1 ?_ (h1 := by simp only [go_sem, List.length_map] <;> rfl) (k1 := by simp; try omega) (c1 := .ca none11_is) (h2 := by (simp only [go_sem, hget, edgeC, hset (-1, -1) (by simp only [jed, hst]), List.length_map, hR]) <;> rfl) (k2 := by simp; try omega)
   refine EvC.exit ?_
   refine EvC.b ?_ (hok := by exact hIi)
   exact ⟨[(0, 0), (1, 1), (2, 2), (3, 3), (4, 4), (5, 5)], i + 1, rfl, (by rw [hl1, hja]; simp only [go_sem, hnc, Int.natCast_add, Int.natCast_one] <;> rfl), ⟨hil, by rw [hl1, hja]; exact hl64⟩, by omega⟩
 | true =>
   obtain ⟨hst, hVt⟩ := hT rfl
   have hja : jadd st p L' i = jput L' to := by simp only [jadd, hst]
   rw [hja] at hl1 hmono hset
   refine EvC.cs ?_
   have helk := elook_ents to L' 0
   by_cases hmem : to ∈ L'
   ·have hel : elook (ents 0 L') (.agg [Value.int .i64 to.1, .int .i64 to.2].toArray) = some (.sc (.int .i64 (L'.idxOf to : Nat))) := by
      rw [if_pos hmem, Nat.zero_add] at helk; exact helk
    have hjp : jput L' to = L' := if_pos hmem
    rw [hjp] at hl1 hset
    refine EvC.seq ?_
    refine EvC.a ?_ (by simp only [go_sem, hel] <;> rfl)
    refine EvC.a ?_
    refine EvC.cs ?_
    refine EvC.b ?_ (by (simp only [go_sem, hel, hget, edgeC, hset ((L'.idxOf to : Nat), out) (by simp only [jed, hst]), List.length_map, hR]) <;> rfl) (by simp; try omega)
    refine EvC.b ?_ (hok := by exact hIi)
    exact ⟨[(0, 0), (1, 1), (2, 2), (3, 3), (4, 4), (5, 5)], i + 1, rfl, (by rw [hl1]; simp only [go_sem, hnc, Int.natCast_add, Int.natCast_one] <;> rfl), ⟨hil, by rw [hl1]; exact hl64⟩, by omega⟩
   ·have hel : elook (ents 0 L') (.agg [Value.int .i64 to.1, .int .i64 to.2].toArray) = none := by
      rw [if_neg hmem] at helk; exact helk
    have hes : eset (ents 0 L') (.agg [Value.int .i64 to.1, .int .i64 to.2].toArray) (.sc (.int .i64 L'.length)) = ents 0 (L' ++ [to]) := by
     have := eset_ents to L' 0 hmem
     rw [Nat.zero_add] at this
     exact this
    have hjp : jput L' to = L' ++ [to] := if_neg hmem
    have hel2 : elook (ents 0 (L' ++ [to])) (.agg [Value.int .i64 to.1, .int .i64 to.2].toArray) = some (.sc (.int .i64 ((L' ++ [to]).idxOf to : Nat))) := by
     have := elook_ents to (L' ++ [to]) 0
     rw [if_pos (by simp), Nat.zero_add] at this; exact this
    rw [hjp] at hl1 hset hmono
    refine EvC.seq ?_
    refine EvC.a ?_ (by simp only [go_sem, hel] <;> rfl)
    refine EvC.a ?_
    refine EvC.ct ?_
    refine EvC.seq ?_
    refine EvC.a ?_ (by simp only [go_sem, List.length_map] <;> rfl)
    refine EvC.cd (fun hc => ?_) (fun hc => ?_)
    ·have h64' : L'.length = 64 := by
       have : (L'.length : Int) = 64 := by simpa using hc
       omega
     refine EvC.a ?_
     refine EvC.ret ⟨.inl rfl, _, (by simp only [go_sem] <;> rfl), ?_, jointA_noref _ _ _ _⟩
     simp only [go_sem]
     have h65 := hmono.length_le
     rw [← hq1, List.length_append, List.length_singleton] at h65
     rw [jointA, if_neg (by omega)]; rfl
    have h64' : ¬ L'.length = 64 := by
     have : ¬ (L'.length : Int) = 64 := by simpa using hc
     omega
    refine EvC.skip ?_
    refine EvC.a ?_ (by simp only [go_sem, List.length_map, hes] <;> rfl) (by simp; try omega)
    refine EvC.b ?_ (by simp only [go_sem, edgeC, List.length_map] <;> rfl) (by simp [room_eq, AV.norefs, AV.noref]; omega)
    refine EvC.b ?_ (by (simp only [go_sem, hel2, hget, edgeC, hset (((L' ++ [to]).idxOf to : Nat), out) (by simp only [jed, hst]), List.length_map, hR]) <;> rfl) (by simp; try omega)
    refine EvC.b ?_ (hok := by exact hIi)
    exact ⟨[(0, 0), (1, 1), (2, 2), (3, 3), (4, 4), (5, 5)], i + 1, rfl, (by rw [hl1]; simp only [go_sem, hnc, Int.natCast_add, Int.natCast_one, edgeC, List.map_append, List.map_cons, List.map_nil, List.length_append, List.length_cons, List.length_nil, List.length_map] <;> rfl), ⟨hil, by rw [hl1]; simp; omega⟩, by omega⟩
def stOf (a b : Mach) (par : Int) : StF := fun p i => if (stepJ a b par p i).2 < 0 then none else some (stepJ a b par p i)
def inPr (a b : Mach) (p : Pr) : Prop := (0 ≤ p.1 ∧ p.1 < a.rows.length) ∧ (0 ≤ p.2 ∧ p.2 < b.rows.length)
theorem inPr_zero {a b : Mach} {par : Int} (h : Fit a b par) : inPr a b (0, 0) := by
 have := h.va.rows; have := h.vb.rows
 unfold inPr; simp only; omega
theorem stOf_none {a b : Mach} {par : Int} {p : Pr} {i : Nat} (h : stepJ a b par p i = ((0, 0), -1)) : stOf a b par p i = none := by
 unfold stOf; rw [h]; rfl
theorem stOf_some {a b : Mach} {par : Int} {p : Pr} {i : Nat} {q : Pr × Int} (h : stepJ a b par p i = q) (h0 : 0 ≤ q.2) : stOf a b par p i = some q := by
 unfold stOf; rw [h, if_neg (by omega)]
theorem series1_is {a b : Mach} (h : Fit a b 0) (p : Pr) (hp : inPr a b p) (i : Nat) (hi : (i : Int) < a.ins) : ∃ (to : Pr) (out : Int) (is : Bool),
  PureIs prog 40 [edgeA p, .sc (.int .i64 (i : Int)), .ia a.cells, .ia b.cells] (.tu [edgeA to, .sc (.int .i64 out), .sc (.bool is)]) ∧ (is = true → stOf a b 0 p i = some (to, out) ∧ inPr a b to) ∧ (is = false → stOf a b 0 p i = none) := by
 obtain ⟨s, t⟩ := p
 obtain ⟨hs, ht⟩ := hp
 simp only at hs ht
 obtain ⟨r1, x, k1, k2, k3, k4⟩ := stepR_get h.va hs.1 hs.2 (show 0 ≤ (i : Int) ∧ (i : Int) < a.ins by omega)
 have hx := fits_edge k4
 have hti : ((i : Nat) : Int).toNat = i := Int.toNat_natCast i
 rw [hti] at k2
 have start : ∀ {R : AV} {is : Bool}, is = (decide (x.1 = -1) && decide (x.2 = -1)) → R.noref = true →
   (is = true → R = .tu [edgeA (s, t), .sc (.int .i64 0), .sc (.bool false)]) →
   (is = false → ∀ (r2 : Row) (y : Int × Int), b.rows[t.toNat]? = some r2 → r2.2[x.2.toNat]? = some y → R = .tu [edgeA (x.1, y.1), .sc (.int .i64 y.2), .sc (.bool (!(decide (y.1 = -1) && decide (y.2 = -1))))]) →
   PureIs prog 40 [edgeA (s, t), .sc (.int .i64 (i : Int)), .ia a.cells, .ia b.cells] R := by
  intro R is his hR hT hF
  refine PureIs.of1 5 [6, 7, 8, 9, 10, 22] func40 ntmps40 results40 fun _ => ?_
  refine EvC.a ?_ (by simp only [go_sem, edgeA] <;> rfl)
  refine EvC.z 0 ?_
  refine EvC.a ?_ (by simp only [go_sem, Mach.cells, k1, rowC, hti, k2, edgeC] <;> rfl) (by simp [hs.1])
  refine EvC.seq ?_
  refine EvC.k1D mixed ?_ (c1 := .ca none11_is) (k2 := by simp [descAgg, matchKinds, matchKind])
  refine EvC.cd (fun hc => ?_) (fun hc => ?_)
  ·have his1 : is = true := by rw [his]; simpa using hc
   refine EvC.a ?_
   refine EvC.ret ⟨.inl rfl, _, (by simp only [go_sem] <;> rfl), ?_, by rw [hT his1]; simp [edgeA, AV.noref, AV.norefs]⟩
   simp only [go_sem]
   rw [hT his1]; rfl
  have his0 : is = false := by
   rw [his]
   by_cases h1 : x.1 = -1 <;> by_cases h2 : x.2 = -1 <;> simp [h1, h2] at hc ⊢
  have hnx : ¬ (x.1 = -1 ∧ x.2 = -1) := fun hh => by rw [his, hh.1, hh.2] at his0; cases his0
  have hx' : 0 ≤ x.1 ∧ x.1 < a.rows.length ∧ 0 ≤ x.2 ∧ x.2 < a.outs := by omega
  obtain ⟨r2, y, l1, l2, l3, l4⟩ := stepR_get h.vb ht.1 ht.2 (show 0 ≤ x.2 ∧ x.2 < b.ins by rw [← h.ser rfl]; omega)
  refine EvC.skip ?_
  refine EvC.d mixed ?_ (h := by simp only [go_sem, l1, rowC, l2, edgeC] <;> rfl) (hok := by simp [ht.1, hx'.2.2.1])
  refine EvC.k1D mixed ?_ (c1 := .ca none11_is) (k2 := by simp [descAgg, matchKinds, matchKind])
  refine EvC.ret ⟨.inl rfl, _, (by simp only [go_sem] <;> rfl), ?_, by rw [hF his0 r2 y l1 l2]; simp [edgeA, AV.noref, AV.norefs]⟩
  simp only [go_sem]
  rw [hF his0 r2 y l1 l2]
  congr 4
 by_cases hx0 : x.1 = -1 ∧ x.2 = -1
 ·refine ⟨(s, t), 0, false, start (is := true) (by simp [hx0]) rfl (fun _ => rfl) (fun h => by cases h), (fun h => by cases h), fun _ => stOf_none ?_⟩
  simp [stepJ, k3, hx0.1]
 ·have hx' : 0 ≤ x.1 ∧ x.1 < a.rows.length ∧ 0 ≤ x.2 ∧ x.2 < a.outs := by omega
  obtain ⟨r2, y, l1, l2, l3, l4⟩ := stepR_get h.vb ht.1 ht.2 (show 0 ≤ x.2 ∧ x.2 < b.ins by rw [← h.ser rfl]; omega)
  have hy := fits_edge l4
  refine ⟨(x.1, y.1), y.2, !(decide (y.1 = -1) && decide (y.2 = -1)), start (is := false) ?_ rfl (fun h => by cases h) (fun _ r2' y' m1 m2 => ?_), fun h1 => ?_, fun h1 => ?_⟩
  ·by_cases h1 : x.1 = -1 <;> by_cases h2 : x.2 = -1 <;> simp [h1, h2] at hx0 ⊢
  ·rw [l1] at m1; cases m1
   rw [l2] at m2; cases m2
   rfl
  ·have hy' : 0 ≤ y.1 ∧ y.1 < b.rows.length ∧ 0 ≤ y.2 := by
     by_cases e1 : y.1 = -1 <;> by_cases e2 : y.2 = -1 <;> simp [e1, e2] at h1 <;> omega
   refine ⟨stOf_some ?_ (show 0 ≤ y.2 by omega), ?_⟩
   ·simp only [stepJ, k3, l3]
    rw [if_neg (by omega), if_neg (by omega), if_neg (by omega)]
   ·unfold inPr; simp only; omega
  ·have hy1 : y.1 = -1 := by
     by_cases e1 : y.1 = -1
     ·exact e1
     ·simp [e1] at h1
   refine stOf_none ?_
   simp only [stepJ, k3, l3]
   rw [if_neg (by omega), if_neg (by omega), if_pos (by omega)]
theorem parallel1_is {a b : Mach} (h : Fit a b 1) (p : Pr) (hp : inPr a b p) (i : Nat) (hi : (i : Int) < a.ins) : ∃ (to : Pr) (out : Int) (is : Bool),
  PureIs prog 42 [edgeA p, .sc (.int .i64 (i : Int)), .ia a.cells, .ia b.cells] (.tu [edgeA to, .sc (.int .i64 out), .sc (.bool is)]) ∧ (is = true → stOf a b 1 p i = some (to, out) ∧ inPr a b to) ∧ (is = false → stOf a b 1 p i = none) := by
 obtain ⟨s, t⟩ := p
 obtain ⟨hs, ht⟩ := hp
 simp only at hs ht
 obtain ⟨r1, x, k1, k2, k3, k4⟩ := stepR_get h.va hs.1 hs.2 (show 0 ≤ (i : Int) ∧ (i : Int) < a.ins by omega)
 obtain ⟨r2, y, l1, l2, l3, l4⟩ := stepR_get h.vb ht.1 ht.2 (show 0 ≤ (i : Int) ∧ (i : Int) < b.ins by rw [← h.par rfl]; omega)
 have hx := fits_edge k4
 have hy := fits_edge l4
 have hti : ((i : Nat) : Int).toNat = i := Int.toNat_natCast i
 rw [hti] at k2 l2
 have ho := h.vb.outs
 have hao := h.va.outs
 have hm1 : -16 ≤ x.2 * b.outs ∧ x.2 * b.outs ≤ 16 * 16 := by
  by_cases e : x.2 = -1
  ·rw [e]; omega
  ·have h1 : 0 ≤ x.2 * b.outs := Int.mul_nonneg (by omega) (by omega)
   have h2 : x.2 * b.outs ≤ 16 * 16 := Int.mul_le_mul (by omega) (by omega) (by omega) (by omega)
   omega
 have hI1 : inI64 (x.2 * b.outs) = true := inI64_of (by omega) (by omega)
 have hI2 : inI64 (x.2 * b.outs + y.2) = true := inI64_of (by omega) (by omega)
 refine ⟨(x.1, y.1), x.2 * b.outs + y.2, !(decide (x.1 = -1) && decide (x.2 = -1)) && !(decide (y.1 = -1) && decide (y.2 = -1)), ?_, fun h1 => ?_, fun h1 => ?_⟩
 ·by_cases hx0 : x.1 = -1 ∧ x.2 = -1
  ·obtain ⟨e1, e2⟩ := hx0
   refine PureIs.of1 5 [6, 7, 8, 9, 10] func42 ntmps42 results42 fun _ => ?_
   refine EvC.a ?_ (by simp only [go_sem, edgeA] <;> rfl)
   refine EvC.z 0 ?_
   refine EvC.d mixed ?_ (h := by simp only [go_sem, Mach.cells, k1, rowC, hti, k2, l1, l2, edgeC] <;> rfl) (hok := by simp [hs.1, ht.1])
   apply EvC.seq
   apply EvC.drw mixed
   ·apply Tr.run
    ·simp only [go_sem, e1, e2] <;> rfl
    ·rw [e2] at hI1 hI2; simp only [Int.neg_mul, Int.one_mul] at hI1 hI2; simp [hI1, hI2]
    apply Tr.cons
    ·exact .call rfl rfl (by simp only [go_sem] <;> rfl) (by simp only [go_sem] <;> rfl) (by simp only [go_sem] <;> rfl) (by simp only [go_sem] <;> rfl) (by simp only [go_sem] <;> rfl) none11_is
    apply Tr.run
    ·simp only [go_sem, e1, e2] <;> rfl
    ·simp [descAgg, matchKinds, matchKind]
    apply Tr.cons
    ·exact .skipv (.ag [.sc (.int .i64 (-1)), .sc (.int .i64 (-1))]) rfl rfl (by simp only [go_sem] <;> rfl) (by simp only [go_sem] <;> rfl)
    apply Tr.done
    ·simp only [go_sem, e1, e2] <;> rfl
    ·simp [descAgg, matchKinds, matchKind]
   ·kernel_rfl
   refine EvC.ret ⟨.inl rfl, _, (by simp only [go_sem] <;> rfl), ?_, by simp [edgeA, AV.noref, AV.norefs]⟩
   simp only [go_sem]
   simp [e1, e2, edgeA]
  ·have hxd : (decide (x.1 = -1) && decide (x.2 = -1)) = false := by
     by_cases e1 : x.1 = -1 <;> by_cases e2 : x.2 = -1 <;> simp [e1, e2] at hx0 ⊢
   have hx1 : decide (x.1 = -1) = false := decide_eq_false (by omega)
   refine PureIs.of1 5 [6, 7, 8, 9, 10] func42 ntmps42 results42 fun _ => ?_
   refine EvC.a ?_ (by simp only [go_sem, edgeA] <;> rfl)
   refine EvC.z 0 ?_
   refine EvC.d mixed ?_ (h := by simp only [go_sem, Mach.cells, k1, rowC, hti, k2, l1, l2, edgeC] <;> rfl) (hok := by simp [hs.1, ht.1])
   apply EvC.seq
   apply EvC.drw mixed
   ·apply Tr.run
    ·simp only [go_sem] <;> rfl
    ·simp [hI1, hI2]
    apply Tr.cons
    ·exact .call rfl rfl (by simp only [go_sem] <;> rfl) (by simp only [go_sem] <;> rfl) (by simp only [go_sem] <;> rfl) (by simp only [go_sem] <;> rfl) (by simp only [go_sem] <;> rfl) none11_is
    apply Tr.run
    ·simp only [go_sem, hx1] <;> rfl
    ·simp [descAgg, matchKinds, matchKind]
    apply Tr.cons
    ·exact .callG rfl rfl (by simp only [go_sem] <;> rfl) rfl (by simp only [go_sem, hx1] <;> rfl) (by simp only [go_sem] <;> rfl) (by simp only [go_sem] <;> rfl) (by simp only [go_sem] <;> rfl) (by simp only [go_sem] <;> rfl) none11_is
    apply Tr.done
    ·simp only [go_sem, hx1] <;> rfl
    ·simp [descAgg, matchKinds, matchKind]
   ·kernel_rfl
   refine EvC.ret ⟨.inl rfl, _, (by simp only [go_sem] <;> rfl), ?_, by simp [edgeA, AV.noref, AV.norefs]⟩
   simp only [go_sem]
   simp [hx1, edgeA]
 ·have hd : ¬ x.1 = -1 ∧ ¬ y.1 = -1 := by
    constructor <;> intro e <;> simp [e] at h1 <;> omega
  refine ⟨stOf_some ?_ ?_, ?_⟩
  ·simp only [stepJ, k3, l3]
   rw [if_neg (by omega), if_pos True.intro, if_neg (by omega)]
  ·have : 0 ≤ x.2 * b.outs := Int.mul_nonneg (by omega) (by omega)
   simp only; omega
  ·unfold inPr; simp only; omega
 ·refine stOf_none ?_
  simp only [stepJ, k3, l3]
  by_cases e : x.1 = -1
  ·rw [if_pos (by omega)]
  ·have hy1 : y.1 = -1 := by
     by_cases e1 : y.1 = -1
     ·exact e1
     ·simp [e, e1] at h1
   rw [if_neg (by omega), if_pos True.intro, if_pos (by omega)]
def orL (l : List Int) : Int := (l.find? fun x => decide (x ≠ 0)).getD 0
theorem orJ_is (nl : Bool) (l : List Int) (c : Cp) (hl : l.length < 1000000) : PureIs prog 43 [.sl nl (l.map intC) c] (.sc (.int .i64 (orL l))) := by
 refine PureIs.of1 1 [2, 3, 5, 6, 7, 8, 9, 14] func43 ntmps43 results43 fun _ => ?_
 refine EvC.a ?_
 refine EvC.a ?_
 refine EvC.seq ?_
 refine EvC.a ?_ (by simp only [go_sem, List.length_map] <;> rfl)
 refine EvC.block ?_
 refine EvC.loopS (σ := Nat) (fun i => ⟨[(3, .sc (.int .i64 0)), (6, .sl nl (l.map intC) c), (7, .sc (.int .i64 l.length)), (8, .sc (.int .i64 i))], [], [], 0⟩) (fun i => l.length - i) (fun i => i ≤ l.length ∧ orL l = orL (l.drop i)) [3, 6, 7, 8] 0 ?_ ?_
 ·exact ⟨[], 0, rfl, (by simp only [go_sem, Int.natCast_zero] <;> rfl), Nat.zero_le _, rfl⟩
 rintro i ⟨h1, h2⟩
 refine EvC.a ?_
 refine EvC.seq ?_
 refine EvC.cd (fun hc => ?_) (fun hc => ?_)
 rotate_left
 ·refine EvC.exit ?_
  refine EvC.a ?_
  refine EvC.rz ?_
  simp only [go_sem]
  have : ¬ i < l.length := by simpa using hc
  rw [h2, List.drop_of_length_le (by omega)]; rfl
 have hi : i < l.length := by simpa using hc
 have he : l[i]? = some l[i] := List.getElem?_eq_getElem hi
 have hd : l.drop i = l[i] :: l.drop (i + 1) := List.drop_eq_getElem_cons hi
 generalize l[i] = x at he hd
 clear hc
 refine EvC.skip ?_
 refine EvC.seq ?_
 refine EvC.block ?_
 refine EvC.a ?_ (by simp only [go_sem, he, intC] <;> rfl)
 refine EvC.a ?_
 refine EvC.cd (fun hc => ?_) (fun hc => ?_)
 ·have hx : x ≠ 0 := by simpa using hc
  refine EvC.a ?_
  refine EvC.rz ?_
  simp only [go_sem]
  rw [h2, hd, orL, List.find?_cons_of_pos (by simpa using hx)]; rfl
 have hx : x = 0 := by simpa using hc
 refine EvC.skip ?_
 refine EvC.bi ?_
 exact ⟨[], i + 1, rfl, (by simp only [go_sem, Int.natCast_add, Int.natCast_one] <;> rfl), ⟨by omega, by rw [h2, hd, orL, List.find?_cons_of_neg (by simp [hx])]; rfl⟩, by omega⟩
def bothE (a b : Mach) : Int := if checkM a ≠ 0 then checkM a else checkM b
theorem orL_two (x y : Int) : orL [x, y] = if x ≠ 0 then x else y := by
 unfold orL
 by_cases hx : x = 0
 ·rw [List.find?_cons_of_neg (by simp [hx]), if_neg (by simp [hx])]
  by_cases hy : y = 0
  ·simp [hy]
  ·rw [List.find?_cons_of_pos (by simpa using hy)]; rfl
 ·rw [List.find?_cons_of_pos (by simpa using hx), if_pos hx]; rfl
theorem bothJ_is (a b : Mach) (ha : ∀ r ∈ a.rows, r.2.length < 1000000) (hb : ∀ r ∈ b.rows, r.2.length < 1000000) : PureIs prog 38 [.ag a.cells, .ag b.cells] (.sc (.int .i64 (bothE a b))) := by
 refine PureIs.of1 5 [] func38 ntmps38 results38 fun _ => ?_
 refine EvC.a ?_ (by simp only [go_sem, Mach.cells] <;> rfl)
 apply EvC.seq
 apply EvC.drw mixed
 ·apply Tr.run
  ·simp only [go_sem] <;> rfl
  ·simp
  apply Tr.cons
  ·exact .ca (check_is a ha)
  apply Tr.run
  ·simp only [go_sem] <;> rfl
  ·simp
  apply Tr.cons
  ·exact .ca (check_is b hb)
  apply Tr.run
  ·simp only [go_sem] <;> rfl
  ·simp [AV.norefs, AV.noref]
  apply Tr.cons
  ·exact .ca (by simpa [intC] using orJ_is false [checkM a, checkM b] .full (by simp))
  apply Tr.done
  ·simp only [go_sem] <;> rfl
  ·simp
 ·kernel_rfl
 refine EvC.rz ?_
 simp only [go_sem]
 rw [orL_two]; rfl
def errA (e : Int) : AV := .tu [.ag zeroM, .sc (.int .i64 e)]
def seriesA (a b : Mach) : AV := if bothE a b ≠ 0 then errA (bothE a b) else if a.outs ≠ b.ins then errA 5 else jointA a.ins b.outs a.ins.toNat (stOf a b 0)
theorem bothE_zero {a b : Mach} (h : bothE a b = 0) : Valid a ∧ Valid b := by
 unfold bothE at h
 by_cases e : checkM a = 0
 ·rw [if_neg (by simpa using e)] at h; exact ⟨.of e, .of h⟩
 ·rw [if_pos e] at h; exact absurd h e
theorem bothE_of {a b : Mach} (ha : checkM a = 0) (hb : checkM b = 0) : bothE a b = 0 := by unfold bothE; rw [if_neg (by simpa using ha)]; exact hb
theorem seriesA_noref (a b : Mach) : (seriesA a b).noref = true := by unfold seriesA; split; rfl; split; rfl; exact jointA_noref _ _ _ _
theorem series_is (a b : Mach) (ha : ∀ r ∈ a.rows, r.2.length < 1000000) (hb : ∀ r ∈ b.rows, r.2.length < 1000000) : PureIs prog 15 [.ag a.cells, .ag b.cells] (seriesA a b) := by
 refine PureIs.of1 7 [11, 18] func15 ntmps15 results15 fun _ => ?_
 refine EvC.a ?_ (by simp only [go_sem, Mach.cells] <;> rfl)
 refine EvC.z 0 ?_
 refine EvC.z 1 ?_
 refine EvC.seq ?_
 refine EvC.k1 ?_ (h1 := by simp only [go_sem, Mach.cells] <;> rfl) (c1 := .ca (bothJ_is a b ha hb))
 refine EvC.a ?_
 refine EvC.cd (fun hc => ?_) (fun hc => ?_)
 ·refine EvC.a ?_
  refine EvC.ret ⟨.inl rfl, _, (by simp only [go_sem] <;> rfl), ?_, seriesA_noref _ _⟩
  simp only [go_sem]
  rw [seriesA, if_pos (by simpa using hc)]; rfl
 have hbe : bothE a b = 0 := by simpa using hc
 obtain ⟨va, vb⟩ := bothE_zero hbe
 refine EvC.skip ?_
 refine EvC.seq ?_
 refine EvC.a ?_
 refine EvC.cd (fun hc => ?_) (fun hc => ?_)
 ·refine EvC.a ?_
  refine EvC.ret ⟨.inl rfl, _, (by simp only [go_sem] <;> rfl), ?_, seriesA_noref _ _⟩
  simp only [go_sem]
  rw [seriesA, if_neg (by simpa using hbe), if_pos (by simpa using hc)]; rfl
 have hio : a.outs = b.ins := by simpa using hc
 have hf : Fit a b 0 := ⟨va, vb, .inl rfl, fun _ => hio, fun h => by cases h⟩
 have hai := va.ins
 have hN : ((a.ins.toNat : Nat) : Int) = a.ins := by omega
 have hS : StepFn 40 [.ia a.cells, .ia b.cells] (inPr a b) a.ins.toNat (stOf a b 0) := ⟨inPr_zero hf, rfl, fun p i hp hi => series1_is hf p hp i (by omega)⟩
 have hj := joint_is hS b.outs (by omega)
 rw [hN] at hj
 have hB : seriesA a b = jointA a.ins b.outs a.ins.toNat (stOf a b 0) := by rw [seriesA, if_neg (by simpa using hbe), if_neg (by simpa using hio)]
 refine EvC.skip ?_
 unfold jointA at hB hj
 by_cases h64 : (jq (stOf a b 0) a.ins.toNat 64).length ≤ 64
 ·rw [if_pos h64] at hB hj
  refine EvC.k1 ?_ (h1 := by simp only [go_sem, Mach.cells] <;> rfl) (c1 := .ca hj) (h2 := by simp only [go_sem, List.length_map] <;> rfl)
  refine EvC.ret ⟨.inl rfl, _, (by simp only [go_sem] <;> rfl), ?_, seriesA_noref _ _⟩
  simp only [go_sem]
  rw [hB]
 ·rw [if_neg h64] at hB hj
  refine EvC.k1 ?_ (h1 := by simp only [go_sem, Mach.cells] <;> rfl) (c1 := .ca hj) (h2 := by simp only [go_sem, zeroM] <;> rfl)
  refine EvC.ret ⟨.inl rfl, _, (by simp only [go_sem] <;> rfl), ?_, seriesA_noref _ _⟩
  simp only [go_sem]
  rw [hB]; rfl
def parallelA (a b : Mach) : AV := if bothE a b ≠ 0 then errA (bothE a b) else if a.ins ≠ b.ins then errA 5 else if 16 < a.outs * b.outs then errA 3 else jointA a.ins (a.outs * b.outs) a.ins.toNat (stOf a b 1)
theorem parallelA_noref (a b : Mach) : (parallelA a b).noref = true := by unfold parallelA; split; rfl; split; rfl; split; rfl; exact jointA_noref _ _ _ _
theorem parallel_is (a b : Mach) (ha : ∀ r ∈ a.rows, r.2.length < 1000000) (hb : ∀ r ∈ b.rows, r.2.length < 1000000) : PureIs prog 17 [.ag a.cells, .ag b.cells] (parallelA a b) := by
 refine PureIs.of1 7 [11, 18, 25] func17 ntmps17 results17 fun _ => ?_
 refine EvC.a ?_ (by simp only [go_sem, Mach.cells] <;> rfl)
 refine EvC.z 0 ?_
 refine EvC.z 1 ?_
 refine EvC.seq ?_
 refine EvC.k1 ?_ (h1 := by simp only [go_sem, Mach.cells] <;> rfl) (c1 := .ca (bothJ_is a b ha hb))
 refine EvC.a ?_
 refine EvC.cd (fun hc => ?_) (fun hc => ?_)
 ·refine EvC.a ?_
  refine EvC.ret ⟨.inl rfl, _, (by simp only [go_sem] <;> rfl), ?_, parallelA_noref _ _⟩
  simp only [go_sem]
  rw [parallelA, if_pos (by simpa using hc)]; rfl
 have hbe : bothE a b = 0 := by simpa using hc
 obtain ⟨va, vb⟩ := bothE_zero hbe
 refine EvC.skip ?_
 refine EvC.seq ?_
 refine EvC.a ?_
 refine EvC.cd (fun hc => ?_) (fun hc => ?_)
 ·refine EvC.a ?_
  refine EvC.ret ⟨.inl rfl, _, (by simp only [go_sem] <;> rfl), ?_, parallelA_noref _ _⟩
  simp only [go_sem]
  rw [parallelA, if_neg (by simpa using hbe), if_pos (by simpa using hc)]; rfl
 have hio : a.ins = b.ins := by simpa using hc
 have hf : Fit a b 1 := ⟨va, vb, .inr rfl, fun h => absurd h (by decide), fun _ => hio⟩
 have hai := va.ins
 have hao := va.outs
 have hbo := vb.outs
 have hm1 : 0 ≤ a.outs * b.outs := Int.mul_nonneg (by omega) (by omega)
 have hm2 : a.outs * b.outs ≤ 16 * 16 := Int.mul_le_mul (by omega) (by omega) (by omega) (by omega)
 have hI : inI64 (a.outs * b.outs) = true := inI64_of (by omega) (by omega)
 refine EvC.skip ?_
 refine EvC.seq ?_
 refine EvC.a ?_ (hok := by simp [hI])
 refine EvC.cd (fun hc => ?_) (fun hc => ?_)
 ·refine EvC.a ?_
  refine EvC.ret ⟨.inl rfl, _, (by simp only [go_sem] <;> rfl), ?_, parallelA_noref _ _⟩
  simp only [go_sem]
  rw [parallelA, if_neg (by simpa using hbe), if_neg (by simpa using hio), if_pos (by simpa using hc)]; rfl
 have h16 : ¬ 16 < a.outs * b.outs := by simpa using hc
 have hN : ((a.ins.toNat : Nat) : Int) = a.ins := by omega
 have hS : StepFn 42 [.ia a.cells, .ia b.cells] (inPr a b) a.ins.toNat (stOf a b 1) := ⟨inPr_zero hf, rfl, fun p i hp hi => parallel1_is hf p hp i (by omega)⟩
 have hj := joint_is hS (a.outs * b.outs) (by omega)
 rw [hN] at hj
 have hB : parallelA a b = jointA a.ins (a.outs * b.outs) a.ins.toNat (stOf a b 1) := by rw [parallelA, if_neg (by simpa using hbe), if_neg (by simpa using hio), if_neg h16]
 refine EvC.skip ?_
 unfold jointA at hB hj
 by_cases h64 : (jq (stOf a b 1) a.ins.toNat 64).length ≤ 64
 ·rw [if_pos h64] at hB hj
  refine EvC.k1 ?_ (h1 := by simp only [go_sem, Mach.cells] <;> rfl) (k1 := by simp [hI]) (c1 := .ca hj) (h2 := by simp only [go_sem, List.length_map] <;> rfl)
  refine EvC.ret ⟨.inl rfl, _, (by simp only [go_sem] <;> rfl), ?_, parallelA_noref _ _⟩
  simp only [go_sem]
  rw [hB]
 ·rw [if_neg h64] at hB hj
  refine EvC.k1 ?_ (h1 := by simp only [go_sem, Mach.cells] <;> rfl) (k1 := by simp [hI]) (c1 := .ca hj) (h2 := by simp only [go_sem, zeroM] <;> rfl)
  refine EvC.ret ⟨.inl rfl, _, (by simp only [go_sem] <;> rfl), ?_, parallelA_noref _ _⟩
  simp only [go_sem]
  rw [hB]; rfl
theorem stepJ_ok {a b : Mach} {par : Int} (h : Fit a b par) {s t i : Int} (hs : 0 ≤ s ∧ s < a.rows.length) (ht : 0 ≤ t ∧ t < b.rows.length) (hi : 0 ≤ i ∧ i < a.ins) :
  stepJ a b par (s, t) i = ((0, 0), -1) ∨ (0 ≤ (stepJ a b par (s, t) i).2 ∧ 0 ≤ (stepJ a b par (s, t) i).1.1 ∧ (stepJ a b par (s, t) i).1.1 < a.rows.length ∧ 0 ≤ (stepJ a b par (s, t) i).1.2 ∧ (stepJ a b par (s, t) i).1.2 < b.rows.length) := by
 obtain ⟨r1, x, k1, k2, k3, k4⟩ := stepR_get h.va hs.1 hs.2 hi
 have hx := fits_edge k4
 by_cases hx0 : x.1 < 0
 ·left; simp [stepJ, k3, hx0]
 by_cases hp : par = 1
 ·obtain ⟨r2, y, l1, l2, l3, l4⟩ := stepR_get h.vb ht.1 ht.2 (show 0 ≤ i ∧ i < b.ins by rw [← h.par hp]; exact hi)
  have hy := fits_edge l4
  by_cases hy0 : y.1 < 0
  ·left; simp [stepJ, k3, l3, hp, hx0, hy0]
  ·right
   have hm1 : 0 ≤ x.2 * b.outs := Int.mul_nonneg (by omega) (by have := h.vb.outs; omega)
   simp only [stepJ, k3, l3, if_neg hx0, if_pos hp, if_neg hy0]
   omega
 ·have hp0 : par = 0 := by rcases h.p with h | h; exact h; exact absurd h hp
  obtain ⟨r2, y, l1, l2, l3, l4⟩ := stepR_get h.vb ht.1 ht.2 (show 0 ≤ x.2 ∧ x.2 < b.ins by rw [← h.ser hp0]; omega)
  have hy := fits_edge l4
  by_cases hy0 : y.1 < 0
  ·left; simp [stepJ, k3, l3, hp, hx0, hy0]
  ·right
   simp only [stepJ, k3, l3, if_neg hx0, if_neg hp, if_neg hy0]
   omega
theorem stOf_eq {a b : Mach} {par : Int} {p : Pr} {i : Nat} {q : Pr × Int} (h : stOf a b par p i = some q) : stepJ a b par p i = q ∧ 0 ≤ q.2 := by
 unfold stOf at h
 split at h
 ·cases h
 ·cases h; exact ⟨rfl, by omega⟩
theorem stOf_to {a b : Mach} {par : Int} (hf : Fit a b par) {p : Pr} {i : Nat} {q : Pr × Int} (hp : inPr a b p) (hi : (i : Int) < a.ins) (h : stOf a b par p i = some q) : inPr a b q.1 := by
 obtain ⟨h1, h2⟩ := stOf_eq h
 rcases stepJ_ok hf (s := p.1) (t := p.2) (i := (i : Int)) hp.1 hp.2 (by omega) with e | e
 ·have e' : stepJ a b par p i = ((0, 0), -1) := e
  rw [h1] at e'; rw [e'] at h2; simp at h2
 ·have h1' : stepJ a b par (p.1, p.2) i = q := h1
  rw [h1'] at e
  exact ⟨⟨e.2.1, e.2.2.1⟩, e.2.2.2⟩
def jQ (a b : Mach) (par : Int) : List Pr := jq (stOf a b par) a.ins.toNat 64
theorem jQ_reach {a b : Mach} {par : Int} : ∀ p ∈ jQ a b par, RS (stOf a b par) a.ins.toNat p := jq_reach _ _ 64
theorem jQ_nodup (a b : Mach) (par : Int) : (jQ a b par).Nodup := jq_nodup _ _ 64
theorem jQ_pos (a b : Mach) (par : Int) : 1 ≤ (jQ a b par).length := jq_pos _ _ 64
theorem jQ_zero (a b : Mach) (par : Int) : (jQ a b par)[0]? = some (0, 0) := jq_zero _ _ 64
theorem jQ_all {a b : Mach} {par : Int} (h : (jQ a b par).length ≤ 64) {p : Pr} (hp : RS (stOf a b par) a.ins.toNat p) : p ∈ jQ a b par := jq_all h hp
theorem jQ_mono {a b : Mach} {par : Int} {k : Nat} (h : k ≤ 64) : jq (stOf a b par) a.ins.toNat k <+: jQ a b par := jq_mono _ _ h
theorem jQ_fix {a b : Mach} {par : Int} {k : Nat} (h : (jq (stOf a b par) a.ins.toNat k).length ≤ k) (hk : k ≤ 64) : jQ a b par = jq (stOf a b par) a.ins.toNat k ∧ jrows (stOf a b par) a.ins.toNat 64 = jrows (stOf a b par) a.ins.toNat k := jq_fix' h hk
theorem jointA_eq (a b : Mach) (par : Int) (outs : Int) (h64 : (jQ a b par).length ≤ 64) : jointA a.ins outs a.ins.toNat (stOf a b par) = .tu [.ag [.sc (.int .i64 a.ins), .sc (.int .i64 outs), .sl false ((jrows (stOf a b par) a.ins.toNat 64).map rowH) .full], .sc (.int .i64 0)] := if_pos h64
attribute [irreducible] jQ
def prs (n m : Nat) : List (Nat × Nat) := (List.range n).flatMap fun s => (List.range m).map fun t => (s, t)
theorem mem_prs {n m : Nat} {p : Nat × Nat} : p ∈ prs n m ↔ p.1 < n ∧ p.2 < m := by
 obtain ⟨s, t⟩ := p
 simp only [prs, List.mem_flatMap, List.mem_range, List.mem_map, Prod.mk.injEq]
 constructor
 ·rintro ⟨a, h1, b, h2, rfl, rfl⟩; exact ⟨h1, h2⟩
 ·rintro ⟨h1, h2⟩; exact ⟨s, h1, t, h2, rfl, rfl⟩
theorem prs_succ (n m : Nat) : prs (n + 1) m = prs n m ++ (List.range m).map fun t => (n, t) := by simp [prs, List.range_succ]
theorem prs_len (n m : Nat) : (prs n m).length = n * m := by
 induction n with
 | zero => simp [prs]
 | succ n ih => rw [prs_succ, List.length_append, ih]; simp [Nat.succ_mul]
theorem RS_in {a b : Mach} {par : Int} (hf : Fit a b par) {p : Pr} (h : RS (stOf a b par) a.ins.toNat p) : inPr a b p := by
 have hai := hf.va.ins
 induction h with
 | zero => exact inPr_zero hf
 | @step p q o i _ hi hs ih => exact stOf_to hf ih (by omega) hs
def natP (p : Pr) : Nat × Nat := (p.1.toNat, p.2.toNat)
theorem natQ_nodup {a b : Mach} {par : Int} (hf : Fit a b par) : ((jQ a b par).map natP).Nodup := by
 rw [List.nodup_iff_pairwise_ne, List.pairwise_map]
 have h := List.nodup_iff_pairwise_ne.1 (jQ_nodup a b par)
 refine List.Pairwise.imp_of_mem (fun {p q} hp hq hne e => hne ?_) h
 have h1 := RS_in hf (jQ_reach p hp)
 have h2 := RS_in hf (jQ_reach q hq)
 simp only [natP, Prod.mk.injEq] at e
 obtain ⟨⟨a1, -⟩, a2, -⟩ := h1
 obtain ⟨⟨b1, -⟩, b2, -⟩ := h2
 exact Prod.ext (by omega) (by omega)
theorem jQ_le {a b : Mach} {par : Int} (hf : Fit a b par) : (jQ a b par).length ≤ a.rows.length * b.rows.length := by
 have := (natQ_nodup hf).length_le_of_subset (l₂ := prs a.rows.length b.rows.length) (fun p hp => by
  obtain ⟨q, hq, rfl⟩ := List.mem_map.1 hp
  have h := RS_in hf (jQ_reach q hq)
  obtain ⟨⟨a1, a2⟩, a3, a4⟩ := h
  rw [mem_prs]
  simp only [natP]; omega)
 rwa [List.length_map, prs_len] at this
def jRow (a b : Mach) (par : Int) (p : Pr) : Row := (false, jrow (stOf a b par) (jQ a b par) p a.ins.toNat)
def jM (a b : Mach) (par outs : Int) : Mach := ⟨a.ins, outs, false, (jQ a b par).map (jRow a b par)⟩
theorem jM_len (a b : Mach) (par outs : Int) : (jM a b par outs).rows.length = (jQ a b par).length := by simp [jM]
theorem jq_at {a b : Mach} {par : Int} (h64 : (jQ a b par).length ≤ 64) : jq (stOf a b par) a.ins.toNat (jQ a b par).length = jQ a b par ∧ jrows (stOf a b par) a.ins.toNat 64 = jrows (stOf a b par) a.ins.toNat (jQ a b par).length := by
 have h1 := (jQ_mono (a := a) (b := b) (par := par) h64).length_le
 have := jQ_fix h1 h64
 exact ⟨this.1.symm, this.2⟩
theorem jM_rows {a b : Mach} {par : Int} (outs : Int) (h64 : (jQ a b par).length ≤ 64) : (jrows (stOf a b par) a.ins.toNat 64).map rowH = (jM a b par outs).rows.map rowG := by
 obtain ⟨h1, h2⟩ := jq_at h64
 rw [h2, jrows_eq (m := (jQ a b par).length) (Nat.le_refl _) (by rw [h1]; exact Nat.le_refl _), h1, List.take_length]
 simp only [jM, List.map_map]; rfl
theorem jM_tu {a b : Mach} {par : Int} (outs : Int) (h64 : (jQ a b par).length ≤ 64) : jointA a.ins outs a.ins.toNat (stOf a b par) = .tu [.ag (jM a b par outs).cellsF, .sc (.int .i64 0)] := by
 rw [jointA_eq a b par outs h64, jM_rows outs h64]; rfl
theorem jed_some {a b : Mach} {par : Int} {p : Pr} {i : Nat} {q : Pr × Int} (h : stOf a b par p i = some q) : jed (stOf a b par) (jQ a b par) p i = ((((jQ a b par).idxOf q.1 : Nat) : Int), q.2) := by simp [jed, h]
theorem jed_none {a b : Mach} {par : Int} {p : Pr} {i : Nat} (h : stOf a b par p i = none) : jed (stOf a b par) (jQ a b par) p i = (-1, -1) := by simp [jed, h]
theorem jrow_get {a b : Mach} {par : Int} (p : Pr) {i : Nat} (hi : i < a.ins.toNat) : (jRow a b par p).2[i]? = some (jed (stOf a b par) (jQ a b par) p i) := by
 simp only [jRow, jrow]; rw [List.getElem?_map, List.getElem?_range hi]; rfl
theorem stepJ_out {a b : Mach} {par outs : Int} (hf : Fit a b par) (ho : outs = if par = 1 then a.outs * b.outs else b.outs) {p : Pr} {i : Nat} {q : Pr × Int} (hp : inPr a b p) (hi : (i : Int) < a.ins) (h : stOf a b par p i = some q) : 0 ≤ q.2 ∧ q.2 < outs := by
 obtain ⟨h1, h2⟩ := stOf_eq h
 refine ⟨h2, ?_⟩
 obtain ⟨s, t⟩ := p
 obtain ⟨hs, ht⟩ := hp
 simp only at hs ht
 obtain ⟨r1, x, k1, k2, k3, k4⟩ := stepR_get hf.va hs.1 hs.2 (show 0 ≤ (i : Int) ∧ (i : Int) < a.ins by omega)
 have hx := fits_edge k4
 by_cases hx0 : x.1 < 0
 ·have : stepJ a b par (s, t) i = ((0, 0), -1) := by simp [stepJ, k3, hx0]
  rw [h1] at this; rw [this] at h2; simp at h2
 by_cases hpp : par = 1
 ·obtain ⟨r2, y, l1, l2, l3, l4⟩ := stepR_get hf.vb ht.1 ht.2 (show 0 ≤ (i : Int) ∧ (i : Int) < b.ins by rw [← hf.par hpp]; omega)
  have hy := fits_edge l4
  by_cases hy0 : y.1 < 0
  ·have : stepJ a b par (s, t) i = ((0, 0), -1) := by simp [stepJ, k3, l3, hpp, hx0, hy0]
   rw [h1] at this; rw [this] at h2; simp at h2
  ·simp only [stepJ, k3, l3, if_neg hx0, if_pos hpp, if_neg hy0] at h1
   rw [← h1, ho, if_pos hpp]
   have h3 : (x.2 + 1) * b.outs ≤ a.outs * b.outs := Int.mul_le_mul_of_nonneg_right (by omega) (by have := hf.vb.outs; omega)
   rw [Int.add_mul, Int.one_mul] at h3
   simp only
   omega
 ·have hp0 : par = 0 := by rcases hf.p with h | h; exact h; exact absurd h hpp
  obtain ⟨r2, y, l1, l2, l3, l4⟩ := stepR_get hf.vb ht.1 ht.2 (show 0 ≤ x.2 ∧ x.2 < b.ins by rw [← hf.ser hp0]; omega)
  have hy := fits_edge l4
  by_cases hy0 : y.1 < 0
  ·have : stepJ a b par (s, t) i = ((0, 0), -1) := by simp [stepJ, k3, l3, hpp, hx0, hy0]
   rw [h1] at this; rw [this] at h2; simp at h2
  ·simp only [stepJ, k3, l3, if_neg hx0, if_neg hpp, if_neg hy0] at h1
   rw [← h1, ho, if_neg hpp]
   simp only
   omega
theorem jM_valid {a b : Mach} {par outs : Int} (hf : Fit a b par) (h64 : (jQ a b par).length ≤ 64) (ho : outs = if par = 1 then a.outs * b.outs else b.outs) (h16 : 1 ≤ outs ∧ outs ≤ 16) : Valid (jM a b par outs) := by
 have hai := hf.va.ins
 refine ⟨hai, h16, by rw [jM_len]; exact ⟨jQ_pos a b par, h64⟩, fun r hr => ?_⟩
 rw [jM_len]
 obtain ⟨p, hp, rfl⟩ := List.mem_map.1 hr
 have hpi := RS_in hf (jQ_reach p hp)
 refine ⟨by simp [jRow, jrow, jM]; omega, fun e he => ?_⟩
 simp only [jRow, jrow, List.mem_map, List.mem_range] at he
 obtain ⟨i, hi, rfl⟩ := he
 cases hst : stOf a b par p i with
 | none => rw [jed_none hst]; simp [fitsR]
 | some q =>
   rw [jed_some hst]
   have h1 := stepJ_out hf ho hpi (by omega) hst
   have h2 : q.1 ∈ jQ a b par := jQ_all h64 (RS.step (jQ_reach p hp) hi (o := q.2) (by rw [hst]))
   have h3 := List.idxOf_lt_length_of_mem h2
   simp only [fitsR, Bool.or_eq_true, Bool.and_eq_true, decide_eq_true_eq, jM]
   exact .inr ⟨⟨⟨by omega, by omega⟩, h1.1⟩, decide_eq_true h1.2⟩
def par2 (o x y : Int) : Int := if 0 ≤ x ∧ 0 ≤ y then x * o + y else -1
theorem jM_step {a b : Mach} {par outs : Int} {k : Nat} {p : Pr} (hk : (jQ a b par)[k]? = some p) {x : Int} (hx : 0 ≤ x ∧ x < a.ins) : stepR (jM a b par outs) k x = jed (stOf a b par) (jQ a b par) p x.toNat := by
 have h1 : (jM a b par outs).rows[k]? = some (jRow a b par p) := by
  simp only [jM]; rw [List.getElem?_map, hk]; rfl
 have h2 := jrow_get (a := a) (b := b) (par := par) p (i := x.toNat) (by omega)
 rw [stepR, if_neg (by omega), Int.toNat_natCast, h1]
 simp only [Option.map_some, Option.getD_some, h2]
theorem runR_bd {m : Mach} (hv : Valid m) : ∀ (w : List Int) (s : Int), s < m.rows.length → (∀ x ∈ w, 0 ≤ x ∧ x < m.ins) → ∀ y ∈ runR m s w, -1 ≤ y ∧ y < 16
 | [], _, _, _, _, h => by cases h
 | x :: w, s, hs, hw, y, h => by
   have hx := hw x List.mem_cons_self
   simp only [runR, List.mem_cons] at h
   rcases h with rfl | h
   ·by_cases hn : s < 0
    ·rw [stepR_neg hn]; decide
    ·obtain ⟨r, e, k1, k2, k3, k4⟩ := stepR_get hv (by omega) hs hx
     have := fits_edge k4
     have := hv.outs
     rw [k3]; omega
   ·exact runR_bd hv w _ (stepR_lt hv hs hx) (fun z hz => hw z (List.mem_cons_of_mem _ hz)) y h
def ParRel (a b : Mach) (s s1 s2 : Int) : Prop := (s < 0 ∧ (s1 < 0 ∨ s2 < 0)) ∨ (∃ k : Nat, s = k ∧ (jQ a b 1)[k]? = some (s1, s2))
theorem par_step {a b : Mach} {outs : Int} (hf : Fit a b 1) (h64 : (jQ a b 1).length ≤ 64) {s s1 s2 x : Int} (hx : 0 ≤ x ∧ x < a.ins) (hR : ParRel a b s s1 s2) :
  ParRel a b (stepR (jM a b 1 outs) s x).1 (stepR a s1 x).1 (stepR b s2 x).1 ∧ (stepR (jM a b 1 outs) s x).2 = par2 b.outs (stepR a s1 x).2 (stepR b s2 x).2 := by
 rcases hR with ⟨h1, h2⟩ | ⟨k, rfl, hk⟩
 ·rw [stepR_neg h1]
  rcases h2 with h2 | h2
  ·rw [stepR_neg h2]; exact ⟨.inl ⟨by decide, .inl (by decide)⟩, rfl⟩
  ·rw [stepR_neg h2]; exact ⟨.inl ⟨by decide, .inr (by decide)⟩, by simp [par2]⟩
 ·have hm := List.mem_of_getElem? hk
  have hr := jQ_reach _ hm
  obtain ⟨i1, i2⟩ := RS_in hf hr
  simp only at i1 i2
  rw [jM_step hk hx]
  obtain ⟨r1, e, k1, k2, k3, k4⟩ := stepR_get hf.va i1.1 i1.2 hx
  obtain ⟨r2, f, l1, l2, l3, l4⟩ := stepR_get hf.vb i2.1 i2.2 (show 0 ≤ x ∧ x < b.ins by rw [← hf.par rfl]; exact hx)
  have he := fits_edge k4
  have hf' := fits_edge l4
  have hxt : ((x.toNat : Nat) : Int) = x := by omega
  rw [k3, l3]
  by_cases hn : e.1 < 0 ∨ f.1 < 0
  ·have hJ : stepJ a b 1 (s1, s2) (x.toNat : Nat) = ((0, 0), -1) := by
     rw [hxt]
     rcases hn with h | h
     ·simp [stepJ, k3, h]
     ·by_cases h' : e.1 < 0
      ·simp [stepJ, k3, h']
      ·simp [stepJ, k3, l3, h, h']
   rw [jed_none (stOf_none hJ)]
   refine ⟨.inl ⟨by decide, hn⟩, ?_⟩
   unfold par2
   rw [if_neg (by omega)]
  ·have hJ : stepJ a b 1 (s1, s2) (x.toNat : Nat) = ((e.1, f.1), e.2 * b.outs + f.2) := by
     rw [hxt]
     have h1 : ¬ e.1 < 0 := by omega
     have h2 : ¬ f.1 < 0 := by omega
     simp [stepJ, k3, l3, h1, h2]
   have hm1 : 0 ≤ e.2 * b.outs := Int.mul_nonneg (by omega) (by have := hf.vb.outs; omega)
   have hs := stOf_some hJ (show 0 ≤ e.2 * b.outs + f.2 by omega)
   rw [jed_some hs]
   have hq : (e.1, f.1) ∈ jQ a b 1 := jQ_all h64 (RS.step hr (i := x.toNat) (by omega) hs)
   refine ⟨.inr ⟨_, rfl, ?_⟩, ?_⟩
   ·have hl := List.idxOf_lt_length_of_mem hq
    rw [List.getElem?_eq_getElem hl, List.getElem_idxOf hl]
   ·unfold par2; rw [if_pos (by omega)]
theorem par_run {a b : Mach} {outs : Int} (hf : Fit a b 1) (h64 : (jQ a b 1).length ≤ 64) : ∀ (w : List Int) (s s1 s2 : Int), ParRel a b s s1 s2 → (∀ x ∈ w, 0 ≤ x ∧ x < a.ins) →
  runR (jM a b 1 outs) s w = List.zipWith (par2 b.outs) (runR a s1 w) (runR b s2 w)
 | [], _, _, _, _, _ => rfl
 | x :: w, s, s1, s2, hR, hw => by
   obtain ⟨h1, h2⟩ := par_step (outs := outs) hf h64 (hw x List.mem_cons_self) hR
   simp only [runR, List.zipWith_cons_cons]
   rw [h2, par_run hf h64 w _ _ _ h1 fun z hz => hw z (List.mem_cons_of_mem _ hz)]
structure Corr (R : Pr → Pr → Prop) (L L' : List Pr) : Prop where
 len : L.length = L'.length
 get : ∀ (i : Nat) (p p' : Pr), L[i]? = some p → L'[i]? = some p' → R p p'
def InjR (R : Pr → Pr → Prop) : Prop := ∀ p p' q q', R p p' → R q q' → (p = q ↔ p' = q')
def StepsR (R : Pr → Pr → Prop) (st st' : StF) (n : Nat) : Prop := ∀ p p' i, R p p' → i < n → (st p i = none ∧ st' p' i = none) ∨ ∃ q q' o, st p i = some (q, o) ∧ st' p' i = some (q', o) ∧ R q q'
section
variable {R : Pr → Pr → Prop} {L L' : List Pr} {st st' : StF} {n : Nat} {x x' : Pr}
theorem Corr.at (h : Corr R L L') {i : Nat} {p : Pr} (hp : L[i]? = some p) : ∃ p', L'[i]? = some p' ∧ R p p' := by
 obtain ⟨hi, _⟩ := List.getElem?_eq_some_iff.1 hp
 have h2 : L'[i]? = some (L'[i]'(by have := h.len; omega)) := List.getElem?_eq_getElem _
 exact ⟨_, h2, h.get _ _ _ hp h2⟩
theorem Corr.symm (h : Corr R L L') : Corr (fun a b => R b a) L' L := ⟨h.len.symm, fun i p p' h1 h2 => h.get i _ _ h2 h1⟩
theorem Corr.mem (hR : InjR R) (h : Corr R L L') (hx : R x x') (hm : x ∈ L) : x' ∈ L' := by
 obtain ⟨i, hi⟩ := List.getElem?_of_mem hm
 obtain ⟨y, hy, hr⟩ := h.at hi
 have := (hR _ _ _ _ hr hx).1 rfl
 rw [← this]; exact List.mem_of_getElem? hy
theorem InjR.symm (hR : InjR R) : InjR fun a b => R b a := fun p p' q q' h1 h2 => (hR _ _ _ _ h1 h2).symm
theorem Corr.jput (hR : InjR R) (h : Corr R L L') (hx : R x x') : Corr R (jput L x) (jput L' x') := by
 unfold Avl.jput
 by_cases hm : x ∈ L
 ·rw [if_pos hm, if_pos (h.mem hR hx hm)]; exact h
 ·rw [if_neg hm, if_neg fun h' => hm (h.symm.mem hR.symm hx h')]
  refine ⟨by simp [h.len], fun i p p' h1 h2 => ?_⟩
  have hl := h.len
  by_cases hi : i < L.length
  ·rw [List.getElem?_append_left hi] at h1
   rw [List.getElem?_append_left (by omega)] at h2
   exact h.get i _ _ h1 h2
  ·rw [List.getElem?_append_right (by omega)] at h1 h2
   rw [← hl] at h2
   have h0 : i - L.length = 0 := by
    obtain ⟨hh, _⟩ := List.getElem?_eq_some_iff.1 h1
    simp at hh; omega
   rw [h0] at h1 h2
   cases h1; cases h2; exact hx
theorem Corr.jl (hR : InjR R) (hS : StepsR R st st' n) (h : Corr R L L') (hx : R x x') : ∀ i, i ≤ n → Corr R (jl st x L i) (jl st' x' L' i)
 | 0, _ => h
 | i + 1, hi => by
   have ih := Corr.jl hR hS h hx i (by omega)
   simp only [Avl.jl, jadd]
   rcases hS x x' i hx (by omega) with ⟨h1, h2⟩ | ⟨q, q', o, h1, h2, h3⟩
   ·rw [h1, h2]; exact ih
   ·rw [h1, h2]; exact ih.jput hR h3
theorem Corr.jq (hR : InjR R) (hS : StepsR R st st' n) (h0 : R (0, 0) (0, 0)) : ∀ k, Corr R (jq st n k) (jq st' n k)
 | 0 => ⟨rfl, fun i p p' h1 h2 => by
     cases i with
     | zero => simp [Avl.jq] at h1 h2; subst h1; subst h2; exact h0
     | succ i => simp [Avl.jq] at h1⟩
 | k + 1 => by
   have ih := Corr.jq hR hS h0 k
   simp only [Avl.jq]
   cases hp : (Avl.jq st n k)[k]? with
   | none =>
     have : (Avl.jq st' n k)[k]? = none := List.getElem?_eq_none (by have := List.getElem?_eq_none_iff.1 hp; have := ih.len; omega)
     rw [this]; exact ih
   | some p =>
     obtain ⟨p', hp', hr⟩ := ih.at hp
     rw [hp']
     exact ih.jl hR hS hr n (Nat.le_refl _)
theorem Corr.idx (hR : InjR R) (h : Corr R L L') (hn : L'.Nodup) (hx : R x x') (hm : x ∈ L) : L.idxOf x = L'.idxOf x' := by
 have hl := List.idxOf_lt_length_of_mem hm
 have h1 : L[L.idxOf x]? = some x := by rw [List.getElem?_eq_getElem hl, List.getElem_idxOf hl]
 obtain ⟨y, hy, hr⟩ := h.at h1
 have := (hR _ _ _ _ hr hx).1 rfl
 subst this
 obtain ⟨hi, he⟩ := List.getElem?_eq_some_iff.1 hy
 have hl' := List.idxOf_lt_length_of_mem (List.mem_of_getElem? hy)
 have : L'[L'.idxOf y] = L'[L.idxOf x] := by rw [he, List.getElem_idxOf hl']
 exact ((List.getElem_inj hn).1 this).symm
theorem Corr.jrow (hR : InjR R) (hS : StepsR R st st' n) (h : Corr R L L') (hn : L'.Nodup) (hx : R x x') (hc : ∀ i, i < n → ∀ q, st x i = some q → q.1 ∈ L) : jrow st L x n = jrow st' L' x' n := by
 refine List.map_congr_left fun i hi => ?_
 have hi : i < n := List.mem_range.1 hi
 rcases hS x x' i hx hi with ⟨h1, h2⟩ | ⟨q, q', o, h1, h2, h3⟩
 ·simp only [jed, h1, h2]
 ·simp only [jed, h1, h2]
  rw [h.idx hR hn h3 (hc i hi _ h1)]
theorem Corr.jrows (hR : InjR R) (hS : StepsR R st st' n) (h0 : R (0, 0) (0, 0)) : ∀ k, jrows st n k = jrows st' n k
 | 0 => rfl
 | k + 1 => by
   have ih := Corr.jrows hR hS h0 k
   have hq := Corr.jq hR hS h0 k
   simp only [Avl.jrows]
   cases hp : (Avl.jq st n k)[k]? with
   | none =>
     have : (Avl.jq st' n k)[k]? = none := List.getElem?_eq_none (by have := List.getElem?_eq_none_iff.1 hp; have := hq.len; omega)
     rw [this]; exact ih
   | some p =>
     obtain ⟨p', hp', hr⟩ := hq.at hp
     rw [hp', ih]
     simp only
     have hq1 := Corr.jq hR hS h0 (k + 1)
     have e : Avl.jq st n (k + 1) = Avl.jl st p (Avl.jq st n k) n := by simp only [Avl.jq, hp]
     rw [hq1.jrow hR hS (jq_nodup _ _ _) hr fun i hi q hs => by rw [e]; exact mem_jl hs hi]
end
theorem stepR_fit {m : Mach} (hv : Valid m) {s a : Int} (h0 : 0 ≤ s) (hs : s < m.rows.length) (ha : 0 ≤ a ∧ a < m.ins) : ((stepR m s a).1 = -1 ∧ (stepR m s a).2 = -1) ∨ (0 ≤ (stepR m s a).1 ∧ (stepR m s a).1 < m.rows.length ∧ 0 ≤ (stepR m s a).2 ∧ (stepR m s a).2 < m.outs) := by
 obtain ⟨r, e, _, _, h3, h4⟩ := stepR_get hv h0 hs ha
 rw [h3]; exact fits_edge h4
theorem stOf_ser {a b : Mach} (hf : Fit a b 0) {s t : Int} (hp : inPr a b (s, t)) {i : Nat} (hi : (i : Int) < a.ins) : stOf a b 0 (s, t) i =
  if (stepR a s i).1 < 0 then none else if (stepR b t (stepR a s i).2).1 < 0 then none else some (((stepR a s i).1, (stepR b t (stepR a s i).2).1), (stepR b t (stepR a s i).2).2) := by
 obtain ⟨⟨p1, p2⟩, p3, p4⟩ := hp
 simp only at p1 p2 p3 p4
 have h1 := stepR_fit hf.va p1 p2 (a := (i : Int)) (by omega)
 have hs := hf.ser rfl
 have e0 : stepJ a b 0 (s, t) (i : Int) = if (stepR a s i).1 < 0 then ((0, 0), -1) else if (stepR b t (stepR a s i).2).1 < 0 then ((0, 0), -1) else (((stepR a s i).1, (stepR b t (stepR a s i).2).1), (stepR b t (stepR a s i).2).2) := by
  unfold stepJ
  by_cases k1 : (stepR a s i).1 < 0
  ·rw [if_pos k1, if_pos k1]
  ·rw [if_neg k1, if_neg k1, if_neg (by decide)]
 unfold stOf
 rw [e0]
 by_cases k1 : (stepR a s i).1 < 0
 ·rw [if_pos k1, if_pos k1, if_pos (by decide)]
 ·rw [if_neg k1, if_neg k1]
  have h2 := stepR_fit hf.vb p3 p4 (a := (stepR a s i).2) (by omega)
  by_cases k2 : (stepR b t (stepR a s i).2).1 < 0
  ·rw [if_pos k2, if_pos k2, if_pos (by decide)]
  ·rw [if_neg k2, if_neg k2]
   simp only
   rw [if_neg (by omega)]
theorem runR_fit {m : Mach} (hv : Valid m) : ∀ (w : List Int) (s : Int), s < m.rows.length → (∀ x ∈ w, 0 ≤ x ∧ x < m.ins) → ∀ y ∈ runR m s w, y < m.outs
 | [], _, _, _, _, h => by cases h
 | x :: w, s, hs, hw, y, h => by
   have hx := hw x List.mem_cons_self
   have ho := hv.outs
   simp only [runR, List.mem_cons] at h
   rcases h with rfl | h
   ·by_cases hn : s < 0
    ·rw [stepR_neg hn]; simp only; omega
    ·have := stepR_fit hv (by omega) hs hx
     omega
   ·exact runR_fit hv w _ (stepR_lt hv hs hx) (fun z hz => hw z (List.mem_cons_of_mem _ hz)) y h
theorem jQ_idx {a b : Mach} {par : Int} {q : Pr} (h : q ∈ jQ a b par) : (jQ a b par)[(jQ a b par).idxOf q]? = some q := by
 have hl := List.idxOf_lt_length_of_mem h
 rw [List.getElem?_eq_getElem hl, List.getElem_idxOf hl]
def tk (l : List Int) : List Int := l.takeWhile fun x => decide (0 ≤ x)
theorem runR_neg {m : Mach} : ∀ (w : List Int) {s : Int}, s < 0 → runR m s w = List.replicate w.length (-1)
 | [], _, _ => rfl
 | x :: w, s, h => by
   simp only [runR, stepR_neg h, List.length_cons, List.replicate_succ]
   rw [runR_neg w (by decide)]
theorem tk_neg : ∀ n : Nat, tk (List.replicate n (-1)) = []
 | 0 => rfl
 | n + 1 => by simp [tk, List.replicate_succ]
def serL (a b : Mach) (s1 s2 : Int) (w : List Int) : List Int := runR b s2 (tk (runR a s1 w)) ++ List.replicate (w.length - (tk (runR a s1 w)).length) (-1)
theorem tk_len (l : List Int) : (tk l).length ≤ l.length := (List.takeWhile_prefix _).length_le
def SerRel (a b : Mach) (s s1 s2 : Int) : Prop := (s < 0 ∧ (s1 < 0 ∨ s2 < 0)) ∨ (∃ k : Nat, s = k ∧ (jQ a b 0)[k]? = some (s1, s2))
theorem ser_neg {a b : Mach} {s1 s2 : Int} (h : s1 < 0 ∨ s2 < 0) (w : List Int) : serL a b s1 s2 w = List.replicate w.length (-1) := by
 have hl := tk_len (runR a s1 w)
 rw [runR_len] at hl
 unfold serL
 rcases h with h | h
 ·rw [runR_neg w h, tk_neg]; rfl
 ·rw [runR_neg _ h, List.replicate_append_replicate]
  congr 1; omega
theorem ser_run {a b : Mach} {outs : Int} (hf : Fit a b 0) (h64 : (jQ a b 0).length ≤ 64) : ∀ (w : List Int) (s s1 s2 : Int), SerRel a b s s1 s2 → (∀ x ∈ w, 0 ≤ x ∧ x < a.ins) →
  runR (jM a b 0 outs) s w = serL a b s1 s2 w
 | [], _, _, _, _, _ => rfl
 | x :: w, s, s1, s2, hR, hw => by
   rcases hR with ⟨h1, h2⟩ | ⟨k, rfl, hk⟩
   ·rw [runR_neg _ h1, ser_neg h2]
   have hx := hw x List.mem_cons_self
   have hr := jQ_reach _ (List.mem_of_getElem? hk)
   have i1 := RS_in hf hr
   have hxt : ((x.toNat : Nat) : Int) = x := by omega
   have e3 := stOf_ser hf i1 (i := x.toNat) (by omega)
   rw [hxt] at e3
   have m1 := jM_step (outs := outs) hk hx
   have fa := stepR_fit hf.va i1.1.1 i1.1.2 (a := x) (by omega)
   simp only at fa
   have hs := hf.ser rfl
   have ih := ser_run (outs := outs) hf h64 w
   by_cases k1 : (stepR a s1 x).1 < 0
   ·rw [if_pos k1] at e3
    rw [jed_none e3] at m1
    have k2 : (stepR a s1 x).2 = -1 := by omega
    have ht : tk (runR a s1 (x :: w)) = [] := by simp [runR, k2, tk]
    unfold serL
    rw [ht]
    simp only [runR, m1, List.nil_append, List.length_nil, Nat.sub_zero, List.length_cons, List.replicate_succ]
    rw [runR_neg w (by decide)]
   ·rw [if_neg k1] at e3
    have k2 : 0 ≤ (stepR a s1 x).2 := by omega
    have ht : tk (runR a s1 (x :: w)) = (stepR a s1 x).2 :: tk (runR a (stepR a s1 x).1 w) := by simp [runR, k2, tk]
    have fb := stepR_fit hf.vb i1.2.1 i1.2.2 (a := (stepR a s1 x).2) (by omega)
    simp only at fb
    have hL : serL a b s1 s2 (x :: w) = (stepR b s2 (stepR a s1 x).2).2 :: serL a b (stepR a s1 x).1 (stepR b s2 (stepR a s1 x).2).1 w := by
     unfold serL
     rw [ht]
     simp only [runR, List.length_cons, List.cons_append, Nat.add_sub_add_right]
    rw [hL]
    by_cases k3 : (stepR b s2 (stepR a s1 x).2).1 < 0
    ·rw [if_pos k3] at e3
     rw [jed_none e3] at m1
     have k4 : (stepR b s2 (stepR a s1 x).2).2 = -1 := by omega
     simp only [runR, m1, k4]
     rw [ih (-1) _ _ (.inl ⟨by decide, .inr k3⟩) fun z hz => hw z (List.mem_cons_of_mem _ hz)]
    ·rw [if_neg k3] at e3
     have hq1 := jQ_all h64 (RS.step hr (i := x.toNat) (by omega) e3)
     rw [jed_some e3] at m1
     simp only [runR, m1]
     rw [ih _ _ _ (.inr ⟨_, rfl, jQ_idx hq1⟩) fun z hz => hw z (List.mem_cons_of_mem _ hz)]
abbrev Ar := Int × Int × Int
def arC (x : Ar) : List AV := [.sc (.int .i64 x.1), .sc (.int .i64 x.2.1), .sc (.int .i64 x.2.2)]
def yA (x : Ar) : List AV := [.ag (arC x)]
def stC (m : Mach) : StF := fun p i => if (eAt m p.1.toNat i).1 < 0 then none else some (((eAt m p.1.toNat i).1, 0), (eAt m p.1.toNat i).2)
def aadd (m : Mach) (x : Ar) (L : List Ar) (i : Nat) : List Ar :=
 if 0 ≤ (eAt m x.1.toNat i).1 ∧ (eAt m x.1.toNat i).1 ∉ L.map (·.1) then L ++ [((eAt m x.1.toNat i).1, x.1, (i : Int))] else L
def aal (m : Mach) (x : Ar) (L : List Ar) : Nat → List Ar
 | 0 => L
 | i + 1 => aadd m x (aal m x L i) i
def aq (m : Mach) (n : Nat) : Nat → List Ar
 | 0 => [(0, -1, -1)]
 | k + 1 => match (aq m n k)[k]? with
   | none => aq m n k
   | some x => aal m x (aq m n k) n
def stP (x : Ar) : Pr := (x.1, 0)
theorem aadd_jadd {m : Mach} {x : Ar} {L : List Ar} {i : Nat} : (aadd m x L i).map stP = jadd (stC m) (stP x) (L.map stP) i := by
 have hmem : ∀ t : Int, ((t, 0) : Pr) ∈ L.map stP ↔ t ∈ L.map (·.1) := fun t => by simp [stP]
 have hst : stC m (stP x) i = if (eAt m x.1.toNat i).1 < 0 then none else some (((eAt m x.1.toNat i).1, 0), (eAt m x.1.toNat i).2) := rfl
 unfold aadd jadd
 rw [hst]
 by_cases h : (eAt m x.1.toNat i).1 < 0
 ·rw [if_neg (fun hh => by omega), if_pos h]
 ·rw [if_neg h]
  simp only [jput]
  by_cases h2 : (eAt m x.1.toNat i).1 ∈ L.map (·.1)
  ·rw [if_neg (fun hh => hh.2 h2), if_pos ((hmem _).2 h2)]
  ·rw [if_pos ⟨by omega, h2⟩, if_neg (fun hh => h2 ((hmem _).1 hh)), List.map_append]; rfl
theorem aal_jl {m : Mach} {x : Ar} {L : List Ar} : ∀ i, (aal m x L i).map stP = jl (stC m) (stP x) (L.map stP) i
 | 0 => rfl
 | i + 1 => by simp only [aal, jl]; rw [aadd_jadd, aal_jl i]
theorem aq_jq {m : Mach} {n : Nat} : ∀ k, (aq m n k).map stP = jq (stC m) n k
 | 0 => rfl
 | k + 1 => by
   have ih := aq_jq (m := m) (n := n) k
   simp only [aq, jq]
   rw [← ih, List.getElem?_map]
   cases (aq m n k)[k]? with
   | none => rfl
   | some x => simp only [Option.map_some]; rw [aal_jl]
theorem aadd_pre (m : Mach) (x : Ar) (L : List Ar) (i : Nat) : L <+: aadd m x L i := by unfold aadd; split; exact List.prefix_append _ _; exact List.prefix_refl _
theorem aal_pre (m : Mach) (x : Ar) (L : List Ar) : ∀ i, L <+: aal m x L i
 | 0 => List.prefix_refl _
 | i + 1 => (aal_pre m x L i).trans (aadd_pre _ _ _ _)
theorem aal_mono (m : Mach) (x : Ar) (L : List Ar) {i j : Nat} (h : i ≤ j) : aal m x L i <+: aal m x L j := by
 induction h with
 | refl => exact List.prefix_refl _
 | step h ih => exact ih.trans (aadd_pre _ _ _ _)
theorem aq_step (m : Mach) (n k : Nat) : aq m n k <+: aq m n (k + 1) := by
 simp only [aq]; split; exact List.prefix_refl _; exact aal_pre _ _ _ _
theorem aq_mono (m : Mach) (n : Nat) {i j : Nat} (h : i ≤ j) : aq m n i <+: aq m n j := by
 induction h with
 | refl => exact List.prefix_refl _
 | step h ih => exact ih.trans (aq_step _ _ _)
theorem aq_fix {m : Mach} {n k : Nat} (h : (aq m n k).length ≤ k) : ∀ j, aq m n (k + j) = aq m n k
 | 0 => rfl
 | j + 1 => by
   have h1 := aq_fix h j
   rw [← Nat.add_assoc]
   simp only [aq, h1]
   rw [List.getElem?_eq_none (by omega)]
theorem stC_in {m : Mach} (hv : Valid m) {p : Pr} (h : RS (stC m) m.ins.toNat p) : p.2 = 0 ∧ 0 ≤ p.1 ∧ p.1 < m.rows.length := by
 have hr := hv.rows
 have hi0 := hv.ins
 induction h with
 | zero => exact ⟨rfl, Int.le_refl _, by simp only; omega⟩
 | @step p q o i _ hi hs ih =>
   unfold stC at hs
   split at hs
   ·cases hs
   ·rename_i h0
    obtain ⟨r, _, _, f3⟩ := eAt_fit hv (s := p.1.toNat) (i := i) (by omega) (by omega)
    cases hs
    rcases f3 with f3 | f3
    ·simp [isNone] at f3; omega
    ·exact ⟨rfl, f3.1, f3.2.1⟩
theorem aq_in {m : Mach} (hv : Valid m) (k : Nat) : ∀ x ∈ aq m m.ins.toNat k, 0 ≤ x.1 ∧ x.1 < m.rows.length := fun x hx => by
 have : stP x ∈ jq (stC m) m.ins.toNat k := by rw [← aq_jq]; exact List.mem_map.2 ⟨x, hx, rfl⟩
 exact (stC_in hv (jq_reach _ _ k _ this)).2
theorem jqC_len {m : Mach} (hv : Valid m) (k : Nat) : (jq (stC m) m.ins.toNat k).length ≤ m.rows.length := by
 have hnd := jq_nodup (stC m) m.ins.toNat k
 have := hnd.length_le_of_subset (l₂ := (List.range m.rows.length).map fun s : Nat => (((s : Int), 0) : Pr)) fun p hp => by
  obtain ⟨h1, h2, h3⟩ := stC_in hv (jq_reach _ _ k p hp)
  refine List.mem_map.2 ⟨p.1.toNat, List.mem_range.2 (by omega), ?_⟩
  obtain ⟨a, b⟩ := p
  simp only at h1 h2
  subst h1
  rw [Int.toNat_of_nonneg h2]
 simpa using this
theorem aq_len {m : Mach} (hv : Valid m) (k : Nat) : (aq m m.ins.toNat k).length ≤ m.rows.length := by
 have h := jqC_len hv k
 rw [← aq_jq, List.length_map] at h
 exact h
theorem aq_done {m : Mach} (hv : Valid m) {k : Nat} (hk : (aq m m.ins.toNat k).length ≤ k) (hk2 : k ≤ 64) : aq m m.ins.toNat 64 = aq m m.ins.toNat k := by
 obtain ⟨d, hd⟩ := Nat.exists_eq_add_of_le hk2
 rw [hd]; exact aq_fix hk d
def seenC (n : Nat) (L : List Ar) : List (List AV) := (List.range n).map fun t : Nat => [.sc (.bool (decide ((t : Int) ∈ L.map (·.1))))]
theorem seenC_len (n : Nat) (L : List Ar) : (seenC n L).length = n := by simp [seenC]
theorem seenC_get {n : Nat} {L : List Ar} {t : Nat} (h : t < n) : (seenC n L)[t]? = some [.sc (.bool (decide ((t : Int) ∈ L.map (·.1))))] := by rw [seenC, List.getElem?_map, List.getElem?_range h]; rfl
theorem seenC_set {n : Nat} {L : List Ar} {t : Nat} {x : Int × Int} (h : t < n) : (seenC n L).set t [.sc (.bool true)] = seenC n (L ++ [((t : Int), x)]) := by
 refine List.ext_getElem? fun j => ?_
 rw [List.getElem?_set]
 by_cases hj : j < n
 ·rw [seenC_get hj, seenC_get hj, seenC_len]
  by_cases he : t = j
  ·subst he; rw [if_pos rfl, if_pos hj]; simp
  ·rw [if_neg he]
   congr 4
   simp only [List.map_append, List.mem_append, List.map_cons, List.map_nil, List.mem_singleton]
   rw [decide_eq_decide]
   constructor
   ·exact .inl
   ·rintro (h | h)
    ·exact h
    ·exact absurd (Int.ofNat.inj h).symm he
 ·rw [List.getElem?_eq_none (by rw [seenC_len]; omega), List.getElem?_eq_none (by rw [seenC_len]; omega), seenC_len]
  rw [if_neg (by omega)]
theorem seenC_nil (n : Nat) : List.replicate n [AV.sc (.bool false)] = seenC n [] := by simp [seenC, List.map_const']
theorem arC_norefs (l : List Ar) : (l.map arC).all AV.norefs = true := by simp [List.all_eq_true, arC, AV.norefs, AV.noref]
set_option maxHeartbeats 4000000 in
theorem arrivals1_seq {m : Mach} (hv : Valid m) : SeqIs prog 146 [.ia m.cells, .ia [.sc (.int .i64 0)]] ((aq m m.ins.toNat 64).map yA) := by
 have hr := hv.rows
 have hi0 := hv.ins
 obtain ⟨n, hn⟩ : ∃ n, n = m.rows.length := ⟨_, rfl⟩
 have hsn : ∀ L, (seenC n L).all AV.norefs = true := fun L => by simp [List.all_eq_true, seenC, AV.norefs, AV.noref]
 have hz : List.replicate n [AV.sc (.bool false)] = seenC n [] := seenC_nil n
 refine SeqIs.of (nv := 3) (hid := [4, 5, 6, 7, 8, 18, 21, 30, 36, 37, 38, 39, 53]) func146 rfl (by kernel_rfl) (by simp [ntmps146]) (by rw [results146]) fun lp J h0 hJ hy => ?_
 rw [ntmps146]
 refine EvY.seqL hJ (EvC.rg (by simp only [go_sem, Mach.cells, List.length_map, ← hn, Int.toNat_natCast] <;> rfl) (by simp [room_eq]; omega) ?_)
 rw [hz]
 have hsl := seenC_len n []
 have hs0 : (seenC n [])[0]? = some [.sc (.bool false)] := by rw [seenC_get (by omega)]; rfl
 have hs1 : (seenC n []).set 0 [.sc (.bool true)] = seenC n [(0, -1, -1)] := seenC_set (t := 0) (by omega)
 refine EvY.seqL hJ (EvC.rg (by simp only [go_sem, hsl, hs0, hs1] <;> rfl) (by simp [hsl]; omega) ?_)
 refine EvY.seqL hJ (EvC.rg (by simp only [go_sem] <;> rfl) (by simp) ?_)
 refine EvY.block ?_
 refine EvY.loopS hJ (σ := Nat) (fun k => ⟨[(0, .sc (yv lp)), (1, .ia m.cells), (2, .ia [.sc (.int .i64 0)]), (4, .tl 0 n false), (5, .tl 1 ((aq m m.ins.toNat k).length - k) false)], [],
  [(0, .arr 1 (seenC n (aq m m.ins.toNat k)) false), (1, .arr 3 (((aq m m.ins.toNat k).drop k).map arC) false)], 2⟩) (fun k => k) (fun k => 64 - k) (fun k => k ≤ (aq m m.ins.toNat k).length) [0, 1, 2, 4, 5] 2 ?_ ?_
 ·refine ⟨[(3, 0), (11, 1)], 0, rfl, ?_, Nat.zero_le _, rfl⟩
  simp only [go_sem, hsn, aq, Mach.cells, List.drop_zero, List.map_cons, List.map_nil, arC] <;> rfl
 rintro k hk
 have hln := aq_len hv k
 refine EvY.seq ?_
 have hql : (((aq m m.ins.toNat k).drop k).map arC).length = (aq m m.ins.toNat k).length - k := by simp
 refine EvY.seqL hJ (EvC.rg (by simp only [go_sem, hql] <;> rfl) (by simp) ?_)
 refine EvY.cond (by simp only [go_sem] <;> rfl) (fun hc => ?_) (fun hc => ?_)
 rotate_left
 ·refine EvY.exit ⟨.inr rfl, .inl ?_⟩
  have hc : ¬ 0 < (((aq m m.ins.toNat k).length - k : Nat) : Int) := by simpa using hc
  rw [List.length_map, aq_done hv (k := k) (by omega) (by omega)]
  congr 1; omega
 have hc : k < (aq m m.ins.toNat k).length := by have : 0 < (((aq m m.ins.toNat k).length - k : Nat) : Int) := by simpa using hc
                                                 omega
 have he : (aq m m.ins.toNat k)[k]? = some ((aq m m.ins.toNat k)[k]'hc) := List.getElem?_eq_getElem hc
 have hxi := aq_in hv k _ (List.getElem_mem hc)
 have hd : (aq m m.ins.toNat k).drop k = (aq m m.ins.toNat k)[k]'hc :: (aq m m.ins.toNat k).drop (k + 1) := List.drop_eq_getElem_cons hc
 have hnext : aq m m.ins.toNat (k + 1) = aal m ((aq m m.ins.toNat k)[k]'hc) (aq m m.ins.toNat k) m.ins.toNat := by simp only [aq, he]
 have hX : ((aq m m.ins.toNat 64).map yA)[k]? = some (yA ((aq m m.ins.toNat k)[k]'hc)) := by
  obtain ⟨t, ht⟩ := aq_mono m m.ins.toNat (show k ≤ 64 by omega)
  rw [List.getElem?_map, ← ht, List.getElem?_append_left hc, he]; rfl
 generalize (aq m m.ins.toNat k)[k]'hc = x at he hxi hd hnext hX
 have hmono := (aq_mono m m.ins.toNat (show k + 1 ≤ 64 by omega)).length_le
 have hlen1 := aq_len hv (k + 1)
 rw [hnext] at hlen1
 obtain ⟨L, hL⟩ : ∃ L, L = aq m m.ins.toNat k := ⟨_, rfl⟩
 have hLin := aq_in hv k
 rw [← hL] at hk hln hql hc he hd hLin hnext hlen1
 rw [← hL]
 have hd1 : (L.drop k).map arC = arC x :: (L.drop (k + 1)).map arC := by rw [hd]; rfl
 have hql1 : (arC x :: (L.drop (k + 1)).map arC).length = L.length - k := by rw [← hd1]; exact hql
 rw [hd1]
 refine EvY.skip ?_
 refine EvY.block ?_
 refine EvY.seqL hJ (EvC.rg (by simp only [go_sem, hql1, arC] <;> rfl) (by simp; omega) ?_)
 refine EvY.seqL hJ ?_
 intro _
 refine EvC.rt 1 (by simp only [go_sem] <;> rfl) (by simp) ?_
 refine XR.front (e := 185) rfl rfl (by simp only [go_sem] <;> rfl) (by simp only [go_sem] <;> rfl) (by simp only [go_sem] <;> rfl) (by simp only [go_sem] <;> rfl) (by simp only [go_sem] <;> rfl) (by simp only [go_sem] <;> rfl) (by simp only [go_sem] <;> rfl) hql1.symm (by omega) (by decide) (by simp; omega) ?_
 apply XR.done
 ·simp only [go_sem] <;> rfl
 ·rfl
 have hxn : x.1.toNat < m.rows.length := by omega
 have hre : m.rows[x.1.toNat]? = some (m.rows[x.1.toNat]'hxn) := List.getElem?_eq_getElem hxn
 have hrl := (hv.row _ (List.getElem_mem hxn)).1
 have hlt : k < ((aq m m.ins.toNat 64).map yA).length := by
  have := (List.getElem?_eq_some_iff.1 hX).1; exact this
 have hget : ((aq m m.ins.toNat 64).map yA)[k] = yA x := by
  have := (List.getElem?_eq_some_iff.1 hX).2; exact this
 generalize m.rows[x.1.toNat]'hxn = r at hre hrl
 obtain ⟨xs, xf, xi⟩ := x
 simp only at hxi hxn hre
 refine EvY.gc hJ [0, 1, 2, 4, 5, 6] [(0, 0), (11, 1), (8, 2)] 3 rfl ?_
 refine EvY.seq ?_
 refine EvY.seq (EvY.region ?_)
 refine XRY.run hJ (by simp only [go_sem, arC_norefs, hsn] <;> rfl) (by simp) ?_
 refine XRY.yield hlt hy rfl rfl (by simp only [go_sem] <;> rfl) (by simp only [go_sem] <;> rfl) (by rw [hget]; simp only [go_sem, yA, arC] <;> rfl) (by rw [hget]; simp only [go_sem, yA, arC]) fun b => ?_
 refine XRY.done hJ (by simp only [go_sem] <;> rfl) rfl ?_
 refine EvY.cond (by simp only [go_sem] <;> rfl) (fun hb => ?_) (fun hb => ?_)
 ·have hb : b = false := by simpa using hb
  subst hb
  exact EvY.ret ⟨.inl rfl, .inr rfl⟩
 have hb : b = true := by simpa using hb
 subst hb
 refine EvY.skip ?_
 refine EvY.seqL hJ (EvC.rg (by simp only [go_sem, Mach.cells, hre, rowC, List.length_map, hrl] <;> rfl) (by simp; omega) ?_)
 refine EvY.block ?_
 refine EvY.loopS hJ (σ := Nat) (fun i => ⟨[(0, .sc (yv lp)), (1, .ia m.cells), (2, .ia [.sc (.int .i64 0)]), (4, .tl 0 n false), (5, .tl 1 ((aal m (xs, xf, xi) L i).length - (k + 1)) false), (6, .rf 2 0), (36, .sl r.1 (r.2.map edgeC) .unk), (37, .sc (.int .i64 m.ins)), (38, .sc (.int .i64 i))], [],
  [(0, .arr 1 (seenC n (aal m (xs, xf, xi) L i)) false), (1, .arr 3 (((aal m (xs, xf, xi) L i).drop (k + 1)).map arC) false), (2, .cells [.sc (.int .i64 xs), .sc (.int .i64 xf), .sc (.int .i64 xi)])], 3⟩) (fun _ => k + 1) (fun i => m.ins.toNat - i) (fun i => i ≤ m.ins.toNat) [0, 1, 2, 4, 5, 6, 36, 37, 38] 3 ?_ ?_
 ·refine ⟨[(0, 0), (1, 1), (2, 2)], 0, rfl, ?_, Nat.zero_le _, rfl⟩
  rw [show L.length - k - 1 = L.length - (k + 1) by omega]
  simp only [go_sem, aal, hsn, arC_norefs, Mach.cells] <;> rfl
 rintro i hi
 have hpre := (aal_pre m (xs, xf, xi) L i).length_le
 have hLq : (((aal m (xs, xf, xi) L i).drop (k + 1)).map arC).length = (aal m (xs, xf, xi) L i).length - (k + 1) := by simp
 refine EvY.seqL hJ (EvC.rg (by simp only [go_sem] <;> rfl) (by simp) ?_)
 refine EvY.seq ?_
 refine EvY.cond (by simp only [go_sem] <;> rfl) (fun hc2 => ?_) (fun hc2 => ?_)
 rotate_left
 ·refine EvY.exit ?_
  have hc2 : ¬ (i : Int) < m.ins := by simpa using hc2
  obtain rfl : i = m.ins.toNat := by omega
  refine ⟨[(0, 0), (1, 1)], k + 1, rfl, ?_, ?_, rfl, by omega⟩
  ·rw [hnext]
   simp only [go_sem, hsn, arC_norefs, Mach.cells] <;> rfl
  ·rw [hnext]; omega
 have hc2 : (i : Int) < m.ins := by simpa using hc2
 obtain ⟨r', q1, q2, q3⟩ := eAt_fit hv (s := xs.toNat) (i := i) (by omega) hc2
 obtain rfl : r' = r := by rw [hre] at q1; exact (Option.some.inj q1).symm
 obtain ⟨L', hL'⟩ : ∃ L', L' = aal m (xs, xf, xi) L i := ⟨_, rfl⟩
 have hstep : aal m (xs, xf, xi) L (i + 1) = aadd m (xs, xf, xi) L' i := by rw [hL']; rfl
 unfold aadd at hstep
 simp only at hstep
 rw [← hL'] at hpre hLq
 rw [← hL']
 rw [← hn] at q3
 generalize eAt m xs.toNat i = ed at q2 q3 hstep
 obtain ⟨t, out⟩ := ed
 simp only at q3 hstep
 refine EvY.skip ?_
 refine EvY.seq ?_
 refine EvY.block ?_
 refine EvY.seqL hJ (EvC.rg (by simp only [go_sem, q2, edgeC, List.length_map] <;> rfl) (by simp) ?_)
 have hI : inI64 (i + 1 : Int) = true := inI64_of (by omega) (by omega)
 by_cases ht : t = -1
 ·have hst : aal m (xs, xf, xi) L (i + 1) = L' := by rw [hstep, if_neg (fun hh => by omega)]
  have d1 : decide (t = -1) = true := decide_eq_true ht
  have hsg := seenC_get (n := n) (L := L') (t := t.toNat) (by omega)
  have hsl2 := seenC_len n L'
  refine EvY.seqL hJ ?_
  intro _
  apply EvC.trd
  ·simp only [go_sem, d1, hsg, hsl2] <;> rfl
  ·simp
  refine EvY.cond_false (by simp only [go_sem] <;> rfl) ?_
  refine EvY.skip ?_
  refine EvY.lift hJ (EvC.rg (by simp only [go_sem] <;> rfl) hI ?_)
  refine ⟨[(0, 0), (1, 1), (2, 2)], i + 1, rfl, ?_, by omega, rfl, by omega⟩
  rw [hst]
  simp only [go_sem, hsn, arC_norefs, Mach.cells, Int.natCast_add, Int.natCast_one] <;> rfl
 have q3 : 0 ≤ t ∧ t < n := by
  rcases q3 with q3 | q3
  ·simp [isNone] at q3; omega
  ·exact ⟨q3.1, q3.2.1⟩
 obtain ⟨T, rfl⟩ : ∃ T : Nat, t = T := ⟨t.toNat, by omega⟩
 have d1 : decide ((T : Int) = -1) = false := decide_eq_false ht
 have hsg := seenC_get (n := n) (L := L') (t := T) (by omega)
 have hsl2 := seenC_len n L'
 have hTn : ((T : Nat) : Int).toNat = T := Int.toNat_natCast T
 refine EvY.seqL hJ ?_
 intro _
 apply EvC.trd
 ·simp only [go_sem, d1, hsg, hsl2, hTn] <;> rfl
 ·simp [hsl2]; omega
 by_cases hmm : (T : Int) ∈ L'.map (·.1)
 ·have hst : aal m (xs, xf, xi) L (i + 1) = L' := by rw [hstep, if_neg (fun hh => hh.2 hmm)]
  have d2 : decide ((T : Int) ∈ L'.map (·.1)) = true := decide_eq_true hmm
  refine EvY.cond_false (by simp only [go_sem, d2] <;> rfl) ?_
  refine EvY.skip ?_
  refine EvY.lift hJ (EvC.rg (by simp only [go_sem] <;> rfl) hI ?_)
  refine ⟨[(0, 0), (1, 1), (2, 2)], i + 1, rfl, ?_, by omega, rfl, by omega⟩
  rw [hst]
  simp only [go_sem, hsn, arC_norefs, Mach.cells, Int.natCast_add, Int.natCast_one] <;> rfl
 have hst : aal m (xs, xf, xi) L (i + 1) = L' ++ [((T : Int), xs, (i : Int))] := by rw [hstep, if_pos ⟨by omega, hmm⟩]
 have d2 : decide ((T : Int) ∈ L'.map (·.1)) = false := decide_eq_false hmm
 have hss := seenC_set (n := n) (L := L') (t := T) (x := (xs, (i : Int))) (by omega)
 have hq1 : (L' ++ [((T : Int), xs, (i : Int))]).drop (k + 1) = L'.drop (k + 1) ++ [((T : Int), xs, (i : Int))] := List.drop_append_of_le_length (by omega)
 have hq2 : (L'.drop (k + 1)).map arC ++ [[.sc (.int .i64 (T : Int)), .sc (.int .i64 xs), .sc (.int .i64 (i : Int))]] = ((L' ++ [((T : Int), xs, (i : Int))]).drop (k + 1)).map arC := by rw [hq1, List.map_append]; rfl
 have hLb := (aal_mono m (xs, xf, xi) L (show i + 1 ≤ m.ins.toNat by omega)).length_le
 rw [hst, List.length_append, List.length_singleton] at hLb
 refine EvY.cond_true (by simp only [go_sem, d2] <;> rfl) ?_
 refine EvY.seqL hJ (EvC.rg (by simp only [go_sem, hsl2, hsg, hTn, hss] <;> rfl) (by simp [hsl2]; omega) ?_)
 refine EvY.lift hJ (EvC.rg (by simp only [go_sem, hLq, hq2] <;> rfl) (by simp [hLq, room_eq]; omega) ?_)
 refine EvY.lift hJ (EvC.rg (by simp only [go_sem] <;> rfl) hI ?_)
 refine ⟨[(0, 0), (1, 1), (2, 2)], i + 1, rfl, ?_, by omega, rfl, by omega⟩
 rw [hst]
 simp only [go_sem, hsn, arC_norefs, List.length_drop, List.length_append, List.length_cons, List.length_nil, Nat.zero_add, Mach.cells, Int.natCast_add, Int.natCast_one] <;> rfl
theorem arrivals_is (m : Mach) (s : Int) : PureIs prog 112 [.ag m.cells, .sc (.int .i64 s)] (.fn 146 [.ia m.cells, .ia [.sc (.int .i64 s)]]) := by
 refine PureIs.of1 5 [] func112 ntmps112 results112 fun _ => ?_
 refine EvC.a ?_ (by simp only [go_sem, Mach.cells] <;> rfl)
 refine EvC.z 0 ?_
 refine EvC.z 1 ?_
 refine EvC.a ?_
 refine EvC.rz ?_
 simp only [go_sem, Mach.cells]
def reachA (m : Mach) : List Int := (aq m m.ins.toNat 64).map (·.1)
theorem reachA_in {m : Mach} (hv : Valid m) : ∀ s ∈ reachA m, 0 ≤ s ∧ s < m.rows.length := fun s hs => by
 obtain ⟨x, hx, rfl⟩ := List.mem_map.1 hs
 exact aq_in hv 64 x hx
theorem reachA_len {m : Mach} (hv : Valid m) : (reachA m).length ≤ m.rows.length := by
 rw [reachA, List.length_map]; exact aq_len hv 64
theorem reachA_jq (m : Mach) : (reachA m).map (fun s => ((s, 0) : Pr)) = jq (stC m) m.ins.toNat 64 := by
 rw [← aq_jq, reachA, List.map_map]; rfl
theorem reachA_pos (m : Mach) : 1 ≤ (reachA m).length := by
 have := jq_pos (stC m) m.ins.toNat 64
 rw [← reachA_jq, List.length_map] at this
 exact this
theorem reached_is {m : Mach} (hv : Valid m) : PureIs prog 69 [.ag m.cells] (.sl false ((reachA m).map intC) .unk) := by
 have hA := arrivals_is m 0
 rw [Mach.cells] at hA
 refine PureIs.of1 5 [6, 7] func69 ntmps69 results69 fun _ => ?_
 have hr := hv.rows
 have hlen := aq_len hv 64
 have hp := reachA_pos m
 refine EvC.a ?_ (by simp only [go_sem, Mach.cells] <;> rfl)
 refine EvC.z 0 ?_
 refine EvC.a ?_
 refine EvC.seq ?_
 refine EvC.k1 ?_ (c1 := .ca hA)
 refine EvC.block ?_
 refine EvC.gc [3, 6] [(2, 0)] 1 rfl ?_
 refine EvC.ownC 0 0 1 (by simp only [go_sem] <;> rfl) ?_
 obtain ⟨L, hL⟩ : ∃ L, L = aq m m.ins.toNat 64 := ⟨_, rfl⟩
 have hR : reachA m = L.map (·.1) := by rw [hL]; rfl
 have hseq := arrivals1_seq hv
 rw [← hL] at hseq hlen
 rw [hR] at hp ⊢
 rw [List.length_map] at hp
 have hXl : (L.map yA).length = L.length := List.length_map _
 refine EvC.range (σ := Unit) (gf := 146) (caps := [.ia m.cells, .ia [.sc (.int .i64 0)]]) (xs := L.map yA) rfl (fun _ => rfl) (by simp only [go_sem, Mach.cells] <;> rfl) (by simp [AV.norefs, AV.noref]) hseq ?_ (by simp) (Nat.zero_le _)
  (fun k _ => [(1, .arr 1 (((L.take k).map (·.1)).map intC) true), (0, .cells [.tl 1 k (k == 0)])]) (fun _ _ => True) ⟨(), by simp only [go_sem, List.take_zero, List.map_nil] <;> rfl, trivial⟩ ?_ ?_
 ·intro x hx
  obtain ⟨z, _, rfl⟩ := List.mem_map.1 hx
  rfl
 ·rintro k _ lp hk -
  have hk' : k < L.length := by simpa using hk
  have hz : (L.map yA)[k] = yA L[k] := by simp
  have hg : L.take (k + 1) = L.take k ++ [L[k]] := List.take_succ_eq_append_getElem hk'
  rw [hz]
  generalize L[k] = x at hg
  obtain ⟨xs, xf, xi⟩ := x
  have hll : (((L.take k).map (·.1)).map intC).length = k := by simp; omega
  refine EvC.rg (by simp only [go_sem, yA, arC] <;> rfl) (by simp) ⟨rfl, ?_⟩
  refine EvC.block ?_
  have hi : (((L.take k).map (·.1)).map intC) ++ [[.sc (.int .i64 xs)]] = ((L.take (k + 1)).map (·.1)).map intC := by rw [hg, List.map_append, List.map_append]; rfl
  have hk0 : (k + 1 == 0) = false := rfl
  refine EvC.b ?_ (by simp only [go_sem, hll, hi] <;> rfl) (by simp [hll, room_eq]; omega)
  exact ⟨[(1, 1), (0, 0)], (), rfl, (by simp only [go_sem, hk0, List.length_take, Nat.min_eq_left hk'] <;> rfl), trivial⟩
 ·intro _ _
  have hne : (L.length == 0) = false := beq_eq_false_iff_ne.2 (by omega)
  rw [hXl, hne, List.take_length]
  refine EvC.a ?_ (by simp only [go_sem, List.length_map] <;> rfl)
  refine EvC.rz ?_
  simp only [go_sem]
@[go_sem] theorem key3 : isKey prog 3 = keyTest false [.int .i64] := isKey_of (by kernel_rfl) (by kernel_rfl)
def intV (s : Int) : Value := .int .i64 s
def entsI : Nat → List Int → List (Value × AV)
 | _, [] => []
 | i, s :: l => (intV s, .sc (.int .i64 i)) :: entsI (i + 1) l
def entN (L : List Int) : List (Value × AV) := (intV (-1), .sc (.int .i64 (-1))) :: entsI 0 L
theorem eqVal_int (s t : Int) : eqVal (intV s) (intV t) = decide (s = t) := by
 simp [eqVal, intV, Value.cells, eqCells, eqCell]
@[go_sem] theorem norefs_entsI : ∀ (l : List Int) (i : Nat), ((entsI i l).all fun p => p.2.noref) = true
 | [], _ => rfl
 | c :: l, i => by simp only [entsI, List.all_cons, norefs_entsI l, AV.noref, Bool.and_self]
@[go_sem] theorem norefs_entN (l : List Int) : ((entN l).all fun p => p.2.noref) = true := by simp only [entN, List.all_cons, norefs_entsI l, AV.noref, Bool.and_self]
theorem elook_entsI (c : Int) : ∀ (l : List Int) (i : Nat), elook (entsI i l) (intV c) = if c ∈ l then some (.sc (.int .i64 (i + l.idxOf c : Nat))) else none
 | [], _ => rfl
 | d :: l, i => by
   simp only [entsI, elook, eqVal_int, List.mem_cons, List.idxOf_cons]
   by_cases h : c = d
   ·subst h; simp
   ·rw [if_neg (by simpa using h), elook_entsI c l (i + 1)]
    have h' : (d == c) = false := by simp; exact fun e => h e.symm
    simp only [h, false_or, h', Bool.false_eq_true, if_false, cond_false]
    by_cases hc : c ∈ l
    ·rw [if_pos hc, if_pos hc, show i + 1 + l.idxOf c = i + (l.idxOf c + 1) by omega]
    ·rw [if_neg hc, if_neg hc]
theorem eset_entsI (c : Int) : ∀ (l : List Int) (i : Nat), c ∉ l → eset (entsI i l) (intV c) (.sc (.int .i64 (i + l.length : Nat))) = entsI i (l ++ [c])
 | [], _, _ => rfl
 | d :: l, i, h => by
   simp only [List.mem_cons, not_or] at h
   simp only [entsI, eset, eqVal_int, List.cons_append]
   rw [if_neg (by simpa using h.1)]
   congr 1
   have := eset_entsI c l (i + 1) h.2
   rw [show i + 1 + l.length = i + (d :: l).length by simp; omega] at this
   exact this
theorem elook_entN (c : Int) (l : List Int) (h : c = -1 ∨ (c ≠ -1 ∧ c ∈ l)) : elook (entN l) (intV c) = some (.sc (.int .i64 (if c = -1 then -1 else (l.idxOf c : Nat)))) := by
 rcases h with rfl | ⟨h, h2⟩
 ·rfl
 ·simp only [entN, elook, eqVal_int]
  rw [if_neg (by simpa using h), elook_entsI, if_pos h2, Nat.zero_add, if_neg h]
theorem eset_entN (c : Int) (l : List Int) (h : c ≠ -1) (h2 : c ∉ l) : eset (entN l) (intV c) (.sc (.int .i64 (l.length : Nat))) = entN (l ++ [c]) := by
 simp only [entN, eset, eqVal_int]
 rw [if_neg (by simpa using h)]
 have := eset_entsI c l 0 h2
 rw [Nat.zero_add] at this
 rw [this]
theorem moved_to {l : List Int} {t o v : Int} (he : elook (entN l) (intV t) = some (.sc (.int .i64 v))) :
  CallTo prog 111 [.ag [.sc (.int .i64 t), .sc (.int .i64 o)], .rf 2 0] [(2, .cells [.mp 1]), (1, .map 3 (entN l))] 3 (.ag [.sc (.int .i64 v), .sc (.int .i64 o)])
   [(4, .cells [.sc (.int .i64 v), .sc (.int .i64 o)]), (3, .cells [.sc (.int .i64 t), .sc (.int .i64 o)]), (2, .cells [.mp 1]), (1, .map 3 (entN l))] 13 := by
 refine CallTo.ofBody ?_ (by decide)
 refine BodyIs.of (nv := 4) (hid := []) func111 rfl (by kernel_rfl) (by simp [ntmps111]) fun h0 => ?_
 rw [ntmps111, results111]
 refine EvC.a ?_
 have he' : elook (entN l) (Value.int .i64 t) = some (.sc (.int .i64 v)) := he
 refine EvC.a ?_ (by simp only [go_sem, he'] <;> rfl)
 refine EvC.ret ⟨.inl rfl, _, (by simp only [go_sem] <;> rfl), ?_⟩
 exact ⟨by simp only [go_sem] <;> rfl, rfl, rfl⟩
theorem entsI_ids : ∀ (l : List Int) (i : Nat), ((entsI i l).flatMap fun p => p.2.ids) = []
 | [], _ => rfl
 | c :: l, i => by simp only [entsI, List.flatMap_cons, entsI_ids l, AV.ids]; rfl
theorem entN_ids (l : List Int) : objIds (.map 3 (entN l)) = [] := by simp only [objIds, entN, List.flatMap_cons, entsI_ids, AV.ids]; rfl
def mvM (l : List Int) : Mem := [(2, .cells [.mp 1]), (1, .map 3 (entN l))]
theorem mvM_ids (l : List Int) (i : Nat) : i ∈ [2, 1] ↔ mlook (mvM l) i ≠ none := by
 simp only [mvM, mlook]
 by_cases h2 : i = 2
 ·simp [h2]
 ·by_cases h1 : i = 1
  ·simp [h1]
  ·simp [h1, h2]
theorem mvM_lt (l : List Int) (i : Nat) (o : RObj) (h : mlook (mvM l) i = some o) : i < 3 ∧ ∀ j ∈ objIds o, j ∈ [2, 1] := by
 simp only [mvM, mlook] at h
 by_cases h2 : i = 2
 ·rw [if_pos h2] at h; cases h
  exact ⟨by omega, fun j hj => by simp [objIds, AV.idss, AV.ids] at hj; simp [hj]⟩
 ·rw [if_neg h2] at h
  by_cases h1 : i = 1
  ·rw [if_pos h1] at h; cases h
   exact ⟨by omega, fun j hj => by rw [entN_ids] at hj; cases hj⟩
  ·rw [if_neg h1] at h; cases h
theorem mvM_in (l : List Int) (a b : RObj) (i : Nat) (o : RObj) (h : mlook (mvM l) i = some o) : mlook ((4, a) :: (3, b) :: mvM l) i = some o := by
 have := (mvM_lt l i o h).1
 rw [mlook, if_neg (by omega), mlook, if_neg (by omega)]
 exact h
def cQ (m : Mach) : List Pr := jq (stC m) m.ins.toNat 64
def canM (m : Mach) : Mach := ⟨m.ins, m.outs, false, (cQ m).map fun p => (false, jrow (stC m) (cQ m) p m.ins.toNat)⟩
theorem cQ_reach (m : Mach) : (reachA m).map (fun s => ((s, 0) : Pr)) = cQ m := reachA_jq m
theorem cQ_len {m : Mach} (hv : Valid m) : (cQ m).length ≤ m.rows.length := jqC_len hv 64
theorem cQ_all {m : Mach} (hv : Valid m) {p : Pr} (h : RS (stC m) m.ins.toNat p) : p ∈ cQ m := jq_all (by have := jqC_len hv 64; have := hv.rows; omega) h
theorem idxOf_pair (L : List Int) (t : Int) : (L.map fun s => ((s, 0) : Pr)).idxOf (t, 0) = L.idxOf t := by
 induction L with
 | nil => rfl
 | cons s L ih =>
   simp only [List.map_cons, List.idxOf_cons]
   by_cases h : s = t
   ·subst h; simp
   ·have h1 : (((s, 0) : Pr) == (t, 0)) = false := by simp [h]
    have h2 : (s == t) = false := by simp [h]
    rw [h1, h2, ih]
theorem reachA_nodup (m : Mach) : (reachA m).Nodup := by
 have h := jq_nodup (stC m) m.ins.toNat 64
 rw [← reachA_jq] at h
 rw [List.nodup_iff_pairwise_ne, List.pairwise_map] at h
 rw [List.nodup_iff_pairwise_ne]
 exact h.imp fun hne e => hne (by rw [e])
theorem part_edge {m : Mach} (hv : Valid m) {s : Int} (hs : s ∈ reachA m) {i : Nat} (hi : (i : Int) < m.ins) :
  ((eAt m s.toNat i).1 = -1 ∨ ((eAt m s.toNat i).1 ≠ -1 ∧ (eAt m s.toNat i).1 ∈ reachA m)) ∧
    jed (stC m) (cQ m) (s, 0) i = ((if (eAt m s.toNat i).1 = -1 then (-1 : Int) else (((reachA m).idxOf (eAt m s.toNat i).1 : Nat) : Int)), (eAt m s.toNat i).2) := by
 have hsr := reachA_in hv s hs
 obtain ⟨r, _, _, f3⟩ := eAt_fit hv (s := s.toNat) (i := i) (by omega) hi
 have hst : stC m (s, 0) i = if (eAt m s.toNat i).1 < 0 then none else some (((eAt m s.toNat i).1, 0), (eAt m s.toNat i).2) := rfl
 generalize eAt m s.toNat i = e at f3 hst
 obtain ⟨t, o⟩ := e
 simp only at f3 hst ⊢
 rcases f3 with f3 | f3
 ·have ht : t = -1 ∧ o = -1 := by simpa [isNone] using f3
  obtain ⟨rfl, rfl⟩ := ht
  rw [if_pos (by omega)] at hst
  exact ⟨.inl rfl, by simp only [jed, hst]; rfl⟩
 ·rw [if_neg (by omega)] at hst
  have hsQ : ((s, 0) : Pr) ∈ cQ m := by rw [← cQ_reach]; exact List.mem_map.2 ⟨s, hs, rfl⟩
  have hq := cQ_all hv (.step (jq_reach _ _ 64 _ hsQ) (by omega) hst)
  rw [← cQ_reach] at hq
  obtain ⟨t', ht', he⟩ := List.mem_map.1 hq
  obtain rfl : t' = t := (Prod.mk.inj he).1
  refine ⟨.inr ⟨by omega, ht'⟩, ?_⟩
  simp only [jed, hst]
  rw [if_neg (by omega), ← cQ_reach, idxOf_pair]
def pRow (m : Mach) (s : Int) : List (Int × Int) := jrow (stC m) (cQ m) (s, 0) m.ins.toNat
def pPre (m : Mach) (s : Int) (i : Nat) : List (Int × Int) := (List.range i).map (jed (stC m) (cQ m) (s, 0))
theorem pRow_len (m : Mach) (s : Int) : (pRow m s).length = m.ins.toNat := by simp [pRow, jrow]
theorem pPre_len (m : Mach) (s : Int) (i : Nat) : (pPre m s i).length = i := by simp [pPre]
theorem pPre_succ (m : Mach) (s : Int) (i : Nat) : pPre m s (i + 1) = pPre m s i ++ [jed (stC m) (cQ m) (s, 0) i] := by simp [pPre, List.range_succ]
theorem canM_rows (m : Mach) : (canM m).rows = (reachA m).map fun s => (false, pRow m s) := by
 simp only [canM]
 conv => lhs; arg 2; rw [← cQ_reach]
 simp only [List.map_map, pRow, Function.comp_def]
theorem cQ_def (m : Mach) : cQ m = jq (stC m) m.ins.toNat 64 := rfl
attribute [irreducible] cQ
def pTab (m : Mach) (L : List Int) (k : Nat) : List (List AV) := ((L.take k).map fun s => rowC (false, pRow m s)) ++ List.replicate (L.length - k) [.sl true [] .zer]
theorem pTab_len (m : Mach) {L : List Int} {k : Nat} (h : k ≤ L.length) : (pTab m L k).length = L.length := by simp [pTab]; omega
theorem pTab_set (m : Mach) {L : List Int} {k : Nat} {s : Int} (h : L[k]? = some s) : (pTab m L k).set k (rowC (false, pRow m s)) = pTab m L (k + 1) := by
 obtain ⟨h1, h2⟩ := List.getElem?_eq_some_iff.1 h
 have hl : ((L.take k).map fun s => rowC (false, pRow m s)).length = k := by simp; omega
 unfold pTab
 rw [List.set_append_right _ _ (by omega), hl, Nat.sub_self, show L.length - k = (L.length - (k + 1)) + 1 by omega, List.replicate_succ, List.set_cons_zero, List.take_succ_eq_append_getElem h1, List.map_append, h2]
 simp
theorem pTab_get (m : Mach) {L : List Int} {k : Nat} (h : k < L.length) : (pTab m L k)[k]? = some [.sl true [] .zer] := by
 have hl : ((L.take k).map fun s => rowC (false, pRow m s)).length = k := by simp; omega
 unfold pTab
 rw [List.getElem?_append_right (by omega), hl, Nat.sub_self, List.getElem?_replicate, if_pos (by omega)]
theorem pTab_norefs (m : Mach) (L : List Int) (k : Nat) : (pTab m L k).all AV.norefs = true := by
 rw [List.all_eq_true]
 intro x hx
 rcases List.mem_append.1 hx with hx | hx
 ·obtain ⟨s, _, rfl⟩ := List.mem_map.1 hx; rfl
 ·rw [(List.mem_replicate.1 hx).2]; rfl
def pMid (m : Mach) (s : Int) (N i : Nat) : List (Int × Int) := pPre m s i ++ List.replicate (N - i) (0, 0)
theorem pMid_len (m : Mach) (s : Int) {N i : Nat} (h : i ≤ N) : (pMid m s N i).length = N := by simp [pMid, pPre_len]; omega
theorem pMid_zero (m : Mach) (s : Int) (N : Nat) : List.replicate N ((0, 0) : Int × Int) = pMid m s N 0 := by simp [pMid, pPre]
theorem pMid_end (m : Mach) (s : Int) {N : Nat} (h : m.ins.toNat = N) : pMid m s N N = pRow m s := by rw [pMid, Nat.sub_self, pRow, jrow, h]; simp [pPre]
theorem pMid_get (m : Mach) (s : Int) {N i : Nat} (h : i < N) : (pMid m s N i)[i]? = some (0, 0) := by
 rw [pMid, List.getElem?_append_right (by rw [pPre_len]; omega), pPre_len, Nat.sub_self, List.getElem?_replicate, if_pos (by omega)]
theorem pMid_set (m : Mach) (s : Int) {N i : Nat} {e : Int × Int} (h : i < N) (he : jed (stC m) (cQ m) (s, 0) i = e) : ((pMid m s N i).map edgeC).set i (edgeC e) = (pMid m s N (i + 1)).map edgeC := by
 have hl := pPre_len m s i
 rw [← List.map_set, pMid, pMid, pPre_succ, he, List.set_append_right _ _ (by omega), hl, Nat.sub_self, show N - i = (N - (i + 1)) + 1 by omega, List.replicate_succ, List.set_cons_zero]
 simp
theorem tlset_norefs {T : List (List AV)} {k i n : Nat} {nl : Bool} (h : k < T.length) : (T.set k [.tl i n nl]).all AV.norefs = false := by
 rw [List.all_eq_false]
 refine ⟨[.tl i n nl], List.mem_of_getElem? (i := k) ?_, by simp [AV.norefs, AV.noref]⟩
 rw [List.getElem?_set, if_pos rfl, if_pos h]
theorem norefs_ren {cs : List AV} (K : List (Nat × Nat)) (h : AV.norefs cs = true) : cs.map (AV.ren K) = cs := by
 induction cs with
 | nil => rfl
 | cons c cs ih =>
   simp only [AV.norefs, Bool.and_eq_true] at h
   rw [List.map_cons, ih h.2]
   congr 1
   unfold AV.ren
   rw [if_pos h.1]
theorem tlset_ren {T : List (List AV)} {k i j n : Nat} {nl : Bool} {K : List (Nat × Nat)} (hT : T.all AV.norefs = true) (hK : rlook K i = some j) : (T.set k [.tl i n nl]).map (fun c => c.map (AV.ren K)) = T.set k [.tl j n nl] := by
 rw [List.map_set]
 have h1 : T.map (fun c => c.map (AV.ren K)) = T := by
  conv => rhs; rw [← List.map_id T]
  exact List.map_congr_left fun c hc => norefs_ren K (List.all_eq_true.1 hT c hc)
 rw [h1]
 congr 1
 simp only [List.map_cons, List.map_nil, AV.ren, AV.noref, Bool.false_eq_true, if_false, AV.deep, renLeaf, hK]
set_option maxHeartbeats 4000000 in
theorem part_is {m : Mach} (hv : Valid m) (nl : Bool) (c : Cp) : PureIs prog 68 [.ag m.cells, .sl nl ((reachA m).map intC) c] (.ag (canM m).cells) := by
 refine PureIs.of1 3 [4, 5, 6, 7, 8, 9, 10, 11, 12, 13, 16, 17, 18, 19, 36, 37, 38, 39, 54, 55, 56, 57] func68 ntmps68 results68 fun _ => ?_
 have hr := hv.rows
 have hi0 := hv.ins
 have hlen := reachA_len hv
 have hpos := reachA_pos m
 have hnd := reachA_nodup m
 have hin := reachA_in hv
 have hpe : ∀ s ∈ reachA m, ∀ i : Nat, (i : Int) < m.ins → _ := fun s hs i hi => part_edge hv hs hi
 have hcr := canM_rows m
 obtain ⟨L, hL⟩ : ∃ L, L = reachA m := ⟨_, rfl⟩
 rw [← hL] at hlen hpos hnd hin hpe hcr ⊢
 have hres : (canM m).cells = [.sc (.int .i64 m.ins), .sc (.int .i64 m.outs), .sl false (L.map fun s => rowC (false, pRow m s)) .unk] := by
  rw [Mach.cells, hcr, List.map_map]; rfl
 rw [hres]
 clear hres hcr hL
 refine EvC.a ?_ (by simp only [go_sem, Mach.cells] <;> rfl)
 refine EvC.z 0 ?_
 refine EvC.a ?_
 refine EvC.seq ?_
 refine EvC.a ?_
 refine EvC.block ?_
 refine EvC.loopS (σ := Nat) (fun k => ⟨[(1, .sl nl (L.map intC) c), (2, .ia m.cells), (4, .rf 0 0), (5, .rf 2 0), (16, .sl nl (L.map intC) c), (17, .sc (.int .i64 L.length)), (18, .sc (.int .i64 k))], [],
  [(0, .cells [.sc (.int .i64 0), .sc (.int .i64 0), .sl true [] .zer]), (1, .map 3 (entN (L.take k))), (2, .cells [.mp 1])], 3⟩) (fun k => L.length - k) (fun k => k ≤ L.length) [1, 2, 4, 5, 16, 17, 18] 3 ?_ ?_
 ·refine ⟨[(1, 0), (2, 1), (5, 2)], 0, rfl, (by simp only [go_sem, Mach.cells, entN, entsI, intV, List.take_zero, Int.natCast_zero] <;> rfl), Nat.zero_le _⟩
 rintro k hk
 refine EvC.a ?_
 refine EvC.seq ?_
 refine EvC.cd (fun hc => ?_) (fun hc => ?_)
 ·refine EvC.skip ?_
  have hkl : k < L.length := by simpa using hc
  clear hc
  have he : L[k]? = some (L[k]'hkl) := List.getElem?_eq_getElem hkl
  have hg : L.take (k + 1) = L.take k ++ [L[k]'hkl] := List.take_succ_eq_append_getElem hkl
  have hsi := hin _ (List.getElem_mem hkl)
  have hno : L[k]'hkl ∉ L.take k := fun hm => by
   obtain ⟨j, hj, he2⟩ := List.getElem_of_mem hm
   rw [List.length_take] at hj
   rw [List.getElem_take] at he2
   have := (List.getElem_inj hnd).1 he2
   omega
  generalize L[k]'hkl = s at he hg hsi hno
  have hes := eset_entN s (L.take k) (by omega) hno
  rw [List.length_take, Nat.min_eq_left (by omega), ← hg] at hes
  have hes' : eset (entN (L.take k)) (Value.int .i64 s) (.sc (.int .i64 k)) = entN (L.take (k + 1)) := hes
  refine EvC.seq ?_
  refine EvC.block ?_
  refine EvC.a ?_ (by simp only [go_sem, he, intC, List.length_map] <;> rfl)
  refine EvC.b ?_ (by simp only [go_sem, hes'] <;> rfl)
  refine EvC.bi ?_
  refine ⟨[(0, 0), (1, 1), (2, 2)], k + 1, rfl, (by simp only [go_sem, Mach.cells, Int.natCast_add, Int.natCast_one] <;> rfl), by omega, by omega⟩
 refine EvC.exit ?_
 obtain rfl : k = L.length := by have : ¬ k < L.length := by simpa using hc
                                 omega
 clear hc hk
 rw [List.take_length]
 refine EvC.a ?_
 have hz : (L.length : Int).toNat = L.length := Int.toNat_natCast _
 refine EvC.d mixed ?_ (h := by simp only [go_sem, Mach.cells, List.length_map, List.length_replicate, hz] <;> rfl) (hok := by simp [room_eq]; omega)
 have hz0 : List.replicate L.length [AV.sl true [] .zer] = pTab m L 0 := by simp [pTab]
 have hzn := pTab_norefs m L 0
 refine EvC.seq ?_
 refine EvC.a ?_ (by simp only [go_sem, List.length_map] <;> rfl)
 refine EvC.block ?_
 refine EvC.loopS (σ := Nat) (fun k => ⟨[(2, .ia m.cells), (4, .rf 0 0), (8, .fn 111 [.rf 2 0]), (9, .rf 3 0), (36, .sl nl (L.map intC) c), (37, .sc (.int .i64 L.length)), (38, .sc (.int .i64 k))], [],
  [(0, .cells [.sc (.int .i64 0), .sc (.int .i64 0), .sl true [] .zer]), (1, .map 3 (entN L)), (2, .cells [.mp 1]), (4, .arr 1 (pTab m L k) false), (3, .cells [.sc (.int .i64 m.ins), .sc (.int .i64 m.outs), .tl 4 L.length false])], 5⟩) (fun k => L.length - k) (fun k => k ≤ L.length) [2, 4, 8, 9, 36, 37, 38] 5 ?_ ?_
 ·refine ⟨[(0, 0), (1, 1), (2, 2), (12, 4), (14, 3)], 0, rfl, (by simp only [go_sem, Mach.cells, hz0, hzn, Int.natCast_zero] <;> rfl), Nat.zero_le _⟩
 rintro k hk
 have hpl := pTab_len m hk
 have hpn := pTab_norefs m L k
 refine EvC.a ?_
 refine EvC.seq ?_
 refine EvC.cd (fun hc => ?_) (fun hc => ?_)
 rotate_left
 ·refine EvC.exit ?_
  obtain rfl : k = L.length := by have : ¬ k < L.length := by simpa using hc
                                  omega
  have hpf : pTab m L L.length = L.map fun s => rowC (false, pRow m s) := by simp [pTab]
  refine EvC.frzD 4 (by simp only [go_sem, hpl, hpn] <;> rfl) ?_
  rw [hpf]
  refine EvC.a ?_ (by simp only [go_sem, Mach.cells] <;> rfl)
  refine EvC.rz ?_
  simp only [go_sem]
 have hkl : k < L.length := by simpa using hc
 clear hc
 have he : L[k]? = some (L[k]'hkl) := List.getElem?_eq_getElem hkl
 have hsi := hin _ (List.getElem_mem hkl)
 have hpe := hpe _ (List.getElem_mem hkl)
 generalize L[k]'hkl = s at he hsi hpe
 have hst := pTab_set m he
 have hpg := pTab_get m hkl
 have hsn : s.toNat < m.rows.length := by omega
 have hre : m.rows[s.toNat]? = some (m.rows[s.toNat]'hsn) := List.getElem?_eq_getElem hsn
 have hrl := (hv.row _ (List.getElem_mem hsn)).1
 have hra : ∀ i : Nat, (i : Int) < m.ins → (m.rows[s.toNat]'hsn).2[i]? = some (eAt m s.toNat i) := fun i hi => by
  obtain ⟨r', q1, q2, _⟩ := eAt_fit hv (s := s.toNat) (i := i) (by omega) hi
  rw [hre] at q1; cases q1; exact q2
 generalize m.rows[s.toNat]'hsn = r at hre hrl hra
 obtain ⟨N, hN⟩ : ∃ N : Nat, m.ins = (N : Int) := ⟨m.ins.toNat, by omega⟩
 have hNt : m.ins.toNat = N := by omega
 have hNN : ((N : Nat) : Int).toNat = N := Int.toNat_natCast N
 have hkn : ((k : Nat) : Int).toNat = k := Int.toNat_natCast k
 refine EvC.skip ?_
 refine EvC.seq ?_
 refine EvC.block ?_
 refine EvC.a ?_ (by simp only [go_sem, he, intC, List.length_map] <;> rfl)
 have hrep : List.replicate N [AV.sc (Value.int .i64 0), AV.sc (Value.int .i64 0)] = (List.replicate N ((0, 0) : Int × Int)).map edgeC := by simp [edgeC, List.map_replicate]
 refine EvC.d mixed ?_ (h := by simp only [go_sem, Mach.cells, hN, hNN, hkn, hpl, hpg, hrep, List.length_map, List.length_replicate] <;> rfl) (hok := by simp [room_eq, hpl]; omega)
 refine EvC.a ?_ (by simp only [go_sem, Mach.cells, hre, rowC, List.length_map, hrl, hN] <;> rfl) (by simp; try omega)
 refine EvC.block ?_
 obtain ⟨T, hT⟩ : ∃ T, T = (pTab m L k).set k [.tl 5 N false] := ⟨_, rfl⟩
 rw [pMid_zero m s N]
 have hTl : T.length = L.length := by rw [hT, List.length_set]; exact hpl
 have hTg : T[k]? = some [.tl 5 N false] := by rw [hT, List.getElem?_set, if_pos rfl, if_pos (by omega)]
 refine EvC.loopS (σ := Nat) (fun i => ⟨[(2, .ia m.cells), (4, .rf 0 0), (8, .fn 111 [.rf 2 0]), (9, .rf 3 0), (10, .sc (.int .i64 k)), (36, .sl nl (L.map intC) c), (37, .sc (.int .i64 L.length)), (38, .sc (.int .i64 k)), (54, .sl r.1 (r.2.map edgeC) .unk), (55, .sc (.int .i64 N)), (56, .sc (.int .i64 i))], [],
  [(0, .cells [.sc (.int .i64 0), .sc (.int .i64 0), .sl true [] .zer]), (1, .map 3 (entN L)), (2, .cells [.mp 1]), (4, .arr 1 T false), (3, .cells [.sc (.int .i64 m.ins), .sc (.int .i64 m.outs), .tl 4 L.length false]), (5, .arr 2 ((pMid m s N i).map edgeC) false)], 6⟩) (fun i => N - i) (fun i => i ≤ N) [2, 4, 8, 9, 10, 36, 37, 38, 54, 55, 56] 6 ?_ ?_
 ·have hTr : ((pTab m L k).set k [.tl 16 N false]).map (fun c => c.map (AV.ren [(0, 0), (1, 1), (2, 2), (4, 4), (3, 3), (16, 5)])) = T := by
    rw [hT]; exact tlset_ren hpn rfl
  have hTn := tlset_norefs (T := pTab m L k) (k := k) (i := 16) (n := N) (nl := false) (by omega)
  refine ⟨[(0, 0), (1, 1), (2, 2), (4, 4), (3, 3), (16, 5)], 0, rfl, ?_, Nat.zero_le _⟩
  simp only [go_sem, Mach.cells, hN, hTn, hTr, pMid_zero m s N, Int.natCast_zero] <;> rfl
 rintro i hi
 have hRl := pMid_len m s hi
 refine EvC.a ?_
 refine EvC.seq ?_
 refine EvC.cd (fun hc => ?_) (fun hc => ?_)
 rotate_left
 ·refine EvC.exit ?_
  obtain rfl : i = N := by have : ¬ i < N := by simpa using hc
                           omega
  have hrow := pMid_end m s hNt
  have hpr : (pRow m s).length = i := by rw [pRow_len]; omega
  rw [hrow]
  have hTs : T.set k [.sl false ((pRow m s).map edgeC) .unk] = pTab m L (k + 1) := by rw [hT, List.set_set]; exact hst
  have hpn1 := pTab_norefs m L (k + 1)
  refine EvC.frz 5 (by simp only [go_sem, List.length_map, hpr] <;> rfl) ?_
  refine EvC.snapE 4 k (by simp only [go_sem, hTg, hTs, List.length_map, hpr] <;> rfl) ?_
  refine EvC.bi ?_
  exact ⟨[(0, 0), (1, 1), (2, 2), (4, 4), (3, 3)], k + 1, rfl, (by simp only [go_sem, Mach.cells, hpn1, Int.natCast_add, Int.natCast_one] <;> rfl), by omega, by omega⟩
 have hil : i < N := by simpa using hc
 clear hc
 have hig := hra i (by omega)
 obtain ⟨hp1, hp2⟩ := hpe i (by omega)
 have hlk := elook_entN (eAt m s.toNat i).1 L hp1
 have hset := pMid_set m s (N := N) hil hp2
 have hmg := pMid_get m s hil
 obtain ⟨v, hv2⟩ : ∃ v : Int, v = if (eAt m s.toNat i).1 = -1 then (-1 : Int) else ((L.idxOf (eAt m s.toNat i).1 : Nat) : Int) := ⟨_, rfl⟩
 rw [← hv2] at hlk hset
 clear hp1 hp2 hv2
 generalize eAt m s.toNat i = ed at hig hlk hset
 obtain ⟨t, o⟩ := ed
 simp only at hlk hset
 have hset : ((pMid m s N i).map edgeC).set i [.sc (.int .i64 v), .sc (.int .i64 o)] = (pMid m s N (i + 1)).map edgeC := hset
 have hin' : ((i : Nat) : Int).toNat = i := Int.toNat_natCast i
 refine EvC.skip ?_
 refine EvC.seq ?_
 refine EvC.block ?_
 refine EvC.a ?_ (by simp only [go_sem, hig, edgeC, hin', List.length_map, hrl] <;> rfl) (by simp; try omega)
 apply EvC.drwA mixed
 ·apply Tr.run
  ·simp only [go_sem, hTg, hTl, hkn] <;> rfl
  ·simp [hTl]; try omega
  apply Tr.cons
  ·exact OpIs.callR (ids := [2, 1]) (lo := 3) (by decide) rfl rfl (by simp only [go_sem] <;> rfl) (by simp only [go_sem] <;> rfl) (by simp only [go_sem, bodyArgs] <;> rfl) rfl (moved_to hlk) rfl rfl (by simp [mlook]) (mvM_ids L) (mvM_lt L) (mvM_in L _ _) (by simp [AV.idss, AV.ids])
  apply Tr.done
  ·simp only [go_sem, hTg, hTl, hkn, List.length_map, hRl, hin', hmg, hset, edgeC] <;> rfl
  ·simp [hRl]; try omega
 ·kernel_rfl
 refine EvC.bi ?_
 have hTn := tlset_norefs (T := pTab m L k) (k := k) (i := 5) (n := N) (nl := false) (by omega)
 have hTr : T.map (fun c => c.map (AV.ren [(0, 0), (1, 1), (2, 2), (4, 4), (3, 3), (5, 5)])) = T := by rw [hT]; exact tlset_ren hpn rfl
 rw [← hT] at hTn
 refine ⟨[(0, 0), (1, 1), (2, 2), (4, 4), (3, 3), (5, 5)], i + 1, rfl, (by simp only [go_sem, Mach.cells, hTn, hTr, Int.natCast_add, Int.natCast_one] <;> rfl), by omega, by omega⟩
theorem canonical_is {m : Mach} (hv : Valid m) : PureIs prog 33 [.ag m.cells] (.tu [.ag (canM m).cells, .sc (.int .i64 0)]) := by
 have hck := check_is m hv.small
 rw [checkM_of hv] at hck
 have h1 := reached_is hv
 have h2 := part_is hv false .unk
 have hM : m.cells = [.sc (.int .i64 m.ins), .sc (.int .i64 m.outs), .sl m.nl (m.rows.map rowC) .unk] := rfl
 obtain ⟨cs, hcs⟩ : ∃ c, c = canM m := ⟨_, rfl⟩
 rw [← hcs] at h2 ⊢
 have hC : cs.cells = [.sc (.int .i64 cs.ins), .sc (.int .i64 cs.outs), .sl cs.nl (cs.rows.map rowC) .unk] := rfl
 rw [hM] at hck h1 h2 ⊢
 rw [hC] at h2 ⊢
 refine PureIs.of1 5 [8] func33 ntmps33 results33 fun _ => ?_
 refine EvC.a ?_
 refine EvC.z 0 ?_
 refine EvC.seq ?_
 refine EvC.k1 ?_ (c1 := .ca hck)
 refine EvC.a ?_
 refine EvC.cs ?_
 refine EvC.k2D mixed ?_ (c1 := .ca h1) (c2 := .ca h2)
 refine EvC.rz ?_
 simp only [go_sem]
theorem equalE_is (na nb : Bool) (es : List (Int × Int)) (ca cb : Cp) (hl : es.length < 1000000) : PureIs prog 77 [.sl na (es.map edgeC) ca, .sl nb (es.map edgeC) cb] (.sc (.bool true)) := by
 refine PureIs.of1 2 [4, 5, 10, 12, 13, 14, 24] func77 ntmps77 results77 fun _ => ?_
 refine EvC.a ?_
 refine EvC.seq ?_
 have d0 : decide ((es.length : Int) = es.length) = true := decide_eq_true rfl
 refine EvC.a ?_ (by simp only [go_sem, List.length_map, d0] <;> rfl)
 refine EvC.cs ?_
 refine EvC.seq ?_
 refine EvC.a ?_ (by simp only [go_sem, List.length_map] <;> rfl)
 refine EvC.block ?_
 refine EvC.loopS (σ := Nat) (fun i => ⟨[(0, .sl na (es.map edgeC) ca), (1, .sl nb (es.map edgeC) cb), (12, .sc (.int .i64 es.length)), (13, .sc (.int .i64 i))], [], [], 0⟩) (fun i => es.length - i) (fun i => i ≤ es.length) [0, 1, 12, 13] 0 ?_ ?_
 ·refine ⟨[], 0, rfl, (by simp only [go_sem] <;> rfl), Nat.zero_le _⟩
 rintro i hi
 refine EvC.a ?_
 refine EvC.seq ?_
 refine EvC.cd (fun hc => ?_) (fun hc => ?_)
 rotate_left
 ·
  refine EvC.exit ?_
  refine EvC.a ?_
  refine EvC.rz ?_
  simp only [go_sem]
 have hil : i < es.length := by simpa using hc
 have he : es[i]? = some es[i] := List.getElem?_eq_getElem hil
 generalize es[i] = e at he
 have hin : ((i : Nat) : Int).toNat = i := Int.toNat_natCast i
 refine EvC.skip ?_
 refine EvC.seq ?_
 refine EvC.block ?_
 refine EvC.a ?_
 refine EvC.d mixed ?_ (h := by simp only [go_sem, he, edgeC, hin, List.length_map] <;> rfl) (hok := by simp; try omega)
 refine EvC.cs ?_
 refine EvC.bi ?_
 refine ⟨[], i + 1, rfl, (by simp only [go_sem, Int.natCast_add, Int.natCast_one] <;> rfl), by omega, by omega⟩
theorem equalF_is (na nb : Bool) (rs : List Row) (ca cb : Cp) (hl : rs.length < 1000000) (hr : ∀ r ∈ rs, r.2.length < 1000000) : PureIs prog 76 [.sl na (rs.map rowC) ca, .sl nb (rs.map rowC) cb, .fn 77 []] (.sc (.bool true)) := by
 refine PureIs.of1 3 [6, 7, 8, 9, 14, 15, 16, 17, 18, 30] func76 ntmps76 results76 fun _ => ?_
 refine EvC.a ?_
 refine EvC.seq ?_
 have d0 : decide ((rs.length : Int) = rs.length) = true := decide_eq_true rfl
 refine EvC.a ?_ (by simp only [go_sem, List.length_map, d0] <;> rfl)
 refine EvC.cs ?_
 refine EvC.seq ?_
 refine EvC.a ?_ (by simp only [go_sem, List.length_map] <;> rfl)
 refine EvC.block ?_
 refine EvC.loopS (σ := Nat) (fun i => ⟨[(1, .sl nb (rs.map rowC) cb), (2, .fn 77 []), (15, .sl na (rs.map rowC) ca), (16, .sc (.int .i64 rs.length)), (17, .sc (.int .i64 i))], [], [], 0⟩) (fun i => rs.length - i) (fun i => i ≤ rs.length) [1, 2, 15, 16, 17] 0 ?_ ?_
 ·refine ⟨[], 0, rfl, (by simp only [go_sem] <;> rfl), Nat.zero_le _⟩
 rintro i hi
 refine EvC.a ?_
 refine EvC.seq ?_
 refine EvC.cd (fun hc => ?_) (fun hc => ?_)
 rotate_left
 ·
  refine EvC.exit ?_
  refine EvC.a ?_
  refine EvC.rz ?_
  simp only [go_sem]
 have hil : i < rs.length := by simpa using hc
 have he : rs[i]? = some rs[i] := List.getElem?_eq_getElem hil
 have hrl := hr _ (List.getElem_mem hil)
 generalize rs[i] = r at he hrl
 have hin : ((i : Nat) : Int).toNat = i := Int.toNat_natCast i
 have hq := equalE_is r.1 r.1 r.2 .unk .unk hrl
 refine EvC.skip ?_
 refine EvC.seq ?_
 refine EvC.block ?_
 refine EvC.a ?_ (by simp only [go_sem, he, rowC, hin, List.length_map] <;> rfl)
 refine EvC.a ?_ (by simp only [go_sem, he, rowC, hin, List.length_map] <;> rfl)
 refine EvC.k1 ?_ (c1 := .ca hq)
 refine EvC.cs ?_
 refine EvC.bi ?_
 refine ⟨[], i + 1, rfl, (by simp only [go_sem, Int.natCast_add, Int.natCast_one] <;> rfl), by omega, by omega⟩
theorem same_self {m : Mach} (hv : Valid m) : PureIs prog 36 [.ag m.cells, .ag m.cells] (.sc (.bool true)) := by
 have hck := check_is m hv.small
 rw [checkM_of hv] at hck
 have hr := hv.rows
 have hq := equalF_is m.nl m.nl m.rows .unk .unk (by omega) hv.small
 have hM : m.cells = [.sc (.int .i64 m.ins), .sc (.int .i64 m.outs), .sl m.nl (m.rows.map rowC) .unk] := rfl
 rw [hM] at hck ⊢
 have d1 : decide (m.ins = m.ins) = true := decide_eq_true rfl
 have d2 : decide (m.outs = m.outs) = true := decide_eq_true rfl
 clear hr
 refine PureIs.of1 5 [] func36 ntmps36 results36 fun _ => ?_
 refine EvC.a ?_
 refine EvC.z 0 ?_
 refine EvC.z 1 ?_
 refine EvC.k3 ?_ (h1 := by simp only [go_sem, d1, d2] <;> rfl) (c1 := .ca hck) (h2 := by simp only [go_sem, d1, d2] <;> rfl) (c2 := .cg hck) (h3 := by simp only [go_sem, d1, d2] <;> rfl) (c3 := .cg hq)
 refine EvC.rz ?_
 simp only [go_sem]
theorem wrapU {x : Int} (h0 : 0 ≤ x) (h : x < 18446744073709551616) : IntKind.u64.wrap x = x := by
 have e : (2 : Int) ^ IntKind.u64.bits = 18446744073709551616 := by decide
 have e2 : IntKind.u64.signed = false := rfl
 simp only [IntKind.wrap, e, e2, Bool.false_and, Bool.false_eq_true, if_false]
 exact Int.emod_eq_of_lt h0 h
theorem lowU {n : Nat} (h : n < 65) : bitsOf .and .u64 (n : Int) 4294967295 = (n : Int) := by
 have : ∀ k : Fin 65, bitsOf .and .u64 ((k.val : Nat) : Int) 4294967295 = ((k.val : Nat) : Int) := by decide +kernel
 exact this ⟨n, h⟩
theorem highU {n : Nat} (h : n < 65) : shiftOf .shr .u64 (n : Int) 32 = 0 := by
 have : ∀ k : Fin 65, shiftOf .shr .u64 ((k.val : Nat) : Int) 32 = 0 := by decide +kernel
 exact this ⟨n, h⟩
theorem mul64_is {n : Nat} (h : n < 65) : PureIs prog 153 [.sc (.int .u64 1), .sc (.int .u64 (n : Int))] (.tu [.sc (.int .u64 0), .sc (.int .u64 (n : Int))]) := by
 have a1 : bitsOf .and .u64 1 4294967295 = 1 := lowU (n := 1) (by omega)
 have a0 : bitsOf .and .u64 0 4294967295 = 0 := lowU (n := 0) (by omega)
 have s1 : shiftOf .shr .u64 1 32 = 0 := highU (n := 1) (by omega)
 have s0 : shiftOf .shr .u64 0 32 = 0 := highU (n := 0) (by omega)
 have an := lowU h
 have sn := highU h
 have w0 : IntKind.u64.wrap 0 = 0 := wrapU (by omega) (by omega)
 have w1 : IntKind.u64.wrap 1 = 1 := wrapU (by omega) (by omega)
 have wn : IntKind.u64.wrap (n : Int) = n := wrapU (by omega) (by omega)
 refine PureIs.of1 2 [4, 5, 6, 7, 8, 9, 10, 11, 12, 13] func153 ntmps153 results153 fun _ => ?_
 refine EvC.a ?_
 refine EvC.a ?_ (by simp only [go_sem, a1] <;> rfl)
 refine EvC.a ?_ (by simp only [go_sem, s1] <;> rfl)
 refine EvC.a ?_ (by simp only [go_sem, an] <;> rfl)
 refine EvC.a ?_ (by simp only [go_sem, sn] <;> rfl)
 refine EvC.a ?_ (by simp only [go_sem, Int.one_mul, wn] <;> rfl)
 refine EvC.a ?_ (by simp only [go_sem, Int.zero_mul, w0, sn, Int.add_zero] <;> rfl)
 refine EvC.a ?_ (by simp only [go_sem, a0] <;> rfl)
 refine EvC.a ?_ (by simp only [go_sem, s0] <;> rfl)
 refine EvC.a ?_ (by simp only [go_sem, Int.mul_zero, w0, Int.add_zero] <;> rfl)
 refine EvC.a ?_ (by simp only [go_sem, Int.mul_zero, w0, Int.add_zero, s0] <;> rfl)
 refine EvC.a ?_ (by simp only [go_sem, Int.one_mul, wn] <;> rfl)
 refine EvC.rz ?_
 simp only [go_sem]
theorem mul_is {n : Nat} (h : n < 65) : PureIs prog 128 [.sc (.int .u64 1), .sc (.int .u64 (n : Int))] (.tu [.sc (.int .u64 0), .sc (.int .u64 (n : Int))]) := by
 refine PureIs.of1 2 [4, 5, 6, 7, 8, 9] func128 ntmps128 results128 fun _ => ?_
 refine EvC.a ?_
 refine EvC.seq ?_
 refine EvC.cs ?_
 refine EvC.k1 ?_ (c1 := .ca (mul64_is h))
 refine EvC.a ?_
 refine EvC.rz ?_
 simp only [go_sem]
def repC (e : Int) (N n : Nat) : List (List AV) := List.replicate n (intC e) ++ List.replicate (N - n) (intC 0)
theorem repC_len (e : Int) {N n : Nat} (h : n ≤ N) : (repC e N n).length = N := by simp [repC]; omega
theorem repC_take (e : Int) (N n : Nat) : (repC e N n).take n = List.replicate n (intC e) := by simp [repC]
theorem repC_next (e : Int) {N n m : Nat} (h : n + m ≤ N) (hm : m ≤ n) : List.replicate n (intC e) ++ (List.take m (List.replicate n (intC e)) ++ List.drop (n + m) (repC e N n)) = repC e N (n + m) := by
 have h1 : List.drop (n + m) (repC e N n) = List.replicate (N - (n + m)) (intC 0) := by
  rw [repC, List.drop_append, List.drop_of_length_le (by simp), List.length_replicate, List.drop_replicate, List.nil_append]
  congr 1; omega
 rw [h1, List.take_replicate, Nat.min_eq_left hm, ← List.append_assoc, List.replicate_append_replicate]; rfl
theorem repC_one (e : Int) {N : Nat} : repC e N 1 = intC e :: List.replicate (N - 1) (intC 0) := by simp [repC]
theorem norefs_repl (e : Int) (n : Nat) : (List.replicate n (intC e)).all AV.norefs = true := by simp [List.all_eq_true, intC, AV.norefs, AV.noref]
theorem len_repl (e : Int) (n : Nat) : ((List.replicate n (intC e)).all fun y => decide (y.length = 1)) = true := by simp [List.all_eq_true, intC]
theorem norefs_repC (e : Int) (N n : Nat) : (repC e N n).all AV.norefs = true := by simp only [repC, List.all_append, norefs_repl, Bool.and_self]
set_option maxHeartbeats 1000000 in
theorem repeat_new (e : Int) {N : Nat} (hN : 1 ≤ N ∧ N ≤ 64) : PureNew prog 80 [.sl false [intC e] .full, .sc (.int .i64 (N : Int))] 1 (List.replicate N (intC e)) := by
 have w1 : IntKind.u64.wrap 1 = 1 := wrapU (by omega) (by omega)
 have wn : IntKind.u64.wrap (N : Int) = N := wrapU (by omega) (by omega)
 have hbig : decide ((9223372036854775807 : Int) < (N : Int)) = false := decide_eq_false (by omega)
 have hneg : decide ((N : Int) < 0) = false := decide_eq_false (by omega)
 have hI : inI64 (N : Int) = true := inI64_of (by omega) (by omega)
 have hNN : ((N : Nat) : Int).toNat = N := Int.toNat_natCast N
 have hm1 : min 1 N = 1 := Nat.min_eq_left hN.1
 refine PureNew.of (nv := 2) (hid := [4, 5, 6, 7, 8, 10, 26, 37]) func80 rfl (by kernel_rfl) (by simp [ntmps80]) fun _ => ?_
 rw [ntmps80, results80]
 refine EvC.a ?_
 refine EvC.seq ?_
 refine EvC.a ?_ (by simp only [go_sem, hneg] <;> rfl)
 refine EvC.cs ?_
 refine EvC.k1 ?_ (h1 := by simp only [go_sem, Int.natCast_one, w1, wn] <;> rfl) (c1 := .ca (mul_is (show N < 65 by omega)))
 refine EvC.seq ?_
 refine EvC.g ?_ (h := by simp only [go_sem, hbig] <;> rfl)
 refine EvC.cs ?_
 have hz : List.replicate N [AV.sc (Value.int .i64 0)] = List.replicate N (intC 0) := rfl
 refine EvC.a ?_ (by simp only [go_sem, hNN, hz] <;> rfl) (by simp [room_eq, hI]; omega)
 have hd1 : List.drop 1 (List.replicate N [AV.sc (Value.int .i64 0)]) = List.replicate (N - 1) [AV.sc (Value.int .i64 0)] := List.drop_replicate ..
 refine EvC.a ?_ (by simp only [go_sem, hm1, hd1, intC, List.length_replicate, Int.natCast_one] <;> rfl) (by simp [AV.norefs, AV.noref]; omega)
 have hnr0 : (List.replicate (N - 1) [AV.sc (Value.int .i64 0)]).all AV.norefs = true := norefs_repl 0 (N - 1)
 refine EvC.seq ?_
 refine EvC.block ?_
 refine EvC.loopS (σ := Nat) (fun n => ⟨[(7, .tl 0 N false), (8, .sc (.int .i64 n))], [], [(0, .arr 1 (repC e N n) false)], 1⟩) (fun n => N - n) (fun n => 1 ≤ n ∧ n ≤ N) [7, 8] 1 ?_ ?_
 ·exact ⟨[(22, 0)], 1, rfl, (by simp only [go_sem, repC_one, intC, hnr0, Int.natCast_one] <;> rfl), Nat.le_refl _, hN.1⟩
 rintro n ⟨h1, h2⟩
 have hl := repC_len e h2
 have htk := repC_take e N n
 refine EvC.seq ?_
 refine EvC.a ?_ (by simp only [go_sem, hl, List.length_take, Nat.min_self] <;> rfl)
 refine EvC.cd (fun hc => ?_) (fun hc => ?_)
 rotate_left
 ·refine EvC.exit ?_
  obtain rfl : N = n := by have : ¬ n < N := by simpa using hc
                           omega
  have hrn : repC e N N = List.replicate N (intC e) := by simp [repC]
  rw [hrn]
  refine EvC.a ?_
  have hrl : (List.replicate N (intC e)).length = N := List.length_replicate
  refine EvC.ret ⟨.inl rfl, _, 0, (by simp only [go_sem] <;> rfl), .inl ?_, ?_, by rw [hrl]; omega, norefs_repl e N⟩
  ·rw [hrl]
  ·rfl
 have hnl : n < N := by simpa using hc
 clear hc
 obtain ⟨m, hmm⟩ : ∃ m, m = min n (N - n) := ⟨_, rfl⟩
 have hnx := repC_next e (N := N) (n := n) (m := m) (by omega) (by omega)
 have hnn : ((n : Nat) : Int).toNat = n := Int.toNat_natCast n
 refine EvC.skip ?_
 refine EvC.block ?_
 apply EvC.drd mixed
 ·simp only [go_sem, hl, htk, hnn, List.length_replicate, ← hmm, hnx, Nat.sub_zero] <;> rfl
 ·have hIm : inI64 ((n : Int) + (m : Int)) = true := inI64_of (by omega) (by omega)
  have hN0 : N ≠ 0 := by omega
  simp only [norefs_repl, len_repl, hIm, Bool.and_true, Bool.and_eq_true, Bool.or_eq_true, decide_eq_true_eq]
  omega
 ·kernel_rfl
 exact ⟨[(0, 0)], n + m, rfl, (by simp only [go_sem, norefs_repC, Int.natCast_add] <;> rfl), ⟨by omega, by omega⟩, by omega⟩
theorem cQ_nodup (m : Mach) : (cQ m).Nodup := by rw [cQ_def]; exact jq_nodup _ _ 64
theorem cQ_pos (m : Mach) : 1 ≤ (cQ m).length := by rw [cQ_def]; exact jq_pos _ _ 64
theorem cQ_zero (m : Mach) : (cQ m)[0]? = some (0, 0) := by rw [cQ_def]; exact jq_zero _ _ 64
theorem cQ_RS {m : Mach} {p : Pr} (h : p ∈ cQ m) : RS (stC m) m.ins.toNat p := by rw [cQ_def] at h; exact jq_reach _ _ 64 p h
theorem canM_len (m : Mach) : (canM m).rows.length = (cQ m).length := by simp [canM]
theorem cQ_fix {m : Mach} (hv : Valid m) : jq (stC m) m.ins.toNat (cQ m).length = cQ m ∧ jrows (stC m) m.ins.toNat 64 = jrows (stC m) m.ins.toNat (cQ m).length := by
 have hl := cQ_len hv
 have hr := hv.rows
 have h1 := (jq_mono (stC m) m.ins.toNat (show (cQ m).length ≤ 64 by omega)).length_le
 rw [← cQ_def] at h1
 have := jq_fix' h1 (show (cQ m).length ≤ 64 by omega)
 exact ⟨this.1.symm.trans (cQ_def m).symm, this.2⟩
theorem canM_jrows {m : Mach} (hv : Valid m) : (canM m).rows.map (·.2) = jrows (stC m) m.ins.toNat 64 := by
 obtain ⟨h1, h2⟩ := cQ_fix hv
 rw [h2, jrows_eq (m := (cQ m).length) (Nat.le_refl _) (by rw [h1]; exact Nat.le_refl _), h1, List.take_length]
 simp only [canM, List.map_map]; rfl
theorem canM_eAt {m : Mach} {k i : Nat} {p : Pr} (hk : (cQ m)[k]? = some p) (hi : i < m.ins.toNat) : eAt (canM m) k i = jed (stC m) (cQ m) p i := by
 refine eAt_get (r := (false, jrow (stC m) (cQ m) p m.ins.toNat)) ?_ ?_
 ·simp only [canM, List.getElem?_map, hk, Option.map_some]
 ·simp only [jrow, List.getElem?_map, List.getElem?_range hi, Option.map_some]
theorem stC_out {m : Mach} (hv : Valid m) {p : Pr} {i : Nat} {q : Pr × Int} (hp : p ∈ cQ m) (hi : (i : Int) < m.ins) (h : stC m p i = some q) : 0 ≤ q.2 ∧ q.2 < m.outs := by
 obtain ⟨h1, h2, h3⟩ := stC_in hv (cQ_RS hp)
 unfold stC at h
 split at h
 ·cases h
 ·rename_i h0
  obtain ⟨r, _, _, f3⟩ := eAt_fit hv (s := p.1.toNat) (i := i) (by omega) hi
  cases h
  rcases f3 with f3 | f3
  ·simp [isNone] at f3; omega
  ·exact f3.2.2
theorem stC_mem {m : Mach} (hv : Valid m) {p : Pr} {i : Nat} {q : Pr × Int} (hp : p ∈ cQ m) (hi : i < m.ins.toNat) (h : stC m p i = some q) : q.1 ∈ cQ m := cQ_all hv (.step (cQ_RS hp) hi (o := q.2) h)
theorem canM_valid {m : Mach} (hv : Valid m) : Valid (canM m) := by
 have hr := hv.rows
 have hi := hv.ins
 have hl := cQ_len hv
 have hp := cQ_pos m
 refine ⟨hi, hv.outs, by rw [canM_len]; omega, fun r hr => ?_⟩
 rw [canM_len]
 obtain ⟨p, hp, rfl⟩ := List.mem_map.1 hr
 refine ⟨by simp [jrow, canM]; omega, fun e he => ?_⟩
 simp only [jrow, List.mem_map, List.mem_range] at he
 obtain ⟨i, hi, rfl⟩ := he
 cases hst : stC m p i with
 | none => simp [jed, hst, fitsR]
 | some q =>
   have h1 := stC_out hv hp (by omega) hst
   have h3 := List.idxOf_lt_length_of_mem (stC_mem hv hp hi hst)
   simp only [jed, hst, fitsR, Bool.or_eq_true, Bool.and_eq_true, decide_eq_true_eq, canM]
   exact .inr ⟨⟨⟨by omega, by omega⟩, h1.1⟩, h1.2⟩
def CanR (m : Mach) (p p' : Pr) : Prop := ∃ k : Nat, (cQ m)[k]? = some p ∧ p' = ((k : Int), 0)
theorem idx_inj {l : List Pr} (h : l.Nodup) {i j : Nat} {x : Pr} (h1 : l[i]? = some x) (h2 : l[j]? = some x) : i = j := by
 obtain ⟨a, e1⟩ := List.getElem?_eq_some_iff.1 h1
 obtain ⟨b, e2⟩ := List.getElem?_eq_some_iff.1 h2
 exact (List.getElem_inj h).1 (e1.trans e2.symm)
theorem canR_inj (m : Mach) : InjR (CanR m) := by
 rintro p p' q q' ⟨k, h1, rfl⟩ ⟨j, h2, rfl⟩
 constructor
 ·rintro rfl; rw [idx_inj (cQ_nodup m) h1 h2]
 ·intro h
  have : k = j := by have := (Prod.mk.inj h).1; omega
  subst this; rw [h1] at h2; exact Option.some.inj h2
theorem canR_steps {m : Mach} (hv : Valid m) : StepsR (CanR m) (stC m) (stC (canM m)) m.ins.toNat := by
 rintro p p' i ⟨k, hk, rfl⟩ hi
 have hp : p ∈ cQ m := List.mem_of_getElem? hk
 have he := canM_eAt hk hi
 have hkn : ((k : Nat) : Int).toNat = k := Int.toNat_natCast k
 have hst2 : stC (canM m) ((k : Int), 0) i = if (eAt (canM m) k i).1 < 0 then none else some (((eAt (canM m) k i).1, 0), (eAt (canM m) k i).2) := by
  unfold stC; simp only [hkn]
 rw [hst2, he]
 cases hst : stC m p i with
 | none => left; refine ⟨rfl, ?_⟩; simp [jed, hst]
 | some q =>
   right
   have hm := stC_mem hv hp hi hst
   have hq0 := (stC_in hv (cQ_RS hm)).1
   refine ⟨q.1, (((cQ m).idxOf q.1 : Nat), 0), q.2, rfl, ?_, (cQ m).idxOf q.1, ?_, rfl⟩
   ·simp only [jed, hst]; rw [if_neg (by omega)]
   ·have hl := List.idxOf_lt_length_of_mem hm
    rw [List.getElem?_eq_getElem hl, List.getElem_idxOf hl]
theorem canM_corr {m : Mach} (hv : Valid m) : Corr (CanR m) (cQ m) (cQ (canM m)) := by
 have := Corr.jq (canR_inj m) (canR_steps hv) ⟨0, cQ_zero m, rfl⟩ 64
 rw [cQ_def, cQ_def]; exact this
theorem rows_flag {l l' : List Row} (h : l.map (·.2) = l'.map (·.2)) (h1 : ∀ r ∈ l, r.1 = false) (h2 : ∀ r ∈ l', r.1 = false) : l = l' := by
 refine List.ext_getElem (by simpa using congrArg List.length h) fun i k1 k2 => ?_
 have := congrArg (fun x => x[i]?) h
 simp only [List.getElem?_map, List.getElem?_eq_getElem k1, List.getElem?_eq_getElem k2, Option.map_some, Option.some.injEq] at this
 exact Prod.ext ((h1 _ (List.getElem_mem k1)).trans (h2 _ (List.getElem_mem k2)).symm) this
theorem canM_flag (m : Mach) : ∀ r ∈ (canM m).rows, r.1 = false := fun r hr => by
 obtain ⟨p, _, rfl⟩ := List.mem_map.1 hr; rfl
theorem canM_eq {a b : Mach} (ha : Valid a) (hb : Valid b) (hi : a.ins = b.ins) (ho : a.outs = b.outs) {R : Pr → Pr → Prop} (hR : InjR R) (hS : StepsR R (stC a) (stC b) a.ins.toNat) (h0 : R (0, 0) (0, 0)) : canM a = canM b := by
 have h := Corr.jrows hR hS h0 64
 have e : (canM a).rows = (canM b).rows := rows_flag (by rw [canM_jrows ha, canM_jrows hb, ← hi]; exact h) (canM_flag a) (canM_flag b)
 show (⟨a.ins, a.outs, false, (canM a).rows⟩ : Mach) = ⟨b.ins, b.outs, false, (canM b).rows⟩
 rw [e, hi, ho]
theorem canM_can {m : Mach} (hv : Valid m) : canM (canM m) = canM m := (canM_eq hv (canM_valid hv) rfl rfl (canR_inj m) (canR_steps hv) ⟨0, cQ_zero m, rfl⟩).symm
theorem reachA_can {m : Mach} (hv : Valid m) : (reachA (canM m)).length = (reachA m).length := by
 have := (canM_corr hv).len
 rw [← cQ_reach, ← cQ_reach, List.length_map, List.length_map] at this
 exact this.symm
def wrtAt (A B : List Int) (n : Nat) : Nat → List Int
 | 0 => List.replicate n (-1)
 | i + 1 => (wrtAt A B n i).set ((A[i]?).getD 0).toNat ((B[i]?).getD 0)
theorem wrtAt_len (A B : List Int) (n : Nat) : ∀ i, (wrtAt A B n i).length = n
 | 0 => by simp [wrtAt]
 | i + 1 => by simp [wrtAt, wrtAt_len A B n i]
def isoL (m : Mach) : List Int := wrtAt (reachA m) (reachA (canM m)) m.rows.length (reachA m).length
theorem isoL_len (m : Mach) : (isoL m).length = m.rows.length := wrtAt_len _ _ _ _
theorem isomorphic_is {m : Mach} (hv : Valid m) : PureIs prog 79 [.ag m.cells, .ag (canM m).cells] (.tu [.sl false ((isoL m).map intC) .full, .sc (.bool true), .sc (.int .i64 0)]) := by
 have hc := canM_valid hv
 have hck := check_is m hv.small
 have hck2 := check_is (canM m) hc.small
 rw [checkM_of hv] at hck
 rw [checkM_of hc] at hck2
 have hor := orJ_is false [0, 0] .full (by decide)
 rw [orL_two] at hor
 have h1 := reached_is hv
 have h2 := reached_is hc
 have h3 := part_is hv false .unk
 have h4 := part_is hc false .unk
 rw [canM_can hv] at h4
 have h5 := same_self hc
 have hr := hv.rows
 have hl := reachA_can hv
 have hin := reachA_in hv
 have hlen := reachA_len hv
 have hrep := repeat_new (-1) (N := m.rows.length) hr
 unfold isoL
 generalize reachA m = A at h1 h3 hl hin hlen ⊢
 generalize reachA (canM m) = B at h2 h4 hl ⊢
 generalize canM m = c at hck2 h2 h3 h4 h5 ⊢
 obtain ⟨n, hn⟩ : ∃ n, n = m.rows.length := ⟨_, rfl⟩
 rw [← hn] at hrep hr hin hlen ⊢
 have hM : m.cells = [.sc (.int .i64 m.ins), .sc (.int .i64 m.outs), .sl m.nl (m.rows.map rowC) .unk] := rfl
 have hC : c.cells = [.sc (.int .i64 c.ins), .sc (.int .i64 c.outs), .sl c.nl (c.rows.map rowC) .unk] := rfl
 rw [hM] at hck h1 h3 ⊢
 rw [hC] at hck2 h2 h3 h4 h5 ⊢
 have hor : PureIs prog 43 [.sl false [[.sc (.int .i64 0)], [.sc (.int .i64 0)]] .full] (.sc (.int .i64 0)) := hor
 simp only [intC] at hrep
 refine PureIs.of1 13 [20, 33, 39, 40, 41, 42] func79 ntmps79 results79 fun _ => ?_
 refine EvC.a ?_
 refine EvC.z 0 ?_
 refine EvC.z 1 ?_
 refine EvC.gc [2, 3] [] 0 rfl ?_
 refine EvC.seq ?_
 apply EvC.seq
 apply EvC.drw mixed
 ·apply Tr.run
  ·simp only [go_sem] <;> rfl
  ·simp
  apply Tr.cons
  ·exact .ca (hck)
  apply Tr.run
  ·simp only [go_sem] <;> rfl
  ·simp
  apply Tr.cons
  ·exact .ca (hck2)
  apply Tr.run
  ·simp only [go_sem] <;> rfl
  ·simp
  apply Tr.cons
  ·exact .ca (hor)
  apply Tr.done
  ·simp only [go_sem] <;> rfl
  ·simp
 ·kernel_rfl
 refine EvC.a ?_
 refine EvC.cs ?_
 refine EvC.gc [2, 3] [] 0 rfl ?_
 refine EvC.k2D mixed ?_ (c1 := .ca h1) (c2 := .ca h2)
 refine EvC.seq ?_
 apply EvC.seq
 apply EvC.drw mixed
 ·apply Tr.run
  ·simp only [go_sem] <;> rfl
  ·simp
  apply Tr.cons
  ·exact .ca (h3)
  apply Tr.run
  ·simp only [go_sem] <;> rfl
  ·simp
  apply Tr.cons
  ·exact .ca (h4)
  apply Tr.run
  ·simp only [go_sem] <;> rfl
  ·simp
  apply Tr.cons
  ·exact .ca (h5)
  apply Tr.done
  ·simp only [go_sem] <;> rfl
  ·simp
 ·kernel_rfl
 refine EvC.cs ?_
 refine EvC.gc [2, 8, 9] [] 0 rfl ?_
 apply EvC.seq
 apply EvC.tr
 ·apply Tr.run
  ·simp only [go_sem, List.length_map, ← hn] <;> rfl
  ·simp
  apply Tr.cons
  ·exact .callN rfl rfl (by simp only [go_sem] <;> rfl) (by simp only [go_sem] <;> rfl) (by simp only [go_sem] <;> rfl) (by simp only [go_sem] <;> rfl) (by simp only [go_sem] <;> rfl) hrep
  apply Tr.done
  ·simp only [go_sem] <;> rfl
  ·simp
 have hz : List.replicate n [AV.sc (.int .i64 (-1))] = (wrtAt A B n 0).map intC := by simp [wrtAt, intC]
 refine EvC.seq ?_
 refine EvC.a ?_ (by simp only [go_sem, List.length_map, hz] <;> rfl)
 refine EvC.block ?_
 have hno : ∀ l : List Int, (l.map intC).all AV.norefs = true := fun l => by simp [List.all_eq_true, intC, AV.norefs, AV.noref]
 have hw0 : ((wrtAt A B n 0).map intC).length = n := by rw [List.length_map, wrtAt_len]
 refine EvC.loopS (σ := Nat) (fun i => ⟨[(9, .sl false (B.map intC) .unk), (10, .tl 0 n false), (39, .sl false (A.map intC) .unk), (40, .sc (.int .i64 A.length)), (41, .sc (.int .i64 i))], [], [(0, .arr 1 ((wrtAt A B n i).map intC) false)], 1⟩) (fun i => A.length - i) (fun i => i ≤ A.length) [9, 10, 39, 40, 41] 1 ?_ ?_
 ·refine ⟨[(4, 0)], 0, rfl, (by simp only [go_sem, hw0, wrtAt_len, hno, List.length_map, Int.natCast_zero] <;> rfl), Nat.zero_le _⟩
 rintro i hi
 have hwl := wrtAt_len A B n i
 refine EvC.a ?_
 refine EvC.seq ?_
 refine EvC.cd (fun hc => ?_) (fun hc => ?_)
 rotate_left
 ·
  refine EvC.exit ?_
  obtain rfl : i = A.length := by have : ¬ i < A.length := by simpa using hc
                                  omega
  have hcl := clipI_is false ((wrtAt A B n A.length).map intC) .unk (intC_len _)
  refine EvC.frz 0 (by simp only [go_sem, hno, hwl, List.length_map] <;> rfl) ?_
  refine EvC.k1 ?_ (c1 := .ca hcl)
  refine EvC.ret ⟨.inl rfl, _, (by simp only [go_sem] <;> rfl), ?_, by simp [AV.noref, AV.norefs, hno]⟩
  simp only [go_sem]
 have hil : i < A.length := by simpa using hc
 clear hc
 have heA : A[i]? = some A[i] := List.getElem?_eq_getElem hil
 have heB : B[i]? = some (B[i]'(by omega)) := List.getElem?_eq_getElem (by omega)
 have hai := hin _ (List.getElem_mem hil)
 have hws : wrtAt A B n (i + 1) = (wrtAt A B n i).set A[i].toNat (B[i]'(by omega)) := by simp only [wrtAt, heA, heB, Option.getD_some]
 generalize A[i] = s at heA hai hws
 generalize B[i]'(by omega) = t at heB hws
 have hsn : ((wrtAt A B n i).map intC).length = n := by rw [List.length_map, hwl]
 have hset : ((wrtAt A B n i).map intC).set s.toNat [.sc (.int .i64 t)] = (wrtAt A B n (i + 1)).map intC := by rw [hws, List.map_set]; rfl
 have hget : ∃ x, ((wrtAt A B n i).map intC)[s.toNat]? = some (intC x) := by
  rw [List.getElem?_map, List.getElem?_eq_getElem (show s.toNat < (wrtAt A B n i).length by omega)]
  exact ⟨_, rfl⟩
 obtain ⟨x0, hget⟩ := hget
 have hit : ((i : Nat) : Int).toNat = i := Int.toNat_natCast i
 refine EvC.skip ?_
 refine EvC.seq ?_
 refine EvC.block ?_
 refine EvC.a ?_ (by simp only [go_sem, heA, intC, hit, List.length_map] <;> rfl) (by simp; try omega)
 refine EvC.b ?_ (by simp only [go_sem, heB, intC, hit, hget, hset, hsn, List.length_map] <;> rfl) (by simp [hsn]; try omega)
 refine EvC.bi ?_
 refine ⟨[(0, 0)], i + 1, rfl, (by simp only [go_sem, hno, Int.natCast_add, Int.natCast_one] <;> rfl), by omega, by omega⟩
theorem values_is (nl : Bool) (l : List Int) (c : Cp) : PureIs prog 130 [.sl nl (l.map intC) c] (.fn 156 [.ia [.sl nl (l.map intC) c]]) := by
 refine PureIs.of1 3 [] func130 ntmps130 results130 fun _ => ?_
 refine EvC.a ?_
 refine EvC.z 0 ?_
 refine EvC.a ?_
 refine EvC.rz ?_
 simp only [go_sem]
def yI (s : Int) : List AV := [.sc (.int .i64 s)]
theorem values1_seq (nl : Bool) (l : List Int) (c : Cp) (hl : l.length < 1000000) : SeqIs prog 156 [.ia [.sl nl (l.map intC) c]] (l.map yI) := by
 have hX : (l.map yI).length = l.length := List.length_map _
 refine SeqIs.of (nv := 2) (hid := [4, 5, 6, 7, 8, 14]) func156 rfl (by kernel_rfl) (by simp [ntmps156]) (by rw [results156]) fun lp J h0 hJ hy => ?_
 rw [ntmps156]
 refine EvY.seqL hJ (EvC.rg (by simp only [go_sem, List.length_map] <;> rfl) (by simp) ?_)
 refine EvY.block ?_
 refine EvY.loopS hJ (σ := Nat) (fun k => ⟨[(0, .sc (yv lp)), (5, .sl nl (l.map intC) c), (6, .sc (.int .i64 l.length)), (7, .sc (.int .i64 k))], [], [], 0⟩) (fun k => k) (fun k => l.length - k) (fun k => k ≤ l.length) [0, 5, 6, 7] 0 ?_ ?_
 ·refine ⟨[], 0, rfl, (by simp only [go_sem, Int.natCast_zero] <;> rfl), Nat.zero_le _, rfl⟩
 rintro k hk
 refine EvY.seqL hJ (EvC.rg (by simp only [go_sem] <;> rfl) (by simp) ?_)
 refine EvY.seq ?_
 refine EvY.cond (by simp only [go_sem] <;> rfl) (fun hc => ?_) (fun hc => ?_)
 rotate_left
 ·refine EvY.exit ⟨.inr rfl, .inl ?_⟩
  have hc : ¬ k < l.length := by simpa using hc
  rw [hX]
  congr 1; omega
 have hc : k < l.length := by simpa using hc
 have he : l[k]? = some l[k] := List.getElem?_eq_getElem hc
 have hlt : k < (l.map yI).length := by omega
 have hget : (l.map yI)[k] = yI l[k] := by simp
 generalize l[k] = x at he hget
 have hkn : ((k : Nat) : Int).toNat = k := Int.toNat_natCast k
 refine EvY.skip ?_
 refine EvY.seq ?_
 refine EvY.block ?_
 refine EvY.seqL hJ (EvC.rg (by simp only [go_sem, he, intC, hkn, List.length_map] <;> rfl) (by simp; try omega) ?_)
 refine EvY.seq (EvY.region ?_)
 refine XRY.run hJ (by simp only [go_sem] <;> rfl) (by simp) ?_
 refine XRY.yield hlt hy rfl rfl (by simp only [go_sem] <;> rfl) (by simp only [go_sem] <;> rfl) (by rw [hget]; simp only [go_sem, yI] <;> rfl) (by rw [hget]; simp only [go_sem, yI]) fun b => ?_
 refine XRY.done hJ (by simp only [go_sem] <;> rfl) rfl ?_
 refine EvY.cond (by simp only [go_sem] <;> rfl) (fun hb => ?_) (fun hb => ?_)
 ·have hb : b = false := by simpa using hb
  subst hb
  exact EvY.ret ⟨.inl rfl, .inr rfl⟩
 have hb : b = true := by simpa using hb
 subst hb
 refine EvY.skip ?_
 refine EvY.lift hJ (EvC.rg (by simp only [go_sem] <;> rfl) (inI64_of (by omega) (by omega)) ?_)
 refine ⟨[], k + 1, rfl, (by simp only [go_sem, Int.natCast_add, Int.natCast_one] <;> rfl), by omega, rfl, by omega⟩
theorem appendSeq_new (l : List Int) (nl : Bool) (c : Cp) (h0 : l.length ≠ 0) (hl : l.length < 1000000) : PureNew prog 173 [.sl true [] .zer, .fn 156 [.ia [.sl nl (l.map intC) c]]] 1 (l.map intC) := by
 have hseq := values1_seq nl l c hl
 have hno : (l.map intC).all AV.norefs = true := by simp [List.all_eq_true, intC, AV.norefs, AV.noref]
 refine PureNew.of (nv := 3) (hid := [4, 5, 6, 7]) func173 rfl (by kernel_rfl) (by simp [ntmps173]) fun _ => ?_
 rw [ntmps173, results173]
 refine EvC.a ?_
 refine EvC.seq ?_
 refine EvC.a ?_
 refine EvC.block ?_
 refine EvC.gc [2, 6] [(0, 0)] 1 rfl ?_
 refine EvC.ownC 0 0 1 (by simp only [go_sem] <;> rfl) ?_
 refine EvC.thaw 1 (by simp only [go_sem] <;> rfl) ?_
 have hXl : (l.map yI).length = l.length := List.length_map _
 refine EvC.range (σ := Unit) (gf := 156) (caps := [.ia [.sl nl (l.map intC) c]]) (xs := l.map yI) rfl (fun _ => rfl) (by simp only [go_sem] <;> rfl) (by simp [AV.norefs, AV.noref]) hseq ?_ (by simp) (Nat.zero_le _)
  (fun k _ => [(1, .arr 1 ((l.take k).map intC) false), (0, .cells [.tl 1 k (k == 0)])]) (fun _ _ => True) ⟨(), by simp only [go_sem, List.take_zero, List.map_nil] <;> rfl, trivial⟩ ?_ ?_
 ·intro x hx
  obtain ⟨z, _, rfl⟩ := List.mem_map.1 hx
  rfl
 ·rintro k _ lp hk -
  have hk' : k < l.length := by simpa using hk
  have hz : (l.map yI)[k] = yI l[k] := by simp
  have hg : l.take (k + 1) = l.take k ++ [l[k]] := List.take_succ_eq_append_getElem hk'
  rw [hz]
  generalize l[k] = x at hg
  have hll : ((l.take k).map intC).length = k := by simp; omega
  refine EvC.rg (by simp only [go_sem, yI] <;> rfl) (by simp) ⟨rfl, ?_⟩
  refine EvC.block ?_
  have hi : ((l.take k).map intC) ++ [[.sc (.int .i64 x)]] = (l.take (k + 1)).map intC := by rw [hg, List.map_append]; rfl
  have hk0 : (k + 1 == 0) = false := rfl
  refine EvC.b ?_ (by simp only [go_sem, hll, hi] <;> rfl) (by simp [hll, room_eq]; omega)
  exact ⟨[(1, 1), (0, 0)], (), rfl, (by simp only [go_sem, hk0, List.length_take, Nat.min_eq_left hk'] <;> rfl), trivial⟩
 ·intro _ _
  have hne : (l.length == 0) = false := beq_eq_false_iff_ne.2 (by omega)
  rw [hXl, hne, List.take_length]
  refine EvC.a ?_ (by simp only [go_sem, List.length_map] <;> rfl)
  have hlm : (l.map intC).length = l.length := List.length_map _
  refine EvC.ret ⟨.inl rfl, _, 1, (by simp only [go_sem] <;> rfl), .inl ?_, ?_, by rw [hlm]; exact h0, hno⟩
  ·rw [hlm]
  ·rfl
theorem collect_new (l : List Int) (nl : Bool) (c : Cp) (h0 : l.length ≠ 0) (hl : l.length < 1000000) : PureNew prog 154 [.fn 156 [.ia [.sl nl (l.map intC) c]]] 1 (l.map intC) := by
 have ha := appendSeq_new l nl c h0 hl
 refine PureNew.of (nv := 3) (hid := []) func154 rfl (by kernel_rfl) (by simp [ntmps154]) fun _ => ?_
 rw [ntmps154, results154]
 refine EvC.a ?_
 apply EvC.seq
 apply EvC.tr
 ·apply Tr.run
  ·simp only [go_sem] <;> rfl
  ·simp
  apply Tr.cons
  ·exact .callN rfl rfl (by simp only [go_sem] <;> rfl) (by simp only [go_sem] <;> rfl) (by simp only [go_sem] <;> rfl) (by simp only [go_sem] <;> rfl) (by simp only [go_sem] <;> rfl) ha
  apply Tr.done
  ·simp only [go_sem] <;> rfl
  ·simp
 have hlm : (l.map intC).length = l.length := List.length_map _
 have hno : (l.map intC).all AV.norefs = true := by simp [List.all_eq_true, intC, AV.norefs, AV.noref]
 refine EvC.ret ⟨.inl rfl, _, 2, (by simp only [go_sem] <;> rfl), .inl ?_, ?_, by rw [hlm]; exact h0, hno⟩
 ·rw [hlm]
 ·rfl
end Go.Avl
