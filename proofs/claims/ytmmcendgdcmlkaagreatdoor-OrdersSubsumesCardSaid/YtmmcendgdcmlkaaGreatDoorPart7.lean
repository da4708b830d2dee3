/-
  Lemmas.
  From a law's row to its contract: arguments opened, and read again behind the call.
  How the arguments of the orders' laws read, and the table of the kinds of faults.
-/
import Derived.ProofKit
import Derived.OpenShut
import Derived.Test.YtmmcendgdcmlkaaGreatDoorCards
import Derived.Test.YtmmcendgdcmlkaaGreatDoorTie
import Derived.LaidMore
import Derived.Stop.Joined
import Derived.Test.YtmmcendgdcmlkaaGreatDoorPart6
set_option linter.unusedSimpArgs false
set_option linter.unusedVariables false
set_option linter.unnecessarySimpa false
set_option linter.deprecated false
namespace Go.Avl
open Go Go.Proofs.Tryz
set_option maxRecDepth 10000
theorem index49_is (nl : Bool) (xs : List (Int × Int)) (c : Cp) (v : Int × Int) (hl : xs.length < 1000000) :
  PureIs prog 105 [.sl nl (xs.map edgeC) c, edgeA v] (.sc (.int .i64 (findIdxR (fun e => decide (e = v)) xs 0))) := by
 refine PureIs.of1 2 [3, 4, 5, 7, 8, 9, 16] func105 ntmps105 results105 fun _ => ?_
 refine EvC.a ?_ (by simp only [go_sem, edgeA] <;> rfl)
 refine EvC.seq ?_
 refine EvC.a ?_
 refine EvC.block ?_
 refine EvC.loopS (σ := Nat) (fun i => ⟨[(0, .sl nl (xs.map edgeC) c), (3, .rf 0 0), (7, .sc (.int .i64 xs.length)), (8, .sc (.int .i64 i))], [], [(0, .cells (edgeC v))], 1⟩) (fun i => xs.length - i)
  (fun i => i ≤ xs.length ∧ findIdxR (fun e => decide (e = v)) xs 0 = findIdxR (fun e => decide (e = v)) (xs.drop i) i) [0, 3, 7, 8] 1 ?_ ?_
 ·refine ⟨[(0, 0)], 0, rfl, (by simp only [go_sem, edgeC] <;> rfl), Nat.zero_le _, by simp⟩
 rintro i ⟨h1, h2⟩
 refine EvC.a ?_
 refine EvC.seq ?_
 refine EvC.cond (by simp only [go_sem] <;> rfl) (fun hc => ?_) (fun hc => ?_)
 rotate_left
 ·refine EvC.exit ?_
  have hi : ¬ i < xs.length := by simpa using hc
  refine EvC.a ?_
  refine EvC.rz ?_
  simp only [go_sem]
  rw [h2, List.drop_of_length_le (by omega)]; rfl
 refine EvC.skip ?_
 have hi : i < xs.length := by simpa using hc
 have he : xs[i]? = some xs[i] := List.getElem?_eq_getElem hi
 have hd : xs.drop i = xs[i] :: xs.drop (i + 1) := List.drop_eq_getElem_cons hi
 generalize xs[i] = e at he hd
 refine EvC.seq ?_
 refine EvC.block ?_
 refine EvC.a ?_
 apply EvC.seq
 apply EvC.drd mixed
 ·simp only [go_sem, he, edgeC] <;> rfl
 ·simp
 ·kernel_rfl
 have hev : (decide (v.1 = e.1) && (decide (v.2 = e.2) && true)) = decide (e = v) := by
  obtain ⟨a, b⟩ := e; obtain ⟨c, d⟩ := v
  by_cases h1 : a = c <;> by_cases h2 : b = d <;> simp [h1, h2, eq_comm]
 refine EvC.cond (by simp only [go_sem] <;> rfl) (fun hc => ?_) (fun hc => ?_)
 ·refine EvC.a ?_
  refine EvC.rz ?_
  simp only [go_sem]
  have : decide (e = v) = true := by rw [← hev]; simpa using hc
  rw [h2, hd, findIdxR, if_pos this]
 refine EvC.skip ?_
 refine EvC.b ?_ (hok := inI64_of (by omega) (by omega))
 refine ⟨[(0, 0)], i + 1, rfl, (by simp only [go_sem] <;> rfl), ⟨by omega, ?_⟩, by omega⟩
 have : ¬ decide (e = v) = true := by rw [← hev]; simpa using hc
 rw [h2, hd, findIdxR, if_neg this]; rfl
theorem any_mem (xs : List (Int × Int)) (v : Int × Int) : (xs.any fun e => decide (e = v)) = decide (v ∈ xs) := by
 rw [Bool.eq_iff_iff]; simp
theorem contains46_is (nl : Bool) (xs : List (Int × Int)) (c : Cp) (v : Int × Int) (hl : xs.length < 1000000) :
  PureIs prog 102 [.sl nl (xs.map edgeC) c, edgeA v] (.sc (.bool (decide (v ∈ xs)))) := by
 refine PureIs.of1 2 [3, 4] func102 ntmps102 results102 fun _ => ?_
 refine EvC.a ?_ (by simp only [go_sem, edgeA] <;> rfl)
 apply EvC.seq
 apply EvC.tr
 ·apply Tr.run
  ·simp only [go_sem] <;> rfl
  ·simp
  apply Tr.cons
  ·exact .ca (index49_is nl xs c v hl)
  apply Tr.done
  ·simp only [go_sem] <;> rfl
  ·simp
 refine EvC.rz ?_
 simp only [go_sem]
 rw [findIdxR_any _ _ _ (Int.le_refl 0), any_mem]
abbrev Arr := (Int × Int) × Int × Int
def arrC (a : Arr) : List AV := [.sc (.int .i64 a.1.1), .sc (.int .i64 a.1.2), .sc (.int .i64 a.2.1), .sc (.int .i64 a.2.2)]
@[go_sem] theorem norefs_arrs (l : List Arr) : (l.map arrC).all AV.norefs = true := by simp [List.all_eq_true, arrC, AV.norefs, AV.noref]
def wordR (l : List Arr) : Nat → Int → List Int → List Int
 | 0, _, acc => acc
 | n + 1, at', acc => match l[at'.toNat]? with
   | some a => if a.2.1 = -1 then acc else wordR l n a.2.1 (a.2.2 :: acc)
   | none => acc
def WfArr (l : List Arr) : Prop := ∀ (i : Nat) (a : Arr), l[i]? = some a → -1 ≤ a.2.1 ∧ a.2.1 < i
theorem word_is (nl : Bool) (l : List Arr) (c : Cp) (hw : WfArr l) (at' : Int) (h0 : 0 ≤ at') (ha : at' < l.length) (acc : List Int) (c2 : Cp) (hl : l.length + acc.length < 1000000) :
  PureIs prog 101 [.sl nl (l.map arrC) c, .sc (.int .i64 at'), .sl false (acc.map intC) c2] (.sl false ((wordR l l.length at' acc).map intC) .full) := by
 refine PureIs.of1 3 [6, 12] func101 ntmps101 results101 fun _ => ?_
 refine EvC.a ?_
 refine EvC.seq ?_
 refine EvC.block ?_
 refine EvC.loopS (σ := Int × List Int × Cp) (fun g => ⟨[(0, .sl nl (l.map arrC) c), (1, .sc (.int .i64 g.1)), (2, .sl false (g.2.1.map intC) g.2.2)], [], [], 0⟩) (fun g => g.1.toNat)
  (fun g => 0 ≤ g.1 ∧ g.1 < l.length ∧ g.2.1.length + g.1 < 1000000 ∧ ∃ n : Nat, g.1 < n ∧ wordR l l.length at' acc = wordR l n g.1 g.2.1) [0, 1, 2] 0 ?_ ?_
 ·refine ⟨[], (at', acc, c2), rfl, (by simp only [go_sem] <;> rfl), h0, ha, ?_, l.length, by omega, rfl⟩
  simp only; omega
 rintro ⟨t, xs, c3⟩ ⟨h1, h2, h3, n, h4, h5⟩
 simp only at h1 h2 h3 h4 h5
 have hi : t.toNat < l.length := by omega
 have he : l[t.toNat]? = some l[t.toNat] := List.getElem?_eq_getElem hi
 generalize l[t.toNat] = a at he
 obtain ⟨w1, w2⟩ := hw _ _ he
 refine EvC.seq ?_
 refine EvC.a ?_ (by simp only [go_sem, he, arrC] <;> rfl) (by simp [h1])
 refine EvC.cond (by simp only [go_sem] <;> rfl) (fun hc => ?_) (fun hc => ?_)
 rotate_left
 ·refine EvC.exit ?_
  have hc : a.2.1 = -1 := by simpa using hc
  apply EvC.seq
  apply EvC.tr
  ·apply Tr.run
   ·simp only [go_sem] <;> rfl
   ·simp
   apply Tr.cons
   ·exact .ca (clipI_is false (xs.map intC) c3 (by simp [intC]))
   apply Tr.done
   ·simp only [go_sem] <;> rfl
   ·simp
  refine EvC.rz ?_
  simp only [go_sem]
  rw [h5]
  obtain ⟨m, rfl⟩ : ∃ m, n = m + 1 := ⟨n - 1, by omega⟩
  simp only [wordR, he, hc, if_true]
 have hc : a.2.1 ≠ -1 := by simpa using hc
 refine EvC.skip ?_
 refine EvC.block ?_
 refine EvC.seq (EvC.rg (by simp only [go_sem, he, arrC, List.set_cons_zero] <;> rfl) ?_ ?_)
 ·have hx : xs.length < 1000000 := by omega
  simp [h1, room_eq, intC, AV.norefs, AV.noref]; omega
 refine EvC.b ?_ (by simp only [go_sem, he, arrC] <;> rfl) (by simp [h1])
 refine ⟨[], (a.2.1, a.2.2 :: xs, .unk), rfl, (by simp only [go_sem, intC] <;> rfl), ⟨?_, ?_, ?_, n - 1, ?_, ?_⟩, ?_⟩
 all_goals simp only [List.length_cons]
 ·omega
 ·omega
 ·omega
 ·omega
 ·rw [h5]
  obtain ⟨m, rfl⟩ : ∃ m, n = m + 1 := ⟨n - 1, by omega⟩
  simp only [wordR, he, if_neg hc, Nat.add_sub_cancel]
 ·omega
theorem nodup_bound : ∀ (n : Nat) (l : List Nat), l.Nodup → (∀ x ∈ l, x < n) → l.length ≤ n
 | 0, [], _, _ => Nat.le_refl _
 | 0, x :: _, _, h => absurd (h x List.mem_cons_self) (Nat.not_lt_zero _)
 | n + 1, l, hn, h => by
   have h1 := nodup_bound n (l.filter (fun x => decide (x ≠ n))) (hn.filter _) fun x hx => by
    obtain ⟨h2, h3⟩ := List.mem_filter.1 hx
    have := h x h2
    have h3 : x ≠ n := by simpa using h3
    omega
   have h2 : (l.filter (fun x => decide (x = n))).length ≤ 1 := by
    have h3 : ∀ x ∈ l.filter (fun x => decide (x = n)), x = n := fun x hx => by simpa using (List.mem_filter.1 hx).2
    have h4 := hn.filter (fun x => decide (x = n))
    generalize l.filter (fun x => decide (x = n)) = m at h3 h4
    match m, h3, h4 with
    | [], _, _ => simp
    | [_], _, _ => simp
    | x :: y :: m, h3, h4 =>
      have e1 := h3 x (by simp)
      have e2 := h3 y (by simp)
      subst e1; subst e2
      simp at h4
   have h3 : l.length = (l.filter (fun x => decide (x ≠ n))).length + (l.filter (fun x => decide (x = n))).length := by
    clear hn h h1 h2
    induction l with
    | nil => rfl
    | cons x l ih =>
      by_cases hx : x = n <;> simp [List.filter_cons, hx, ih] <;> omega
   omega
theorem pairs_bound (l : List (Int × Int)) (hn : l.Nodup) (h : ∀ p ∈ l, 0 ≤ p.1 ∧ p.1 < 64 ∧ 0 ≤ p.2 ∧ p.2 < 64) : l.length ≤ 4096 := by
 have := nodup_bound 4096 (l.map fun p => p.1.toNat * 64 + p.2.toNat) (by
  refine List.Pairwise.map _ (R := fun a b => a ∈ l ∧ b ∈ l ∧ a ≠ b) ?_ ?_
  ·rintro ⟨a, b⟩ ⟨c, d⟩ ⟨h1, h2, h3⟩ h4
   have k1 := h _ h1
   have k2 := h _ h2
   simp only at k1 k2 h4
   exact h3 (by rw [Prod.mk.injEq]; omega)
  ·exact List.Pairwise.imp_of_mem (fun h1 h2 h3 => ⟨h1, h2, h3⟩) hn) (by
  intro x hx
  obtain ⟨p, hp, rfl⟩ := List.mem_map.1 hx
  have := h p hp; omega)
 simpa using this
structure Yld where
 at' : Int
 inp : Int
 x : Int × Int
 y : Int × Int
 l : List Arr
def meetA (z : Yld) : AV := .ag [.sc (.int .i64 z.at'), .sc (.int .i64 z.inp), .sc (.int .i64 z.x.1), .sc (.int .i64 z.x.2), .sc (.int .i64 z.y.1), .sc (.int .i64 z.y.2)]
def yldC (z : Yld) : List AV := [meetA z, .sl false (z.l.map arrC) .unk]
def nextL (at' i : Int) (x y : Int × Int) (l : List Arr) : List Arr :=
 if x.1 ≠ -1 ∧ y.1 ≠ -1 ∧ (x.1, y.1) ∉ l.map (·.1) then l ++ [((x.1, y.1), at', i)] else l
def inR (a b : Mach) (at' s t : Int) : Nat → Nat → List Arr → List Yld × List Arr
 | 0, _, l => ([], l)
 | n + 1, i, l => (⟨at', i, stepR a s i, stepR b t i, l⟩ :: (inR a b at' s t n (i + 1) (nextL at' i (stepR a s i) (stepR b t i) l)).1, (inR a b at' s t n (i + 1) (nextL at' i (stepR a s i) (stepR b t i) l)).2)
def outR (a b : Mach) : Nat → Nat → List Arr → List Yld
 | 0, _, _ => []
 | n + 1, at', l => match l[at']? with
   | none => []
   | some p => (inR a b at' p.1.1 p.1.2 a.ins.toNat 0 l).1 ++ outR a b n (at' + 1) (inR a b at' p.1.1 p.1.2 a.ins.toNat 0 l).2
def arr0 : List Arr := [((0, 0), -1, 0)]
def meetsR (a b : Mach) : List Yld := outR a b 5000 0 arr0
structure GoodL (a b : Mach) (l : List Arr) : Prop where
 nd : (l.map (·.1)).Nodup
 rng : ∀ p ∈ l, 0 ≤ p.1.1 ∧ p.1.1 < a.rows.length ∧ 0 ≤ p.1.2 ∧ p.1.2 < b.rows.length
 wf : WfArr l
theorem GoodL.len {a b : Mach} (ha : Valid a) (hb : Valid b) {l : List Arr} (h : GoodL a b l) : l.length ≤ 4096 := by
 have := pairs_bound (l.map (·.1)) h.nd fun p hp => by
  obtain ⟨q, hq, rfl⟩ := List.mem_map.1 hp
  have := h.rng q hq
  have h1 := ha.rows; have h2 := hb.rows; omega
 simpa using this
theorem GoodL.zero {a b : Mach} (ha : Valid a) (hb : Valid b) : GoodL a b arr0 := by
 have h1 := ha.rows
 have h2 := hb.rows
 refine ⟨by simp [arr0], ?_, ?_⟩
 ·intro p hp
  simp only [arr0, List.mem_singleton] at hp
  subst hp
  simp only; omega
 ·intro i p hp
  cases i with
  | zero => simp only [arr0, List.getElem?_cons_zero, Option.some.injEq] at hp; subst hp; simp
  | succ i => simp [arr0] at hp
theorem GoodL.next {a b : Mach} (ha : Valid a) (hb : Valid b) {l : List Arr} (h : GoodL a b l) {at' : Nat} (hat : at' < l.length) {i : Int} {s t : Int} (hs : 0 ≤ s ∧ s < a.rows.length) (ht : 0 ≤ t ∧ t < b.rows.length) (hi : 0 ≤ i ∧ i < a.ins) (hab : a.ins = b.ins) :
  GoodL a b (nextL at' i (stepR a s i) (stepR b t i) l) ∧ at' < (nextL at' i (stepR a s i) (stepR b t i) l).length := by
 unfold nextL
 split
 ·rename_i hx
  obtain ⟨h1, h2, h3⟩ := hx
  obtain ⟨_, _, _, _, e1, f1⟩ := stepR_get ha hs.1 hs.2 hi
  obtain ⟨_, _, _, _, e2, f2⟩ := stepR_get hb ht.1 ht.2 (by rw [← hab]; exact hi)
  rw [← e1] at f1
  rw [← e2] at f2
  refine ⟨⟨?_, ?_, ?_⟩, by simp; omega⟩
  ·rw [List.map_append, List.nodup_append]
   refine ⟨h.nd, by simp, ?_⟩
   rintro p hp q hq rfl
   simp only [List.map_cons, List.map_nil, List.mem_singleton] at hq
   subst hq
   exact h3 hp
  ·intro p hp
   rcases List.mem_append.1 hp with hp | hp
   ·exact h.rng p hp
   ·simp only [List.mem_singleton] at hp
    subst hp
    unfold fitsR at f1 f2
    simp at f1 f2
    simp only; omega
  ·intro j p hp
   by_cases hj : j < l.length
   ·rw [List.getElem?_append_left hj] at hp; exact h.wf j p hp
   ·rw [List.getElem?_append_right (by omega)] at hp
    by_cases h0 : j - l.length = 0
    ·rw [h0] at hp
     simp only [List.getElem?_cons_zero, Option.some.injEq] at hp
     subst hp
     simp only; omega
    ·obtain ⟨m, hm⟩ : ∃ m, j - l.length = m + 1 := ⟨j - l.length - 1, by omega⟩
     rw [hm] at hp; simp at hp
 ·exact ⟨h, hat⟩
def pairV (p : Int × Int) : Value := .agg [Value.int .i64 p.1, .int .i64 p.2].toArray
def seenE (a : Arr) : Value × AV := (pairV a.1, .sc (.bool true))
@[go_sem] theorem key159 : isKey prog 159 = keyTest true [.int .i64, .int .i64] := isKey_of (by kernel_rfl) (by kernel_rfl)
@[go_sem] theorem norefs_seen (l : List Arr) : ((l.map seenE).all fun p => p.2.noref) = true := by simp [List.all_eq_true, seenE, AV.noref]
theorem eqVal_pair (p q : Int × Int) : eqVal (pairV p) (pairV q) = decide (p = q) := by
 obtain ⟨a, b⟩ := p; obtain ⟨c, d⟩ := q
 simp [eqVal, pairV, Value.cells, eqCells, eqCell]
theorem elook_seen (l : List Arr) (p : Int × Int) : elook (l.map seenE) (pairV p) = if p ∈ l.map (·.1) then some (.sc (.bool true)) else none := by
 induction l with
 | nil => rfl
 | cons a l ih =>
   simp only [List.map_cons, seenE, elook, eqVal_pair, List.mem_cons]
   by_cases h : p = a.1
   ·simp [h]
   ·simp only [h, decide_false, Bool.false_eq_true, if_false, false_or]; exact ih
theorem eset_seen (l : List Arr) (p : Int × Int) (h : p ∉ l.map (·.1)) (q : Int × Int) : eset (l.map seenE) (pairV p) (.sc (.bool true)) = (l ++ [(p, q)]).map seenE := by
 induction l with
 | nil => rfl
 | cons a l ih =>
   simp only [List.map_cons, List.mem_cons, not_or] at h
   simp only [List.map_cons, List.cons_append, seenE, eset, eqVal_pair]
   rw [if_neg (by simpa using h.1)]
   congr 1
   exact ih h.2
theorem meets1_seq (a b : Mach) (ha : Valid a) (hb : Valid b) (hab : a.ins = b.ins) : SeqIs prog 104 [.ia a.cells, .ia b.cells] ((meetsR a b).map yldC) := by
 refine SeqIs.of (nv := 3) (hid := [4, 5, 6, 7, 8, 9, 10, 11, 12, 17, 21, 37, 38, 39, 65, 84]) func104 rfl (by kernel_rfl) (by simp [ntmps104]) (by rw [results104]) fun lp J h0 hJ hy => ?_
 rw [ntmps104]
 refine EvY.seqL hJ (EvC.rg (by simp only [go_sem] <;> rfl) (by simp [descAgg, matchKinds, matchKind]) ?_)
 refine EvY.seqL hJ (EvC.rg (by simp only [go_sem] <;> rfl) (by simp) ?_)
 refine EvY.fz hJ 6 (by simp only [go_sem] <;> rfl) ?_
 refine EvY.seqL hJ (EvC.rg (by simp only [go_sem] <;> rfl) (by simp) ?_)
 refine EvY.block ?_
 refine EvY.loopS hJ (σ := Nat × Nat × List Arr × List Yld) (fun g => ⟨[(0, .sc (yv lp)), (1, .ia a.cells), (2, .ia b.cells), (4, .mp 0), (5, .tl 1 g.2.2.1.length false), (6, .sc (.int .i64 g.2.1))], [], [(0, .map 159 (g.2.2.1.map seenE)), (1, .arr 4 (g.2.2.1.map arrC) true)], 2⟩) (fun g => g.2.2.2.length) (fun g => 5000 - g.2.1)
  (fun g => GoodL a b g.2.2.1 ∧ g.2.1 ≤ g.2.2.1.length ∧ meetsR a b = g.2.2.2 ++ outR a b g.1 g.2.1 g.2.2.1 ∧ g.1 + g.2.1 = 5000) [0, 1, 2, 4, 5, 6] 2 ?_ ?_
 ·refine ⟨[(0, 0), (6, 1)], (5000, 0, arr0, []), rfl, (by simp only [go_sem, arr0, seenE, pairV, arrC] <;> rfl), ⟨.zero ha hb, Nat.zero_le _, rfl, rfl⟩, rfl⟩
 rintro ⟨n, at', l, pre⟩ ⟨hg, hat, hpre, hn⟩
 simp only at hg hat hpre hn
 have hlen := hg.len ha hb
 have hra := ha.rows
 have hrb := hb.rows
 have hia := ha.ins
 refine EvY.seq ?_
 refine EvY.seqL hJ (EvC.rg (by simp only [go_sem] <;> rfl) (by simp) ?_)
 refine EvY.cond (by simp only [go_sem] <;> rfl) (fun hc => ?_) (fun hc => ?_)
 rotate_left
 ·refine EvY.exit ⟨.inr rfl, .inl ?_⟩
  have hc : ¬ at' < l.length := by simpa using hc
  have : outR a b n at' l = [] := by
   cases n with
   | zero => rfl
   | succ n => simp only [outR, List.getElem?_eq_none (show l.length ≤ at' by omega)]
  rw [hpre, this]; simp
 have hc : at' < l.length := by simpa using hc
 have he : l[at']? = some l[at'] := List.getElem?_eq_getElem hc
 have hmem := List.getElem_mem hc
 generalize l[at'] = p at he hmem
 have hp := hg.rng p hmem
 obtain ⟨n, rfl⟩ : ∃ m, n = m + 1 := ⟨n - 1, by omega⟩
 refine EvY.skip ?_
 refine EvY.seq ?_
 refine EvY.block ?_
 refine EvY.seqL hJ ?_
 intro _
 apply EvC.drd mixed
 ·simp only [go_sem, he, arrC] <;> rfl
 ·simp [hc]
 ·kernel_rfl
 refine EvY.seqL hJ (EvC.rg (by simp only [go_sem, Mach.cells] <;> rfl) (by simp) ?_)
 refine EvY.block ?_
 refine EvY.loopS hJ (σ := Nat × Nat × List Arr × List Yld) (fun g => ⟨[(0, .sc (yv lp)), (1, .ia a.cells), (2, .ia b.cells), (4, .mp 0), (5, .tl 1 g.2.2.1.length false), (6, .sc (.int .i64 at')), (7, .sc (.int .i64 p.1.1)), (8, .sc (.int .i64 p.1.2)), (37, .sc (.int .i64 a.ins)), (38, .sc (.int .i64 g.2.1))], [],
   [(0, .map 159 (g.2.2.1.map seenE)), (1, .arr 4 (g.2.2.1.map arrC) true)], 2⟩) (fun g => g.2.2.2.length) (fun g => g.1)
  (fun g => GoodL a b g.2.2.1 ∧ at' < g.2.2.1.length ∧ meetsR a b = g.2.2.2 ++ ((inR a b at' p.1.1 p.1.2 g.1 g.2.1 g.2.2.1).1 ++ outR a b n (at' + 1) (inR a b at' p.1.1 p.1.2 g.1 g.2.1 g.2.2.1).2) ∧ g.1 + g.2.1 = a.ins.toNat) [0, 1, 2, 4, 5, 6, 7, 8, 37, 38] 2 ?_ ?_
 ·refine ⟨[(0, 0), (1, 1)], (a.ins.toNat, 0, l, pre), rfl, (by simp only [go_sem] <;> rfl), ⟨hg, hc, ?_, rfl⟩, rfl⟩
  simp only
  rw [hpre, outR, he]
 clear hpre hg hlen hc he hmem hat
 rintro ⟨m, i, l, pre⟩ ⟨hg, hat, hpre, hm⟩
 simp only at hg hat hpre hm
 have hlen := hg.len ha hb
 refine EvY.seqL hJ (EvC.rg (by simp only [go_sem] <;> rfl) (by simp) ?_)
 refine EvY.seq ?_
 refine EvY.cond (by simp only [go_sem] <;> rfl) (fun hc => ?_) (fun hc => ?_)
 rotate_left
 ·refine EvY.exit ?_
  have hc : ¬ (i : Int) < a.ins := by simpa using hc
  have hm0 : m = 0 := by omega
  subst hm0
  refine EvY.lift hJ (EvC.rg (by simp only [go_sem] <;> rfl) (inI64_of (by omega) (by omega)) ?_)
  refine ⟨[(0, 0), (1, 1)], (n, at' + 1, l, pre), rfl, (by simp only [go_sem] <;> rfl), ⟨hg, by simp only; omega, ?_, by simp only; omega⟩, rfl, by simp only; omega⟩
  simp only
  rw [hpre, inR]; rfl
 have hc : (i : Int) < a.ins := by simpa using hc
 obtain ⟨m, rfl⟩ : ∃ k, m = k + 1 := ⟨m - 1, by omega⟩
 obtain ⟨r1, e, q1, q2, q3, f1⟩ := stepR_get ha hp.1 hp.2.1 (a := (i : Int)) (by omega)
 obtain ⟨r2, f, q4, q5, q6, f2⟩ := stepR_get hb hp.2.2.1 hp.2.2.2 (a := (i : Int)) (by omega)
 rw [Int.toNat_natCast] at q2 q5
 have hnx := hg.next ha hb hat (s := p.1.1) (t := p.1.2) (i := i) ⟨hp.1, hp.2.1⟩ ⟨hp.2.2.1, hp.2.2.2⟩ (by omega) hab
 rw [inR, q3, q6] at hpre
 rw [q3, q6] at hnx
 refine EvY.skip ?_
 refine EvY.seq ?_
 refine EvY.block ?_
 refine EvY.seqL hJ (EvC.rg (by simp only [go_sem] <;> rfl) (by simp) ?_)
 refine EvY.seqL hJ ?_
 intro _
 apply EvC.drd mixed
 ·simp only [go_sem, Mach.cells, q1, q4, rowC, q2, q5, edgeC] <;> rfl
 ·simp; omega
 ·kernel_rfl
 refine EvY.seq ?_
 refine EvY.seq (EvY.region ?_)
 have hlt : pre.length < ((meetsR a b).map yldC).length := by rw [hpre]; simp
 have hget : ((meetsR a b).map yldC)[pre.length] = yldC ⟨at', i, e, f, l⟩ := by
  simp only [hpre]; simp
 refine XRY.run hJ (by simp only [go_sem] <;> rfl) (by simp) ?_
 refine XRY.yield hlt hy rfl rfl (by simp only [go_sem] <;> rfl) (by simp only [go_sem] <;> rfl) (by rw [hget]; simp only [go_sem, yldC, meetA] <;> rfl) (by rw [hget]; simp only [go_sem, yldC, meetA]) fun b => ?_
 refine XRY.done hJ (by simp only [go_sem] <;> rfl) rfl ?_
 refine EvY.cond (by simp only [go_sem] <;> rfl) (fun hb => ?_) (fun hb => ?_)
 ·have hb : b = false := by simpa using hb
  subst hb
  exact EvY.ret ⟨.inl rfl, .inr rfl⟩
 have hb : b = true := by simpa using hb
 subst hb
 refine EvY.skip ?_
 refine EvY.seqL hJ (EvC.rg (by simp only [go_sem] <;> rfl) (by simp) ?_)
 have hI : inI64 (i + 1 : Int) = true := inI64_of (by omega) (by omega)
 have hel : elook (l.map seenE) (.agg [Value.int .i64 e.1, .int .i64 f.1].toArray) = some (.sc (.bool true)) ∨ elook (l.map seenE) (.agg [Value.int .i64 e.1, .int .i64 f.1].toArray) = none := by
  have := elook_seen l (e.1, f.1)
  by_cases hmm : (e.1, f.1) ∈ l.map (·.1)
  ·exact .inl (this.trans (if_pos hmm))
  ·exact .inr (this.trans (if_neg hmm))
 by_cases hx : e.1 = -1
 ·have hl' : nextL at' i e f l = l := by unfold nextL; rw [if_neg (fun h => h.1 hx)]
  rw [hl'] at hpre hnx
  have hx := decide_eq_true hx
  rcases hel with hel | hel
  all_goals
   refine EvY.seqL hJ ?_
   intro _
   apply EvC.trd
   ·simp only [go_sem, hx, hel] <;> rfl
   ·simp
   refine EvY.cond_false (by simp only [go_sem] <;> rfl) ?_
   refine EvY.skip ?_
   refine EvY.lift hJ (EvC.rg (by simp only [go_sem] <;> rfl) hI ?_)
   exact ⟨[(0, 0), (1, 1)], (m, i + 1, l, pre ++ [⟨at', i, e, f, l⟩]), rfl, (by simp only [go_sem] <;> rfl), ⟨hg, hnx.2, by rw [hpre]; simp, by simp only; omega⟩, by simp, by simp⟩
 by_cases hyy : f.1 = -1
 ·have hl' : nextL at' i e f l = l := by unfold nextL; rw [if_neg (fun h => h.2.1 hyy)]
  rw [hl'] at hpre hnx
  have hx := decide_eq_false hx
  have hyy := decide_eq_true hyy
  rcases hel with hel | hel
  all_goals
   refine EvY.seqL hJ ?_
   intro _
   apply EvC.trd
   ·simp only [go_sem, hx, hyy, hel] <;> rfl
   ·simp
   refine EvY.cond_false (by simp only [go_sem] <;> rfl) ?_
   refine EvY.skip ?_
   refine EvY.lift hJ (EvC.rg (by simp only [go_sem] <;> rfl) hI ?_)
   exact ⟨[(0, 0), (1, 1)], (m, i + 1, l, pre ++ [⟨at', i, e, f, l⟩]), rfl, (by simp only [go_sem] <;> rfl), ⟨hg, hnx.2, by rw [hpre]; simp, by simp only; omega⟩, by simp, by simp⟩
 by_cases hmm : (e.1, f.1) ∈ l.map (·.1)
 ·have hl' : nextL at' i e f l = l := by unfold nextL; rw [if_neg (fun h => h.2.2 hmm)]
  have hel : elook (l.map seenE) (.agg [Value.int .i64 e.1, .int .i64 f.1].toArray) = some (.sc (.bool true)) := (elook_seen l (e.1, f.1)).trans (if_pos hmm)
  rw [hl'] at hpre hnx
  refine EvY.seqL hJ ?_
  intro _
  apply EvC.trd
  ·simp only [go_sem, hx, hyy, hel] <;> rfl
  ·simp [descAgg, matchKinds, matchKind]
  refine EvY.cond_false (by simp only [go_sem] <;> rfl) ?_
  refine EvY.skip ?_
  refine EvY.lift hJ (EvC.rg (by simp only [go_sem] <;> rfl) hI ?_)
  exact ⟨[(0, 0), (1, 1)], (m, i + 1, l, pre ++ [⟨at', i, e, f, l⟩]), rfl, (by simp only [go_sem] <;> rfl), ⟨hg, hnx.2, by rw [hpre]; simp, by simp only; omega⟩, by simp, by simp⟩
 have hl' : nextL at' i e f l = l ++ [((e.1, f.1), (at' : Int), (i : Int))] := by unfold nextL; rw [if_pos ⟨hx, hyy, hmm⟩]
 have hel : elook (l.map seenE) (.agg [Value.int .i64 e.1, .int .i64 f.1].toArray) = none := (elook_seen l (e.1, f.1)).trans (if_neg hmm)
 have hes : eset (l.map seenE) (.agg [Value.int .i64 e.1, .int .i64 f.1].toArray) (.sc (.bool true)) = (l ++ [((e.1, f.1), (at' : Int), (i : Int))]).map seenE := eset_seen l (e.1, f.1) hmm _
 rw [hl'] at hpre hnx
 refine EvY.seqL hJ ?_
 intro _
 apply EvC.trd
 ·simp only [go_sem, hx, hyy, hel] <;> rfl
 ·simp [descAgg, matchKinds, matchKind]
 refine EvY.cond_true (by simp only [go_sem] <;> rfl) ?_
 refine EvY.seqL hJ (EvC.rg (by simp only [go_sem, hes] <;> rfl) (by simp [descAgg, matchKinds, matchKind]) ?_)
 refine EvY.lift hJ (EvC.rg (by simp only [go_sem] <;> rfl) (by simp [room_eq, AV.norefs, AV.noref]; omega) ?_)
 refine EvY.lift hJ (EvC.rg (by simp only [go_sem] <;> rfl) hI ?_)
 exact ⟨[(0, 0), (1, 1)], (m, i + 1, l ++ [((e.1, f.1), (at' : Int), (i : Int))], pre ++ [⟨at', i, e, f, l⟩]), rfl, (by simp only [go_sem, arrC] <;> rfl), ⟨hnx.1, hnx.2, by rw [hpre]; simp, by simp only; omega⟩, by simp, by simp⟩
theorem meets_is (a b : Mach) : PureIs prog 100 [.ag a.cells, .ag b.cells] (.fn 104 [.ia a.cells, .ia b.cells]) := by
 refine PureIs.of1 5 [] func100 ntmps100 results100 fun _ => ?_
 refine EvC.a ?_ (by simp only [go_sem, Mach.cells] <;> rfl)
 refine EvC.z 0 ?_
 refine EvC.z 1 ?_
 refine EvC.a ?_
 refine EvC.rz ?_
 simp only [go_sem, Mach.cells]
structure GoodY (a b : Mach) (z : Yld) : Prop where
 l : GoodL a b z.l
 at0 : 0 ≤ z.at'
 at1 : z.at' < z.l.length
 inp : 0 ≤ z.inp ∧ z.inp < a.ins
 xy : ∃ p, z.l[z.at'.toNat]? = some p ∧ z.x = stepR a p.1.1 z.inp ∧ z.y = stepR b p.1.2 z.inp
theorem nextL_get {at' i : Int} {x y : Int × Int} {l : List Arr} {j : Nat} {p : Arr} (h : l[j]? = some p) : (nextL at' i x y l)[j]? = some p := by
 unfold nextL
 split
 ·rw [List.getElem?_append_left (List.getElem?_eq_some_iff.1 h).1]; exact h
 ·exact h
theorem inR_good {a b : Mach} (ha : Valid a) (hb : Valid b) (hab : a.ins = b.ins) {at' : Nat} {p : Arr} : ∀ (n i : Nat) (l : List Arr), GoodL a b l → l[at']? = some p → n + i = a.ins.toNat →
  (∀ z ∈ (inR a b at' p.1.1 p.1.2 n i l).1, GoodY a b z) ∧ GoodL a b (inR a b at' p.1.1 p.1.2 n i l).2 ∧ (inR a b at' p.1.1 p.1.2 n i l).2[at']? = some p
 | 0, i, l, hg, hp, _ => ⟨fun _ h => (by cases h), hg, hp⟩
 | n + 1, i, l, hg, hp, hn => by
   have hia := ha.ins
   have hat := (List.getElem?_eq_some_iff.1 hp).1
   have hr := hg.rng p (List.mem_of_getElem? hp)
   have hnx := hg.next ha hb hat (s := p.1.1) (t := p.1.2) (i := i) ⟨hr.1, hr.2.1⟩ ⟨hr.2.2.1, hr.2.2.2⟩ (by omega) hab
   obtain ⟨h1, h2, h3⟩ := inR_good ha hb hab n (i + 1) _ hnx.1 (nextL_get hp) (by omega)
   simp only [inR]
   refine ⟨fun z hz => ?_, h2, h3⟩
   rcases List.mem_cons.1 hz with rfl | hz
   ·exact ⟨hg, by simp, by simp only; omega, by simp only; omega, p, by simpa using hp, rfl, rfl⟩
   ·exact h1 z hz
theorem inR_len {a b : Mach} {at' s t : Int} : ∀ (n i : Nat) (l : List Arr), (inR a b at' s t n i l).1.length = n
 | 0, _, _ => rfl
 | n + 1, i, l => by simp only [inR, List.length_cons]; rw [inR_len n]
theorem outR_good {a b : Mach} (ha : Valid a) (hb : Valid b) (hab : a.ins = b.ins) : ∀ (n at' : Nat) (l : List Arr), GoodL a b l → (∀ z ∈ outR a b n at' l, GoodY a b z) ∧ (outR a b n at' l).length ≤ n * 16
 | 0, _, _, _ => ⟨fun _ h => (by cases h), by simp [outR]⟩
 | n + 1, at', l, hg => by
   have hia := ha.ins
   simp only [outR]
   cases hp : l[at']? with
   | none => exact ⟨fun _ h => (by cases h), by simp⟩
   | some p =>
     obtain ⟨h1, h2, _⟩ := inR_good ha hb hab a.ins.toNat 0 l hg hp rfl
     obtain ⟨h3, h4⟩ := outR_good ha hb hab n (at' + 1) _ h2
     refine ⟨fun z hz => ?_, ?_⟩
     ·rcases List.mem_append.1 hz with hz | hz
      ·exact h1 z hz
      ·exact h3 z hz
     ·simp only [List.length_append, inR_len]; omega
theorem meetsR_good {a b : Mach} (ha : Valid a) (hb : Valid b) (hab : a.ins = b.ins) : (∀ z ∈ meetsR a b, GoodY a b z) ∧ (meetsR a b).length ≤ 80000 := outR_good ha hb hab 5000 0 _ (.zero ha hb)
def pairsR : List Yld → List (Int × Int) → List (Int × Int)
 | [], ps => ps
 | z :: zs, ps => pairsR zs (if z.x.1 ≠ -1 ∧ (z.x.1, z.y.1) ∉ ps then ps ++ [(z.x.1, z.y.1)] else ps)
def diffA (zs : List Yld) : AV := match zs.find? (fun z => decide (z.x.2 ≠ z.y.2)) with
 | some z => .tu [.sl false ((wordR z.l z.l.length z.at' [z.inp]).map intC) .full, .sl true [] .zer]
 | none => .tu [.sl true [] .zer, .sl false ((pairsR zs [(0, 0)]).map edgeC) .unk]
theorem diffA_noref (zs : List Yld) : (diffA zs).noref = true := by unfold diffA; split <;> rfl
theorem find_at {α : Type} {p : α → Bool} : ∀ {l : List α} {k : Nat} {z : α}, ((l.take k).all fun x => !p x) = true → l.drop k = z :: l.drop (k + 1) → p z = true → l.find? p = some z
 | [], k, z, _, h, _ => by simp at h
 | x :: l, 0, z, _, h, hz => by
   simp only [List.drop_zero, List.cons.injEq] at h
   rw [List.find?_cons, h.1, hz]
 | x :: l, k + 1, z, h1, h, hz => by
   simp only [List.take_succ_cons, List.all_cons, Bool.and_eq_true, Bool.not_eq_true'] at h1
   rw [List.find?_cons, h1.1]
   exact find_at h1.2 (by simpa using h) hz
theorem find_no {α : Type} {p : α → Bool} {l : List α} (h : (l.all fun x => !p x) = true) : l.find? p = none := by
 rw [List.find?_eq_none]
 intro x hx
 rw [List.all_eq_true] at h
 simpa using h x hx
theorem differ_is (a b : Mach) (ha : Valid a) (hb : Valid b) (hab : a.ins = b.ins) : PureIs prog 94 [.ag a.cells, .ag b.cells] (diffA (meetsR a b)) := by
 refine PureIs.of1 10 [11, 14, 15, 16, 23, 47] func94 ntmps94 results94 fun _ => ?_
 refine EvC.a ?_ (by simp only [go_sem, Mach.cells] <;> rfl)
 refine EvC.z 0 ?_
 refine EvC.z 1 ?_
 refine EvC.a ?_
 refine EvC.fz 5 (by simp only [go_sem] <;> rfl) ?_
 refine EvC.seq ?_
 apply EvC.seq
 apply EvC.tr
 ·apply Tr.run
  ·simp only [go_sem] <;> rfl
  ·simp
  apply Tr.cons
  ·exact .ca (by simpa [Mach.cells] using meets_is a b)
  apply Tr.done
  ·simp only [go_sem] <;> rfl
  ·simp
 refine EvC.block ?_
 refine EvC.gcTo ⟨[(4, .rf 0 0), (5, .rf 1 0), (6, .rf 2 0), (14, .fn 104 [.ia a.cells, .ia b.cells])], [], [(0, .cells [.sl true [] .zer]), (1, .cells [.sl true [] .zer]), (2, .cells [.tl 3 1 false]), (3, .arr 2 [[.sc (.int .i64 0), .sc (.int .i64 0)]] true)], 4⟩ [4, 5, 6, 14] [(2, 0), (3, 1), (6, 2), (5, 3)] (by rfl) (by simp only [go_sem] <;> rfl) ?_
 obtain ⟨gY, gl⟩ := meetsR_good ha hb hab
 refine EvC.range (σ := List (Int × Int)) (gf := 104) (caps := [.ia a.cells, .ia b.cells]) (xs := (meetsR a b).map yldC) rfl (fun _ => rfl) (by simp only [go_sem] <;> rfl) rfl (meets1_seq a b ha hb hab) ?_ (by simp) (Nat.zero_le _)
  (fun _ ps => [(0, .cells [.sl true [] .zer]), (1, .cells [.sl true [] .zer]), (2, .cells [.tl 3 ps.length false]), (3, .arr 2 (ps.map edgeC) true)])
  (fun k ps => ps.length ≤ 1 + k ∧ (((meetsR a b).take k).all fun z => decide (z.x.2 = z.y.2)) = true ∧ pairsR (meetsR a b) [(0, 0)] = pairsR ((meetsR a b).drop k) ps) ⟨[(0, 0)], rfl, by simp, rfl, rfl⟩ ?_ ?_
 ·intro x hx
  obtain ⟨z, _, rfl⟩ := List.mem_map.1 hx
  rfl
 ·rintro k ps lp hk ⟨h1, h2, h3⟩
  have hk' : k < (meetsR a b).length := by simpa using hk
  have hz : ((meetsR a b).map yldC)[k] = yldC (meetsR a b)[k] := by simp
  have gz := gY _ (List.getElem_mem hk')
  have hd : (meetsR a b).drop k = (meetsR a b)[k] :: (meetsR a b).drop (k + 1) := List.drop_eq_getElem_cons hk'
  rw [hz]
  generalize (meetsR a b)[k] = z at gz hd
  refine EvC.a ?_ (by simp only [go_sem, yldC, meetA] <;> rfl)
  refine EvC.rg (by simp only [go_sem] <;> rfl) (by simp) ⟨rfl, ?_⟩
  refine EvC.block ?_
  refine EvC.seq ?_
  refine EvC.a ?_
  refine EvC.cond (by simp only [go_sem] <;> rfl) (fun hc => ?_) (fun hc => ?_)
  ·have hc : ¬ z.x.2 = z.y.2 := by simpa using hc
   have hlen := gz.l.len ha hb
   apply EvC.seq
   apply EvC.tr
   ·apply Tr.run
    ·simp only [go_sem] <;> rfl
    ·simp
    apply Tr.cons
    ·exact .ca (by simpa [intC] using word_is false z.l .unk gz.l.wf z.at' gz.at0 gz.at1 [z.inp] .full (by simp; omega))
    apply Tr.done
    ·simp only [go_sem] <;> rfl
    ·simp
   refine EvC.ret ⟨.inl rfl, _, (by simp only [go_sem] <;> rfl), ?_, diffA_noref _⟩
   simp only [go_sem]
   rw [diffA, find_at (k := k) (z := z) (by simpa using h2) hd (by simpa using hc)]
  have hc : z.x.2 = z.y.2 := by simpa using hc
  have h2' : (((meetsR a b).take (k + 1)).all fun z => decide (z.x.2 = z.y.2)) = true := by
   have : (meetsR a b).take (k + 1) = (meetsR a b).take k ++ [z] := by
    have h := List.getElem?_drop (xs := meetsR a b) (i := k) (j := 0)
    rw [hd] at h
    rw [List.take_add_one]
    simp only [Nat.add_zero, List.getElem?_cons_zero] at h
    rw [← h]; rfl
   rw [this, List.all_append, h2]
   simp [hc]
  rw [hd] at h3
  rw [pairsR] at h3
  refine EvC.skip ?_
  refine EvC.a ?_
  by_cases hx : z.x.1 = -1
  ·have hx' := decide_eq_true hx
   rw [if_neg (fun h => h.1 hx)] at h3
   apply EvC.seq
   apply EvC.tr
   ·apply Tr.run
    ·simp only [go_sem, hx'] <;> rfl
    ·simp
    apply Tr.cons
    ·exact .skipv (.sc (.bool false)) rfl rfl (by simp only [go_sem] <;> rfl) (by simp only [go_sem] <;> rfl)
    apply Tr.done
    ·simp only [go_sem] <;> rfl
    ·simp
   refine EvC.cs ?_
   exact ⟨[(0, 0), (1, 1), (2, 2), (3, 3)], ps, rfl, (by simp only [go_sem] <;> rfl), by omega, h2', h3⟩
  have hx' := decide_eq_false hx
  have hpl : ps.length < 1000000 := by omega
  apply EvC.seq
  apply EvC.tr
  ·apply Tr.run
   ·simp only [go_sem, hx'] <;> rfl
   ·simp
   apply Tr.cons
   ·exact .cg (by simpa [edgeA] using contains46_is false ps .unk (z.x.1, z.y.1) hpl)
   apply Tr.done
   ·simp only [go_sem] <;> rfl
   ·simp
  refine EvC.cond (by simp only [go_sem] <;> rfl) (fun hm => ?_) (fun hm => ?_)
  ·have hm : ¬ (z.x.1, z.y.1) ∈ ps := by simpa using hm
   rw [if_pos ⟨hx, hm⟩] at h3
   refine EvC.b ?_ (hok := by simp [room_eq, AV.norefs, AV.noref]; omega)
   exact ⟨[(0, 0), (1, 1), (2, 2), (3, 3)], ps ++ [(z.x.1, z.y.1)], rfl, (by simp only [go_sem, edgeC] <;> rfl), by simp; omega, h2', h3⟩
  ·have hm : (z.x.1, z.y.1) ∈ ps := by simpa using hm
   rw [if_neg (fun h => h.2 hm)] at h3
   refine EvC.skip ?_
   exact ⟨[(0, 0), (1, 1), (2, 2), (3, 3)], ps, rfl, (by simp only [go_sem] <;> rfl), by omega, h2', h3⟩
 ·rintro ps ⟨h1, h2, h3⟩
  rw [List.length_map] at h2 h3
  rw [List.take_length] at h2
  rw [List.drop_length, pairsR] at h3
  refine EvC.frzD 3 (by simp only [go_sem] <;> rfl) ?_
  apply EvC.seq
  apply EvC.drd mixed
  ·simp only [go_sem] <;> rfl
  ·simp
  ·kernel_rfl
  refine EvC.ret ⟨.inl rfl, _, (by simp only [go_sem] <;> rfl), ?_, diffA_noref _⟩
  simp only [go_sem]
  rw [diffA, find_no (by simpa using h2), h3]
def diffO (a b : Mach) : Option Yld := (meetsR a b).find? (fun z => decide (z.x.2 ≠ z.y.2))
def diffW (a b : Mach) : List Int := match diffO a b with
 | some z => wordR z.l z.l.length z.at' [z.inp]
 | none => []
theorem diffA_eq (a b : Mach) : diffA (meetsR a b) = .tu [.sl (diffO a b).isNone ((diffW a b).map intC) (if (diffO a b).isNone then .zer else .full), if (diffO a b).isNone then .sl false ((pairsR (meetsR a b) [(0, 0)]).map edgeC) .unk else .sl true [] .zer] := by
 unfold diffA diffW diffO
 split
 ·rename_i z hz; rw [hz]; rfl
 ·rename_i hz; rw [hz]; rfl
theorem wordR_len (l : List Arr) : ∀ (n : Nat) (t : Int) (acc : List Int), acc.length ≤ (wordR l n t acc).length
 | 0, _, _ => Nat.le_refl _
 | n + 1, t, acc => by
   simp only [wordR]
   split
   ·split
    ·exact Nat.le_refl _
    ·exact Nat.le_trans (by simp) (wordR_len l n _ _)
   ·exact Nat.le_refl _
theorem diffW_pos (a b : Mach) : decide (0 < ((diffW a b).length : Int)) = (diffO a b).isSome := by
 unfold diffW
 cases h : diffO a b with
 | none => rfl
 | some z =>
   have := wordR_len z.l z.l.length z.at' [z.inp]
   simp only [List.length_cons, List.length_nil] at this
   simp only [Option.isSome_some, decide_eq_true_eq]
   omega
def differA (a b : Mach) : AV := if bothR a b = 0 then .tu [.sl (diffO a b).isNone ((diffW a b).map intC) (if (diffO a b).isNone then .zer else .full), .sc (.bool (diffO a b).isSome), .sc (.int .i64 0)]
 else .tu [.sl true [] .unk, .sc (.bool false), .sc (.int .i64 (bothR a b))]
theorem both_valid {a b : Mach} (h : bothR a b = 0) : Valid a ∧ Valid b ∧ a.ins = b.ins := by
 unfold bothR at h
 split at h
 ·contradiction
 ·rename_i h1
  split at h
  ·contradiction
  ·rename_i h2
   split at h
   ·cases h
   ·rename_i h3
    exact ⟨.of (by simpa using h1), .of (by simpa using h2), by simpa using h3⟩
theorem equals_differ_is (a b : Mach) (ha : ∀ r ∈ a.rows, r.2.length < 1000000) (hb : ∀ r ∈ b.rows, r.2.length < 1000000) : PureIs prog 79 [.ag a.cells, .ag b.cells] (differA a b) := by
 refine PureIs.of1 9 [14] func79 ntmps79 results79 fun _ => ?_
 refine EvC.a ?_ (by simp only [go_sem, Mach.cells] <;> rfl)
 refine EvC.seq ?_
 apply EvC.seq
 apply EvC.tr
 ·apply Tr.run
  ·simp only [go_sem] <;> rfl
  ·simp
  apply Tr.cons
  ·exact .ca (both_is a b ha hb)
  apply Tr.done
  ·simp only [go_sem] <;> rfl
  ·simp
 refine EvC.a ?_
 refine EvC.cond (by simp only [go_sem] <;> rfl) (fun hc => ?_) (fun hc => ?_)
 ·have hc : bothR a b ≠ 0 := by simpa using hc
  refine EvC.a ?_
  refine EvC.ret ⟨.inl rfl, _, (by simp only [go_sem] <;> rfl), ?_, by unfold differA; split <;> rfl⟩
  simp only [go_sem]
  rw [differA, if_neg hc]
 have hc : bothR a b = 0 := by simpa using hc
 obtain ⟨va, vb, hab⟩ := both_valid hc
 have hd := differ_is a b va vb hab
 rw [diffA_eq] at hd
 refine EvC.skip ?_
 apply EvC.seq
 apply EvC.tr
 ·apply Tr.run
  ·simp only [go_sem] <;> rfl
  ·simp
  apply Tr.cons
  ·exact .call rfl rfl (by simp only [go_sem] <;> rfl) (by simp only [go_sem] <;> rfl) (by simp only [go_sem] <;> rfl) (by simp only [go_sem] <;> rfl) (by simp only [go_sem] <;> rfl) hd
  apply Tr.done
  ·simp only [go_sem] <;> rfl
  ·simp
 refine EvC.a ?_
 refine EvC.ret ⟨.inl rfl, _, (by simp only [go_sem] <;> rfl), ?_, by unfold differA; split <;> rfl⟩
 simp only [go_sem]
 have := diffW_pos a b
 rw [differA, if_pos hc, ← this]
def equalR (a b : Mach) : Bool × Int := (decide (bothR a b = 0) && (diffO a b).isNone, bothR a b)
theorem equals_equal_is (a b : Mach) (ha : ∀ r ∈ a.rows, r.2.length < 1000000) (hb : ∀ r ∈ b.rows, r.2.length < 1000000) : PureIs prog 50 [.ag a.cells, .ag b.cells] (.tu [.sc (.bool (equalR a b).1), .sc (.int .i64 (equalR a b).2)]) := by
 refine PureIs.of1 6 [7, 8] func50 ntmps50 results50 fun _ => ?_
 have hd := equals_differ_is a b ha hb
 refine EvC.a ?_ (by simp only [go_sem, Mach.cells] <;> rfl)
 by_cases h : bothR a b = 0
 ·rw [differA, if_pos h] at hd
  apply EvC.seq
  apply EvC.tr
  ·apply Tr.run
   ·simp only [go_sem] <;> rfl
   ·simp
   apply Tr.cons
   ·exact .call rfl rfl (by simp only [go_sem] <;> rfl) (by simp only [go_sem] <;> rfl) (by simp only [go_sem] <;> rfl) (by simp only [go_sem] <;> rfl) (by simp only [go_sem] <;> rfl) hd
   apply Tr.done
   ·simp only [go_sem] <;> rfl
   ·simp
  apply EvC.seq
  apply EvC.trd
  ·simp only [go_sem] <;> rfl
  ·simp
  refine EvC.rz ?_
  simp only [go_sem]
  unfold equalR
  cases diffO a b <;> simp [h]
 ·rw [differA, if_neg h] at hd
  apply EvC.seq
  apply EvC.tr
  ·apply Tr.run
   ·simp only [go_sem] <;> rfl
   ·simp
   apply Tr.cons
   ·exact .call rfl rfl (by simp only [go_sem] <;> rfl) (by simp only [go_sem] <;> rfl) (by simp only [go_sem] <;> rfl) (by simp only [go_sem] <;> rfl) (by simp only [go_sem] <;> rfl) hd
   apply Tr.done
   ·simp only [go_sem] <;> rfl
   ·simp
  apply EvC.seq
  apply EvC.trd
  ·simp only [go_sem] <;> rfl
  ·simp
  refine EvC.rz ?_
  simp only [go_sem]
  unfold equalR
  simp [h]
def adM (k s i t a o : Int) (L : List FA) : Mem := [(0, .cells [.sc (.int .i64 k), .sc (.int .i64 s), .sc (.int .i64 i), .sc (.int .i64 t), .sc (.int .i64 a), .sc (.int .i64 o)]), (1, .cells [.tl 2 L.length L.isEmpty]), (2, .arr 6 (L.map FA.cells) true)]
theorem add_body (k s i t0 a0 o0 t a o : Int) (L : List FA) (hl : L.length < 1000000) {R : AV → Mem → Nat → Prop} (hR : ∀ nx x, R (mkRes []) ((14, x) :: adM k s i t a o (L ++ [⟨k, s, i, t, a, o⟩])) nx) :
  BodyIs prog 97 [.sc (.int .i64 t), .sc (.int .i64 a), .sc (.int .i64 o), .rf 0 0, .rf 1 0] (adM k s i t0 a0 o0 L) 3 R := by
 refine BodyIs.of (nv := 5) (hid := [14, 16, 17]) func97 rfl (by kernel_rfl) (by simp [ntmps97]) fun h0 => ?_
 rw [ntmps97, results97]
 rw [adM]
 refine EvC.a ?_
 have hsn : L.map FA.cells ++ [[.sc (.int .i64 k), .sc (.int .i64 s), .sc (.int .i64 i), .sc (.int .i64 t), .sc (.int .i64 a), .sc (.int .i64 o)]] = (L ++ [(⟨k, s, i, t, a, o⟩ : FA)]).map FA.cells := by simp [FA.cells]
 have hsl : L.length + 1 = (L ++ [(⟨k, s, i, t, a, o⟩ : FA)]).length := by simp
 have hse : (L ++ [(⟨k, s, i, t, a, o⟩ : FA)]).isEmpty = false := by simp
 have hr2 : room (L.length + 1) 48 = true := by simp only [room_eq, decide_eq_true_eq]; omega
 rw [hsl] at hr2
 generalize L ++ [(⟨k, s, i, t, a, o⟩ : FA)] = T at hsn hsl hse hr2 hR
 refine EvC.b ?_ (by simp only [go_sem, hsn, hsl, List.length_map] <;> rfl) (by simp [hr2])
 rw [adM, hse] at hR
 exact ⟨.inr rfl, [], (by simp only [go_sem] <;> rfl), hR _ _⟩
def ofO (k s i e1 : Int) : Nat → List FA
 | 0 => []
 | n + 1 => ofO k s i e1 n ++ (if (n : Int) ≠ e1 then [⟨k, s, i, 0, 0, n⟩] else [])
def ofT (k s i e0 : Int) : Nat → List FA
 | 0 => []
 | n + 1 => ofT k s i e0 n ++ (if k = 3 ∨ (n : Int) ≠ e0 then [⟨k, s, i, n, 0, 0⟩] else [])
def ofDo (s i a : Int) (f : Int × Int) : Nat → List FA
 | 0 => []
 | n + 1 => ofDo s i a f n ++ (if f.1 ≠ -1 ∧ (n : Int) ≠ f.2 then [⟨4, s, i, 0, a, n⟩] else [])
def ofD (m : Mach) (s i t : Int) : Nat → List FA
 | 0 => []
 | n + 1 => ofD m s i t n ++ ofDo s i n (stepM m t n) m.outs.toNat
def ofF (m : Mach) (k s i : Int) : List FA :=
 if k = 0 then ofO k s i (stepM m s i).2 m.outs.toNat
 else if k = 1 ∨ k = 3 then ofT k s i (stepM m s i).1 m.rows.length
 else if k = 2 then [⟨k, s, i, 0, 0, 0⟩]
 else if k = 4 then ofD m s i (stepM m s i).1 m.ins.toNat
 else []
theorem ofO_len (k s i e1 : Int) : ∀ n, (ofO k s i e1 n).length ≤ n
 | 0 => Nat.le_refl _
 | n + 1 => by
   have := ofO_len k s i e1 n
   rw [ofO, List.length_append]; split <;> simp <;> omega
theorem ofT_len (k s i e1 : Int) : ∀ n, (ofT k s i e1 n).length ≤ n
 | 0 => Nat.le_refl _
 | n + 1 => by
   have := ofT_len k s i e1 n
   rw [ofT, List.length_append]; split <;> simp <;> omega
theorem ofDo_len (s i a : Int) (f : Int × Int) : ∀ n, (ofDo s i a f n).length ≤ n
 | 0 => Nat.le_refl _
 | n + 1 => by
   have := ofDo_len s i a f n
   rw [ofDo, List.length_append]; split <;> simp <;> omega
theorem ofD_len {m : Mach} (hv : Valid m) (s i t : Int) : ∀ n, (ofD m s i t n).length ≤ n * 16
 | 0 => Nat.le_refl _
 | n + 1 => by
   have := ofD_len hv s i t n
   have := ofDo_len s i n (stepM m t n) m.outs.toNat
   have := hv.outs
   rw [ofD, List.length_append]; omega
theorem ofF_len {m : Mach} (hv : Valid m) (k s i : Int) : (ofF m k s i).length ≤ 256 := by
 have := hv.outs
 have := hv.rows
 have := hv.ins
 have h1 := ofO_len k s i (stepM m s i).2 m.outs.toNat
 have h2 := ofT_len k s i (stepM m s i).1 m.rows.length
 have h3 := ofD_len hv s i (stepM m s i).1 m.ins.toNat
 unfold ofF
 split
 ·omega
 split
 ·omega
 split
 ·simp
 split
 ·omega
 ·simp
theorem of97_is {m : Mach} (hv : Valid m) (k s i : Int) (hd : definedB m s i = true) : PureIs prog 90 [.ag m.cells, .sc (.int .i64 k), .sc (.int .i64 s), .sc (.int .i64 i)] (.sl (ofF m k s i).isEmpty ((ofF m k s i).map FA.cells) .unk) := by
 have hmi := hv.ins
 have hmo := hv.outs
 have hmr := hv.rows
 obtain ⟨⟨hs0, hs1⟩, ⟨hi0, hi1⟩, hd1⟩ := definedB_iff.1 hd
 obtain ⟨r, q1, q2, q3⟩ := step_in hv hd
 refine PureIs.of1 5 [8, 9, 10, 11, 12, 13, 14, 15, 16, 30, 31, 34, 35, 36, 41, 42, 43, 46, 51, 52, 53, 62, 63, 64, 67, 69, 71, 78, 79, 80, 81, 86, 87, 88, 98, 99, 100, 101] func90 ntmps90 results90 fun _ => ?_
 refine EvC.a ?_ (by simp only [go_sem, Mach.cells] <;> rfl)
 refine EvC.z 0 ?_
 refine EvC.ownC 1 0 6 (by simp only [go_sem] <;> rfl) ?_
 refine EvC.a ?_ (by simp only [go_sem, Mach.cells, q1, q2, rowC, edgeC] <;> rfl) (by simp [hs0, hi0])
 refine EvC.z 11 ?_
 refine EvC.a ?_
 refine EvC.a ?_
 generalize hE : stepM m s i = E at *
 obtain ⟨e0, e1⟩ := E
 simp only at q2 q3
 refine EvC.gcTo ⟨[(1, .sc (.int .i64 k)), (4, .ia m.cells), (8, .rf 1 0), (9, .ia [.sc (.int .i64 e0), .sc (.int .i64 e1)]), (10, .rf 0 0), (11, .fn 97 [.rf 0 0, .rf 1 0])], [], adM k s i 0 0 0 [], 3⟩ [1, 4, 8, 9, 10, 11] [(17, 0), (1, 1), (2, 2)] rfl (by simp only [go_sem, adM, Mach.cells, List.length_nil, List.isEmpty_nil, List.map_nil] <;> rfl) ?_
 refine EvC.mergeS (α := Int × Int × Int × List FA) (fun p => ⟨[(8, .rf 1 0)], [], adM k s i p.1 p.2.1 p.2.2.1 p.2.2.2, 3⟩) (fun p => p.2.2.2 = ofF m k s i) [8] 3 ?_ ?_
 rotate_left
 ·rintro ⟨t, a, o, L⟩ hL
  simp only at hL ⊢
  subst hL
  have hl := ofF_len hv k s i
  generalize ofF m k s i = L at hl ⊢
  rw [adM]
  refine EvC.a ?_
  refine EvC.frzD 2 (by simp only [go_sem, List.length_map] <;> rfl) ?_
  refine EvC.rz ?_
  simp only [go_sem]
 refine EvC.a ?_
 refine EvC.block ?_
 refine EvC.a ?_
 by_cases k0 : k = 0
 ·
  have hF : ofF m k s i = ofO k s i e1 m.outs.toNat := by unfold ofF; rw [if_pos k0, hE]
  refine EvC.ct ?_ (by simp only [go_sem, decide_eq_true k0] <;> rfl)
  refine EvC.a ?_ (by simp only [go_sem, Mach.cells] <;> rfl)
  refine EvC.block ?_
  refine EvC.loopS (σ := Nat × Int × Int × Int) (fun p => ⟨[(8, .rf 1 0), (9, .ia [.sc (.int .i64 e0), .sc (.int .i64 e1)]), (11, .fn 97 [.rf 0 0, .rf 1 0]), (34, .sc (.int .i64 m.outs)), (35, .sc (.int .i64 p.1))], [], adM k s i p.2.1 p.2.2.1 p.2.2.2 (ofO k s i e1 p.1), 3⟩) (fun p => m.outs.toNat - p.1) (fun p => p.1 ≤ m.outs.toNat) [8, 9, 11, 34, 35] 3 ?_ ?_
  ·exact ⟨[(0, 0), (1, 1), (2, 2)], (0, 0, 0, 0), rfl, (by simp only [go_sem, adM, ofO, Int.natCast_zero, List.length_nil, List.isEmpty_nil, List.map_nil, Mach.cells] <;> rfl), Nat.zero_le _⟩
  rintro ⟨n, t, a, o⟩ hn
  simp only at hn ⊢
  refine EvC.a ?_
  refine EvC.seq ?_
  refine EvC.cond (by simp only [go_sem] <;> rfl) (fun hc => ?_) (fun hc => ?_)
  rotate_left
  ·refine EvC.exit ?_
   obtain rfl : n = m.outs.toNat := by have : ¬ (n : Int) < m.outs := (by simpa using hc); omega
   exact ⟨rfl, [(0, 0), (1, 1), (2, 2)], (t, a, o, ofO k s i e1 m.outs.toNat), rfl, (by simp only [go_sem, adM] <;> rfl), hF.symm⟩
  have hnl : n + 1 ≤ m.outs.toNat := by have : (n : Int) < m.outs := (by simpa using hc); omega
  clear hc
  refine EvC.skip ?_
  refine EvC.seq ?_
  refine EvC.block ?_
  refine EvC.a ?_
  refine EvC.a ?_ (by simp only [go_sem, edgeC] <;> rfl)
  have hlen := ofO_len k s i e1 n
  by_cases hne : (n : Int) = e1
  ·have hx : ofO k s i e1 (n + 1) = ofO k s i e1 n := by rw [ofO, if_neg (fun h => h hne), List.append_nil]
   refine EvC.cs ?_ (by simp only [go_sem, decide_eq_true hne] <;> rfl)
   refine EvC.b ?_ (hok := by exact inI64_of (by omega) (by omega))
   exact ⟨[(0, 0), (1, 1), (2, 2)], (n + 1, t, a, o), rfl, (by rw [hx]; simp only [go_sem, adM, Int.natCast_add, Int.natCast_one] <;> rfl), hnl, by simp only; omega⟩
  ·have hx : ofO k s i e1 (n + 1) = ofO k s i e1 n ++ [⟨k, s, i, 0, 0, n⟩] := by rw [ofO, if_pos hne]
   refine EvC.ct ?_ (by simp only [go_sem, decide_eq_false hne] <;> rfl)
   obtain ⟨nZ, hnZ⟩ : ∃ z : Int, z = (n : Int) := ⟨_, rfl⟩
   rw [← hnZ] at hx ⊢
   apply EvC.region
   apply XR.run
   ·simp only [go_sem] <;> rfl
   ·simp
   refine XR.gcTo ⟨[(8, .rf 1 0), (9, .ia [.sc (.int .i64 e0), .sc (.int .i64 e1)]), (11, .fn 97 [.rf 0 0, .rf 1 0]), (34, .sc (.int .i64 m.outs)), (35, .sc (.int .i64 nZ)), (42, .fn 97 [.rf 0 0, .rf 1 0]), (43, .sc (.int .i64 nZ))], [], adM k s i t a o (ofO k s i e1 n), 3⟩ [8, 9, 11, 34, 35, 42, 43] [(0, 0), (1, 1), (2, 2)] rfl (by simp only [go_sem, adM] <;> rfl) ?_
   apply XR.callI rfl rfl (by simp only [go_sem] <;> rfl) (by simp only [go_sem] <;> rfl) (by simp only [go_sem] <;> rfl)
   refine add_body k s i t a o 0 0 nZ _ (by omega) fun nx x => ?_
   refine XR.nil ?_
   rw [← hx, hnZ]
   refine EvC.b ?_ (hok := by exact inI64_of (by omega) (by omega))
   exact ⟨[(0, 0), (1, 1), (2, 2)], (n + 1, 0, 0, nZ), rfl, (by rw [hnZ]; simp only [go_sem, adM, Int.natCast_add, Int.natCast_one] <;> rfl), hnl, by simp only; omega⟩
 refine EvC.cf ?_ (by simp only [go_sem, decide_eq_false k0] <;> rfl)
 refine EvC.mergeS (α := Unit) (fun _ => ⟨[(1, .sc (.int .i64 k)), (4, .ia m.cells), (8, .rf 1 0), (9, .ia [.sc (.int .i64 e0), .sc (.int .i64 e1)]), (11, .fn 97 [.rf 0 0, .rf 1 0]), (30, .sc (.int .i64 k)), (46, .sc (.bool (decide (k = 1 ∨ k = 3))))], [], adM k s i 0 0 0 [], 3⟩) (fun _ => True) [1, 4, 8, 9, 11, 30, 46] 3 ?_ ?_
 ·refine EvC.a ?_
  by_cases k1 : k = 1
  ·refine EvC.cr ?_ (by simp only [go_sem, decide_eq_true k1] <;> rfl)
   have : decide (k = 1 ∨ k = 3) = true := decide_eq_true (.inl k1)
   exact ⟨rfl, [(0, 0), (1, 1), (2, 2)], (), rfl, (by rw [this]; simp only [go_sem, adM, decide_eq_true k1, List.length_nil, List.isEmpty_nil, List.map_nil, Mach.cells] <;> rfl), trivial⟩
  ·refine EvC.cf ?_ (by simp only [go_sem, decide_eq_false k1] <;> rfl)
   have : decide (k = 1 ∨ k = 3) = decide (k = 3) := by simp [k1]
   refine EvC.b ?_
   exact ⟨rfl, [(0, 0), (1, 1), (2, 2)], (), rfl, (by rw [this]; simp only [go_sem, adM, List.length_nil, List.isEmpty_nil, List.map_nil, Mach.cells] <;> rfl), trivial⟩
 rintro ⟨⟩ -
 by_cases k13 : k = 1 ∨ k = 3
 ·
  have hF : ofF m k s i = ofT k s i e0 m.rows.length := by unfold ofF; rw [if_neg k0, if_pos k13, hE]
  refine EvC.ct ?_ (by simp only [go_sem, decide_eq_true k13] <;> rfl)
  refine EvC.a ?_ (by simp only [go_sem, Mach.cells, List.length_map] <;> rfl)
  refine EvC.block ?_
  refine EvC.loopS (σ := Nat × Int × Int × Int) (fun p => ⟨[(1, .sc (.int .i64 k)), (8, .rf 1 0), (9, .ia [.sc (.int .i64 e0), .sc (.int .i64 e1)]), (11, .fn 97 [.rf 0 0, .rf 1 0]), (51, .sc (.int .i64 m.rows.length)), (52, .sc (.int .i64 p.1))], [], adM k s i p.2.1 p.2.2.1 p.2.2.2 (ofT k s i e0 p.1), 3⟩) (fun p => m.rows.length - p.1) (fun p => p.1 ≤ m.rows.length) [1, 8, 9, 11, 51, 52] 3 ?_ ?_
  ·exact ⟨[(0, 0), (1, 1), (2, 2)], (0, 0, 0, 0), rfl, (by simp only [go_sem, adM, ofT, Int.natCast_zero, List.length_nil, List.isEmpty_nil, List.map_nil, Mach.cells] <;> rfl), Nat.zero_le _⟩
  rintro ⟨n, t, a, o⟩ hn
  simp only at hn ⊢
  refine EvC.a ?_
  refine EvC.seq ?_
  refine EvC.cond (by simp only [go_sem] <;> rfl) (fun hc => ?_) (fun hc => ?_)
  rotate_left
  ·refine EvC.exit ?_
   obtain rfl : n = m.rows.length := by have : ¬ (n : Int) < m.rows.length := (by simpa using hc); omega
   exact ⟨rfl, [(0, 0), (1, 1), (2, 2)], (t, a, o, ofT k s i e0 m.rows.length), rfl, (by simp only [go_sem, adM] <;> rfl), hF.symm⟩
  have hnl : n + 1 ≤ m.rows.length := by have : (n : Int) < m.rows.length := (by simpa using hc); omega
  clear hc
  refine EvC.skip ?_
  refine EvC.seq ?_
  refine EvC.block ?_
  refine EvC.a ?_
  have hlen := ofT_len k s i e0 n
  by_cases k3 : k = 3
  ·have hx : ofT k s i e0 (n + 1) = ofT k s i e0 n ++ [⟨k, s, i, n, 0, 0⟩] := by rw [ofT, if_pos (.inl k3)]
   refine EvC.g ?_ (h := by simp only [go_sem, edgeC, decide_eq_true k3] <;> rfl)
   refine EvC.ct ?_
   obtain ⟨nZ, hnZ⟩ : ∃ z : Int, z = (n : Int) := ⟨_, rfl⟩
   rw [← hnZ] at hx ⊢
   apply EvC.region
   apply XR.run
   ·simp only [go_sem] <;> rfl
   ·simp
   refine XR.gcTo ⟨[(1, .sc (.int .i64 k)), (8, .rf 1 0), (9, .ia [.sc (.int .i64 e0), .sc (.int .i64 e1)]), (11, .fn 97 [.rf 0 0, .rf 1 0]), (51, .sc (.int .i64 m.rows.length)), (52, .sc (.int .i64 nZ)), (63, .fn 97 [.rf 0 0, .rf 1 0]), (64, .sc (.int .i64 nZ))], [], adM k s i t a o (ofT k s i e0 n), 3⟩ [1, 8, 9, 11, 51, 52, 63, 64] [(0, 0), (1, 1), (2, 2)] rfl (by simp only [go_sem, adM] <;> rfl) ?_
   apply XR.callI rfl rfl (by simp only [go_sem] <;> rfl) (by simp only [go_sem] <;> rfl) (by simp only [go_sem] <;> rfl)
   refine add_body k s i t a o nZ 0 0 _ (by omega) fun nx x => ?_
   refine XR.nil ?_
   rw [← hx, hnZ]
   refine EvC.b ?_ (hok := by exact inI64_of (by omega) (by omega))
   exact ⟨[(0, 0), (1, 1), (2, 2)], (n + 1, nZ, 0, 0), rfl, (by rw [hnZ]; simp only [go_sem, adM, Int.natCast_add, Int.natCast_one] <;> rfl), hnl, by simp only; omega⟩
  by_cases hne : (n : Int) = e0
  ·have hx : ofT k s i e0 (n + 1) = ofT k s i e0 n := by rw [ofT, if_neg (fun h => h.elim k3 fun h => h hne), List.append_nil]
   refine EvC.g ?_ (h := by simp only [go_sem, edgeC, decide_eq_false k3, decide_eq_true hne] <;> rfl)
   refine EvC.cs ?_
   refine EvC.b ?_ (hok := by exact inI64_of (by omega) (by omega))
   exact ⟨[(0, 0), (1, 1), (2, 2)], (n + 1, t, a, o), rfl, (by rw [hx]; simp only [go_sem, adM, Int.natCast_add, Int.natCast_one] <;> rfl), hnl, by simp only; omega⟩
  ·have hx : ofT k s i e0 (n + 1) = ofT k s i e0 n ++ [⟨k, s, i, n, 0, 0⟩] := by rw [ofT, if_pos (.inr hne)]
   refine EvC.g ?_ (h := by simp only [go_sem, edgeC, decide_eq_false k3, decide_eq_false hne] <;> rfl)
   refine EvC.ct ?_
   obtain ⟨nZ, hnZ⟩ : ∃ z : Int, z = (n : Int) := ⟨_, rfl⟩
   rw [← hnZ] at hx ⊢
   apply EvC.region
   apply XR.run
   ·simp only [go_sem] <;> rfl
   ·simp
   refine XR.gcTo ⟨[(1, .sc (.int .i64 k)), (8, .rf 1 0), (9, .ia [.sc (.int .i64 e0), .sc (.int .i64 e1)]), (11, .fn 97 [.rf 0 0, .rf 1 0]), (51, .sc (.int .i64 m.rows.length)), (52, .sc (.int .i64 nZ)), (63, .fn 97 [.rf 0 0, .rf 1 0]), (64, .sc (.int .i64 nZ))], [], adM k s i t a o (ofT k s i e0 n), 3⟩ [1, 8, 9, 11, 51, 52, 63, 64] [(0, 0), (1, 1), (2, 2)] rfl (by simp only [go_sem, adM] <;> rfl) ?_
   apply XR.callI rfl rfl (by simp only [go_sem] <;> rfl) (by simp only [go_sem] <;> rfl) (by simp only [go_sem] <;> rfl)
   refine add_body k s i t a o nZ 0 0 _ (by omega) fun nx x => ?_
   refine XR.nil ?_
   rw [← hx, hnZ]
   refine EvC.b ?_ (hok := by exact inI64_of (by omega) (by omega))
   exact ⟨[(0, 0), (1, 1), (2, 2)], (n + 1, nZ, 0, 0), rfl, (by rw [hnZ]; simp only [go_sem, adM, Int.natCast_add, Int.natCast_one] <;> rfl), hnl, by simp only; omega⟩
 refine EvC.cf ?_ (by simp only [go_sem, decide_eq_false k13] <;> rfl)
 refine EvC.a ?_
 by_cases k2 : k = 2
 ·
  have hF : ofF m k s i = [⟨k, s, i, 0, 0, 0⟩] := by unfold ofF; rw [if_neg k0, if_neg k13, if_pos k2]
  refine EvC.ct ?_ (by simp only [go_sem, decide_eq_true k2] <;> rfl)
  apply EvC.region
  apply XR.run
  ·simp only [go_sem] <;> rfl
  ·simp
  refine XR.gcTo ⟨[(8, .rf 1 0), (69, .fn 97 [.rf 0 0, .rf 1 0])], [], adM k s i 0 0 0 [], 3⟩ [8, 69] [(0, 0), (1, 1), (2, 2)] rfl (by simp only [go_sem, adM] <;> rfl) ?_
  apply XR.callI rfl rfl (by simp only [go_sem] <;> rfl) (by simp only [go_sem] <;> rfl) (by simp only [go_sem] <;> rfl)
  refine add_body k s i 0 0 0 0 0 0 [] (by simp) fun nx x => ?_
  refine XR.nil ?_
  exact ⟨rfl, [(0, 0), (1, 1), (2, 2)], (0, 0, 0, [⟨k, s, i, 0, 0, 0⟩]), rfl, (by simp only [go_sem, adM, List.nil_append] <;> rfl), hF.symm⟩
 refine EvC.cf ?_ (by simp only [go_sem, decide_eq_false k2] <;> rfl)
 refine EvC.a ?_
 by_cases k4 : k = 4
 rotate_left
 ·refine EvC.cf ?_ (by simp only [go_sem, decide_eq_false k4] <;> rfl)
  have hF : ofF m k s i = [] := by unfold ofF; rw [if_neg k0, if_neg k13, if_neg k2, if_neg k4]
  refine EvC.skip ?_
  exact ⟨rfl, [(0, 0), (1, 1), (2, 2)], (0, 0, 0, []), rfl, (by simp only [go_sem, adM] <;> rfl), hF.symm⟩
 refine EvC.ct ?_ (by simp only [go_sem, decide_eq_true k4] <;> rfl)
 subst k4
 have hF : ofF m 4 s i = ofD m s i e0 m.ins.toNat := by unfold ofF; rw [if_neg (by omega), if_neg (by omega), if_neg (by omega), if_pos rfl, hE]
 have hrow : ∃ r2, m.rows[e0.toNat]? = some r2 ∧ (r2.2.length : Int) = m.ins := by
  have h1 : e0.toNat < m.rows.length := by omega
  exact ⟨_, List.getElem?_eq_getElem h1, (hv.row _ (List.getElem_mem h1)).1⟩
 obtain ⟨r2, p1, p2⟩ := hrow
 refine EvC.a ?_ (by simp only [go_sem, Mach.cells, p1, rowC, List.length_map, p2] <;> rfl) (by simp; omega)
 refine EvC.block ?_
 refine EvC.loopS (σ := Nat × Int × Int × Int) (fun p => ⟨[(4, .ia m.cells), (8, .rf 1 0), (11, .fn 97 [.rf 0 0, .rf 1 0]), (78, .sl r2.1 (r2.2.map edgeC) .unk), (79, .sc (.int .i64 m.ins)), (80, .sc (.int .i64 p.1))], [], adM 4 s i p.2.1 p.2.2.1 p.2.2.2 (ofD m s i e0 p.1), 3⟩) (fun p => m.ins.toNat - p.1) (fun p => p.1 ≤ m.ins.toNat) [4, 8, 11, 78, 79, 80] 3 ?_ ?_
 ·exact ⟨[(0, 0), (1, 1), (2, 2)], (0, 0, 0, 0), rfl, (by simp only [go_sem, adM, ofD, Int.natCast_zero, List.length_nil, List.isEmpty_nil, List.map_nil, Mach.cells] <;> rfl), Nat.zero_le _⟩
 rintro ⟨n, t, a, o⟩ hn
 simp only at hn ⊢
 refine EvC.a ?_
 refine EvC.seq ?_
 refine EvC.cond (by simp only [go_sem] <;> rfl) (fun hc => ?_) (fun hc => ?_)
 rotate_left
 ·refine EvC.exit ?_
  obtain rfl : n = m.ins.toNat := by have : ¬ (n : Int) < m.ins := (by simpa using hc); omega
  exact ⟨rfl, [(0, 0), (1, 1), (2, 2)], (t, a, o, ofD m s i e0 m.ins.toNat), rfl, (by simp only [go_sem, adM] <;> rfl), hF.symm⟩
 have hnl : n + 1 ≤ m.ins.toNat := by have : (n : Int) < m.ins := (by simpa using hc); omega
 clear hc
 refine EvC.skip ?_
 refine EvC.seq ?_
 refine EvC.block ?_
 obtain ⟨nZ, hnZ⟩ : ∃ z : Int, z = (n : Int) := ⟨_, rfl⟩
 have hx : ofD m s i e0 (n + 1) = apF (ofD m s i e0 n) (ofDo s i nZ (stepM m e0 nZ) m.outs.toNat) := by rw [ofD, hnZ]; rfl
 obtain ⟨r3, p3, p4, p5⟩ := stepM_get hv (s := e0) (i := nZ) ⟨by omega, by omega⟩ ⟨by omega, by omega⟩
 rw [p1] at p3; cases p3
 have hlen := ofD_len hv s i e0 n
 have hlen : (ofD m s i e0 n).length ≤ 256 := by omega
 generalize stepM m e0 nZ = f at *
 obtain ⟨f0, f1⟩ := f
 have hnt : nZ.toNat = n := by omega
 rw [hnt] at p4
 generalize ofD m s i e0 n = pre at hx hlen ⊢
 rw [← hnZ]
 refine EvC.a ?_ (by simp only [go_sem, p4, hnt, edgeC] <;> rfl) (by simp; omega)
 refine EvC.z 7 ?_ (by simp only [go_sem, adM] <;> rfl)
 refine EvC.a ?_ (by simp only [go_sem, Mach.cells] <;> rfl)
 refine EvC.block ?_
 refine EvC.loopS (σ := Nat × Int × Int × Int) (fun p => ⟨[(4, .ia m.cells), (8, .rf 1 0), (11, .fn 97 [.rf 0 0, .rf 1 0]), (14, .sc (.int .i64 nZ)), (15, .ia [.sc (.int .i64 f0), .sc (.int .i64 f1)]), (78, .sl r2.1 (r2.2.map edgeC) .unk), (79, .sc (.int .i64 m.ins)), (80, .sc (.int .i64 nZ)), (86, .sc (.int .i64 m.outs)), (87, .sc (.int .i64 p.1))], [], adM 4 s i p.2.1 p.2.2.1 p.2.2.2 (apF pre (ofDo s i nZ (f0, f1) p.1)), 3⟩) (fun p => m.outs.toNat - p.1) (fun p => p.1 ≤ m.outs.toNat) [4, 8, 11, 14, 15, 78, 79, 80, 86, 87] 3 ?_ ?_
 ·exact ⟨[(0, 0), (1, 1), (2, 2)], (0, t, a, o), rfl, (by rw [ofDo, apF_nil]; simp only [go_sem, adM, Int.natCast_zero, Mach.cells] <;> rfl), Nat.zero_le _⟩
 rintro ⟨n2, t, a, o⟩ hn2
 simp only at hn2 ⊢
 refine EvC.a ?_
 refine EvC.seq ?_
 refine EvC.cond (by simp only [go_sem] <;> rfl) (fun hc => ?_) (fun hc => ?_)
 rotate_left
 ·refine EvC.exit ?_
  obtain rfl : n2 = m.outs.toNat := by have : ¬ (n2 : Int) < m.outs := (by simpa using hc); omega
  rw [← hx]
  refine EvC.b ?_ (hok := by exact inI64_of (by omega) (by omega))
  exact ⟨[(0, 0), (1, 1), (2, 2)], (n + 1, t, a, o), rfl, (by rw [hnZ]; simp only [go_sem, adM, Int.natCast_add, Int.natCast_one] <;> rfl), hnl, by simp only; omega⟩
 have hnl2 : n2 + 1 ≤ m.outs.toNat := by have : (n2 : Int) < m.outs := (by simpa using hc); omega
 clear hc
 refine EvC.skip ?_
 refine EvC.seq ?_
 refine EvC.block ?_
 refine EvC.a ?_
 have hlen2 := ofDo_len s i nZ (f0, f1) n2
 have hpl : (apF pre (ofDo s i nZ (f0, f1) n2)).length < 1000000 := by rw [apF_len]; omega
 have hx2 : apF pre (ofDo s i nZ (f0, f1) (n2 + 1)) = apF (apF pre (ofDo s i nZ (f0, f1) n2)) (if f0 ≠ -1 ∧ (n2 : Int) ≠ f1 then [⟨4, s, i, 0, nZ, n2⟩] else []) := by rw [ofDo, apF_app]
 generalize apF pre (ofDo s i nZ (f0, f1) n2) = L at hpl hx2 ⊢
 by_cases hf0 : f0 = -1
 ·have hx3 : apF pre (ofDo s i nZ (f0, f1) (n2 + 1)) = L := by rw [hx2, if_neg (fun h => h.1 hf0), apF_nil]
  refine EvC.g ?_ (h := by simp only [go_sem, edgeC, decide_eq_true hf0] <;> rfl)
  refine EvC.cs ?_
  refine EvC.b ?_ (hok := by exact inI64_of (by omega) (by omega))
  exact ⟨[(0, 0), (1, 1), (2, 2)], (n2 + 1, t, a, o), rfl, (by rw [hx3]; simp only [go_sem, adM, Int.natCast_add, Int.natCast_one] <;> rfl), hnl2, by simp only; omega⟩
 by_cases hne : (n2 : Int) = f1
 ·have hx3 : apF pre (ofDo s i nZ (f0, f1) (n2 + 1)) = L := by rw [hx2, if_neg (fun h => h.2 hne), apF_nil]
  refine EvC.g ?_ (h := by simp only [go_sem, edgeC, decide_eq_false hf0, decide_eq_true hne] <;> rfl)
  refine EvC.cs ?_
  refine EvC.b ?_ (hok := by exact inI64_of (by omega) (by omega))
  exact ⟨[(0, 0), (1, 1), (2, 2)], (n2 + 1, t, a, o), rfl, (by rw [hx3]; simp only [go_sem, adM, Int.natCast_add, Int.natCast_one] <;> rfl), hnl2, by simp only; omega⟩
 have hx3 : apF pre (ofDo s i nZ (f0, f1) (n2 + 1)) = L ++ [⟨4, s, i, 0, nZ, n2⟩] := by rw [hx2, if_pos ⟨hf0, hne⟩]; rfl
 refine EvC.g ?_ (h := by simp only [go_sem, edgeC, decide_eq_false hf0, decide_eq_false hne] <;> rfl)
 refine EvC.ct ?_
 obtain ⟨oZ, hoZ⟩ : ∃ z : Int, z = (n2 : Int) := ⟨_, rfl⟩
 rw [← hoZ] at hx3 ⊢
 apply EvC.region
 apply XR.run
 ·simp only [go_sem] <;> rfl
 ·simp
 refine XR.gcTo ⟨[(4, .ia m.cells), (8, .rf 1 0), (11, .fn 97 [.rf 0 0, .rf 1 0]), (14, .sc (.int .i64 nZ)), (15, .ia [.sc (.int .i64 f0), .sc (.int .i64 f1)]), (78, .sl r2.1 (r2.2.map edgeC) .unk), (79, .sc (.int .i64 m.ins)), (80, .sc (.int .i64 nZ)), (86, .sc (.int .i64 m.outs)), (87, .sc (.int .i64 oZ)), (99, .fn 97 [.rf 0 0, .rf 1 0]), (100, .sc (.int .i64 nZ)), (101, .sc (.int .i64 oZ))], [], adM 4 s i t a o L, 3⟩ [4, 8, 11, 14, 15, 78, 79, 80, 86, 87, 99, 100, 101] [(0, 0), (1, 1), (2, 2)] rfl (by simp only [go_sem, adM, Mach.cells] <;> rfl) ?_
 apply XR.callI rfl rfl (by simp only [go_sem] <;> rfl) (by simp only [go_sem] <;> rfl) (by simp only [go_sem] <;> rfl)
 refine add_body 4 s i t a o 0 nZ oZ _ hpl fun nx x => ?_
 refine XR.nil ?_
 rw [← hx3, hoZ]
 refine EvC.b ?_ (hok := by exact inI64_of (by omega) (by omega))
 exact ⟨[(0, 0), (1, 1), (2, 2)], (n2 + 1, 0, nZ, oZ), rfl, (by rw [hoZ]; simp only [go_sem, adM, Mach.cells, Int.natCast_add, Int.natCast_one] <;> rfl), hnl2, by simp only; omega⟩
def egI (m : Mach) (s : Int) : Nat → List (Int × Int)
 | 0 => []
 | n + 1 => egI m s n ++ (if definedB m s n = true then [(s, (n : Int))] else [])
def egS (m : Mach) : Nat → List (Int × Int)
 | 0 => []
 | n + 1 => egS m n ++ egI m n m.ins.toNat
def egL (m : Mach) : List (Int × Int) := egS m m.rows.length
def pairC (p : Int × Int) : List AV := [.sc (.int .i64 p.1), .sc (.int .i64 p.2)]
def egR (m : Mach) (s : Int) : Nat → Nat → List (Int × Int)
 | 0, _ => []
 | n + 1, i => (if definedB m s i = true then [(s, (i : Int))] else []) ++ egR m s n (i + 1)
theorem egR_app (m : Mach) (s : Int) : ∀ (n i : Nat), egI m s i ++ egR m s n i = egI m s (i + n)
 | 0, i => by simp [egR]
 | n + 1, i => by
   rw [egR, ← List.append_assoc, show egI m s i ++ (if definedB m s i = true then [(s, (i : Int))] else []) = egI m s (i + 1) from rfl, egR_app m s n (i + 1)]
   congr 1; omega
def egT (m : Mach) : Nat → Nat → List (Int × Int)
 | 0, _ => []
 | n + 1, s => egI m s m.ins.toNat ++ egT m n (s + 1)
theorem egT_app (m : Mach) : ∀ (n s : Nat), egS m s ++ egT m n s = egS m (s + n)
 | 0, s => by simp [egT]
 | n + 1, s => by
   rw [egT, ← List.append_assoc, show egS m s ++ egI m s m.ins.toNat = egS m (s + 1) from rfl, egT_app m n (s + 1)]
   congr 1; omega
theorem egI_eq (m : Mach) (s : Int) (n : Nat) : egR m s n 0 = egI m s n := by have := egR_app m s n 0; rw [Nat.zero_add] at this; rw [← this]; rfl
theorem egL_eq (m : Mach) : egL m = egT m m.rows.length 0 := by have := egT_app m m.rows.length 0; rw [Nat.zero_add] at this; rw [egL, ← this]; rfl
theorem edges1_seq {m : Mach} (hv : Valid m) : SeqIs prog 96 [.ia m.cells] ((egL m).map pairC) := by
 have hmi := hv.ins
 have hmr := hv.rows
 refine SeqIs.of (nv := 3) (hid := [3, 4, 7, 8, 9, 12, 13, 14, 19, 20, 26]) func96 rfl (by kernel_rfl) (by simp [ntmps96]) (by rw [results96]) fun lp J h0 hJ hy => ?_
 rw [ntmps96]
 refine EvY.seqL hJ (EvC.rg (by simp only [go_sem, Mach.cells, List.length_map] <;> rfl) (by simp) ?_)
 refine EvY.block ?_
 refine EvY.loopS hJ (σ := Nat × Nat × List (Int × Int)) (fun g => ⟨[(0, .sc (yv lp)), (1, .ia m.cells), (7, .sc (.int .i64 m.rows.length)), (8, .sc (.int .i64 g.2.1))], [], [], 0⟩) (fun g => g.2.2.length) (fun g => g.1)
  (fun g => g.1 + g.2.1 = m.rows.length ∧ egL m = g.2.2 ++ egT m g.1 g.2.1) [0, 1, 7, 8] 0 ?_ ?_
 ·exact ⟨[], (m.rows.length, 0, []), rfl, (by simp only [go_sem, Int.natCast_zero, Mach.cells] <;> rfl), ⟨rfl, egL_eq m⟩, rfl⟩
 rintro ⟨n, s, pre⟩ ⟨hn, hpre⟩
 simp only at hn hpre ⊢
 refine EvY.seqL hJ (EvC.rg (by simp only [go_sem] <;> rfl) (by simp) ?_)
 refine EvY.seq ?_
 refine EvY.cond (by simp only [go_sem] <;> rfl) (fun hc => ?_) (fun hc => ?_)
 rotate_left
 ·refine EvY.exit ⟨.inr rfl, .inl ?_⟩
  have hc : ¬ s < m.rows.length := by simpa using hc
  obtain rfl : n = 0 := by omega
  rw [hpre]; simp [egT]
 have hc : s < m.rows.length := by simpa using hc
 obtain ⟨n, rfl⟩ : ∃ k, n = k + 1 := ⟨n - 1, by omega⟩
 rw [egT] at hpre
 refine EvY.skip ?_
 refine EvY.seq ?_
 refine EvY.block ?_
 refine EvY.seqL hJ (EvC.rg (by simp only [go_sem] <;> rfl) (by simp) ?_)
 refine EvY.seqL hJ (EvC.rg (by simp only [go_sem, Mach.cells] <;> rfl) (by simp) ?_)
 refine EvY.block ?_
 obtain ⟨sZ, hsZ⟩ : ∃ z : Int, z = (s : Int) := ⟨_, rfl⟩
 have hs0 : 0 ≤ sZ ∧ sZ < m.rows.length := by omega
 rw [← hsZ] at hpre ⊢
 refine EvY.loopS hJ (σ := Nat × Nat × List (Int × Int)) (fun g => ⟨[(0, .sc (yv lp)), (1, .ia m.cells), (3, .sc (.int .i64 sZ)), (7, .sc (.int .i64 m.rows.length)), (8, .sc (.int .i64 sZ)), (12, .sc (.int .i64 m.ins)), (13, .sc (.int .i64 g.2.1))], [], [], 0⟩) (fun g => g.2.2.length) (fun g => g.1)
  (fun g => g.1 + g.2.1 = m.ins.toNat ∧ egL m = g.2.2 ++ (egR m sZ g.1 g.2.1 ++ egT m n (s + 1))) [0, 1, 3, 7, 8, 12, 13] 0 ?_ ?_
 ·exact ⟨[], (m.ins.toNat, 0, pre), rfl, (by simp only [go_sem, Int.natCast_zero, Mach.cells] <;> rfl), ⟨rfl, by simp only; rw [egI_eq, hpre]⟩, rfl⟩
 clear hpre
 rintro ⟨k, i, pre⟩ ⟨hk, hpre⟩
 simp only at hk hpre ⊢
 refine EvY.seqL hJ (EvC.rg (by simp only [go_sem] <;> rfl) (by simp) ?_)
 refine EvY.seq ?_
 refine EvY.cond (by simp only [go_sem] <;> rfl) (fun hc => ?_) (fun hc => ?_)
 rotate_left
 ·refine EvY.exit ?_
  have hc : ¬ (i : Int) < m.ins := by simpa using hc
  obtain rfl : k = 0 := by omega
  refine EvY.lift hJ (EvC.rg (by simp only [go_sem] <;> rfl) (by exact inI64_of (by omega) (by omega)) ?_)
  exact ⟨[], (n, s + 1, pre), rfl, (by rw [hsZ]; simp only [go_sem, Int.natCast_add, Int.natCast_one] <;> rfl), ⟨by simp only; omega, by simp only; rw [hpre]; rfl⟩, rfl, by simp⟩
 have hc : (i : Int) < m.ins := by simpa using hc
 obtain ⟨k, rfl⟩ : ∃ j, k = j + 1 := ⟨k - 1, by omega⟩
 rw [egR] at hpre
 refine EvY.skip ?_
 refine EvY.seq ?_
 refine EvY.block ?_
 refine EvY.seqL hJ (EvC.rg (by simp only [go_sem] <;> rfl) (by simp) ?_)
 have q := defined84_is hv sZ i
 cases hd : definedB m sZ i with
 | false =>
   rw [hd] at q hpre
   rw [if_neg (by simp), List.nil_append] at hpre
   refine EvY.seqL hJ ?_
   intro _
   apply EvC.tr
   ·apply Tr.run
    ·simp only [go_sem, Mach.cells] <;> rfl
    ·simp
    apply Tr.cons
    ·exact .ca (q)
    apply Tr.run
    ·simp only [go_sem, Mach.cells] <;> rfl
    ·simp
    apply Tr.cons
    ·exact .skipv (.sc (.bool false)) rfl rfl (by simp only [go_sem] <;> rfl) (by simp only [go_sem] <;> rfl)
    apply Tr.done
    ·simp only [go_sem] <;> rfl
    ·simp
   refine EvY.cond_false (by simp only [go_sem] <;> rfl) ?_
   refine EvY.skip ?_
   refine EvY.lift hJ (EvC.rg (by simp only [go_sem] <;> rfl) (by exact inI64_of (by omega) (by omega)) ?_)
   exact ⟨[], (k, i + 1, pre), rfl, (by simp only [go_sem, Int.natCast_add, Int.natCast_one] <;> rfl), ⟨by simp only; omega, hpre⟩, rfl, by simp⟩
 | true =>
   rw [hd] at q hpre
   rw [if_pos rfl] at hpre
   refine EvY.seq (EvY.region ?_)
   refine XRY.pre 8 hJ ?_
   intro _
   simp only [List.take_succ_cons, List.take_zero, List.drop_succ_cons, List.drop_zero]
   apply XR.tr rfl
   ·apply Tr.run
    ·simp only [go_sem, Mach.cells] <;> rfl
    ·simp
    apply Tr.cons
    ·exact .call rfl rfl (by simp only [go_sem] <;> rfl) (by simp only [go_sem] <;> rfl) (by simp only [go_sem] <;> rfl) (by simp only [go_sem, Mach.cells] <;> rfl) (by simp only [go_sem] <;> rfl) q
    apply Tr.done
    ·simp only [go_sem] <;> rfl
    ·simp
   refine ⟨rfl, ?_⟩
   simp only [St.clr, List.length_cons, List.length_nil, List.cons_append, List.nil_append, Nat.reduceAdd]
   have hlt : pre.length < ((egL m).map pairC).length := by rw [hpre]; simp
   have hget : ((egL m).map pairC)[pre.length] = pairC (sZ, (i : Int)) := by
    simp only [hpre]; simp
   refine XRY.yieldG hlt hy rfl rfl (by simp only [go_sem] <;> rfl) rfl (by simp only [go_sem] <;> rfl) (by simp only [go_sem] <;> rfl) (by rw [hget]; simp only [go_sem, pairC] <;> rfl) (by rw [hget]; simp only [go_sem, pairC]) fun b => ?_
   refine XRY.pre 2 hJ ?_
   intro _
   simp only [List.take_succ_cons, List.take_zero, List.drop_succ_cons, List.drop_zero]
   apply XR.tr rfl
   ·apply Tr.done
    ·simp only [go_sem] <;> rfl
    ·simp
   refine ⟨rfl, XRY.nil ?_⟩
   simp only [St.clr, List.length_cons, List.length_nil, List.cons_append, List.nil_append, Nat.reduceAdd]
   cases b with
   | false =>
     refine EvY.cond_true (by simp only [go_sem] <;> rfl) ?_
     exact EvY.ret ⟨.inl rfl, .inr rfl⟩
   | true =>
     refine EvY.cond_false (by simp only [go_sem] <;> rfl) ?_
     refine EvY.skip ?_
     refine EvY.lift hJ (EvC.rg (by simp only [go_sem] <;> rfl) (by exact inI64_of (by omega) (by omega)) ?_)
     exact ⟨[], (k, i + 1, pre ++ [(sZ, (i : Int))]), rfl, (by simp only [go_sem, Int.natCast_add, Int.natCast_one] <;> rfl), ⟨by simp only; omega, by simp only; rw [hpre]; simp⟩, by simp, by simp⟩
theorem edges_is (m : Mach) : PureIs prog 89 [.ag m.cells] (.fn 96 [.ia m.cells]) := by
 refine PureIs.of1 1 [1, 2] func89 ntmps89 results89 fun _ => ?_
 refine EvC.a ?_ (by simp only [go_sem, Mach.cells] <;> rfl)
 refine EvC.z 0 ?_
 refine EvC.a ?_
 refine EvC.rz ?_
 simp only [go_sem]
 rfl
def alE (m : Mach) (k : Int) (ps : List (Int × Int)) : List FA := ps.flatMap fun p => ofF m k p.1 p.2
def alF (m : Mach) (ks : List Int) : List FA := ks.flatMap fun k => alE m k (egL m)
def faV (f : FA) : List AV := [.ag f.cells]
theorem egI_def (m : Mach) (s : Int) : ∀ n, ∀ p ∈ egI m s n, definedB m p.1 p.2 = true
 | 0, p, h => by cases h
 | n + 1, p, h => by
   rw [egI] at h
   rcases List.mem_append.1 h with h | h
   ·exact egI_def m s n p h
   ·split at h
    ·rename_i hd
     obtain rfl := List.mem_singleton.1 h
     exact hd
    ·cases h
theorem egS_def (m : Mach) : ∀ n, ∀ p ∈ egS m n, definedB m p.1 p.2 = true
 | 0, p, h => by cases h
 | n + 1, p, h => by
   rw [egS] at h
   rcases List.mem_append.1 h with h | h
   ·exact egS_def m n p h
   ·exact egI_def m n _ p h
theorem all1_seq {m : Mach} (hv : Valid m) (kn : Bool) (ks : List Int) (kc : Cp) (hks : ks.length < 1000000) : SeqIs prog 88 [.ia [.sl kn (ks.map intC) kc], .ia m.cells] ((alF m ks).map faV) := by
 have hmi := hv.ins
 have hmr := hv.rows
 refine SeqIs.of (nv := 4) (hid := [3, 5, 6, 7, 8, 9, 10, 11, 12, 13, 17, 18, 19, 24, 25, 26, 27, 33]) func88 rfl (by kernel_rfl) (by simp [ntmps88]) (by rw [results88]) fun lp J h0 hJ hy => ?_
 rw [ntmps88]
 refine EvY.seqL hJ (EvC.rg (by simp only [go_sem] <;> rfl) (by rfl) ?_)
 refine EvY.frzB hJ 0 (by simp only [go_sem] <;> rfl) ?_
 refine EvY.seqL hJ (EvC.rg (by simp only [go_sem, List.length_map] <;> rfl) (by simp) ?_)
 refine EvY.block ?_
 refine EvY.loopS hJ (σ := Nat × List FA) (fun g => ⟨[(1, .ia [.sl kn (ks.map intC) kc]), (2, .ia m.cells), (3, .ia [.sc (yv lp)]), (10, .sl kn (ks.map intC) kc), (11, .sc (.int .i64 ks.length)), (12, .sc (.int .i64 g.1))], [], [], 0⟩) (fun g => g.2.length) (fun g => ks.length - g.1)
  (fun g => g.1 ≤ ks.length ∧ alF m ks = g.2 ++ alF m (ks.drop g.1)) [1, 2, 3, 10, 11, 12] 0 ?_ ?_
 ·exact ⟨[], (0, []), rfl, (by simp only [go_sem, Int.natCast_zero, Mach.cells] <;> rfl), ⟨Nat.zero_le _, rfl⟩, rfl⟩
 rintro ⟨n, pre⟩ ⟨hn, hpre⟩
 simp only at hn hpre ⊢
 refine EvY.seqL hJ (EvC.rg (by simp only [go_sem] <;> rfl) (by simp) ?_)
 refine EvY.seq ?_
 refine EvY.cond (by simp only [go_sem] <;> rfl) (fun hc => ?_) (fun hc => ?_)
 rotate_left
 ·refine EvY.exit ⟨.inr rfl, .inl ?_⟩
  have hc : ¬ n < ks.length := by simpa using hc
  rw [hpre, List.drop_eq_nil_of_le (by omega)]; simp [alF]
 have hc : n < ks.length := by simpa using hc
 have hk : ks[n]? = some ks[n] := List.getElem?_eq_getElem hc
 rw [List.drop_eq_getElem_cons hc] at hpre
 generalize ks[n] = k at hk hpre
 obtain ⟨nZ, hnZ⟩ : ∃ z : Int, z = (n : Int) := ⟨_, rfl⟩
 have hnt : nZ.toNat = n := by omega
 rw [← hnZ]
 refine EvY.skip ?_
 refine EvY.seq ?_
 refine EvY.block ?_
 refine EvY.seqL hJ (EvC.rg (by simp only [go_sem, hk, hnt, intC] <;> rfl) (by simp; omega) ?_)
 refine EvY.frzB hJ 3 (by simp only [go_sem] <;> rfl) ?_
 refine EvY.seqL hJ ?_
 intro _
 refine EvC.k1L ?_ (h1 := by simp only [go_sem, Mach.cells] <;> rfl) (c1 := .ca (edges_is m))
 refine EvY.block ?_
 have hpk : ∀ p ∈ (#[18, 19] : Array Nat), p < 36 := by decide
 refine EvY.range hJ (gf := 96) (caps := [.ia m.cells]) (xs := (egL m).map pairC) (σ := List FA) (by simp only [go_sem] <;> rfl) (by simp only [go_sem, Mach.cells]) (edges1_seq hv) (fun x hx => by obtain ⟨p, _, rfl⟩ := List.mem_map.1 hx; rfl) hpk (Nat.zero_le _) (fun _ _ => []) (fun s => s.length)
  (fun j s => alF m ks = s ++ (alE m k ((egL m).drop j) ++ alF m (ks.drop (n + 1)))) ⟨pre, rfl, hpre, rfl⟩ ?_ ?_
 rotate_left
 ·intro s hs
  rw [List.drop_eq_nil_of_le (by simp)] at hs
  refine EvY.lift hJ (EvC.rg (by simp only [go_sem] <;> rfl) (by exact inI64_of (by omega) (by omega)) ?_)
  exact ⟨[], (n + 1, s), rfl, (by rw [hnZ]; simp only [go_sem, Int.natCast_add, Int.natCast_one] <;> rfl), ⟨hc, by simp only; rw [hs]; rfl⟩, rfl, by simp only; omega⟩
 clear hpre
 intro j pre l2 hj hpre
 have hj' : j < (egL m).length := by simpa using hj
 have hge : ((egL m).map pairC)[j] = pairC (egL m)[j] := List.getElem_map _
 rw [hge]
 rw [List.drop_eq_getElem_cons hj'] at hpre
 have hdf := egS_def m _ _ (List.getElem_mem hj')
 change definedB m (egL m)[j].1 (egL m)[j].2 = true at hdf
 generalize (egL m)[j] = p at hpre hdf ⊢
 obtain ⟨s, i⟩ := p
 have hpre : alF m ks = pre ++ (ofF m k s i ++ (alE m k ((egL m).drop (j + 1)) ++ alF m (ks.drop (n + 1)))) := by rw [hpre]; simp [alE]
 clear hge
 simp only at hdf
 rw [pairC]
 refine EvC.a ?_
 refine EvC.b ?_
 refine ⟨rfl, ?_⟩
 simp only [St.fin, List.length_cons, List.length_nil, List.cons_append, List.nil_append, Nat.reduceAdd]
 refine EvY.block ?_
 have q := of97_is hv k s i hdf
 have hfl := ofF_len hv k s i
 generalize ofF m k s i = L at q hfl hpre
 refine EvY.seqL hJ ?_
 intro _
 refine EvC.k1L ?_ (h1 := by simp only [go_sem, Mach.cells] <;> rfl) (c1 := .ca q) (h2 := by simp only [go_sem, List.length_map] <;> rfl)
 refine EvY.block ?_
 refine EvY.loopS hJ (σ := Nat × List FA) (fun g => ⟨[(1, .ia [.sl kn (ks.map intC) kc]), (2, .ia m.cells), (3, .ia [.sc (yv lp)]), (24, .sl L.isEmpty (L.map FA.cells) .unk), (25, .sc (.int .i64 L.length)), (26, .sc (.int .i64 g.1))], [], [], 7⟩) (fun g => g.2.length) (fun g => L.length - g.1)
  (fun g => g.1 ≤ L.length ∧ alF m ks = g.2 ++ (L.drop g.1 ++ (alE m k ((egL m).drop (j + 1)) ++ alF m (ks.drop (n + 1))))) [1, 2, 3, 24, 25, 26] 7 ?_ ?_
 ·exact ⟨[], (0, pre), rfl, (by simp only [go_sem, Int.natCast_zero, Mach.cells] <;> rfl), ⟨Nat.zero_le _, hpre⟩, rfl⟩
 clear hpre
 rintro ⟨i2, pre⟩ ⟨hi2, hpre⟩
 simp only at hi2 hpre ⊢
 refine EvY.seqL hJ (EvC.rg (by simp only [go_sem] <;> rfl) (by simp) ?_)
 refine EvY.seq ?_
 refine EvY.cond (by simp only [go_sem] <;> rfl) (fun hc => ?_) (fun hc => ?_)
 rotate_left
 ·refine EvY.exit ?_
  have hc : ¬ i2 < L.length := by simpa using hc
  exact ⟨[], pre, rfl, rfl, by rw [hpre, List.drop_eq_nil_of_le (by omega)]; rfl, rfl⟩
 have hc : i2 < L.length := by simpa using hc
 have hf : L[i2]? = some L[i2] := List.getElem?_eq_getElem hc
 rw [List.drop_eq_getElem_cons hc] at hpre
 generalize L[i2] = f at hf hpre
 obtain ⟨a1, a2, a3, a4, a5, a6⟩ := f
 refine EvY.skip ?_
 refine EvY.seq ?_
 refine EvY.block ?_
 refine EvY.seqL hJ (EvC.rg (by simp only [go_sem, hf, FA.cells] <;> rfl) (by simp) ?_)
 refine EvY.frzB hJ 10 (by simp only [go_sem] <;> rfl) ?_
 refine EvY.seq (EvY.region ?_)
 have hlt : pre.length < ((alF m ks).map faV).length := by rw [hpre]; simp
 have hget : ((alF m ks).map faV)[pre.length] = faV ⟨a1, a2, a3, a4, a5, a6⟩ := by
  simp only [hpre]; simp
 refine XRY.run hJ (by simp only [go_sem] <;> rfl) (by simp) ?_
 refine XRY.yield hlt hy rfl rfl (by simp only [go_sem] <;> rfl) (by simp only [go_sem] <;> rfl) (by rw [hget]; simp only [go_sem, faV, FA.cells] <;> rfl) (by rw [hget]; simp only [go_sem, faV, FA.cells]) fun b => ?_
 refine XRY.done hJ (by simp only [go_sem] <;> rfl) rfl ?_
 cases b with
 | false =>
   refine EvY.cond_true (by simp only [go_sem] <;> rfl) ?_
   exact EvY.ret ⟨.inl rfl, .inr rfl⟩
 | true =>
   refine EvY.cond_false (by simp only [go_sem] <;> rfl) ?_
   refine EvY.skip ?_
   refine EvY.lift hJ (EvC.rg (by simp only [go_sem] <;> rfl) (by exact inI64_of (by omega) (by omega)) ?_)
   exact ⟨[], (i2 + 1, pre ++ [⟨a1, a2, a3, a4, a5, a6⟩]), rfl, (by simp only [go_sem, Int.natCast_add, Int.natCast_one] <;> rfl), ⟨hc, by simp only; rw [hpre]; simp⟩, by simp, by simp only; omega⟩
theorem all_is (m : Mach) (kn : Bool) (ks : List Int) (kc : Cp) : PureIs prog 76 [.ag m.cells, .sl kn (ks.map intC) kc] (.fn 88 [.ia [.sl kn (ks.map intC) kc], .ia m.cells]) := by
 refine PureIs.of1 2 [2, 3, 4] func76 ntmps76 results76 fun _ => ?_
 refine EvC.a ?_ (by simp only [go_sem, Mach.cells] <;> rfl)
 refine EvC.z 0 ?_
 refine EvC.z 1 ?_
 refine EvC.a ?_
 refine EvC.rz ?_
 simp only [go_sem]
 rfl
def kLast : List Int → Int → Option Int
 | [], l => some l
 | k :: ks, l => if k ≤ l ∨ 4 < k then none else kLast ks k
def readyR (m : Mach) (ks : List Int) (most : Int) : Int :=
 if checkM m ≠ 0 then checkM m else match kLast ks (-1) with
  | none => 1
  | some l => if inN most 65537 = false then 1 else if 3 ≤ l ∧ m.rows.length = 64 then 3 else 0
theorem ready_is (m : Mach) (hm : ∀ r ∈ m.rows, r.2.length < 1000000) (kn : Bool) (ks : List Int) (kc : Cp) (hks : ks.length < 1000000) (most : Int) :
  PureIs prog 75 [.ag m.cells, .sl kn (ks.map intC) kc, .sc (.int .i64 most)] (.sc (.int .i64 (readyR m ks most))) := by
 refine PureIs.of1 3 [3, 6, 7, 8, 9, 10, 14, 16, 17, 18, 19, 28, 33, 41] func75 ntmps75 results75 fun _ => ?_
 refine EvC.a ?_ (by simp only [go_sem, Mach.cells] <;> rfl)
 refine EvC.z 0 ?_
 refine EvC.seq ?_
 refine EvC.k1 ?_ (h1 := by simp only [go_sem, Mach.cells] <;> rfl) (c1 := .ca (check_is m hm))
 unfold readyR
 by_cases h0 : checkM m = 0
 rotate_left
 ·refine EvC.a ?_
  refine EvC.ct ?_ (by simp only [go_sem, decide_eq_false h0] <;> rfl)
  refine EvC.a ?_
  rw [if_pos h0]
  refine EvC.rz ?_
  simp only [go_sem]
 rw [if_neg (show ¬ checkM m ≠ 0 from fun h => h h0)]
 refine EvC.a ?_
 refine EvC.cs ?_ (by simp only [go_sem, decide_eq_true h0] <;> rfl)
 refine EvC.a ?_
 refine EvC.seq ?_
 refine EvC.a ?_ (by simp only [go_sem, List.length_map] <;> rfl)
 refine EvC.block ?_
 refine EvC.loopS (σ := Nat × Int) (fun g => ⟨[(2, .sc (.int .i64 most)), (3, .ia m.cells), (8, .sc (.int .i64 g.2)), (16, .sl kn (ks.map intC) kc), (17, .sc (.int .i64 ks.length)), (18, .sc (.int .i64 g.1))], [], [], 0⟩) (fun g => ks.length - g.1)
  (fun g => g.1 ≤ ks.length ∧ kLast ks (-1) = kLast (ks.drop g.1) g.2) [2, 3, 8, 16, 17, 18] 0 ?_ ?_
 ·exact ⟨[], (0, -1), rfl, (by simp only [go_sem, Int.natCast_zero, Mach.cells] <;> rfl), Nat.zero_le _, rfl⟩
 rintro ⟨n, l⟩ ⟨hn, hl⟩
 simp only at hn hl ⊢
 refine EvC.a ?_
 refine EvC.seq ?_
 refine EvC.cond (by simp only [go_sem] <;> rfl) (fun hc => ?_) (fun hc => ?_)
 rotate_left
 ·refine EvC.exit ?_
  have hc : ¬ n < ks.length := by simpa using hc
  rw [List.drop_eq_nil_of_le (by omega)] at hl
  rw [hl, kLast]
  simp only
  refine EvC.seq ?_
  refine EvC.mergeS (α := Unit) (fun _ => ⟨[(3, .ia m.cells), (8, .sc (.int .i64 l)), (33, .sc (.bool (!inN most 65537)))], [], [], 0⟩) (fun _ => True) [3, 8, 33] 0 ?_ ?_
  ·refine EvC.k1L ?_ (c1 := .ca (within85_is most 65537))
   exact ⟨rfl, [], (), rfl, (by simp only [go_sem, Mach.cells] <;> rfl), trivial⟩
  rintro ⟨⟩ -
  by_cases hm : inN most 65537 = false
  ·rw [if_pos hm]
   refine EvC.ct ?_ (by simp only [go_sem, hm, Bool.not_false] <;> rfl)
   refine EvC.a ?_
   refine EvC.rz ?_
   simp only [go_sem]
  rw [if_neg hm]
  have hm : inN most 65537 = true := by simpa using hm
  refine EvC.cs ?_ (by simp only [go_sem, hm, Bool.not_true] <;> rfl)
  refine EvC.seq ?_
  by_cases h3 : 3 ≤ l ∧ m.rows.length = 64
  ·rw [if_pos h3]
   have h4 : decide ((m.rows.length : Int) = 64) = true := decide_eq_true (by omega)
   refine EvC.g ?_ (h := by simp only [go_sem, Mach.cells, List.length_map, decide_eq_true h3.1, h4] <;> rfl)
   refine EvC.ct ?_
   refine EvC.a ?_
   refine EvC.rz ?_
   simp only [go_sem]
  rw [if_neg h3]
  by_cases h5 : 3 ≤ l
  ·have h4 : decide ((m.rows.length : Int) = 64) = false := decide_eq_false (fun h => h3 ⟨h5, by omega⟩)
   refine EvC.g ?_ (h := by simp only [go_sem, Mach.cells, List.length_map, decide_eq_true h5, h4] <;> rfl)
   refine EvC.cs ?_
   refine EvC.a ?_
   refine EvC.rz ?_
   simp only [go_sem]
  ·refine EvC.g ?_ (h := by simp only [go_sem, Mach.cells, List.length_map, decide_eq_false h5] <;> rfl)
   refine EvC.cs ?_
   refine EvC.a ?_
   refine EvC.rz ?_
   simp only [go_sem]
 have hc : n < ks.length := by simpa using hc
 have hk : ks[n]? = some ks[n] := List.getElem?_eq_getElem hc
 rw [List.drop_eq_getElem_cons hc, kLast] at hl
 generalize ks[n] = k at hk hl
 obtain ⟨nZ, hnZ⟩ : ∃ z : Int, z = (n : Int) := ⟨_, rfl⟩
 have hnt : nZ.toNat = n := by omega
 rw [← hnZ]
 refine EvC.skip ?_
 refine EvC.seq ?_
 refine EvC.block ?_
 refine EvC.a ?_ (by simp only [go_sem, hk, hnt, intC] <;> rfl) (by simp; omega)
 refine EvC.seq ?_
 by_cases hb : k ≤ l ∨ 4 < k
 ·rw [if_pos hb] at hl
  rw [hl]
  simp only
  refine EvC.mergeS (α := Unit) (fun _ => ⟨[(28, .sc (.bool true))], [], [], 0⟩) (fun _ => True) [28] 0 ?_ ?_
  ·by_cases h1 : k ≤ l
   ·refine EvC.gL ?_ (h := by simp only [go_sem, decide_eq_true h1] <;> rfl)
    exact ⟨rfl, [], (), rfl, (by simp only [go_sem] <;> rfl), trivial⟩
   ·refine EvC.gL ?_ (h := by simp only [go_sem, decide_eq_false h1, decide_eq_true (hb.resolve_left h1)] <;> rfl)
    exact ⟨rfl, [], (), rfl, (by simp only [go_sem] <;> rfl), trivial⟩
  rintro ⟨⟩ -
  refine EvC.ct ?_
  refine EvC.a ?_
  refine EvC.rz ?_
  simp only [go_sem]
 rw [if_neg hb] at hl
 refine EvC.g ?_ (h := by simp only [go_sem, decide_eq_false (fun h => hb (.inl h)), decide_eq_false (fun h => hb (.inr h))] <;> rfl)
 refine EvC.cs ?_
 refine EvC.b ?_
 refine EvC.b ?_ (hok := by exact inI64_of (by omega) (by omega))
 exact ⟨[], (n + 1, k), rfl, (by rw [hnZ]; simp only [go_sem, Int.natCast_add, Int.natCast_one] <;> rfl), ⟨hc, hl⟩, by simp only; omega⟩
theorem clipF_is (nl : Bool) (es : List (List AV)) (c : Cp) (h : (es.all fun y => decide (y.length = 6)) = true) : PureIs prog 77 [.sl nl es c] (.sl nl es .full) := by
 refine PureIs.of1 3 [] func77 ntmps77 results77 fun _ => ?_
 refine EvC.seq (EvC.rg (by simp only [go_sem] <;> rfl) rfl ?_)
 refine EvC.a ?_ (hok := by simp [h])
 refine EvC.ret ⟨.inl rfl, _, (by simp only [go_sem] <;> rfl), rfl, rfl⟩
theorem fa_six (L : List FA) : ((L.map FA.cells).all fun y => decide (y.length = 6)) = true := by simp [List.all_eq_true, FA.cells]
def allR (m : Mach) (ks : List Int) (most : Int) : Int :=
 if readyR m ks most ≠ 0 then readyR m ks most else if most < (alF m ks).length then 13 else 0
theorem alE_len {m : Mach} (hv : Valid m) (k : Int) : ∀ ps : List (Int × Int), (alE m k ps).length ≤ ps.length * 256
 | [] => Nat.le_refl _
 | p :: ps => by
   have h1 := alE_len hv k ps
   have h2 := ofF_len hv k p.1 p.2
   have h3 : alE m k (p :: ps) = ofF m k p.1 p.2 ++ alE m k ps := by simp [alE]
   rw [h3, List.length_append, List.length_cons]; omega
theorem egI_len (m : Mach) (s : Int) : ∀ n, (egI m s n).length ≤ n
 | 0 => Nat.le_refl _
 | n + 1 => by
   have := egI_len m s n
   rw [egI, List.length_append]; split <;> simp <;> omega
theorem egS_len {m : Mach} (hv : Valid m) : ∀ n, (egS m n).length ≤ n * 16
 | 0 => Nat.le_refl _
 | n + 1 => by
   have := egS_len hv n
   have := egI_len m n m.ins.toNat
   have := hv.ins
   rw [egS, List.length_append]; omega
theorem alF_len {m : Mach} (hv : Valid m) : ∀ ks : List Int, (alF m ks).length ≤ ks.length * 262144
 | [] => Nat.le_refl _
 | k :: ks => by
   have h1 := alF_len hv ks
   have h2 := alE_len hv k (egL m)
   have h4 := egS_len hv m.rows.length
   have := hv.rows
   have h3 : alF m (k :: ks) = alE m k (egL m) ++ alF m ks := by simp [alF]
   have h5 : (egL m).length = (egS m m.rows.length).length := rfl
   rw [h3, List.length_append, List.length_cons]; omega
theorem readyR_ok {m : Mach} {ks : List Int} {most : Int} (h : readyR m ks most = 0) : checkM m = 0 ∧ 0 ≤ most ∧ most < 65537 ∧ ∃ l, kLast ks (-1) = some l := by
 unfold readyR at h
 split at h
 ·rename_i h1; exact absurd h h1
 ·rename_i h1
  cases hk : kLast ks (-1) with
  | none => rw [hk] at h; cases h
  | some l =>
    rw [hk] at h
    simp only at h
    split at h
    ·cases h
    ·rename_i h2
     have h2 : inN most 65537 = true := by simpa using h2
     unfold inN at h2
     simp only [Bool.and_eq_true, decide_eq_true_eq] at h2
     exact ⟨by simpa using h1, h2.1, h2.2, l, rfl⟩
theorem norefs_mcells (m : Mach) : AV.norefs m.cells = true := by
 have h : (m.rows.map rowC).all AV.norefs = true := by
  rw [List.all_eq_true]
  intro c hc
  obtain ⟨r, _, rfl⟩ := List.mem_map.1 hc
  exact rowC_norefs r
 simp [Mach.cells, AV.norefs, AV.noref, h]
theorem norefs_machs (ms : List Mach) : (ms.map Mach.cells).all AV.norefs = true := by
 rw [List.all_eq_true]
 intro c hc
 obtain ⟨r, _, rfl⟩ := List.mem_map.1 hc
 exact norefs_mcells r
def errFs (m : Mach) : List FA → Int
 | [] => 0
 | f :: r => if checkF m f = 0 then errFs m r else checkF m f
def mutErr (m : Mach) (fs : List FA) : Int := if checkM m ≠ 0 then checkM m else if 256 < (fs.length : Int) then 3 else errFs m fs
def mutsA (m : Mach) (fs : List FA) : AV :=
 if mutErr m fs = 0 then .tu [.sl fs.isEmpty ((fs.map (mutF m)).map Mach.cells) .unk, .sc (.int .i64 0)] else .tu [.sl true [] .unk, .sc (.int .i64 (mutErr m fs))]
theorem errFs_zero {m : Mach} : ∀ {fs : List FA}, errFs m fs = 0 → ∀ f ∈ fs, checkF m f = 0
 | [], _, _, h => by cases h
 | g :: r, h, f, hf => by
   unfold errFs at h
   split at h
   ·rename_i h0
    rcases List.mem_cons.1 hf with rfl | hf
    ·exact h0
    ·exact errFs_zero h f hf
   ·contradiction
def mutC (m : Mach) (fs : List FA) (k : Nat) : List (List AV) := ((fs.take k).map (mutF m)).map Mach.cells
theorem mutC_succ {m : Mach} {fs : List FA} {k : Nat} {f : FA} (h : fs[k]? = some f) : mutC m fs k ++ [(mutF m f).cells] = mutC m fs (k + 1) := by
 obtain ⟨hi, he⟩ := List.getElem?_eq_some_iff.1 h
 unfold mutC
 rw [List.take_succ_eq_append_getElem hi, he, List.map_append, List.map_append]; rfl
theorem mutC_len {m : Mach} {fs : List FA} {k : Nat} (h : k ≤ fs.length) : (mutC m fs k).length = k := by simp [mutC]; omega
@[go_sem] theorem norefs_mutC (m : Mach) (fs : List FA) (k : Nat) : (mutC m fs k).all AV.norefs = true := norefs_machs _
theorem mutErr_ok {m : Mach} {fs : List FA} (h : mutErr m fs = 0) : checkM m = 0 ∧ fs.length ≤ 256 ∧ errFs m fs = 0 := by
 unfold mutErr at h
 split at h
 ·rename_i h1; exact absurd h h1
 ·rename_i h1
  split at h
  ·cases h
  ·exact ⟨by simpa using h1, by omega, h⟩
theorem equal53_is (na nb : Bool) (a b : List Int) (ca cb : Cp) (hl : a.length < 1000000) :
  PureIs prog 38 [.sl na (a.map intC) ca, .sl nb (b.map intC) cb] (.sc (.bool (decide (a = b)))) := by
 refine PureIs.of1 2 [4, 5, 10, 12, 13, 14, 24] func38 ntmps38 results38 fun _ => ?_
 refine EvC.a ?_
 refine EvC.seq ?_
 refine EvC.a ?_ (by simp only [go_sem, List.length_map] <;> rfl)
 by_cases hlen : a.length = b.length
 rotate_left
 ·have hd : decide ((a.length : Int) = (b.length : Int)) = false := decide_eq_false (by omega)
  have hab : decide (a = b) = false := decide_eq_false fun h => hlen (by rw [h])
  rw [hab]
  refine EvC.ct ?_ (by simp only [go_sem, hd] <;> rfl)
  refine EvC.a ?_
  refine EvC.rz ?_
  simp only [go_sem]
 have hd : decide ((a.length : Int) = (b.length : Int)) = true := decide_eq_true (by omega)
 refine EvC.cs ?_ (by simp only [go_sem, hd] <;> rfl)
 refine EvC.seq ?_
 refine EvC.a ?_ (by simp only [go_sem, List.length_map] <;> rfl)
 refine EvC.block ?_
 refine EvC.loopS (σ := Nat) (fun i => ⟨[(0, .sl na (a.map intC) ca), (1, .sl nb (b.map intC) cb), (12, .sc (.int .i64 a.length)), (13, .sc (.int .i64 i))], [], [], 0⟩) (fun i => a.length - i) (fun i => i ≤ a.length ∧ decide (a = b) = decide (a.drop i = b.drop i)) [0, 1, 12, 13] 0 ?_ ?_
 ·exact ⟨[], 0, rfl, (by simp only [go_sem, Int.natCast_zero] <;> rfl), Nat.zero_le _, rfl⟩
 rintro i ⟨hi, hinv⟩
 refine EvC.a ?_
 refine EvC.seq ?_
 refine EvC.cond (by simp only [go_sem] <;> rfl) (fun hc => ?_) (fun hc => ?_)
 rotate_left
 ·
  refine EvC.exit ?_
  obtain rfl : a.length = i := by have : ¬ i < a.length := by simpa using hc
                                  omega
  have h0 : decide (a = b) = true := by rw [hinv, List.drop_length, hlen, List.drop_length]; rfl
  rw [h0]
  refine EvC.a ?_
  refine EvC.rz ?_
  simp only [go_sem]
 have hil : i < a.length := by simpa using hc
 clear hc
 have he : a[i]? = some (a[i]'hil) := List.getElem?_eq_getElem hil
 have hf : b[i]? = some (b[i]'(by omega)) := List.getElem?_eq_getElem (by omega)
 generalize a[i]'hil = x at he
 generalize b[i]'(by omega) = y at hf
 rw [list_step he, list_step hf] at hinv
 have hin : (i : Int).toNat = i := Int.toNat_natCast i
 refine EvC.skip ?_
 refine EvC.seq ?_
 refine EvC.block ?_
 refine EvC.a ?_
 refine EvC.d mixed ?_ (h := by simp only [go_sem, he, hf, intC, hin, List.length_map] <;> rfl) (hok := by simp; try omega)
 by_cases hxy : x = y
 ·subst hxy
  refine EvC.cs ?_
  refine EvC.b ?_ (hok := by exact inI64_of (by omega) (by omega))
  exact ⟨[], i + 1, rfl, (by simp only [go_sem, Int.natCast_add, Int.natCast_one] <;> rfl), ⟨hil, by rw [hinv]; simp⟩, by omega⟩
 ·have d1 : decide (x = y) = false := decide_eq_false hxy
  refine EvC.ct ?_ (by simp only [go_sem, d1] <;> rfl)
  refine EvC.a ?_
  rw [hinv]
  refine EvC.rz ?_
  simp only [go_sem]
  simp [hxy]
theorem mutF_noNil (m : Mach) (f : FA) : NoNil (mutF m f) := by
 have hput : ∀ (s i : Int) (e : Int × Int), ∀ r ∈ putR m s i e, r.1 = false := by
  intro s i e r hr
  unfold putR copyR at hr
  rcases List.mem_or_eq_of_mem_set hr with h | rfl
  ·obtain ⟨q, _, rfl⟩ := List.mem_map.1 h; rfl
  ·rfl
 have h : ∀ r ∈ mutRows m f, r.1 = false := by
  intro r hr
  unfold mutRows at hr
  split at hr
  ·exact hput _ _ _ r hr
  split at hr
  ·exact hput _ _ _ r hr
  split at hr
  ·exact hput _ _ _ r hr
  split at hr
  ·rcases List.mem_append.1 hr with h | h
   ·exact hput _ _ _ r h
   ·rw [List.mem_singleton] at h; rw [h]
  ·rcases List.mem_append.1 hr with h | h
   ·exact hput _ _ _ r h
   ·rw [List.mem_singleton] at h; rw [h]
 intro r hr h1
 rw [h r hr] at h1
 cases h1
theorem fitsR_mono {k k2 : Nat} {o a b : Int} (hk : k ≤ k2) (h : fitsR k o a b = true) : fitsR k2 o a b = true := by
 unfold fitsR at h ⊢
 simp only [Bool.or_eq_true, Bool.and_eq_true, decide_eq_true_eq] at h ⊢
 omega
theorem fitsR_in {k : Nat} {o a b : Int} (h1 : 0 ≤ a ∧ a < k) (h2 : 0 ≤ b ∧ b < o) : fitsR k o a b = true := by
 unfold fitsR
 simp only [Bool.or_eq_true, Bool.and_eq_true, decide_eq_true_eq]
 omega
theorem fitsR_none (k : Nat) (o : Int) : fitsR k o (-1) (-1) = true := by
 unfold fitsR
 simp
theorem stepM_out {m : Mach} (hv : Valid m) {s i : Int} (hd : definedB m s i = true) : 0 ≤ (stepM m s i).2 ∧ (stepM m s i).2 < m.outs := by
 obtain ⟨h1, h2, h3⟩ := definedB_iff.1 hd
 obtain ⟨r, _, _, k3⟩ := stepM_get hv h1 h2
 unfold fitsR at k3
 simp only [Bool.or_eq_true, Bool.and_eq_true, decide_eq_true_eq] at k3
 omega
def RowV (m : Mach) (k : Nat) (r : Row) : Prop := (r.2.length : Int) = m.ins ∧ ∀ e ∈ r.2, fitsR k m.outs e.1 e.2 = true
theorem RowV.set {m : Mach} {k : Nat} {l : List (Int × Int)} (h : RowV m k (false, l)) (i : Nat) {e : Int × Int} (he : fitsR k m.outs e.1 e.2 = true) : RowV m k (false, l.set i e) := by
 refine ⟨by simpa using h.1, fun x hx => ?_⟩
 rcases List.mem_or_eq_of_mem_set hx with h1 | rfl
 ·exact h.2 x h1
 ·exact he
theorem putR_rowV {m : Mach} (hv : Valid m) {s i : Int} (hs : 0 ≤ s ∧ s < m.rows.length) {e : Int × Int} {k : Nat} (hk : m.rows.length ≤ k) (he : fitsR k m.outs e.1 e.2 = true) : ∀ r ∈ putR m s i e, RowV m k r := by
 intro r hr
 have hb : ∀ q ∈ m.rows, RowV m k (false, q.2) := fun q hq => ⟨(hv.row q hq).1, fun x hx => fitsR_mono hk ((hv.row q hq).2 x hx)⟩
 unfold putR copyR at hr
 rcases List.mem_or_eq_of_mem_set hr with h | rfl
 ·obtain ⟨q, hq, rfl⟩ := List.mem_map.1 h
  exact hb q hq
 ·have h5 : m.rows[s.toNat]? = some (m.rows[s.toNat]'(by omega)) := List.getElem?_eq_getElem (by omega)
  have hrt : rowAt m s = (m.rows[s.toNat]'(by omega)).2 := by unfold rowAt; rw [h5]; rfl
  rw [hrt]
  exact (hb _ (List.getElem_mem _)).set _ he
theorem putR_len (m : Mach) (s i : Int) (e : Int × Int) : (putR m s i e).length = m.rows.length := by simp [putR, copyR]
theorem Valid.mk' {m : Mach} (hv : Valid m) {rs : List Row} (h1 : m.rows.length ≤ rs.length) (h2 : rs.length ≤ 64) (h : ∀ r ∈ rs, RowV m rs.length r) : Valid ⟨m.ins, m.outs, false, rs⟩ :=
 ⟨hv.ins, hv.outs, ⟨by have := hv.rows; show 1 ≤ rs.length; omega, h2⟩, fun r hr => h r hr⟩
theorem mutF_valid {m : Mach} (hv : Valid m) {f : FA} (hc : checkF m f = 0) : Valid (mutF m f) := by
 unfold checkF at hc
 split at hc
 rotate_left
 ·cases hc
 rename_i hfb
 split at hc
 ·cases hc
 rename_i h64
 unfold faultB at hfb
 simp only [Bool.and_eq_true] at hfb
 obtain ⟨hp, hd, hkb⟩ := hfb
 have hst := stepM_out hv hd
 obtain ⟨r, h1, h2, he⟩ := step_in hv hd
 obtain ⟨b1, b2, _⟩ := definedB_iff.1 hd
 have hr64 := hv.rows.2
 unfold kindB at hkb
 unfold mutF mutRows
 split
 ·rename_i h0
  rw [if_pos h0] at hkb
  simp only [Bool.and_eq_true, inN, decide_eq_true_eq] at hkb
  exact hv.mk' (by rw [putR_len]; omega) (by rw [putR_len]; omega) (by rw [putR_len]; exact putR_rowV hv b1 (Nat.le_refl _) (fitsR_in he hkb.1))
 rename_i h0
 rw [if_neg h0] at hkb
 split
 ·rename_i h1
  rw [if_pos h1] at hkb
  simp only [Bool.and_eq_true, inN, decide_eq_true_eq] at hkb
  exact hv.mk' (by rw [putR_len]; omega) (by rw [putR_len]; omega) (by rw [putR_len]; exact putR_rowV hv b1 (Nat.le_refl _) (fitsR_in hkb.1 hst))
 rename_i h1
 rw [if_neg h1] at hkb
 split
 ·rename_i h2
  exact hv.mk' (by rw [putR_len]; omega) (by rw [putR_len]; omega) (by rw [putR_len]; exact putR_rowV hv b1 (Nat.le_refl _) (fitsR_none _ _))
 rename_i h2
 rw [if_neg h2] at hkb
 have h3k : 3 ≤ f.kind := by
  have := plainB_kind hp
  omega
 have h64' : m.rows.length + 1 ≤ 64 := by omega
 have hput : ∀ r ∈ putR m f.state f.input ((m.rows.length : Int), (stepM m f.state f.input).2), RowV m (m.rows.length + 1) r := putR_rowV hv b1 (by omega) (fitsR_in (by simp; omega) hst)
 have hone : ∀ (t : Int), 0 ≤ t ∧ t < m.rows.length → RowV m (m.rows.length + 1) (false, rowAt m t) := by
  intro t ht
  have h5 : m.rows[t.toNat]? = some (m.rows[t.toNat]'(by omega)) := List.getElem?_eq_getElem (by omega)
  have hrt : rowAt m t = (m.rows[t.toNat]'(by omega)).2 := by unfold rowAt; rw [h5]; rfl
  rw [hrt]
  have hq := hv.row _ (List.getElem_mem (show t.toNat < m.rows.length by omega))
  exact ⟨hq.1, fun x hx => fitsR_mono (by omega) (hq.2 x hx)⟩
 split
 ·rename_i h3
  rw [if_pos h3] at hkb
  simp only [inN, Bool.and_eq_true, decide_eq_true_eq] at hkb
  have hl : (putR m f.state f.input ((m.rows.length : Int), (stepM m f.state f.input).2) ++ [((false, rowAt m f.to) : Row)]).length = m.rows.length + 1 := by rw [List.length_append, putR_len]; rfl
  refine hv.mk' (by omega) (by omega) ?_
  rw [hl]
  intro q hq
  rcases List.mem_append.1 hq with h | h
  ·exact hput q h
  ·rw [List.mem_singleton] at h
   rw [h]
   exact hone _ hkb
 ·rename_i h3
  rw [if_neg h3] at hkb
  simp only [inN, Bool.and_eq_true, decide_eq_true_eq] at hkb
  obtain ⟨ho, hd2, _⟩ := hkb
  have he2 := (step_in hv hd2).choose_spec.2.2
  have hl : (putR m f.state f.input ((m.rows.length : Int), (stepM m f.state f.input).2) ++ [((false, (rowAt m (stepM m f.state f.input).1).set f.at'.toNat ((stepM m (stepM m f.state f.input).1 f.at').1, f.out)) : Row)]).length = m.rows.length + 1 := by rw [List.length_append, putR_len]; rfl
  refine hv.mk' (by omega) (by omega) ?_
  rw [hl]
  intro q hq
  rcases List.mem_append.1 hq with h | h
  ·exact hput q h
  ·rw [List.mem_singleton] at h
   rw [h]
   exact (hone _ he).set _ (fitsR_in (by omega) ho)
open Go Go.ChangeShapes Go.RowKit
def Live (w : World) : Nat → Nat → Prop := fun b _ => b < w.heap.size
section
variable {H : Type} {enc : TypeId × Value → H} {P : Program} {w : World} {α β : Type}
def Fits (P : Program) (t : TypeId) (d : DataW H) : Prop := ∀ n ∈ d.weights P t, n ≤ reachBytes
theorem fits_all {P : Program} {e : TypeId} : ∀ {l : List (DataW H)}, (∀ n ∈ DataW.weightsAll P e l, n ≤ reachBytes) → ∀ d ∈ l, Fits P e d
 | [], _, d, hd => by cases hd
 | a :: l, h, d, hd => by
   simp only [DataW.weightsAll, List.mem_append] at h
   rcases List.mem_cons.1 hd with rfl | hd
   ·exact fun n hn => h n (.inl hn)
   ·exact fits_all (fun n hn => h n (.inr hn)) d hd
theorem fits_each {P : Program} : ∀ {ts : List TypeId} {l : List (DataW H)}, (∀ n ∈ DataW.weightsEach P ts l, n ≤ reachBytes) → ∀ (i : Nat) t d, ts[i]? = some t → l[i]? = some d → Fits P t d
 | [], _, _, i, t, d, h1, _ => by simp at h1
 | _ :: _, [], _, i, t, d, _, h2 => by simp at h2
 | a :: ts, b :: l, h, i, t, d, h1, h2 => by
   simp only [DataW.weightsEach, List.mem_append] at h
   cases i with
   | zero =>
     simp only [List.getElem?_cons_zero, Option.some.injEq] at h1 h2
     subst h1; subst h2
     exact fun n hn => h n (.inl hn)
   | succ i => exact fits_each (fun n hn => h n (.inr hn)) i t d (by simpa using h1) (by simpa using h2)
def Reads (enc : TypeId × Value → H) (P : Program) (w : World) (t : TypeId) (f : α → List AV) (Ok : α → Prop) : Prop :=
 ∀ fuel cs x, Fits P t x.1 → DataW.trod enc P w 0 (fun _ => true) true fuel t cs = some x →
   ∃ a, Ok a ∧ Imms (Live w) w cs (f a) ∧ ∀ v ∈ cs, v.oneCell' = true
theorem Imms.one {F : Nat → Nat → Prop} {v : Value} {x : AV} (h : Imm F w v x) : Imms F w [v] [x] :=
 ⟨rfl, fun i h1 _ => by have : i = 0 := by simpa using h1
                        subst this; exact h⟩
theorem Imms.append {F : Nat → Nat → Prop} {vs vs' : List Value} {xs xs' : List AV} (h : Imms F w vs xs) (h' : Imms F w vs' xs') : Imms F w (vs ++ vs') (xs ++ xs') := by
 have e := h.1
 have e' := h'.1
 refine ⟨by simp [e, e'], fun i h1 h2 => ?_⟩
 by_cases hi : i < vs.length
 ·rw [List.getElem_append_left hi, List.getElem_append_left (by omega)]; exact h.2 i _ _
 ·rw [List.getElem_append_right (by omega), List.getElem_append_right (by omega)]
  have := h'.2 (i - vs.length) (by simp at h1; omega) (by simp at h2; omega)
  simpa only [e] using this
theorem Reads.mono {t : TypeId} {f : α → List AV} {Ok : α → Prop} {g : β → List AV} {Ok' : β → Prop} (h : Reads enc P w t f Ok) (hq : ∀ a, Ok a → ∃ b, Ok' b ∧ g b = f a) : Reads enc P w t g Ok' :=
 fun fuel cs x hs ht => let ⟨a, h1, h2, h3⟩ := h fuel cs x hs ht; let ⟨b, k1, k2⟩ := hq a h1; ⟨b, k1, by rw [k2]; exact h2, h3⟩
theorem Reads.int {t : TypeId} {k : IntKind} (ht : P.underlying t = some (.int k)) : Reads enc P w t (fun n : Int => [.sc (.int k n)]) (fun n => (Lit.int k n).wf = true) := fun fuel cs x _ h => by
 obtain ⟨n, rfl, rfl, hw⟩ := DataW.trod_int ht h
 exact ⟨n, hw, .one (.sc _), by simp [Value.oneCell']⟩
theorem Reads.bool {t : TypeId} (ht : P.underlying t = some .bool) : Reads enc P w t (fun b : Bool => [.sc (.bool b)]) (fun _ => True) := fun fuel cs x _ h => by
 obtain ⟨b, rfl, rfl⟩ := DataW.trod_bool ht h
 exact ⟨b, trivial, .one (.sc _), by simp [Value.oneCell']⟩
theorem pick {α : Type} {p : Nat → α → Prop} (n : Nat) (h : ∀ i, i < n → ∃ a, p i a) : ∃ l : List α, l.length = n ∧ ∀ i (hi : i < l.length), p i l[i] := by
 induction n with
 | zero => exact ⟨[], rfl, fun i hi => by simp at hi⟩
 | succ n ih =>
   obtain ⟨l, h1, h2⟩ := ih fun i hi => h i (by omega)
   obtain ⟨a, ha⟩ := h n (by omega)
   refine ⟨l ++ [a], by simp [h1], fun i hi => ?_⟩
   by_cases h3 : i < l.length
   ·rw [List.getElem_append_left h3]; exact h2 i h3
   ·have : i = l.length := by simp at hi; omega
    subst this
    rw [List.getElem_append_right (Nat.le_refl _)]
    simpa [h1] using ha
theorem Reads.slice {t e : TypeId} {f : α → List AV} {Ok : α → Prop} (ht : P.underlying t = some (.slice e)) (he : Reads enc P w e f Ok) (hz : ∀ a, (f a).length = P.cellsOf e) (hz0 : 0 < P.cellsOf e) :
  Reads enc P w t (fun x : Bool × List α => [.sl x.1 (x.2.map f) .unk]) (fun x => (∀ y ∈ x.2, Ok y) ∧ (x.1 = true → x.2 = []) ∧ x.2.length * P.bytesOf e ≤ reachBytes) := fun fuel cs x hs h => by
 rcases DataW.trod_slice ht h with ⟨rfl, rfl⟩ | ⟨a, len, cap, elems, rest, n, rfl, rfl, rfl, _, hlc, hcm, hlen, hel, hrest, _⟩
 ·exact ⟨(true, []), ⟨by simp, fun _ => rfl, by simp⟩, .one (.nil _ (.inl rfl)), by simp [Value.oneCell']⟩
 unfold Fits at hs
 simp only [DataW.weights, ht, List.mem_cons, List.mem_append, List.length_map] at hs
 have hbytes : len * P.bytesOf e ≤ reachBytes := by
  have := hs _ (.inl rfl)
  rw [hlen, Nat.add_mul] at this; omega
 have hfit : ∀ i (hi : i < elems.length), Fits P e elems[i].1 := fun i hi =>
  fits_all (l := elems.map (·.1)) (fun n hn => hs n (.inr (.inl hn))) _ (List.mem_map.2 ⟨_, List.getElem_mem hi, rfl⟩)
 by_cases hc0 : cap = 0
 ·have hl0 : len = 0 := by omega
  subst hc0; subst hl0
  exact ⟨(false, []), ⟨by simp, by simp, by simp⟩, .one (.sz a _ (.inl rfl)), by simp [Value.oneCell']⟩
 have hfirst : ∃ v, w.cell? a = some v := by
  have hcells : ∃ cs', w.cells? 0 a (P.cellsOf e) = some cs' := by
   by_cases hl0 : len = 0
   ·subst hl0
    have h1 := (hrest rfl).2 0 (by omega)
    rw [List.getElem?_eq_getElem (by rw [(hrest rfl).1]; omega)] at h1
    obtain ⟨cs', h2, _⟩ := Option.bind_eq_some_iff.1 h1
    refine ⟨cs', ?_⟩
    simpa [Addr.add] using h2
   ·have h1 := hel 0 (by omega)
    rw [List.getElem?_eq_getElem (by omega)] at h1
    obtain ⟨cs', h2, _⟩ := Option.bind_eq_some_iff.1 h1
    refine ⟨cs', ?_⟩
    simpa [Addr.add] using h2
  obtain ⟨cs', h2⟩ := hcells
  obtain ⟨_, q1, q2⟩ := World.cells?_some h2
  have := q2 0 hz0
  rw [List.getElem?_eq_getElem (by omega)] at this
  exact ⟨_, by simpa [Addr.add] using this⟩
 have hsp : a.spot = none := by
  obtain ⟨v, hv⟩ := hfirst
  unfold World.cell? at hv
  cases hsp : a.spot with
  | none => rfl
  | some k =>
    rw [hsp] at hv
    split at hv <;> simp at hv
 obtain ⟨b, off, spt⟩ := a
 cases hsp
 have key : ∀ i, i < len → ∃ y : α, Ok y ∧ ∃ cs', cs'.length = P.cellsOf e ∧ (∀ j (hj : j < cs'.length), w.cell? ⟨b, off + i * P.cellsOf e + j, none⟩ = some cs'[j]) ∧ Imms (Live w) w cs' (f y) ∧ ∀ v ∈ cs', v.oneCell' = true := fun i hi => by
  have h1 := hel i hi
  rw [List.getElem?_eq_getElem (by omega)] at h1
  obtain ⟨cs', h2, h3⟩ := Option.bind_eq_some_iff.1 h1
  obtain ⟨y, k1, k2, k3⟩ := he _ _ _ (hfit i (by omega)) h3
  obtain ⟨_, q1, q2⟩ := World.cells?_some h2
  refine ⟨y, k1, cs', q1, fun j hj => ?_, k2, k3⟩
  have := q2 j (by omega)
  rw [List.getElem?_eq_getElem hj] at this
  rw [← this]
  congr 1
  unfold Addr.add
  by_cases e1 : i * P.cellsOf e = 0
  ·rw [if_pos e1]
   by_cases e2 : j = 0
   ·subst e2; simp [e1]
   ·rw [if_neg e2]; simp [e1]
  ·rw [if_neg e1]
   by_cases e2 : j = 0
   ·subst e2; simp
   ·rw [if_neg e2]
 obtain ⟨l, hl, hp⟩ := pick len key
 refine ⟨(false, l), ⟨fun y hy => ?_, by simp, by rw [hl]; exact hbytes⟩, .one ?_, by simp [Value.oneCell']⟩
 ·obtain ⟨i, hi, rfl⟩ := List.getElem_of_mem hy
  exact (hp i hi).1
 ·
  have hcell : ∀ i j, i < len → j < P.cellsOf e → ∃ v, w.cell? ⟨b, off + i * P.cellsOf e + j, none⟩ = some v ∧ v.oneCell' = true ∧ ∀ (h : i < l.length) (h' : j < (f l[i]).length), Imm (Live w) w v (f l[i])[j] := fun i j hi hj => by
   obtain ⟨_, cs', q1, q2, q3, q4⟩ := hp i (by omega)
   exact ⟨cs'[j], q2 j (by omega), q4 _ (List.getElem_mem _), fun h h' => q3.2 j (by omega) h'⟩
  have hv := fun i j => show ∃ v, i < len → j < P.cellsOf e → w.cell? ⟨b, off + i * P.cellsOf e + j, none⟩ = some v ∧ v.oneCell' = true ∧ ∀ (h : i < l.length) (h' : j < (f l[i]).length), Imm (Live w) w v (f l[i])[j] from by
   by_cases h : i < len ∧ j < P.cellsOf e
   ·obtain ⟨v, hv⟩ := hcell i j h.1 h.2; exact ⟨v, fun _ _ => hv⟩
   ·exact ⟨undef, fun h1 h2 => absurd ⟨h1, h2⟩ h⟩
  have hvs : ∀ i j, ∃ v, v = Classical.choose (hv i j) := fun i j => ⟨_, rfl⟩
  have e0 : (l.map f).length = len := by simp [hl]
  have := Imm.sl (F := Live w) (w := w) b off cap (P.cellsOf e) (l.map f) .unk (fun i j => Classical.choose (hv i j)) (by rw [e0]; exact hlc) (.inl rfl) (fun i hi => by rw [List.getElem_map]; exact hz _)
   (fun i j hi hj => by
    obtain ⟨k1, k2, _⟩ := Classical.choose_spec (hv i j) (by rw [← e0]; exact hi) hj
    refine ⟨?_, k1, k2⟩
    unfold World.cell? at k1
    show b < w.heap.size
    cases hb : w.heap[b]? with
    | none => simp [hb] at k1
    | some o => exact (Array.getElem?_eq_some_iff.1 hb).1)
   (fun i j h h' => by
    have h'2 := h'
    rw [List.getElem_map, hz] at h'2
    have := (Classical.choose_spec (hv i j) (by rw [← e0]; exact h) h'2).2.2 (by simpa using h) (by rw [hz]; exact h'2)
    simpa only [List.getElem_map] using this)
  rw [e0] at this
  exact this
def RdF (enc : TypeId × Value → H) (P : Program) (w : World) (L : List Field) (k tot : Nat) (f : α → List AV) (Ok : α → Prop) : Prop :=
 ∀ (n : Nat) (cs : List Value), cs.length = tot → (∀ fd ∈ L, ∃ y, DataW.trod enc P w 0 (fun _ => true) true n fd.type ((cs.drop fd.offset).take (P.cellsOf fd.type)) = some y ∧ Fits P fd.type y.1) →
   ∃ a, Ok a ∧ Imms (Live w) w (cs.drop k) (f a) ∧ ∀ v ∈ cs.drop k, v.oneCell' = true
theorem RdF.nil {tot : Nat} : RdF enc P w [] tot tot (fun _ : Unit => []) (fun _ => True) := fun n cs hl _ => by
 have : cs.drop tot = [] := by rw [List.drop_eq_nil_iff]; omega
 rw [this]
 exact ⟨(), trivial, ⟨rfl, fun i h => by simp at h⟩, by simp⟩
theorem RdF.cons {fd : Field} {fs : List Field} {k k' sz tot : Nat} {f : α → List AV} {Ok : α → Prop} {g : β → List AV} {Ok' : β → Prop} (ho : fd.offset = k) (hz : P.cellsOf fd.type = sz) (hk : k + sz = k')
  (h : Reads enc P w fd.type f Ok) (hs : RdF enc P w fs k' tot g Ok') : RdF enc P w (fd :: fs) k tot (fun x : α × β => f x.1 ++ g x.2) (fun x => Ok x.1 ∧ Ok' x.2) := fun n cs hl hf => by
 obtain ⟨y, hy, hyf⟩ := hf fd List.mem_cons_self
 obtain ⟨a, h1, h2, h3⟩ := h _ _ _ hyf hy
 obtain ⟨b, k1, k2, k3⟩ := hs n cs hl fun fd' h' => hf fd' (List.mem_cons_of_mem _ h')
 have e : cs.drop k = (cs.drop k).take sz ++ cs.drop k' := by
  rw [← hk, ← List.drop_drop, List.take_append_drop]
 rw [ho, hz] at h2 h3
 refine ⟨(a, b), ⟨h1, k1⟩, by rw [e]; exact h2.append k2, fun v hv => ?_⟩
 rw [e, List.mem_append] at hv
 rcases hv with hv | hv
 ·exact h3 v hv
 ·exact k3 v hv
theorem Reads.struct {t : TypeId} {fs : Array Field} {tot : Nat} {f : α → List AV} {Ok : α → Prop} (ht : P.underlying t = some (.struct fs)) (hz : P.cellsOf t = tot) (h : RdF enc P w fs.toList 0 tot f Ok) : Reads enc P w t f Ok := fun fuel cs x hs hx => by
 obtain ⟨xs, n, _, rfl, hl, hlen, hf⟩ := DataW.trod_struct ht hx
 unfold Fits at hs
 simp only [DataW.weights, ht] at hs
 obtain ⟨a, h1, h2, h3⟩ := h n cs (hl.trans hz) fun fd hfd => by
  obtain ⟨i, hi, rfl⟩ := List.getElem_of_mem hfd
  have := hf i fs.toList[i] (by simp)
  have hix : i < xs.length := by simp at hi; omega
  rw [List.getElem?_eq_getElem hix] at this
  exact ⟨_, this, fits_each hs i _ _ (by rw [List.getElem?_map, List.getElem?_eq_getElem hi]; rfl) (by rw [List.getElem?_map, List.getElem?_eq_getElem hix]; rfl)⟩
 exact ⟨a, h1, by simpa using h2, by simpa using h3⟩
theorem arr_go {sz : Nat} {f : α → List AV} {Ok : α → Prop} : ∀ (n : Nat) (cs : List Value), cs.length = n * sz →
  (∀ i, i < n → ∃ a, Ok a ∧ Imms (Live w) w ((cs.drop (i * sz)).take sz) (f a) ∧ ∀ v ∈ (cs.drop (i * sz)).take sz, v.oneCell' = true) →
  ∃ l : List α, l.length = n ∧ (∀ a ∈ l, Ok a) ∧ Imms (Live w) w cs (l.map f).flatten ∧ ∀ v ∈ cs, v.oneCell' = true
 | 0, cs, hl, _ => by
   have : cs = [] := by cases cs with
    | nil => rfl
    | cons a l => simp at hl
   subst this
   exact ⟨[], rfl, by simp, ⟨rfl, fun i h => by simp at h⟩, by simp⟩
 | n + 1, cs, hl, h => by
   obtain ⟨a, h1, h2, h3⟩ := h 0 (by omega)
   obtain ⟨l, k1, k2, k3, k4⟩ := arr_go (sz := sz) n (cs.drop sz) (by rw [List.length_drop, hl, Nat.add_mul]; omega) fun i hi => by
    have := h (i + 1) (by omega)
    rwa [List.drop_drop, show sz + i * sz = (i + 1) * sz by rw [Nat.add_mul]; omega]
   simp only [Nat.zero_mul, List.drop_zero] at h2 h3
   have e := List.take_append_drop sz cs
   refine ⟨a :: l, by simp [k1], fun b hb => ?_, ?_, fun v hv => ?_⟩
   ·rcases List.mem_cons.1 hb with rfl | hb
    ·exact h1
    ·exact k2 b hb
   ·rw [← e]; simpa using h2.append k3
   ·rw [← e, List.mem_append] at hv
    rcases hv with hv | hv
    ·exact h3 v hv
    ·exact k4 v hv
theorem Reads.array {t e : TypeId} {n sz : Nat} {f : α → List AV} {Ok : α → Prop} (ht : P.underlying t = some (.array n e)) (hz : P.cellsOf e = sz) (ha : P.cellsOf t = n * sz) (h : Reads enc P w e f Ok) :
  Reads enc P w t (fun l : List α => (l.map f).flatten) (fun l => l.length = n ∧ ∀ a ∈ l, Ok a) := fun fuel cs x hs hx => by
 obtain ⟨xs, m, _, rfl, hl, hlen, hf⟩ := DataW.trod_array ht hx
 rw [ha] at hl
 rw [hz] at hf
 unfold Fits at hs
 simp only [DataW.weights, ht] at hs
 obtain ⟨l, h1, h2, h3, h4⟩ := arr_go n cs hl fun i hi => by
  have := hf i hi
  rw [List.getElem?_eq_getElem (by omega)] at this
  exact h _ _ _ (fits_all hs _ (List.mem_map.2 ⟨_, List.getElem_mem _, rfl⟩)) this
 exact ⟨l, ⟨h1, h2⟩, h3, h4⟩
theorem Reads.imm_struct {t : TypeId} {fs : Array Field} {f : α → List AV} {Ok : α → Prop} {r : Reach} {b0 : Nat} {v : Value} {d : DataW H} {ps : List MemPlace} (ht : P.underlying t = some (.struct fs)) (h : Reads enc P w t f Ok)
  (hv : Value.okWide P w r b0 t v) (hw : Fits P t d) (hd : DataW.Trod enc P w 0 (fun _ => true) true t v d ps) : ∃ a, Ok a ∧ Imm (Live w) w v (.ag (f a)) := by
 obtain ⟨cs, rfl, _⟩ := WideShapes.okWide_struct ht hv
 obtain ⟨fuel, hd⟩ := hd
 obtain ⟨a, h1, h2, _⟩ := h _ _ _ hw hd
 refine ⟨a, h1, ?_⟩
 have : (Value.agg cs) = .agg cs.toList.toArray := by simp
 rw [this]
 exact .ag _ _ h2.1 h2.2
theorem Reads.imm_slice {t e : TypeId} {f : α → AV} {Ok : α → Prop} {r : Reach} {b0 : Nat} {v : Value} {d : DataW H} {ps : List MemPlace} (ht : P.underlying t = some (.slice e)) (h : Reads enc P w t (fun a => [f a]) Ok)
  (hv : Value.okWide P w r b0 t v) (hw : Fits P t d) (hd : DataW.Trod enc P w 0 (fun _ => true) true t v d ps) : ∃ a, Ok a ∧ Imm (Live w) w v (f a) := by
 have hc : v.cells = #[v] := by
  simp only [Value.okWide, ht, Cell.okWide] at hv
  cases v <;> simp_all [Cell.ok, Value.cells]
 obtain ⟨fuel, hd⟩ := hd
 obtain ⟨a, h1, h2, _⟩ := h _ _ _ hw hd
 rw [hc] at h2
 exact ⟨a, h1, h2.2 0 (by simp) (by simp)⟩
theorem Grown.below {F F' : Nat → Nat → Prop} {w' : World} (g : Avl.Grown F w F' w') : Below w.heap.size w w' := ⟨g.kept.os, g.kept.tape, g.kept.output, g.size, g.old⟩
theorem trodAll_stays (hl : laidOutB P = true) {w' : World} (hb : Below w.heap.size w w') {spf : Nat → Bool} : ∀ {ts : List TypeId} {vs : List Value} {ds : List (DataW H)} {ps : List MemPlace}, (∀ t ∈ ts, P.readableRec t = true ∧ t < P.types.size) →
  DataW.TrodAll enc P w 0 (fun _ => true) true ts vs ds ps → (∀ p ∈ ps, p.block < w.heap.size) → (∀ p ∈ ps, spf p.block = true) → DataW.TrodAll enc P w' 0 spf true ts vs ds ps
 | [], [], [], _, _, h, _, _ => h
 | t :: ts, v :: vs, d :: ds, _, hr, ⟨p, q, h1, h2, e⟩, hlt, hsp => by
   subst e
   refine ⟨p, q, ?_, trodAll_stays hl hb (fun t ht => hr t (List.mem_cons_of_mem _ ht)) h2 (fun x hx => hlt x (List.mem_append_right _ hx)) fun x hx => hsp x (List.mem_append_right _ hx), rfl⟩
   have := hr t List.mem_cons_self
   exact WideElems.Trod_stays hl this.1 this.2 h1 (fun x hx => hb.same (hlt x (List.mem_append_left _ hx))) fun x hx => hsp x (List.mem_append_left _ hx)
 | [], _ :: _, _, _, _, h, _, _ => h.elim
 | [], [], _ :: _, _, _, h, _, _ => h.elim
 | _ :: _, [], _, _, _, h, _, _ => h.elim
 | _ :: _, _ :: _, [], _, _, h, _, _ => h.elim
theorem law_calls {f : FuncId} {fn : Func} {s : ChangeSpec} {apart fresh handsOn again : Bool} {args : Array Value} {avs : List AV} {ds : List (DataW H)} {before : List MemPlace} {tb : TypeId}
  (hl : laidOutB P = true) (hrd : (fn.params.toList.all fun t => P.readableRec t && decide (t < P.types.size)) = true) (hrt : fn.resultTypes = #[tb]) (htb : P.underlying tb = some .bool) (hvars : s.vars = [])
  (hs : s.fn H (ds ++ []) = { results := [.lit (.bool true)], args := ds })
  (h : PureIs P f avs (.sc (.bool true))) (hi : Imms (Live w) w args.toList avs) (hW : DataW.Whole enc P fn.params.toList s.vars apart w args.toList ds [] before) (hgl : Globs (Live w) w := by exact fun g vs hg => by cases hg) :
  Calls P f args w fun e W' => ∃ v, e = .returned v ∧ s.post enc P fn apart fresh handsOn again w args v W' := by
 have hW' := hW
 obtain ⟨p, q, hA, hV, rfl, hfz, hnd⟩ := hW
 rw [hvars] at hV
 obtain ⟨_, rfl⟩ := trodVars_none hV
 have hc := callsIn_wide.1 (h.2 (Live w) w args.toList ⟨fun _ _ h => h, hgl⟩ hi)
 rw [Array.toArray_toList] at hc
 refine hc.mono fun e W' ⟨v, F', he, hr, g⟩ => ?_
 have hv : v = .bool true := by cases hr; rfl
 subst hv
 have hb := Grown.below g
 refine ⟨_, he, post_of_same (pa := p) (pv := []) (by simpa using hW') (fun _ _ _ => ?_) (fun sp hsp => ?_) (fun _ _ => ?_) (by simp) (hb.frame _) g.kept.froz ?_⟩
 ·rw [hs, hrt]; exact trodAll_mk1 (shut_bool htb true)
 ·rw [hs]
  refine trodAll_stays hl hb (fun t ht => ?_) hA (fun x hx => hW'.lt x (by simpa using hx)) fun x hx => hsp x (by simpa using hx)
  have := List.all_eq_true.1 hrd t ht
  simpa using this
 ·rw [hvars, hs]; exact rfl
 ·exact ok_one hrt rfl (okWide_bool_mk htb true)
end
open Go Go.Proofs
end Go.Avl
namespace Go.Proofs.YtmmcendgdcmlkaaGreatDoor
open Go Go.Avl Go.Proofs Go.ChangeShapes Go.RowKit
theorem Tryz.own : ownKnob Tryz.prog.godebug = none := by kernel_rfl
theorem Tryz.laidOut : laidOutB Tryz.prog = true := by kernel_rfl
abbrev laidT : List (String × DataW Unit) := [("gauntlet/faults.table", Rows.laid_gauntlet_faults_table)]
section
variable {H : Type} {enc : TypeId × Value → H} {w : World}
theorem u8wf {n : Int} (h : (Lit.int .u8 n).wf = true) : 0 ≤ n ∧ n < 256 := by
 simp [Lit.wf, IntKind.min, IntKind.max, IntKind.signed, IntKind.bits] at h
 omega
theorem len_of {n b : Nat} (hb : 1 ≤ b) (h : n * b ≤ reachBytes) : (n : Int) ≤ 140737488355328 := by
 have h1 : n * 1 ≤ n * b := Nat.mul_le_mul_left n hb
 have h2 : reachBytes ≤ 140737488355328 := by decide
 omega
theorem rd_u8 : Reads enc Tryz.prog w 5 u8C (fun n => 0 ≤ n ∧ n < 256) := (Reads.int (by kernel_rfl)).mono fun a h => ⟨a, u8wf h, rfl⟩
theorem rd_u8' : Reads enc Tryz.prog w 5 (fun n : Int => [.sc (.int .u8 n)]) (fun n => 0 ≤ n ∧ n < 256) := rd_u8
theorem u16wf {n : Int} (h : (Lit.int .u16 n).wf = true) : 0 ≤ n ∧ n < 65536 := by
 simp [Lit.wf, IntKind.min, IntKind.max, IntKind.signed, IntKind.bits] at h
 omega
theorem rd_u16 : Reads enc Tryz.prog w 51 u16C (fun n => 0 ≤ n ∧ n < 65536) := (Reads.int (by kernel_rfl)).mono fun a h => ⟨a, u16wf h, rfl⟩
theorem rd_u16s : Reads enc Tryz.prog w 22 (fun x : Bool × List Int => [.sl x.1 (x.2.map u16C) .unk]) (fun x => (∀ e ∈ x.2, 0 ≤ e ∧ e < 65536) ∧ (x.2.length : Int) ≤ 140737488355328) :=
 (Reads.slice (by kernel_rfl) rd_u16 (fun a => by rw [show Program.cellsOf Tryz.prog 51 = 1 by kernel_rfl]; rfl) (by rw [show Program.cellsOf Tryz.prog 51 = 1 by kernel_rfl]; exact Nat.succ_pos _)).mono fun a h => ⟨a, ⟨h.1, len_of (b := Program.bytesOf Tryz.prog 51) (by decide +kernel) h.2.2⟩, rfl⟩
theorem rd_LM : Reads enc Tryz.prog w 24 LM.cells LM.Ok := by
 have := (Reads.struct (enc := enc) (w := w) (tot := 5) Tryz.underlying24 (by kernel_rfl) (.cons (sz := 1) rfl (by kernel_rfl) rfl rd_u8 (.cons (sz := 1) rfl (by kernel_rfl) rfl rd_u8 (.cons (sz := 1) rfl (by kernel_rfl) rfl rd_u8 (.cons (sz := 1) rfl (by kernel_rfl) rfl (Reads.bool Tryz.underlying4)
  (.cons (sz := 1) rfl (by kernel_rfl) rfl rd_u16s .nil))))))
 exact this.mono fun a h => ⟨⟨a.1, a.2.1, a.2.2.1, a.2.2.2.1, a.2.2.2.2.1.1, a.2.2.2.2.1.2, .unk⟩, ⟨h.1.1, h.2.1.1, h.2.2.1.1, h.2.2.2.2.1.1⟩, rfl⟩
end
theorem gTable : Tryz.prog.globalNamed "gauntlet/faults.table" = some 0 := by kernel_rfl
theorem tTable : (Tryz.prog.globals[0]?).map (·.type) = some 120 := by kernel_rfl
theorem string_eq {s t : ByteArray} (h : s.data.toList = t.data.toList) : s = t := by
 obtain ⟨⟨l⟩⟩ := s; obtain ⟨⟨k⟩⟩ := t
 simp only at h
 rw [h]
set_option maxRecDepth 100000 in
theorem kind_cells {W : World} {m : Nat} {cs : List Value} {n : List UInt8} {a b c : Bool} {ps : List MemPlace} (h : DataW.trod (fun _ => ()) Tryz.prog W 0 (fun _ => true) false m 119 cs = some (.agg [.lit (.string n), .lit (.bool a), .lit (.bool b), .lit (.bool c)], ps)) :
  cs = [kindN n, .bool a, .bool b, .bool c] := by
 obtain ⟨xs, k, _, he, hl, hlen, hf⟩ := DataW.trod_struct Tryz.underlying119 h
 have hl4 : cs.length = 4 := hl.trans (by kernel_rfl)
 match cs, hl4 with
 | [c0, c1, c2, c3], _ =>
   have h0 : DataW.trod (fun _ => ()) Tryz.prog W 0 (fun _ => true) false k 9 (([c0, c1, c2, c3].drop 0).take (Program.cellsOf Tryz.prog 9)) = xs[0]? := hf 0 _ rfl
   have h1 : DataW.trod (fun _ => ()) Tryz.prog W 0 (fun _ => true) false k 4 (([c0, c1, c2, c3].drop 1).take (Program.cellsOf Tryz.prog 4)) = xs[1]? := hf 1 _ rfl
   have h2 : DataW.trod (fun _ => ()) Tryz.prog W 0 (fun _ => true) false k 4 (([c0, c1, c2, c3].drop 2).take (Program.cellsOf Tryz.prog 4)) = xs[2]? := hf 2 _ rfl
   have h3 : DataW.trod (fun _ => ()) Tryz.prog W 0 (fun _ => true) false k 4 (([c0, c1, c2, c3].drop 3).take (Program.cellsOf Tryz.prog 4)) = xs[3]? := hf 3 _ rfl
   have e9 : Program.cellsOf Tryz.prog 9 = 1 := by kernel_rfl
   have e4 : Program.cellsOf Tryz.prog 4 = 1 := by kernel_rfl
   simp only [e9, e4, List.drop_zero, List.drop_succ_cons, List.take_succ_cons, List.take_zero] at h0 h1 h2 h3
   match xs, hlen with
   | [x0, x1, x2, x3], _ =>
     simp only [Prod.mk.injEq, DataW.agg.injEq, List.map_cons, List.map_nil, List.cons.injEq, and_true] at he
     obtain ⟨⟨e0, e1, e2, e3⟩, _⟩ := he
     obtain ⟨s, q0, r0, _⟩ := DataW.trod_string Tryz.underlying9 h0
     obtain ⟨b1, q1, r1⟩ := DataW.trod_bool Tryz.underlying4 h1
     obtain ⟨b2, q2, r2⟩ := DataW.trod_bool Tryz.underlying4 h2
     obtain ⟨b3, q3, r3⟩ := DataW.trod_bool Tryz.underlying4 h3
     rw [r0] at e0; rw [r1] at e1; rw [r2] at e2; rw [r3] at e3
     simp only [DataW.lit.injEq, Lit.string.injEq, Lit.bool.injEq] at e0 e1 e2 e3
     simp only [List.cons.injEq, and_true] at q0 q1 q2 q3
     subst q0 q1 q2 q3 e1 e2 e3
     have : s = ⟨n.toArray⟩ := string_eq (by simpa using e0.symm)
     rw [this]; rfl
set_option maxRecDepth 100000 in
theorem globs_of {W : World} (h : laidMetH Tryz.prog laidT W) : Globs (Live W) W := by
 rw [MakeChecks.laidMetH_plain _ _ _ (by kernel_rfl)] at h
 obtain ⟨ps, ⟨g, t, cs, fuel, p, q, hg, ht, hvar, hd, _, _⟩, _, _⟩ := h
 obtain rfl := Option.some.inj (gTable.symm.trans hg)
 obtain rfl := Option.some.inj (tTable.symm.trans ht)
 obtain ⟨xs, m, _, he, hl, hlen, hf⟩ := DataW.trod_array Tryz.underlying120 hd
 have e119 : Program.cellsOf Tryz.prog 119 = 4 := by kernel_rfl
 have hl20 : cs.toList.length = 20 := hl.trans (by kernel_rfl)
 have hcs : cs.toList = kindTab := by
  rw [e119] at hf
  match xs, hlen with
  | [x0, x1, x2, x3, x4], _ =>
    have h0 := hf 0 (by decide)
    have h1 := hf 1 (by decide)
    have h2 := hf 2 (by decide)
    have h3 := hf 3 (by decide)
    have h4 := hf 4 (by decide)
    simp only [Rows.laid_gauntlet_faults_table, Prod.mk.injEq, DataW.agg.injEq, List.map_cons, List.map_nil, List.cons.injEq, and_true] at he
    obtain ⟨⟨e0, e1, e2, e3, e4⟩, _⟩ := he
    obtain ⟨d0, p0⟩ := x0
    obtain ⟨d1, p1⟩ := x1
    obtain ⟨d2, p2⟩ := x2
    obtain ⟨d3, p3⟩ := x3
    obtain ⟨d4, p4⟩ := x4
    simp only at e0 e1 e2 e3 e4
    subst e0 e1 e2 e3 e4
    have k0 := kind_cells h0
    have k1 := kind_cells h1
    have k2 := kind_cells h2
    have k3 := kind_cells h3
    have k4 := kind_cells h4
    have key : cs.toList = (cs.toList.drop (0 * 4)).take 4 ++ ((cs.toList.drop (1 * 4)).take 4 ++ ((cs.toList.drop (2 * 4)).take 4 ++ ((cs.toList.drop (3 * 4)).take 4 ++ (cs.toList.drop (4 * 4)).take 4))) := by
     have e : (cs.toList.drop (4 * 4)).take 4 = cs.toList.drop (4 * 4) := List.take_of_length_le (by rw [List.length_drop, hl20]; decide)
     rw [e]
     have s : ∀ k, cs.toList.drop (k * 4) = (cs.toList.drop (k * 4)).take 4 ++ cs.toList.drop ((k + 1) * 4) := fun k => by
      rw [show (k + 1) * 4 = k * 4 + 4 by omega, ← List.drop_drop, List.take_append_drop]
     have z : cs.toList = cs.toList.drop (0 * 4) := by simp
     exact z.trans ((s 0).trans (congrArg _ ((s 1).trans (congrArg _ ((s 2).trans (congrArg _ ((s 3).trans (congrArg _ rfl))))))))
    rw [k0, k1, k2, k3, k4] at key
    rw [key]; rfl
 intro g vs hgv j hj
 match g, hgv with
 | 0, hgv =>
   have hgv : kindTab = vs := by simpa [laidAt] using hgv
   subst hgv
   have hc := World.var?_cell gTable hvar j
   have : cs[j]? = some kindTab[j] := by rw [← Array.getElem?_toList, hcs, List.getElem?_eq_getElem hj]
   rw [this] at hc
   refine ⟨?_, hc⟩
   unfold World.cell? at hc
   show 0 < W.heap.size
   cases hb : W.heap[0]? with
   | none => simp [hb] at hc
   | some o => exact (Array.getElem?_eq_some_iff.1 hb).1
theorem door_met (os : Os) (args : Array Value) : laidMetH Tryz.prog laidT ((World.doorLaid Tryz.prog 400 os).forCall (fun _ _ => 0) ⟨#[], args, []⟩).memory :=
 laidMetH_of_parts3 (fuel := 8) (laidMet_of_run' 8 (by kernel_rfl) (by kernel_rfl)) (by kernel_rfl) (by kernel_rfl)
end Go.Proofs.YtmmcendgdcmlkaaGreatDoor
namespace Go.Avl
open Go Go.Proofs.Tryz
set_option maxRecDepth 10000
theorem orI_is (nl : Bool) (xs : List Int) (c : Cp) (hl : xs.length < 1000000) : PureIs prog 73 [.sl nl (xs.map intC) c] (.sc (.int .i64 (orR xs))) := by
 refine PureIs.of1 6 [6, 7, 8, 9, 14] func73 ntmps73 results73 fun _ => ?_
 refine EvC.seq (EvC.rg (by simp only [go_sem] <;> rfl) rfl ?_)
 refine EvC.seq (EvC.rg (by simp only [go_sem] <;> rfl) rfl ?_)
 refine EvC.seq ?_
 refine EvC.seq (EvC.rg (by simp only [go_sem] <;> rfl) rfl ?_)
 refine EvC.block (EvC.loopS (σ := Nat) (fun i => ⟨[(3, .sc (.int .i64 0)), (6, .sl nl (xs.map intC) c), (7, .sc (.int .i64 xs.length)), (8, .sc (.int .i64 i))], [], [], 0⟩) (fun i => xs.length - i) (fun i => i ≤ xs.length ∧ orR xs = orR (xs.drop i)) [3, 6, 7, 8] 0 ?_ ?_)
 ·refine ⟨[], 0, rfl, (by simp only [go_sem] <;> rfl), Nat.zero_le _, by simp⟩
 rintro i ⟨h1, h2⟩
 refine EvC.seq (EvC.rg (by simp only [go_sem] <;> rfl) rfl ?_)
 refine EvC.seq (EvC.cond (by simp only [go_sem] <;> rfl) (fun hc => ?_) (fun hc => ?_))
 ·refine EvC.skip ?_
  have hi : i < xs.length := by simpa using hc
  have he : xs[i]? = some xs[i] := List.getElem?_eq_getElem hi
  generalize xs[i] = e at he
  have hd : xs.drop i = e :: xs.drop (i + 1) := by
   rw [List.drop_eq_getElem_cons hi]; congr 1; rw [List.getElem?_eq_getElem hi] at he; simpa using he
  refine EvC.seq ?_
  refine EvC.block (EvC.seq (EvC.rg (by simp only [go_sem, he, intC] <;> rfl) (by simp) ?_))
  refine EvC.a ?_
  refine EvC.cond (by simp only [go_sem] <;> rfl) (fun hc1 => ?_) (fun hc1 => ?_)
  ·refine EvC.seq (EvC.rg (by simp only [go_sem] <;> rfl) rfl ?_)
   refine EvC.rz ?_
   simp only [go_sem]
   rw [h2, hd, orR, if_pos (by simpa using hc1)]
  refine EvC.skip ?_
  refine EvC.rg (by simp only [go_sem] <;> rfl) ?_ ?_
  ·exact inI64_of (by omega) (by omega)
  refine ⟨[], i + 1, rfl, (by simp only [go_sem] <;> rfl), ⟨by omega, ?_⟩, by omega⟩
  rw [h2, hd, orR, if_neg (by simpa using hc1)]
 ·refine EvC.exit ?_
  have hi : ¬ i < xs.length := by simpa using hc
  refine EvC.seq (EvC.rg (by simp only [go_sem] <;> rfl) rfl ?_)
  refine EvC.rz ?_
  simp only [go_sem]
  rw [h2, List.drop_of_length_le (by omega)]; rfl
theorem isNaN_is (a : Int) : PureIs prog 87 [.sc (.int .i64 a)] (.sc (.bool false)) := by
 refine PureIs.of1 1 [2] func87 ntmps87 results87 fun _ => ?_
 refine EvC.a ?_
 refine EvC.a ?_
 refine EvC.rz ?_
 simp only [go_sem]
def cmpJ (a b : Int) : Int := if a < b then -1 else if b < a then 1 else 0
theorem compareI_is (a b : Int) : PureIs prog 74 [.sc (.int .i64 a), .sc (.int .i64 b)] (.sc (.int .i64 (cmpJ a b))) := by
 refine PureIs.of1 2 [4, 5, 6, 11, 12, 13, 16, 19] func74 ntmps74 results74 fun _ => ?_
 refine EvC.a ?_
 refine EvC.k1 ?_ (c1 := .ca (isNaN_is a))
 refine EvC.k1 ?_ (c1 := .ca (isNaN_is b))
 refine EvC.seq ?_
 refine EvC.a ?_
 refine EvC.cs ?_
 refine EvC.seq ?_
 refine EvC.a ?_
 refine EvC.cs ?_
 refine EvC.seq ?_
 refine EvC.a ?_
 unfold cmpJ
 by_cases h1 : a < b
 ·refine EvC.ct ?_ (by simp only [go_sem, decide_eq_true h1] <;> rfl)
  rw [if_pos h1]
  refine EvC.a ?_
  refine EvC.rz ?_
  simp only [go_sem]
 refine EvC.cs ?_ (by simp only [go_sem, decide_eq_false h1] <;> rfl)
 rw [if_neg h1]
 refine EvC.seq ?_
 refine EvC.a ?_
 by_cases h2 : b < a
 ·refine EvC.ct ?_ (by simp only [go_sem, decide_eq_true h2] <;> rfl)
  rw [if_pos h2]
  refine EvC.a ?_
  refine EvC.rz ?_
  simp only [go_sem]
 refine EvC.cs ?_ (by simp only [go_sem, decide_eq_false h2] <;> rfl)
 rw [if_neg h2]
 refine EvC.a ?_
 refine EvC.rz ?_
 simp only [go_sem]
def edgeI (f g : FA) : Int := orR [cmpJ f.state g.state, cmpJ f.input g.input]
theorem edge_is (f g : FA) : PureIs prog 45 [.ag f.cells, .ag g.cells] (.sc (.int .i64 (edgeI f g))) := by
 have q := orI_is false [cmpJ f.state g.state, cmpJ f.input g.input] .full (by simp)
 simp only [List.map_cons, List.map_nil, intC] at q
 rw [FA.cells, FA.cells]
 refine PureIs.of1 5 [] func45 ntmps45 results45 fun _ => ?_
 refine EvC.a ?_
 refine EvC.z 0 ?_
 refine EvC.z 1 ?_
 apply EvC.seq
 apply EvC.drw mixed
 ·apply Tr.run
  ·simp only [go_sem] <;> rfl
  ·simp
  apply Tr.cons
  ·exact .ca (compareI_is f.state g.state)
  apply Tr.run
  ·simp only [go_sem] <;> rfl
  ·simp
  apply Tr.cons
  ·exact .ca (compareI_is f.input g.input)
  apply Tr.run
  ·simp only [go_sem] <;> rfl
  ·simp
  apply Tr.cons
  ·exact .ca q
  apply Tr.done
  ·simp only [go_sem] <;> rfl
  ·simp
 ·kernel_rfl
 refine EvC.rz ?_
 simp only [go_sem]
 rfl
def ltE (f g : FA) : Bool := decide (f.state < g.state) || (decide (f.state = g.state) && decide (f.input < g.input))
theorem edgeI_lt (f g : FA) : decide (edgeI f g < 0) = ltE f g := by
 have key : edgeI f g < 0 ↔ f.state < g.state ∨ f.state = g.state ∧ f.input < g.input := by
  simp only [edgeI, orR, cmpJ]
  by_cases h1 : f.state < g.state
  ·simp [h1]
  by_cases h2 : g.state < f.state
  ·simp [h1, h2, show ¬ f.state = g.state by omega]
  have h3 : f.state = g.state := by omega
  by_cases h4 : f.input < g.input
  ·simp [h3, h4]
  by_cases h5 : g.input < f.input
  ·simp [h3, h4, h5]
  ·simp [h3, h4, h5]
 rw [Bool.eq_iff_iff]
 simp only [decide_eq_true_eq, ltE, Bool.or_eq_true, Bool.and_eq_true]
 exact key
def leE (f g : FA) : Bool := !ltE g f
def atE (s i : Int) (f : FA) : Bool := decide (f.state = s) && decide (f.input = i)
def SrtE (l : List FA) : Prop := l.Pairwise fun f g => leE f g = true
theorem ltE_iff {f g : FA} : ltE f g = true ↔ f.state < g.state ∨ f.state = g.state ∧ f.input < g.input := by
 simp [ltE]
theorem leE_iff {f g : FA} : leE f g = true ↔ f.state < g.state ∨ f.state = g.state ∧ f.input ≤ g.input := by
 rw [leE, Bool.not_eq_true', ← Bool.not_eq_true, ltE_iff]
 omega
theorem leE_not {f g : FA} : leE f g = false ↔ ltE g f = true := by rw [leE, Bool.not_eq_false']
theorem leE_refl (f : FA) : leE f f = true := leE_iff.2 (by omega)
theorem leE_trans {f g h : FA} (h1 : leE f g = true) (h2 : leE g h = true) : leE f h = true := by
 rw [leE_iff] at *; omega
theorem leE_of_lt {f g : FA} (h : ltE f g = true) : leE f g = true := by
 rw [leE_iff]; rw [ltE_iff] at h; omega
theorem atE_iff {s i : Int} {f : FA} : atE s i f = true ↔ f.state = s ∧ f.input = i := by simp [atE]
theorem srt_uniq : ∀ {a b : List FA}, SrtE a → SrtE b → (∀ s i, a.filter (atE s i) = b.filter (atE s i)) → a = b
 | [], [], _, _, _ => rfl
 | [], y :: b, _, _, h => by
   have := h y.state y.input
   rw [List.filter_cons_of_pos (atE_iff.2 ⟨rfl, rfl⟩)] at this
   cases this
 | x :: a, [], _, _, h => by
   have := h x.state x.input
   rw [List.filter_cons_of_pos (atE_iff.2 ⟨rfl, rfl⟩)] at this
   cases this
 | x :: a, y :: b, ha, hb, h => by
   have hx := h x.state x.input
   have hy := h y.state y.input
   rw [List.filter_cons_of_pos (atE_iff.2 ⟨rfl, rfl⟩)] at hx
   rw [List.filter_cons_of_pos (p := atE y.state y.input) (atE_iff.2 ⟨rfl, rfl⟩)] at hy
   have mx : x ∈ y :: b := (List.mem_filter.1 (show x ∈ (y :: b).filter (atE x.state x.input) by rw [← hx]; exact List.mem_cons_self)).1
   have my : y ∈ x :: a := (List.mem_filter.1 (show y ∈ (x :: a).filter (atE y.state y.input) by rw [hy]; exact List.mem_cons_self)).1
   have l1 : leE y x = true := by
    rcases List.mem_cons.1 mx with e | e
    ·rw [e]; exact leE_refl y
    ·exact (List.pairwise_cons.1 hb).1 x e
   have l2 : leE x y = true := by
    rcases List.mem_cons.1 my with e | e
    ·rw [e]; exact leE_refl x
    ·exact (List.pairwise_cons.1 ha).1 y e
   have e1 : y.state = x.state ∧ y.input = x.input := by rw [leE_iff] at l1 l2; omega
   have hyx : atE x.state x.input y = true := atE_iff.2 e1
   rw [List.filter_cons_of_pos hyx] at hx
   obtain ⟨e2, _⟩ := List.cons.inj hx
   subst e2
   refine congrArg (x :: ·) (srt_uniq (List.pairwise_cons.1 ha).2 (List.pairwise_cons.1 hb).2 fun s i => ?_)
   have := h s i
   by_cases hs : atE s i x = true
   ·rw [List.filter_cons_of_pos hs, List.filter_cons_of_pos hs] at this
    exact (List.cons.inj this).2
   ·rw [List.filter_cons_of_neg hs, List.filter_cons_of_neg hs] at this
    exact this
def insE (x : FA) : List FA → List FA
 | [] => [x]
 | y :: l => if leE x y then x :: y :: l else y :: insE x l
def srtE : List FA → List FA
 | [] => []
 | x :: l => insE x (srtE l)
theorem insE_mem {x z : FA} : ∀ {l : List FA}, z ∈ insE x l ↔ z = x ∨ z ∈ l
 | [] => by simp [insE]
 | y :: l => by
   rw [insE]
   split
   ·simp
   ·rw [List.mem_cons, insE_mem (l := l), List.mem_cons]
    constructor
    ·rintro (h | h | h) <;> simp [h]
    ·rintro (h | h | h) <;> simp [h]
theorem insE_srt {x : FA} : ∀ {l : List FA}, SrtE l → SrtE (insE x l)
 | [], _ => List.pairwise_singleton _ _
 | y :: l, h => by
   rw [insE]
   split
   ·rename_i hxy
    refine List.pairwise_cons.2 ⟨fun z hz => ?_, h⟩
    rcases List.mem_cons.1 hz with rfl | hz
    ·exact hxy
    ·exact leE_trans hxy ((List.pairwise_cons.1 h).1 z hz)
   ·rename_i hxy
    refine List.pairwise_cons.2 ⟨fun z hz => ?_, insE_srt (List.pairwise_cons.1 h).2⟩
    rcases insE_mem.1 hz with rfl | hz
    ·exact leE_of_lt (leE_not.1 (Bool.eq_false_iff.2 hxy))
    ·exact (List.pairwise_cons.1 h).1 z hz
theorem insE_fil {x : FA} (s i : Int) : ∀ (l : List FA), (insE x l).filter (atE s i) = (x :: l).filter (atE s i)
 | [] => rfl
 | y :: l => by
   rw [insE]
   split
   ·rfl
   ·rename_i hxy
    have hlt := ltE_iff.1 (leE_not.1 (Bool.eq_false_iff.2 hxy))
    have ih := insE_fil (x := x) s i l
    by_cases hx : atE s i x = true
    ·have hy : ¬ atE s i y = true := fun hy => by
       rw [atE_iff] at hx hy; omega
     rw [List.filter_cons_of_neg hy, ih, List.filter_cons_of_pos hx, List.filter_cons_of_pos hx, List.filter_cons_of_neg hy]
    ·rw [List.filter_cons_of_neg hx] at ih ⊢
     by_cases hy : atE s i y = true
     ·rw [List.filter_cons_of_pos hy, List.filter_cons_of_pos hy, ih]
     ·rw [List.filter_cons_of_neg hy, List.filter_cons_of_neg hy, ih]
theorem srtE_srt : ∀ (l : List FA), SrtE (srtE l)
 | [] => List.Pairwise.nil
 | x :: l => insE_srt (srtE_srt l)
theorem srtE_fil (s i : Int) : ∀ (l : List FA), (srtE l).filter (atE s i) = l.filter (atE s i)
 | [] => rfl
 | x :: l => by
   have ih := srtE_fil s i l
   rw [srtE, insE_fil]
   by_cases hx : atE s i x = true
   ·rw [List.filter_cons_of_pos hx, List.filter_cons_of_pos hx, ih]
   ·rw [List.filter_cons_of_neg hx, List.filter_cons_of_neg hx, ih]
theorem srtE_eq {a l : List FA} (ha : SrtE a) (h : ∀ s i, a.filter (atE s i) = l.filter (atE s i)) : a = srtE l :=
 srt_uniq ha (srtE_srt l) fun s i => by rw [h, srtE_fil]
theorem insE_len (x : FA) : ∀ (l : List FA), (insE x l).length = l.length + 1
 | [] => rfl
 | y :: l => by
   rw [insE]
   split
   ·rfl
   ·rw [List.length_cons, insE_len x l]; rfl
theorem srtE_len : ∀ (l : List FA), (srtE l).length = l.length
 | [] => rfl
 | x :: l => by rw [srtE, insE_len, srtE_len l]; rfl
theorem srtE_mem {z : FA} : ∀ {l : List FA}, z ∈ srtE l ↔ z ∈ l
 | [] => Iff.rfl
 | x :: l => by rw [srtE, insE_mem, srtE_mem, List.mem_cons]
theorem srtE_id {l : List FA} (h : SrtE l) : srtE l = l := (srtE_eq h fun _ _ => rfl).symm
theorem srtE_srtE_app (a b : List FA) : srtE (srtE a ++ srtE b) = srtE (a ++ b) := srtE_eq (srtE_srt _) fun s i => by
 rw [srtE_fil, List.filter_append, srtE_fil, srtE_fil, List.filter_append]
theorem srtE_split {a1 a2 b1 b2 : List FA} (h1 : ∀ x ∈ a1, ∀ y ∈ a2, leE x y = true) (h2 : ∀ x ∈ b1, ∀ y ∈ b2, leE x y = true) (h3 : ∀ x ∈ a1, ∀ y ∈ b2, leE x y = true) (h4 : ∀ x ∈ b1, ∀ y ∈ a2, ltE x y = true) :
  srtE (a1 ++ a2 ++ (b1 ++ b2)) = srtE (a1 ++ b1) ++ srtE (a2 ++ b2) := by
 symm
 refine srtE_eq ?_ fun s i => ?_
 ·refine List.pairwise_append.2 ⟨srtE_srt _, srtE_srt _, fun x hx y hy => ?_⟩
  rw [srtE_mem, List.mem_append] at hx hy
  rcases hx with hx | hx <;> rcases hy with hy | hy
  ·exact h1 x hx y hy
  ·exact h3 x hx y hy
  ·exact leE_of_lt (h4 x hx y hy)
  ·exact h2 x hx y hy
 ·simp only [List.filter_append, srtE_fil, List.append_assoc]
  congr 1
  by_cases hb : b1.filter (atE s i) = []
  ·rw [hb]; simp
  by_cases ha : a2.filter (atE s i) = []
  ·rw [ha]; simp
  exfalso
  obtain ⟨x, hx⟩ := List.exists_mem_of_ne_nil _ hb
  obtain ⟨y, hy⟩ := List.exists_mem_of_ne_nil _ ha
  rw [List.mem_filter, atE_iff] at hx hy
  have := ltE_iff.1 (h4 x hx.1 y hy.1)
  omega
def sM (L : List FA) : Mem := [(0, .arr 6 (L.map FA.cells) false)]
theorem fas_norefs2 (l : List FA) : (l.map FA.cells).all AV.norefs = true := by
 rw [List.all_eq_true]
 intro c hc
 obtain ⟨f, _, rfl⟩ := List.mem_map.1 hc
 rfl
theorem fa_at {l r : List FA} {x : FA} : ((l ++ x :: r).map FA.cells)[l.length]? = some x.cells := by
 rw [List.getElem?_map, List.getElem?_append_right (Nat.le_refl _), Nat.sub_self]; rfl
theorem fa_swap {l r : List FA} {x y : FA} : (((l ++ y :: x :: r).map FA.cells).set (l.length + 1) y.cells).set l.length x.cells = (l ++ x :: y :: r).map FA.cells := by
 have h1 : ((l ++ y :: x :: r).map FA.cells).set (l.length + 1) y.cells = (l ++ y :: y :: r).map FA.cells := by
  rw [← List.map_set, List.set_append_right _ _ (by omega), show l.length + 1 - l.length = 1 by omega]; rfl
 rw [h1, ← List.map_set, List.set_append_right _ _ (Nat.le_refl _), Nat.sub_self]; rfl
theorem srt_put {s1 s2 u : List FA} {x : FA} (h : s1 ++ s2 = srtE u) (h2 : ∀ y ∈ s2, ltE x y = true) (h1 : ∀ y ∈ s1, leE y x = true) : s1 ++ x :: s2 = srtE (u ++ [x]) := by
 have hs : SrtE (s1 ++ s2) := by rw [h]; exact srtE_srt u
 obtain ⟨k1, k2, k3⟩ := List.pairwise_append.1 hs
 refine srtE_eq ?_ fun s i => ?_
 ·refine List.pairwise_append.2 ⟨k1, List.pairwise_cons.2 ⟨fun y hy => leE_of_lt (h2 y hy), k2⟩, fun y hy z hz => ?_⟩
  rcases List.mem_cons.1 hz with rfl | hz
  ·exact h1 y hy
  ·exact k3 y hy z hz
 ·rw [List.filter_append, List.filter_append, ← srtE_fil s i u, ← h, List.filter_append]
  by_cases hx : atE s i x = true
  ·rw [List.filter_cons_of_pos hx, List.filter_cons_of_pos hx]
   have : s2.filter (atE s i) = [] := by
    rw [List.filter_eq_nil_iff]
    intro y hy hy2
    rw [atE_iff] at hx hy2
    have := ltE_iff.1 (h2 y hy)
    omega
   rw [this]; simp
  ·rw [List.filter_cons_of_neg hx, List.filter_cons_of_neg hx]; simp
set_option maxHeartbeats 4000000 in
theorem insert_body (p u r : List FA) (a b N : Nat) (ha : a = p.length) (hb : b = a + u.length) (hN : N = (p ++ u ++ r).length) (hl : N < 1000000) :
  BodyIs prog 91 [.tv 0 N 0 N (.val N), .sc (.int .i64 a), .sc (.int .i64 b), .fn 45 []] (sM (p ++ u ++ r)) 1 (fun _ M _ => M = sM (p ++ srtE u ++ r)) := by
 have hNn : (p ++ u ++ r).length = p.length + u.length + r.length := by simp; omega
 refine BodyIs.of (nv := 4) (hid := [8, 9, 14, 34]) func91 rfl (by kernel_rfl) (by simp [ntmps91]) fun _ => ?_
 rw [ntmps91, results91]
 refine EvC.a ?_ (hok := by exact inI64_of (by omega) (by omega))
 refine EvC.block ?_
 refine EvC.loopS (σ := Nat) (fun c => ⟨[(0, .tv 0 N 0 N (.val N)), (1, .sc (.int .i64 a)), (2, .sc (.int .i64 b)), (3, .fn 45 []), (8, .sc (.int .i64 ((a + c : Nat) : Int)))], [], sM (p ++ (srtE (u.take c) ++ u.drop c) ++ r), 1⟩) (fun c => u.length - c) (fun c => 1 ≤ c ∧ (c ≤ u.length ∨ c = 1)) [0, 1, 2, 3, 8] 1 ?_ ?_
 ·have h1 : srtE (u.take 1) ++ u.drop 1 = u := by cases u <;> rfl
  exact ⟨[(0, 0)], 1, rfl, (by rw [h1]; simp only [go_sem, sM, fas_norefs2, Int.natCast_add, Int.natCast_one] <;> rfl), Nat.le_refl _, .inr rfl⟩
 rintro c ⟨c1, c2⟩
 obtain ⟨cZ, hcZ⟩ : ∃ z : Int, z = ((a + c : Nat) : Int) := ⟨_, rfl⟩
 rw [← hcZ]
 refine EvC.seq ?_
 refine EvC.a ?_
 by_cases hcl : c < u.length
 rotate_left
 ·refine EvC.cf ?_ (by simp only [go_sem, decide_eq_false (show ¬ cZ < (b : Int) by omega)] <;> rfl)
  refine EvC.exit ?_
  refine ⟨.inr rfl, _, rfl, ?_⟩
  rw [List.take_of_length_le (by omega), List.drop_of_length_le (by omega), List.append_nil]
  rfl
 refine EvC.cr ?_ (by simp only [go_sem, decide_eq_true (show cZ < (b : Int) by omega)] <;> rfl)
 have hdr : u.drop c = u[c] :: u.drop (c + 1) := List.drop_eq_getElem_cons hcl
 have htk : u.take (c + 1) = u.take c ++ [u[c]] := by rw [List.take_succ_eq_append_getElem hcl]
 generalize u[c] = x at hdr htk
 rw [hdr]
 have hsl : (srtE (u.take c)).length = c := by rw [srtE_len, List.length_take]; omega
 have hdl : (u.drop (c + 1)).length = u.length - (c + 1) := List.length_drop
 obtain ⟨T, hT⟩ : ∃ T, T = u.drop (c + 1) := ⟨_, rfl⟩
 rw [← hT] at hdl ⊢
 refine EvC.seq ?_
 refine EvC.block ?_
 refine EvC.a ?_
 refine EvC.block ?_
 refine EvC.loopS (σ := List FA × List FA) (fun g => ⟨[(0, .tv 0 N 0 N (.val N)), (1, .sc (.int .i64 a)), (2, .sc (.int .i64 b)), (3, .fn 45 []), (8, .sc (.int .i64 cZ)), (9, .sc (.int .i64 ((a + g.1.length : Nat) : Int)))], [], sM (p ++ g.1 ++ x :: (g.2 ++ T ++ r)), 1⟩) (fun g => g.1.length) (fun g => g.1 ++ g.2 = srtE (u.take c) ∧ ∀ y ∈ g.2, ltE x y = true) [0, 1, 2, 3, 8, 9] 1 ?_ ?_
 ·have h1 : p ++ (srtE (u.take c) ++ x :: T) ++ r = p ++ srtE (u.take c) ++ x :: ([] ++ T ++ r) := by simp
  exact ⟨[(0, 0)], (srtE (u.take c), []), rfl, (by rw [hsl, ← hcZ, h1]; simp only [go_sem, sM, fas_norefs2] <;> rfl), List.append_nil _, fun _ h => by cases h⟩
 rintro ⟨s1, s2⟩ ⟨k1, k2⟩
 simp only at k1 k2 ⊢
 have hsl2 : s1.length + s2.length = c := by rw [← hsl, ← k1, List.length_append]
 have hfin : (∀ y ∈ s1, leE y x = true) → p ++ s1 ++ x :: (s2 ++ T ++ r) = p ++ (srtE (u.take (c + 1)) ++ u.drop (c + 1)) ++ r := fun h1 => by
  rw [htk, ← srt_put k1 k2 h1, ← hT]; simp
 have hs12 : SrtE (s1 ++ s2) := by rw [k1]; exact srtE_srt _
 have hexit : p ++ s1 ++ x :: (s2 ++ T ++ r) = p ++ (srtE (u.take (c + 1)) ++ u.drop (c + 1)) ++ r → cZ + 1 = ((a + (c + 1) : Nat) : Int) := fun _ => by omega
 obtain ⟨jZ, hjZ⟩ : ∃ z : Int, z = ((a + s1.length : Nat) : Int) := ⟨_, rfl⟩
 rw [← hjZ]
 refine EvC.seq ?_
 rcases List.eq_nil_or_concat s1 with rfl | ⟨s, y, hsy⟩
 ·have hj0 : decide ((a : Int) < jZ) = false := decide_eq_false (by simp at hjZ; omega)
  have hx0 : ((p ++ [] ++ x :: (s2 ++ T ++ r)).map FA.cells)[jZ.toNat]? = some x.cells := by
   rw [show jZ.toNat = (p ++ ([] : List FA)).length by simp at hjZ ⊢; omega]; exact fa_at
  obtain ⟨y0, hy0⟩ : ∃ y : FA, ((p ++ [] ++ x :: (s2 ++ T ++ r)).map FA.cells)[(jZ - 1).toNat]? = some y.cells := by
   have hlt : (jZ - 1).toNat < (p ++ [] ++ x :: (s2 ++ T ++ r)).length := by simp at hjZ ⊢; omega
   exact ⟨_, by rw [List.getElem?_map, List.getElem?_eq_getElem hlt]; rfl⟩
  have hLn : ((p ++ [] ++ x :: (s2 ++ T ++ r)).map FA.cells).length = N := by rw [List.length_map]; simp at hsl2 ⊢; omega
  rw [hfin fun _ h => by cases h] at hx0 hy0 hLn ⊢
  obtain ⟨Z, hZ⟩ : ∃ Z, Z = p ++ (srtE (u.take (c + 1)) ++ u.drop (c + 1)) ++ r := ⟨_, rfl⟩
  rw [← hZ] at hx0 hy0 hLn ⊢
  apply EvC.seq
  apply EvC.drw mixed
  ·apply Tr.run
   ·simp only [go_sem, sM, hx0, hy0, hLn, FA.cells, hj0] <;> rfl
   ·simp; try omega
   apply Tr.cons
   ·exact .skipv (.sc (.int .i64 0)) rfl rfl (by simp only [go_sem] <;> rfl) (by simp only [go_sem] <;> rfl)
   apply Tr.done
   ·simp only [go_sem, hj0] <;> rfl
   ·simp
  ·kernel_rfl
  refine EvC.cf ?_
  refine EvC.exit ?_
  refine EvC.b ?_ (hok := by exact inI64_of (by omega) (by omega))
  exact ⟨[(0, 0)], c + 1, rfl, (by rw [← hZ, show ((a + (c + 1) : Nat) : Int) = cZ + 1 by omega]; simp only [go_sem, sM, fas_norefs2] <;> rfl), ⟨by omega, .inl hcl⟩, by omega⟩
 rw [List.concat_eq_append] at hsy
 subst hsy
 have hjg : decide ((a : Int) < jZ) = true := decide_eq_true (by simp at hjZ; omega)
 have hW : p ++ (s ++ [y]) ++ x :: (s2 ++ T ++ r) = (p ++ s) ++ y :: x :: (s2 ++ T ++ r) := by simp
 have hjn : jZ.toNat = (p ++ s).length + 1 := by simp at hjZ ⊢; omega
 have hjn1 : (jZ - 1).toNat = (p ++ s).length := by omega
 have hjp : 1 ≤ jZ := by omega
 have hlen : (p ++ s).length + 2 + (s2 ++ T ++ r).length = N := by simp at hsl2 ⊢; omega
 rw [hW] at hfin ⊢
 have hx0 : (((p ++ s) ++ y :: x :: (s2 ++ T ++ r)).map FA.cells)[jZ.toNat]? = some x.cells := by
  have h : (p ++ s) ++ y :: x :: (s2 ++ T ++ r) = (p ++ s ++ [y]) ++ x :: (s2 ++ T ++ r) := by simp
  rw [hjn, h, show (p ++ s).length + 1 = (p ++ s ++ [y]).length by simp; omega]; exact fa_at
 have hy0 : (((p ++ s) ++ y :: x :: (s2 ++ T ++ r)).map FA.cells)[(jZ - 1).toNat]? = some y.cells := by rw [hjn1]; exact fa_at
 have hLn : (((p ++ s) ++ y :: x :: (s2 ++ T ++ r)).map FA.cells).length = N := by rw [List.length_map, List.length_append, List.length_cons, List.length_cons]; omega
 have hsw := fa_swap (l := p ++ s) (r := s2 ++ T ++ r) (x := x) (y := y)
 rw [← hjn, ← hjn1] at hsw
 have hSn := fas_norefs2 ((p ++ s) ++ x :: y :: (s2 ++ T ++ r))
 have q := edge_is x y
 have hlt := edgeI_lt x y
 have hyx : leE y x = !ltE x y := rfl
 have hle : ∀ z ∈ s ++ [y], leE z y = true := fun z hz => by
  rcases List.mem_append.1 hz with hz | hz
  ·exact (List.pairwise_append.1 (List.pairwise_append.1 hs12).1).2.2 z hz y (List.mem_singleton.2 rfl)
  ·rw [List.mem_singleton.1 hz]; exact leE_refl y
 have hI : inI64 (jZ - 1) = true := inI64_of (by omega) (by omega)
 have hg2 : ∀ c : List AV, ((((p ++ s) ++ y :: x :: (s2 ++ T ++ r)).map FA.cells).set jZ.toNat c)[(jZ - 1).toNat]? = some y.cells := fun c => by
  rw [List.getElem?_set_ne (by omega)]; exact hy0
 have hLn2 : ∀ c : List AV, ((((p ++ s) ++ y :: x :: (s2 ++ T ++ r)).map FA.cells).set jZ.toNat c).length = N := fun c => by rw [List.length_set]; exact hLn
 obtain ⟨Z, hZ⟩ : ∃ Z, Z = ((p ++ s) ++ y :: x :: (s2 ++ T ++ r)).map FA.cells := ⟨_, rfl⟩
 obtain ⟨Z2, hZ2⟩ : ∃ Z, Z = ((p ++ s) ++ x :: y :: (s2 ++ T ++ r)).map FA.cells := ⟨_, rfl⟩
 rw [← hZ, ← hZ2] at hsw
 rw [← hZ] at hx0 hy0 hLn hg2 hLn2
 rw [← hZ2] at hSn
 rw [FA.cells] at hx0 hy0
 simp only [FA.cells] at hg2
 rw [FA.cells, FA.cells] at q hsw
 rw [sM, ← hZ]
 generalize edgeI x y = eZ at q hlt
 refine EvC.k1D mixed ?_ (h1 := by simp only [go_sem, hx0, hy0, hLn, hjg] <;> rfl) (k1 := by simp [hI]; omega) (c1 := .cg q) (h2 := by simp only [go_sem, hlt] <;> rfl)
 cases hb : ltE x y with
 | false =>
   rw [hb] at hyx hlt
   refine EvC.cf ?_ (by simp only [go_sem, hlt] <;> rfl)
   refine EvC.exit ?_
   have hf := hfin fun z hz => leE_trans (hle z hz) hyx
   refine EvC.b ?_ (hok := by exact inI64_of (by omega) (by omega))
   exact ⟨[(0, 0)], c + 1, rfl, (by rw [show ((a + (c + 1) : Nat) : Int) = cZ + 1 by omega, hZ, hf]; simp only [go_sem, sM, fas_norefs2] <;> rfl), ⟨by omega, .inl hcl⟩, by omega⟩
 | true =>
   rw [hb] at hlt
   refine EvC.cr ?_ (by simp only [go_sem, hlt] <;> rfl)
   refine EvC.seq ?_
   refine EvC.block ?_
   apply EvC.drwA mixed
   ·apply Tr.done
    ·simp only [go_sem, hx0, hy0, hLn, hg2, hLn2, hsw] <;> rfl
    ·simp [hI]; omega
   ·kernel_rfl
   refine EvC.b ?_ (hok := by exact inI64_of (by omega) (by omega))
   exact ⟨[(0, 0)], (s, y :: s2), rfl, (by rw [show ((a + s.length : Nat) : Int) = jZ - 1 by simp at hjZ; omega, show p ++ s ++ x :: (y :: s2 ++ T ++ r) = (p ++ s) ++ x :: y :: (s2 ++ T ++ r) by simp, sM, ← hZ2]; simp only [go_sem, hSn] <;> rfl), ⟨by rw [← k1]; simp, fun z hz => by
    rcases List.mem_cons.1 hz with rfl | hz
    ·exact hb
    ·exact k2 z hz⟩, by simp⟩
theorem fa_at2 {l m r : List FA} {x y : FA} : ((l ++ x :: (m ++ y :: r)).map FA.cells)[l.length + 1 + m.length]? = some y.cells := by
 have h : l ++ x :: (m ++ y :: r) = (l ++ x :: m) ++ y :: r := by simp
 rw [h, show l.length + 1 + m.length = (l ++ x :: m).length by simp; omega]; exact fa_at
theorem fa_swap2 {l m r : List FA} {x y : FA} : (((l ++ x :: (m ++ y :: r)).map FA.cells).set l.length y.cells).set (l.length + 1 + m.length) x.cells = (l ++ y :: (m ++ x :: r)).map FA.cells := by
 have h1 : ((l ++ x :: (m ++ y :: r)).map FA.cells).set l.length y.cells = ((l ++ y :: m) ++ y :: r).map FA.cells := by
  rw [← List.map_set, List.set_append_right _ _ (Nat.le_refl _), Nat.sub_self]; simp
 rw [h1, show l.length + 1 + m.length = (l ++ y :: m).length by simp; omega, ← List.map_set, List.set_append_right _ _ (Nat.le_refl _), Nat.sub_self]; simp
set_option maxHeartbeats 4000000 in
theorem swap_body (p u q v r : List FA) (a b n N : Nat) (ha : a = p.length) (hb : b = a + u.length + q.length) (hn : n = u.length) (hv : v.length = n) (hN : N = (p ++ u ++ q ++ v ++ r).length) (hl : N < 1000000) :
  BodyIs prog 103 [.tv 0 N 0 N (.val N), .sc (.int .i64 a), .sc (.int .i64 b), .sc (.int .i64 n), .fn 45 []] (sM (p ++ u ++ q ++ v ++ r)) 1 (fun _ M _ => M = sM (p ++ v ++ q ++ u ++ r)) := by
 have hNn : (p ++ u ++ q ++ v ++ r).length = p.length + u.length + q.length + v.length + r.length := by simp; omega
 refine BodyIs.of (nv := 5) (hid := [10, 13]) func103 rfl (by kernel_rfl) (by simp [ntmps103]) fun _ => ?_
 rw [ntmps103, results103]
 refine EvC.a ?_
 refine EvC.block ?_
 refine EvC.loopS (σ := Nat) (fun k => ⟨[(0, .tv 0 N 0 N (.val N)), (1, .sc (.int .i64 a)), (2, .sc (.int .i64 b)), (3, .sc (.int .i64 n)), (10, .sc (.int .i64 k))], [], sM (p ++ (v.take k ++ u.drop k) ++ q ++ (u.take k ++ v.drop k) ++ r), 1⟩) (fun k => n - k) (fun k => k ≤ n) [0, 1, 2, 3, 10] 1 ?_ ?_
 ·exact ⟨[(0, 0)], 0, rfl, (by simp only [go_sem, sM, fas_norefs2, List.take_zero, List.drop_zero, List.nil_append, Int.natCast_zero] <;> rfl), Nat.zero_le _⟩
 intro k hk
 refine EvC.seq ?_
 refine EvC.a ?_
 refine EvC.cond (by simp only [go_sem] <;> rfl) (fun hc => ?_) (fun hc => ?_)
 rotate_left
 ·refine EvC.exit ?_
  obtain rfl : k = n := by have : ¬ k < n := (by simpa using hc); omega
  refine ⟨.inr rfl, _, rfl, ?_⟩
  rw [List.take_of_length_le (by omega), List.drop_of_length_le (by omega), List.take_of_length_le (by omega), List.drop_of_length_le (by omega), List.append_nil, List.append_nil]
  rfl
 have hkn : k < n := by simpa using hc
 clear hc
 have hu : k < u.length := by omega
 have hv2 : k < v.length := by omega
 have hud : u.drop k = u[k] :: u.drop (k + 1) := List.drop_eq_getElem_cons hu
 have hvd : v.drop k = v[k] :: v.drop (k + 1) := List.drop_eq_getElem_cons hv2
 have hut : u.take (k + 1) = u.take k ++ [u[k]] := List.take_succ_eq_append_getElem hu
 have hvt : v.take (k + 1) = v.take k ++ [v[k]] := List.take_succ_eq_append_getElem hv2
 generalize u[k] = x at hud hut
 generalize v[k] = y at hvd hvt
 have e1 : p ++ (v.take k ++ u.drop k) ++ q ++ (u.take k ++ v.drop k) ++ r = (p ++ v.take k) ++ x :: ((u.drop (k + 1) ++ q ++ u.take k) ++ y :: (v.drop (k + 1) ++ r)) := by rw [hud, hvd]; simp
 have e2 : p ++ (v.take (k + 1) ++ u.drop (k + 1)) ++ q ++ (u.take (k + 1) ++ v.drop (k + 1)) ++ r = (p ++ v.take k) ++ y :: ((u.drop (k + 1) ++ q ++ u.take k) ++ x :: (v.drop (k + 1) ++ r)) := by rw [hut, hvt]; simp
 obtain ⟨kZ, hkZ⟩ : ∃ z : Int, z = (k : Int) := ⟨_, rfl⟩
 rw [← hkZ, e1]
 have hla : (p ++ v.take k).length = a + k := by simp; omega
 have hlm : (p ++ v.take k).length + 1 + (u.drop (k + 1) ++ q ++ u.take k).length = b + k := by simp; omega
 have hak : ((a : Int) + kZ).toNat = (p ++ v.take k).length := by omega
 have hbk : ((b : Int) + kZ).toNat = (p ++ v.take k).length + 1 + (u.drop (k + 1) ++ q ++ u.take k).length := by omega
 have hx0 := fa_at (l := p ++ v.take k) (r := (u.drop (k + 1) ++ q ++ u.take k) ++ y :: (v.drop (k + 1) ++ r)) (x := x)
 have hy0 := fa_at2 (l := p ++ v.take k) (m := u.drop (k + 1) ++ q ++ u.take k) (r := v.drop (k + 1) ++ r) (x := x) (y := y)
 have hsw := fa_swap2 (l := p ++ v.take k) (m := u.drop (k + 1) ++ q ++ u.take k) (r := v.drop (k + 1) ++ r) (x := x) (y := y)
 rw [← hak] at hx0
 rw [← hbk] at hy0
 rw [← hbk, ← hak] at hsw
 have hLn : (((p ++ v.take k) ++ x :: ((u.drop (k + 1) ++ q ++ u.take k) ++ y :: (v.drop (k + 1) ++ r))).map FA.cells).length = N := by rw [List.length_map, ← e1]; simp; omega
 have hSn := fas_norefs2 ((p ++ v.take k) ++ y :: ((u.drop (k + 1) ++ q ++ u.take k) ++ x :: (v.drop (k + 1) ++ r)))
 have hg2 : ∀ c : List AV, ((((p ++ v.take k) ++ x :: ((u.drop (k + 1) ++ q ++ u.take k) ++ y :: (v.drop (k + 1) ++ r))).map FA.cells).set ((a : Int) + kZ).toNat c)[((b : Int) + kZ).toNat]? = some y.cells := fun c => by
  rw [List.getElem?_set_ne (by omega)]; exact hy0
 have hLn2 : ∀ c : List AV, ((((p ++ v.take k) ++ x :: ((u.drop (k + 1) ++ q ++ u.take k) ++ y :: (v.drop (k + 1) ++ r))).map FA.cells).set ((a : Int) + kZ).toNat c).length = N := fun c => by rw [List.length_set]; exact hLn
 obtain ⟨Z, hZ⟩ : ∃ Z, Z = ((p ++ v.take k) ++ x :: ((u.drop (k + 1) ++ q ++ u.take k) ++ y :: (v.drop (k + 1) ++ r))).map FA.cells := ⟨_, rfl⟩
 obtain ⟨Z2, hZ2⟩ : ∃ Z, Z = ((p ++ v.take k) ++ y :: ((u.drop (k + 1) ++ q ++ u.take k) ++ x :: (v.drop (k + 1) ++ r))).map FA.cells := ⟨_, rfl⟩
 rw [← hZ, ← hZ2] at hsw
 rw [← hZ] at hx0 hy0 hLn hg2 hLn2
 rw [← hZ2] at hSn
 rw [FA.cells] at hx0 hy0
 simp only [FA.cells] at hg2
 rw [FA.cells, FA.cells] at hsw
 rw [sM, ← hZ]
 have hI1 : inI64 ((a : Int) + kZ) = true := inI64_of (by omega) (by omega)
 have hI2 : inI64 ((b : Int) + kZ) = true := inI64_of (by omega) (by omega)
 have hb1 : 0 ≤ (a : Int) + kZ ∧ ((a : Int) + kZ).toNat < N := by omega
 have hb2 : 0 ≤ (b : Int) + kZ ∧ ((b : Int) + kZ).toNat < N := by omega
 refine EvC.skip ?_
 refine EvC.seq ?_
 refine EvC.block ?_
 apply EvC.drwA mixed
 ·apply Tr.done
  ·simp only [go_sem, hx0, hy0, hLn, hg2, hLn2, hsw] <;> rfl
  ·simp [hI1, hI2, hb1, hb2]
 ·kernel_rfl
 refine EvC.b ?_ (hok := by exact inI64_of (by omega) (by omega))
 exact ⟨[(0, 0)], k + 1, rfl, (by rw [e2, sM, ← hZ2, hkZ]; simp only [go_sem, hSn, Int.natCast_add, Int.natCast_one] <;> rfl), hkn, by omega⟩
end Go.Avl
