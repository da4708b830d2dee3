/-
  Lemmas.
-/
import Derived.Test.YtmmcendgdcmlkaaDoorPart5
set_option linter.unusedSimpArgs false
set_option linter.unusedVariables false
set_option linter.unnecessarySimpa false
set_option linter.deprecated false
namespace Go.Avl
open Go Go.Proofs.Tryd
set_option maxRecDepth 10000
theorem set_mid {α : Type} (a b : List α) (x y : α) : (a ++ x :: b).set a.length y = a ++ y :: b := by simp
def findIdxI (p : Int → Bool) : List Int → Int → Int
 | [], _ => -1
 | e :: es, i => if p e = true then i else findIdxI p es (i + 1)
theorem findIdxI_any (p : Int → Bool) : ∀ (es : List Int) (i : Int), 0 ≤ i → decide (0 ≤ findIdxI p es i) = es.any p
 | [], i, _ => by simp [findIdxI]
 | e :: es, i, h => by
   unfold findIdxI
   split
   ·rename_i hp; simp [hp, h]
   ·rename_i hp
    rw [findIdxI_any p es (i + 1) (by omega)]
    simp [hp]
theorem indexInt_is (nl : Bool) (xs : List Int) (c : Cp) (f : FuncId) (cs : List AV) (hcs : AV.norefs cs = true) (p : Int → Bool) (hp : ∀ e ∈ xs, PureIs prog f (.sc (.int .i64 e) :: cs) (.sc (.bool (p e)))) (hl : xs.length < 1000000) :
  PureIs prog 114 [.sl nl (xs.map intC) c, .fn f cs] (.sc (.int .i64 (findIdxI p xs 0))) := by
 refine PureIs.of1 2 [4, 5, 7, 8, 9, 16] func114 ntmps114 results114 fun _ => ?_
 refine EvC.a ?_
 refine EvC.seq ?_
 refine EvC.a ?_
 refine EvC.block ?_
 refine EvC.loopS (σ := Nat) (fun i => ⟨[(0, .sl nl (xs.map intC) c), (1, .fn f cs), (7, .sc (.int .i64 xs.length)), (8, .sc (.int .i64 i))], [], [], 0⟩) (fun i => xs.length - i) (fun i => i ≤ xs.length ∧ findIdxI p xs 0 = findIdxI p (xs.drop i) i) [0, 1, 7, 8] 0 ?_ ?_
 ·refine ⟨[], 0, rfl, (by simp only [go_sem, hcs] <;> rfl), Nat.zero_le _, by simp⟩
 rintro i ⟨h1, h2⟩
 refine EvC.a ?_
 refine EvC.seq ?_
 refine EvC.cond (by simp only [go_sem] <;> rfl) (fun hc => ?_) (fun hc => ?_)
 rotate_left
 ·refine EvC.exit ?_
  have hi : ¬ i < xs.length := by simpa using hc
  refine EvC.a ?_
  refine EvC.rz ?_
  simp only [go_sem]
  rw [h2, List.drop_of_length_le (by omega)]; rfl
 have hi : i < xs.length := by simpa using hc
 have he : xs[i]? = some xs[i] := List.getElem?_eq_getElem hi
 have hd : xs.drop i = xs[i] :: xs.drop (i + 1) := List.drop_eq_getElem_cons hi
 have hm : xs[i] ∈ xs := List.getElem_mem hi
 generalize xs[i] = e at he hd hm
 refine EvC.skip ?_
 refine EvC.seq ?_
 refine EvC.block ?_
 refine EvC.a ?_
 apply EvC.s1
 ·apply Tr.run
  ·simp only [go_sem, he, intC] <;> rfl
  ·simp
  apply Tr.cons
  ·exact .call rfl rfl (by simp only [go_sem] <;> rfl) (by simp only [go_sem] <;> rfl) (by simp only [go_sem] <;> rfl) (by simp only [go_sem, hcs] <;> rfl) (by simp only [go_sem] <;> rfl) (hp e hm)
  apply Tr.done
  ·simp only [go_sem] <;> rfl
  ·simp
 refine EvC.cond (by simp only [go_sem] <;> rfl) (fun hc => ?_) (fun hc => ?_)
 ·refine EvC.a ?_
  refine EvC.rz ?_
  simp only [go_sem]
  rw [h2, hd, findIdxI, if_pos hc]
 refine EvC.skip ?_
 refine EvC.b ?_ (hok := by exact inI64_of (by omega) (by omega))
 refine ⟨[], i + 1, rfl, (by simp only [go_sem, hcs] <;> rfl), ⟨by omega, ?_⟩, by omega⟩
 rw [h2, hd, findIdxI, if_neg (by simp [hc])]; rfl
theorem containsInt_is (nl : Bool) (xs : List Int) (c : Cp) (f : FuncId) (cs : List AV) (hcs : AV.norefs cs = true) (p : Int → Bool) (hp : ∀ e ∈ xs, PureIs prog f (.sc (.int .i64 e) :: cs) (.sc (.bool (p e)))) (hl : xs.length < 1000000) :
  PureIs prog 91 [.sl nl (xs.map intC) c, .fn f cs] (.sc (.bool (xs.any p))) := by
 refine PureIs.of1 2 [4] func91 ntmps91 results91 fun _ => ?_
 refine EvC.a ?_
 apply EvC.s1
 ·apply Tr.run
  ·simp only [go_sem] <;> rfl
  ·simp
  apply Tr.cons
  ·exact .call rfl rfl (by simp only [go_sem] <;> rfl) (by simp only [go_sem] <;> rfl) (by simp only [go_sem] <;> rfl) (by simp only [go_sem, hcs] <;> rfl) (by simp only [go_sem] <;> rfl) (indexInt_is _ _ _ _ _ hcs _ hp hl)
  apply Tr.done
  ·simp only [go_sem] <;> rfl
  ·simp
 refine EvC.rz ?_
 simp only [go_sem]
 rw [findIdxI_any _ _ _ (Int.le_refl 0)]
theorem wcheck1_is (x n : Int) : PureIs prog 126 [.sc (.int .i64 x), .ia [.sc (.int .i64 n)]] (.sc (.bool (decide (x < 0) || decide (n ≤ x)))) := by
 refine PureIs.of1 2 [3] func126 ntmps126 results126 fun _ => ?_
 refine EvC.a ?_
 refine EvC.g ?_
 refine EvC.rz ?_
 simp only [go_sem]
 by_cases h : x < 0 <;> simp [h]
def wordErr (n : Int) (w : List Int) : Int := if 16 < n ∨ 256 < w.length then 3 else if n < 1 ∨ w.any (fun c => decide (c < 0) || decide (n ≤ c)) = true then 1 else 0
theorem wordCheck_is (nl : Bool) (w : List Int) (c : Cp) (n : Int) (hl : w.length < 1000000) : PureIs prog 112 [.sl nl (w.map intC) c, .sc (.int .i64 n)] (.sc (.int .i64 (wordErr n w))) := by
 refine PureIs.of1 2 [3, 4, 11, 18] func112 ntmps112 results112 fun _ => ?_
 refine EvC.a ?_
 refine EvC.z 0 ?_
 refine EvC.seq ?_
 refine EvC.g ?_
 refine EvC.cond (by simp only [go_sem] <;> rfl) (fun hc => ?_) (fun hc => ?_)
 ·have h : 16 < n ∨ 256 < w.length := by by_cases h1 : 16 < n <;> simp_all; omega
  refine EvC.a ?_
  refine EvC.rz ?_
  simp only [go_sem]
  rw [wordErr, if_pos h]
 have hn : ¬ (16 < n ∨ 256 < w.length) := by by_cases h1 : 16 < n <;> simp_all; omega
 refine EvC.skip ?_
 refine EvC.seq ?_
 by_cases h1 : n < 1
 ·have h1' : decide (n < 1) = true := by simp [h1]
  apply EvC.s1
  ·apply Tr.run
   ·simp only [go_sem] <;> rfl
   ·simp
   apply Tr.cons
   ·exact .skipv (.sc (.bool false)) rfl rfl (by simp only [go_sem, h1'] <;> rfl) (by simp only [go_sem] <;> rfl)
   apply Tr.done
   ·simp only [go_sem, h1'] <;> rfl
   ·simp
  refine EvC.ct ?_
  refine EvC.a ?_
  refine EvC.rz ?_
  simp only [go_sem]
  rw [wordErr, if_neg hn, if_pos (.inl h1)]
 have h1' : decide (n < 1) = false := by simp [h1]
 refine EvC.k1 ?_ (h1 := by simp only [go_sem, h1'] <;> rfl) (c1 := .cg (containsInt_is nl w c 126 [.ia [.sc (.int .i64 n)]] rfl (fun c => decide (c < 0) || decide (n ≤ c)) (fun e _ => wcheck1_is e n) hl)) (h2 := by simp only [go_sem, h1'] <;> rfl)
 refine EvC.cond (by simp only [go_sem] <;> rfl) (fun hc => ?_) (fun hc => ?_)
 ·refine EvC.a ?_
  refine EvC.rz ?_
  simp only [go_sem]
  rw [wordErr, if_neg hn, if_pos (.inr hc)]
 refine EvC.skip ?_
 refine EvC.a ?_
 refine EvC.rz ?_
 simp only [go_sem]
 rw [wordErr, if_neg hn, if_neg (by simp only [not_or]; exact ⟨h1, by simpa using hc⟩)]
def stateErr (m : Mach) (l : List Int) : Int := if checkM m ≠ 0 then checkM m else if l.any (fun x => decide (x < 0) || decide ((m.rows.length : Int) ≤ x)) = true then 1 else 0
theorem mstate_is (m : Mach) (hr : ∀ r ∈ m.rows, r.2.length < 1000000) (s : Int) : PureIs prog 111 [.ag m.cells, .sc (.int .i64 s)] (.sc (.int .i64 (stateErr m [s]))) := by
 refine PureIs.of1 3 [4, 5, 9, 19] func111 ntmps111 results111 fun _ => ?_
 refine EvC.a ?_ (by simp only [go_sem, Mach.cells] <;> rfl)
 refine EvC.z 0 ?_
 refine EvC.seq ?_
 refine EvC.k1 ?_ (h1 := by simp only [go_sem, Mach.cells] <;> rfl) (c1 := .ca (check_is m hr))
 refine EvC.a ?_
 refine EvC.cond (by simp only [go_sem] <;> rfl) (fun hc => ?_) (fun hc => ?_)
 ·refine EvC.a ?_
  refine EvC.rz ?_
  simp only [go_sem]
  rw [stateErr, if_pos (by simpa using hc)]
 have hck : ¬ checkM m ≠ 0 := by simpa using hc
 refine EvC.skip ?_
 refine EvC.seq ?_
 refine EvC.g ?_ (h := by simp only [go_sem, Mach.cells] <;> rfl)
 refine EvC.cond (by simp only [go_sem] <;> rfl) (fun hc => ?_) (fun hc => ?_)
 ·have h : s < 0 ∨ (m.rows.length : Int) ≤ s := by by_cases h1 : s < 0 <;> simp_all
  refine EvC.a ?_
  refine EvC.rz ?_
  simp only [go_sem]
  rw [stateErr, if_neg hck, if_pos (by simpa using h)]
 have h : ¬ (s < 0 ∨ (m.rows.length : Int) ≤ s) := by by_cases h1 : s < 0 <;> simp_all
 refine EvC.skip ?_
 refine EvC.a ?_
 refine EvC.rz ?_
 simp only [go_sem]
 rw [stateErr, if_neg hck, if_neg (by simpa using h)]
def afterR (m : Mach) : Int → List Int → Int
 | s, [] => s
 | s, a :: w => afterR m (stepR m s a).1 w
theorem run75_is {m : Mach} (hv : Valid m) (s : Int) (hs : s < m.rows.length) (hs0 : -1 ≤ s) (nl : Bool) (w : List Int) (c : Cp) (hw : ∀ a ∈ w, 0 ≤ a ∧ a < m.ins) (hl : w.length < 1000000) :
  PureIs prog 113 [.ag m.cells, .sc (.int .i64 s), .sl nl (w.map intC) c] (.tu [.sl false ((runR m s w).map intC) .unk, .sc (.int .i64 (afterR m s w))]) := by
 refine PureIs.of1 4 [6, 7, 8, 9, 10, 11, 15, 16, 17, 18, 24] func113 ntmps113 results113 fun _ => ?_
 refine EvC.a ?_ (by simp only [go_sem, Mach.cells] <;> rfl)
 refine EvC.z 0 ?_
 refine EvC.a ?_ (hok := by simp [room_eq]; omega)
 refine EvC.seq ?_
 refine EvC.a ?_
 refine EvC.block ?_
 have hz : ∀ n : Nat, List.replicate n [AV.sc (.int .i64 0)] = (List.replicate n (0 : Int)).map intC := fun n => by simp [intC]
 refine EvC.loopS (σ := Nat × Int × List Int × List Int) (fun g => ⟨[(1, .sc (.int .i64 g.2.1)), (3, .ia m.cells), (8, .tl 0 w.length false), (15, .sl nl (w.map intC) c), (16, .sc (.int .i64 w.length)), (17, .sc (.int .i64 g.1))], [], [(0, .arr 1 (g.2.2.2.map intC) false)], 1⟩) (fun g => w.length - g.1)
  (fun g => g.1 ≤ w.length ∧ g.2.2.1.length = g.1 ∧ g.2.1 < m.rows.length ∧ -1 ≤ g.2.1 ∧ runR m s w = g.2.2.1 ++ runR m g.2.1 (w.drop g.1) ∧ afterR m s w = afterR m g.2.1 (w.drop g.1) ∧ g.2.2.2 = g.2.2.1 ++ List.replicate (w.length - g.1) 0) [1, 3, 8, 15, 16, 17] 1 ?_ ?_
 ·refine ⟨[(5, 0)], (0, s, [], List.replicate w.length 0), rfl, (by simp only [go_sem, Mach.cells, hz, Int.toNat_natCast] <;> rfl), Nat.zero_le _, rfl, hs, hs0, rfl, rfl, by simp⟩
 rintro ⟨i, t, os, out⟩ ⟨h1, h2, h3, h4, h5, h6, ho⟩
 simp only at h1 h2 h3 h4 h5 h6 ho
 have hlen : out.length = w.length := by rw [ho]; simp; omega
 refine EvC.a ?_
 refine EvC.seq ?_
 refine EvC.cond (by simp only [go_sem] <;> rfl) (fun hc => ?_) (fun hc => ?_)
 rotate_left
 ·refine EvC.exit ?_
  obtain rfl : i = w.length := by have : ¬ i < w.length := by simpa using hc
                                  omega
  rw [List.drop_length] at h5 h6
  refine EvC.frz 0 (by simp only [go_sem, hlen, List.length_map] <;> rfl) ?_
  refine EvC.a ?_
  refine EvC.rz ?_
  simp only [go_sem]
  rw [h5, h6, ho]
  simp [runR, afterR]
 have hi : i < w.length := by simpa using hc
 have he : w[i]? = some w[i] := List.getElem?_eq_getElem hi
 have hd : w.drop i = w[i] :: w.drop (i + 1) := List.drop_eq_getElem_cons hi
 have ha := hw _ (List.getElem_mem hi)
 generalize w[i] = a at he hd ha
 rw [hd, runR] at h5
 rw [hd, afterR] at h6
 refine EvC.skip ?_
 refine EvC.seq ?_
 refine EvC.block ?_
 refine EvC.a ?_ (by simp only [go_sem, he, intC] <;> rfl)
 refine EvC.k1 ?_ (c1 := .ca none_is)
 refine EvC.seq ?_
 refine EvC.a ?_
 have hr : w.length - i = (w.length - (i + 1)) + 1 := by omega
 have hset' : ∀ y : Int, out.set i y = (os ++ [y]) ++ List.replicate (w.length - (i + 1)) 0 := fun y => by
  rw [ho, hr, List.replicate_succ, ← h2, set_mid]
  simp
 have hset : ∀ y : Int, (out.map intC).set i [.sc (.int .i64 y)] = (out.set i y).map intC := fun y => by
  rw [show [AV.sc (.int .i64 y)] = intC y from rfl, ← List.map_set]
 have hge : out[i]? = some 0 := by
  rw [ho, List.getElem?_append_right (by omega), hr, h2]; simp
 have hlt := stepR_lt hv h3 ha
 have hge1 : -1 ≤ (stepR m t a).1 := by
  by_cases h0 : 0 ≤ t
  ·obtain ⟨r, e, _, _, k3, k4⟩ := stepR_get hv h0 h3 ha
   rw [k3]; unfold fitsR at k4; simp at k4; omega
  ·rw [stepR, if_pos (by omega)]; simp
 refine EvC.cond (by simp only [go_sem] <;> rfl) (fun hc => ?_) (fun hc => ?_)
 ·have hc : ¬ t = -1 := by simpa using hc
  obtain ⟨r, e, k1, k2, k3, k4⟩ := stepR_get hv (show 0 ≤ t by omega) h3 ha
  have htl : t.toNat < m.rows.length := by omega
  refine EvC.b ?_ (by simp only [go_sem, Mach.cells, k1, rowC, k2, edgeC] <;> rfl) (by simp; omega)
  refine EvC.dL mixed ?_ (h := by simp only [go_sem, hset, hge, intC] <;> rfl) (hok := by simp [hlen]; omega)
  refine EvC.b ?_ (hok := by exact inI64_of (by omega) (by omega))
  rw [k3] at h5 h6 hlt hge1
  refine ⟨[(0, 0)], (i + 1, e.1, os ++ [e.2], out.set i e.2), rfl, (by simp only [go_sem, Mach.cells] <;> rfl), ⟨by simp only; omega, by simp [h2], hlt, hge1, ?_, h6, hset' _⟩, by simp only; omega⟩
  simp only [h5, List.append_assoc]; rfl
 have hc : t = -1 := by simpa using hc
 refine EvC.skip ?_
 refine EvC.dL mixed ?_ (h := by simp only [go_sem, hset, hge, intC] <;> rfl) (hok := by simp [hlen]; omega)
 refine EvC.b ?_ (hok := by exact inI64_of (by omega) (by omega))
 have k3 : stepR m t a = (-1, -1) := by rw [stepR, if_pos (by omega)]
 rw [k3] at h5 h6 hlt hge1
 refine ⟨[(0, 0)], (i + 1, -1, os ++ [-1], out.set i (-1)), rfl, (by simp only [go_sem, Mach.cells] <;> rfl), ⟨by simp only; omega, by simp [h2], hlt, hge1, ?_, h6, hset' _⟩, by simp only; omega⟩
 simp only [h5, List.append_assoc]; rfl
theorem runR_len (m : Mach) : ∀ (s : Int) (w : List Int), (runR m s w).length = w.length
 | _, [] => rfl
 | s, a :: w => by simp only [runR, List.length_cons]; rw [runR_len m _ w]
theorem wordErr_zero {n : Int} {w : List Int} (h : wordErr n w = 0) : ∀ a ∈ w, 0 ≤ a ∧ a < n := by
 unfold wordErr at h
 split at h
 ·cases h
 ·split at h
  ·cases h
  ·rename_i h2
   simp only [not_or, Bool.not_eq_true, List.any_eq_false] at h2
   intro a ha
   have := h2.2 a ha
   simp at this; omega
theorem checkM_of {m : Mach} (hv : Valid m) : checkM m = 0 := by
 have h1 := hv.ins
 have h2 := hv.outs
 have h3 := hv.rows
 have h4 : m.rows.all (rowOk m) = true := by
  rw [List.all_eq_true]
  intro r hr
  obtain ⟨k1, k2⟩ := hv.row r hr
  simp only [rowOk, Bool.and_eq_true, decide_eq_true_eq, Bool.not_eq_true', List.any_eq_false]
  exact ⟨k1, fun e he => by simp [k2 e he]⟩
 rw [checkM, if_neg (by omega), if_neg (by omega), if_pos h4]
theorem stateErr_of {m : Mach} {l : List Int} (hv : Valid m) (h : ∀ s ∈ l, 0 ≤ s ∧ s < m.rows.length) : stateErr m l = 0 := by
 have h2 : ¬ l.any (fun x => decide (x < 0) || decide ((m.rows.length : Int) ≤ x)) = true := by
  simp only [Bool.not_eq_true, List.any_eq_false]
  exact fun s hs => by have := h s hs; simp; omega
 rw [stateErr, if_neg (by simp [checkM_of hv]), if_neg h2]
theorem Valid.small {m : Mach} (hv : Valid m) : ∀ r ∈ m.rows, r.2.length < 1000000 := fun r hr => by
 have := (hv.row r hr).1
 have := hv.ins
 omega
theorem run52_is {m : Mach} (hv : Valid m) (s : Int) (hs : 0 ≤ s ∧ s < m.rows.length) (nl : Bool) (w : List Int) (c : Cp) (hw : wordErr m.ins w = 0) (hl : w.length < 1000000) :
  PureIs prog 89 [.ag m.cells, .sc (.int .i64 s), .sl nl (w.map intC) c] (.tu [.sl false ((runR m s w).map intC) .unk, .sc (.int .i64 0)]) := by
 refine PureIs.of1 4 [6, 7, 8, 9, 10, 16, 23] func89 ntmps89 results89 fun _ => ?_
 have h1 : stateErr m [s] = 0 := stateErr_of hv (by simpa using hs)
 refine EvC.a ?_ (by simp only [go_sem, Mach.cells] <;> rfl)
 refine EvC.z 0 ?_
 refine EvC.seq ?_
 refine EvC.k1 ?_ (h1 := by simp only [go_sem, Mach.cells] <;> rfl) (c1 := .ca (mstate_is m hv.small s)) (h2 := by simp only [go_sem, h1] <;> rfl)
 refine EvC.a ?_
 refine EvC.cs ?_
 refine EvC.seq ?_
 refine EvC.k1 ?_ (h1 := by simp only [go_sem, Mach.cells] <;> rfl) (c1 := .ca (wordCheck_is nl w c m.ins hl)) (h2 := by simp only [go_sem, hw] <;> rfl)
 refine EvC.a ?_
 refine EvC.cs ?_
 refine EvC.k1 ?_ (h1 := by simp only [go_sem, Mach.cells] <;> rfl) (c1 := .ca (run75_is hv s hs.2 (by omega) nl w c (wordErr_zero hw) hl))
 refine EvC.a ?_
 refine EvC.rz ?_
 simp only [go_sem]
structure FA where
 kind : Int
 state : Int
 input : Int
 to : Int
 at' : Int
 out : Int
def FA.cells (f : FA) : List AV := [.sc (.int .i64 f.kind), .sc (.int .i64 f.state), .sc (.int .i64 f.input), .sc (.int .i64 f.to), .sc (.int .i64 f.at'), .sc (.int .i64 f.out)]
def inN (i n : Int) : Bool := decide (0 ≤ i) && decide (i < n)
def definedB (m : Mach) (s i : Int) : Bool := decide (0 ≤ s) && (decide (s < m.rows.length) && (decide (0 ≤ i) && (decide (i < m.ins) && !decide ((stepM m s i).1 = -1))))
def plainB (f : FA) : Bool :=
 if f.kind = 0 then decide (f.to = 0) && decide (f.at' = 0)
 else if f.kind = 1 then decide (f.at' = 0) && decide (f.out = 0)
 else if f.kind = 2 then decide (f.to = 0) && (decide (f.at' = 0) && decide (f.out = 0))
 else if f.kind = 3 then decide (f.at' = 0) && decide (f.out = 0)
 else if f.kind = 4 then decide (f.to = 0) else false
theorem within85_is (i n : Int) : PureIs prog 78 [.sc (.int .i64 i), .sc (.int .i64 n)] (.sc (.bool (inN i n))) := by
 refine PureIs.of1 2 [4] func78 ntmps78 results78 fun _ => ?_
 refine EvC.a ?_
 refine EvC.g ?_
 refine EvC.rz ?_
 simp only [go_sem]
 unfold inN
 by_cases h : 0 ≤ i <;> simp [h]
theorem stepM_get {m : Mach} (hv : Valid m) {s i : Int} (hs : 0 ≤ s ∧ s < m.rows.length) (hi : 0 ≤ i ∧ i < m.ins) :
  ∃ r, m.rows[s.toNat]? = some r ∧ r.2[i.toNat]? = some (stepM m s i) ∧ fitsR m.rows.length m.outs (stepM m s i).1 (stepM m s i).2 = true := by
 obtain ⟨r, e, h1, h2, h3, h4⟩ := stepR_get hv hs.1 hs.2 hi
 have : stepR m s i = stepM m s i := by rw [stepR, if_neg (by omega)]; rfl
 rw [← h3, this] at h2 h4
 exact ⟨r, h1, h2, h4⟩
theorem defined84_is {m : Mach} (hv : Valid m) (s i : Int) : PureIs prog 77 [.ag m.cells, .sc (.int .i64 s), .sc (.int .i64 i)] (.sc (.bool (definedB m s i))) := by
 refine PureIs.of1 4 [6] func77 ntmps77 results77 fun _ => ?_
 refine EvC.a ?_ (by simp only [go_sem, Mach.cells] <;> rfl)
 refine EvC.z 0 ?_
 have hn1 := hv.rows
 have hi1 := hv.ins
 cases h1 : m.rows[s.toNat]? with
 | none =>
   have hs : m.rows.length ≤ s.toNat := List.getElem?_eq_none_iff.1 h1
   have d1 : decide (0 ≤ s) = true := decide_eq_true (by omega)
   have d2 : decide (s < (m.rows.length : Int)) = false := decide_eq_false (by omega)
   have hres : definedB m s i = false := by simp [definedB, d1, d2]
   rw [hres]
   apply EvC.s1
   ·apply Tr.run
    ·simp only [go_sem, Mach.cells, List.length_map, h1, d1, d2] <;> rfl
    ·simp
    apply Tr.cons
    ·exact .skipv (.ia [.sl false [] .unk]) rfl rfl (by simp only [go_sem] <;> rfl) (by simp only [go_sem] <;> rfl)
    apply Tr.run
    ·simp only [go_sem, Mach.cells, List.length_map, h1, d1, d2] <;> rfl
    ·simp
    apply Tr.cons
    ·exact .skipv (.ia [.sc (.int .i64 0), .sc (.int .i64 0)]) rfl rfl (by simp only [go_sem] <;> rfl) (by simp only [go_sem] <;> rfl)
    apply Tr.done
    ·simp only [go_sem] <;> rfl
    ·simp
   refine EvC.rz ?_
   simp only [go_sem]
 | some r =>
   have hsl : s.toNat < m.rows.length := (List.getElem?_eq_some_iff.1 h1).1
   have hrl := (hv.row _ (List.mem_of_getElem? h1)).1
   cases h2 : r.2[i.toNat]? with
   | none =>
     have hi : r.2.length ≤ i.toNat := List.getElem?_eq_none_iff.1 h2
     have d3 : decide (0 ≤ i) = true := decide_eq_true (by omega)
     have d4 : decide (i < m.ins) = false := decide_eq_false (by omega)
     have hres : definedB m s i = false := by simp [definedB, d3, d4]
     rw [hres]
     by_cases h0 : 0 ≤ s
     ·have d1 : decide (0 ≤ s) = true := decide_eq_true h0
      have d2 : decide (s < (m.rows.length : Int)) = true := decide_eq_true (by omega)
      apply EvC.s1
      ·apply Tr.run
       ·simp only [go_sem, Mach.cells, rowC, List.length_map, h1, h2, d1, d2, d3, d4] <;> rfl
       ·simp
       apply Tr.cons
       ·exact .skipv (.ia [.sc (.int .i64 0), .sc (.int .i64 0)]) rfl rfl (by simp only [go_sem] <;> rfl) (by simp only [go_sem] <;> rfl)
       apply Tr.done
       ·simp only [go_sem] <;> rfl
       ·simp
      refine EvC.rz ?_
      simp only [go_sem]
     ·have d1 : decide (0 ≤ s) = false := decide_eq_false h0
      apply EvC.s1
      ·apply Tr.run
       ·simp only [go_sem, Mach.cells, rowC, List.length_map, h1, h2, d1, d3, d4] <;> rfl
       ·simp
       apply Tr.cons
       ·exact .skipv (.ia [.sc (.int .i64 0), .sc (.int .i64 0)]) rfl rfl (by simp only [go_sem] <;> rfl) (by simp only [go_sem] <;> rfl)
       apply Tr.done
       ·simp only [go_sem] <;> rfl
       ·simp
      refine EvC.rz ?_
      simp only [go_sem]
   | some e =>
     have he : stepM m s i = e := by rw [stepM, h1]; simp [h2]
     unfold definedB
     rw [he]
     refine EvC.g ?_ (h := by simp only [go_sem, Mach.cells, h1, h2, rowC, edgeC, List.length_map] <;> rfl) (hok := by by_cases k1 : 0 ≤ s <;> by_cases k3 : 0 ≤ i <;> simp [k1, k3])
     refine EvC.rz ?_
     simp only [go_sem]
     by_cases k1 : 0 ≤ s <;> by_cases k2 : s < m.rows.length <;> by_cases k3 : 0 ≤ i <;> by_cases k4 : i < m.ins <;> simp [k1, k2, k3, k4]
theorem kind_cases (k : Int) : (k = 0 ∨ k = 1 ∨ k = 2 ∨ k = 3 ∨ k = 4) ∨ inN k 5 = false := by
 by_cases h : 0 ≤ k ∧ k < 5
 ·exact .inl (by omega)
 ·refine .inr ?_
  unfold inN
  rw [Bool.and_eq_false_iff]
  by_cases h1 : 0 ≤ k
  ·exact .inr (decide_eq_false fun h2 => h ⟨h1, h2⟩)
  ·exact .inl (decide_eq_false h1)
theorem plain83_is (f : FA) : PureIs prog 76 [.ag f.cells] (.sc (.bool (plainB f))) := by
 obtain ⟨k, s, i, t, a, o⟩ := f
 have q := within85_is k 5
 refine PureIs.of1 4 [7] func76 ntmps76 results76 fun _ => ?_
 refine EvC.a ?_ (by simp only [go_sem, FA.cells] <;> rfl)
 refine EvC.z 0 ?_
 refine EvC.seq ?_
 rcases kind_cases k with hk | hk
 rotate_left
 ·rw [hk] at q
  have hres : plainB ⟨k, s, i, t, a, o⟩ = false := by
   unfold inN at hk
   rw [Bool.and_eq_false_iff, decide_eq_false_iff_not, decide_eq_false_iff_not] at hk
   unfold plainB
   simp only
   rw [if_neg (by omega), if_neg (by omega), if_neg (by omega), if_neg (by omega), if_neg (by omega)]
  rw [hres]
  refine EvC.k1 ?_ (c1 := .ca q)
  refine EvC.ct ?_
  refine EvC.a ?_
  refine EvC.rz ?_
  simp only [go_sem]
 have q5 : inN k 5 = true := by unfold inN; simp; omega
 rw [q5] at q
 have n2 : (2 : Int).toNat = 2 := rfl
 have n3 : (3 : Int).toNat = 3 := rfl
 have n4 : (4 : Int).toNat = 4 := rfl
 have n1 : (1 : Int).toNat = 1 := rfl
 have n0 : (0 : Int).toNat = 0 := rfl
 refine EvC.k1 ?_ (c1 := .ca q)
 refine EvC.cs ?_
 rcases hk with rfl | rfl | rfl | rfl | rfl
 all_goals
  refine EvC.a ?_ (by simp only [go_sem, kindTab, kindN, n0, n1, n2, n3, n4, Nat.reduceMul] <;> rfl)
  refine EvC.g ?_
  refine EvC.rz ?_
  simp only [go_sem]
  unfold plainB
  by_cases e1 : t = 0 <;> by_cases e2 : a = 0 <;> by_cases e3 : o = 0 <;> simp [e1, e2, e3]
def kindB (m : Mach) (f : FA) : Bool :=
 if f.kind = 0 then inN f.out m.outs && !decide (f.out = (stepM m f.state f.input).2)
 else if f.kind = 1 then inN f.to m.rows.length && !decide (f.to = (stepM m f.state f.input).1)
 else if f.kind = 2 then true
 else if f.kind = 3 then inN f.to m.rows.length
 else inN f.out m.outs && (definedB m (stepM m f.state f.input).1 f.at' && !decide (f.out = (stepM m (stepM m f.state f.input).1 f.at').2))
def faultB (m : Mach) (f : FA) : Bool := plainB f && (definedB m f.state f.input && kindB m f)
def checkF (m : Mach) (f : FA) : Int := if faultB m f = true then (if 3 ≤ f.kind ∧ m.rows.length = 64 then 3 else 0) else 1
theorem definedB_iff {m : Mach} {s i : Int} : definedB m s i = true ↔ (0 ≤ s ∧ s < m.rows.length) ∧ (0 ≤ i ∧ i < m.ins) ∧ (stepM m s i).1 ≠ -1 := by
 unfold definedB
 simp only [Bool.and_eq_true, decide_eq_true_eq, Bool.not_eq_true', decide_eq_false_iff_not]
 constructor
 ·rintro ⟨a, b, c, d, e⟩; exact ⟨⟨a, b⟩, ⟨c, d⟩, e⟩
 ·rintro ⟨⟨a, b⟩, ⟨c, d⟩, e⟩; exact ⟨a, b, c, d, e⟩
theorem step_in {m : Mach} (hv : Valid m) {s i : Int} (hd : definedB m s i = true) : ∃ r, m.rows[s.toNat]? = some r ∧ r.2[i.toNat]? = some (stepM m s i) ∧ (0 ≤ (stepM m s i).1 ∧ (stepM m s i).1 < m.rows.length) := by
 obtain ⟨h1, h2, h3⟩ := definedB_iff.1 hd
 obtain ⟨r, k1, k2, k3⟩ := stepM_get hv h1 h2
 refine ⟨r, k1, k2, ?_⟩
 unfold fitsR at k3
 simp only [Bool.or_eq_true, Bool.and_eq_true, decide_eq_true_eq] at k3
 omega
theorem plainB_kind {f : FA} (h : plainB f = true) : f.kind = 0 ∨ f.kind = 1 ∨ f.kind = 2 ∨ f.kind = 3 ∨ f.kind = 4 := by
 unfold plainB at h
 by_cases h0 : f.kind = 0
 ·exact .inl h0
 by_cases h1 : f.kind = 1
 ·exact .inr (.inl h1)
 by_cases h2 : f.kind = 2
 ·exact .inr (.inr (.inl h2))
 by_cases h3 : f.kind = 3
 ·exact .inr (.inr (.inr (.inl h3)))
 by_cases h4 : f.kind = 4
 ·exact .inr (.inr (.inr (.inr h4)))
 simp [h0, h1, h2, h3, h4] at h
theorem plainB_at {f : FA} (h : plainB f = true) (hk : f.kind ≠ 4) : f.at' = 0 := by
 unfold plainB at h
 by_cases h0 : f.kind = 0
 ·simp [h0] at h; exact h.2
 by_cases h1 : f.kind = 1
 ·simp [h1] at h; exact h.1
 by_cases h2 : f.kind = 2
 ·simp [h2] at h; exact h.2.1
 by_cases h3 : f.kind = 3
 ·simp [h3] at h; exact h.1
 simp [h0, h1, h2, h3, hk] at h
set_option maxHeartbeats 4000000 in
theorem check78_is {m : Mach} (hv : Valid m) (hc0 : checkM m = 0) (f : FA) : PureIs prog 46 [.ag m.cells, .ag f.cells] (.sc (.int .i64 (checkF m f))) := by
 have q0 := check_is m fun r hr => by have := (hv.row r hr).1; have := hv.ins; omega
 rw [hc0] at q0
 obtain ⟨kd, s, i, t, a, o⟩ := f
 refine PureIs.of1 8 [11, 24, 74, 117, 126] func46 ntmps46 results46 fun _ => ?_
 refine EvC.a ?_ (by simp only [go_sem, Mach.cells, FA.cells] <;> rfl)
 refine EvC.z 0 ?_
 refine EvC.z 1 ?_
 refine EvC.seq ?_
 refine EvC.k1 ?_ (h1 := by simp only [go_sem, Mach.cells] <;> rfl) (c1 := .ca q0)
 refine EvC.a ?_
 refine EvC.cs ?_
 refine EvC.seq ?_
 have qp := plain83_is ⟨kd, s, i, t, a, o⟩
 cases hp : plainB ⟨kd, s, i, t, a, o⟩ with
 | false =>
   rw [hp] at qp
   have hres : checkF m ⟨kd, s, i, t, a, o⟩ = 1 := by unfold checkF faultB; rw [hp]; rfl
   rw [hres]
   apply EvC.s1
   ·apply Tr.run
    ·simp only [go_sem, FA.cells, Mach.cells] <;> rfl
    ·simp
    apply Tr.cons
    ·exact .ca (qp)
    apply Tr.run
    ·simp only [go_sem, FA.cells, Mach.cells] <;> rfl
    ·simp
    apply Tr.cons
    ·exact .skipv (.sc (.bool false)) rfl rfl (by simp only [go_sem] <;> rfl) (by simp only [go_sem] <;> rfl)
    apply Tr.done
    ·simp only [go_sem] <;> rfl
    ·simp
   refine EvC.ct ?_
   refine EvC.a ?_
   refine EvC.rz ?_
   simp only [go_sem]
 | true =>
 rw [hp] at qp
 have qd := defined84_is hv s i
 cases hd : definedB m s i with
 | false =>
   rw [hd] at qd
   have hres : checkF m ⟨kd, s, i, t, a, o⟩ = 1 := by unfold checkF faultB; simp only; rw [hp, hd]; rfl
   rw [hres]
   refine EvC.k2 ?_ (h1 := by simp only [go_sem, FA.cells, Mach.cells] <;> rfl) (c1 := .ca qp) (h2 := by simp only [go_sem, FA.cells, Mach.cells] <;> rfl) (c2 := .cg qd)
   refine EvC.ct ?_
   refine EvC.a ?_
   refine EvC.rz ?_
   simp only [go_sem]
 | true =>
 rw [hd] at qd
 have hck : checkF m ⟨kd, s, i, t, a, o⟩ = if kindB m ⟨kd, s, i, t, a, o⟩ = true then (if 3 ≤ kd ∧ m.rows.length = 64 then 3 else 0) else 1 := by unfold checkF faultB; simp only; rw [hp, hd]; rfl
 rw [hck]
 clear hck
 refine EvC.k2 ?_ (h1 := by simp only [go_sem, FA.cells, Mach.cells] <;> rfl) (c1 := .ca qp) (h2 := by simp only [go_sem, FA.cells, Mach.cells] <;> rfl) (c2 := .cg qd)
 refine EvC.cs ?_
 obtain ⟨r, h1, h2, he⟩ := step_in hv hd
 obtain ⟨b1, b2, _⟩ := definedB_iff.1 hd
 have hkd := plainB_kind hp
 have hat : kd ≠ 4 → a = 0 := fun h => plainB_at hp h
 simp only at hkd
 unfold kindB
 simp only
 generalize stepM m s i = e at *
 have h3 : m.rows[e.1.toNat]? = some (m.rows[e.1.toNat]'(by omega)) := List.getElem?_eq_getElem (by omega)
 have hrl := (hv.row _ (List.getElem_mem (show e.1.toNat < m.rows.length by omega))).1
 generalize m.rows[e.1.toNat]'(by omega) = r3 at h3 hrl
 have hsm : stepM m e.1 a = (r3.2[a.toNat]?).getD (-1, -1) := by rw [stepM, h3]; rfl
 have hi1 := hv.ins
 have hro1 := hv.rows
 refine EvC.d mixed ?_ (h := by simp only [go_sem, h1, h2, rowC, edgeC, List.length_map] <;> rfl) (hok := by simp; try omega)
 refine EvC.z 30 ?_
 have n2 : (2 : Int).toNat = 2 := rfl
 have n3 : (3 : Int).toNat = 3 := rfl
 have n4 : (4 : Int).toNat = 4 := rfl
 have n1 : (1 : Int).toNat = 1 := rfl
 have n0 : (0 : Int).toNat = 0 := rfl
 have qt := within85_is t m.rows.length
 have qo := within85_is o m.outs
 have d64 : decide ((m.rows.length : Int) = 64) = decide (m.rows.length = 64) := decide_eq_decide.2 (by omega)
 rcases hkd with rfl | rfl | rfl | rfl | rfl
 ·
  obtain rfl := hat (by decide)
  have h4 : r3.2[0]? = some (r3.2[0]'(by omega)) := List.getElem?_eq_getElem (by omega)
  generalize r3.2[0]'(by omega) = e4 at h4
  rw [if_pos rfl]
  refine EvC.a ?_ (by simp only [go_sem, kindTab, kindN, n0, n1, n2, n3, n4, Nat.reduceMul] <;> rfl)
  refine EvC.z 36 ?_
  refine EvC.seq ?_
  cases hq : inN o m.outs with
  | false =>
    rw [hq] at qo
    apply EvC.s1
    ·apply Tr.run
     ·simp only [go_sem, FA.cells, Mach.cells, List.length_map] <;> rfl
     ·simp
     apply Tr.cons
     ·exact .skipv (.sc (.bool false)) rfl rfl (by simp only [go_sem] <;> rfl) (by simp only [go_sem] <;> rfl)
     apply Tr.run
     ·simp only [go_sem, FA.cells, Mach.cells, List.length_map] <;> rfl
     ·simp
     apply Tr.cons
     ·exact .cg (qo)
     apply Tr.run
     ·simp only [go_sem, FA.cells, Mach.cells, List.length_map] <;> rfl
     ·simp
     apply Tr.cons
     ·exact .skipv (.sc (.bool false)) rfl rfl (by simp only [go_sem] <;> rfl) (by simp only [go_sem] <;> rfl)
     apply Tr.done
     ·simp only [go_sem] <;> rfl
     ·simp
    refine EvC.ct ?_
    refine EvC.a ?_
    refine EvC.rz ?_
    simp only [go_sem]
  | true =>
  rw [hq] at qo
  apply EvC.s1
  ·apply Tr.run
   ·simp only [go_sem, FA.cells, Mach.cells, List.length_map] <;> rfl
   ·simp
   apply Tr.cons
   ·exact .skipv (.sc (.bool false)) rfl rfl (by simp only [go_sem] <;> rfl) (by simp only [go_sem] <;> rfl)
   apply Tr.run
   ·simp only [go_sem, FA.cells, Mach.cells, List.length_map] <;> rfl
   ·simp
   apply Tr.cons
   ·exact .cg (qo)
   apply Tr.run
   ·simp only [go_sem, FA.cells, Mach.cells, List.length_map] <;> rfl
   ·simp
   apply Tr.cons
   ·exact .skipv (.sc (.bool false)) rfl rfl (by simp only [go_sem] <;> rfl) (by simp only [go_sem] <;> rfl)
   apply Tr.done
   ·simp only [go_sem] <;> rfl
   ·simp
  refine EvC.cs ?_
  refine EvC.seq ?_
  refine EvC.d mixed ?_ (h := by simp only [go_sem, h3, h4, rowC, edgeC, n0, List.length_map] <;> rfl) (hok := by simp; try omega)
  refine EvC.cond (by simp only [go_sem] <;> rfl) (fun hc => ?_) (fun hc => ?_)
  ·have hc' : o = e.2 := by simpa using hc
   refine EvC.a ?_
   refine EvC.rz ?_
   simp only [go_sem]
   simp [hc']
  have hc' : ¬ o = e.2 := by simpa using hc
  refine EvC.skip ?_
  refine EvC.seq ?_
  refine EvC.g ?_ (h := by simp only [go_sem, List.length_map] <;> rfl)
  refine EvC.cs ?_
  refine EvC.a ?_
  refine EvC.rz ?_
  simp only [go_sem]
  simp [hc']
 ·
  obtain rfl := hat (by decide)
  have h4 : r3.2[0]? = some (r3.2[0]'(by omega)) := List.getElem?_eq_getElem (by omega)
  generalize r3.2[0]'(by omega) = e4 at h4
  rw [if_neg (show ¬ (1 : Int) = 0 by decide), if_pos (show (1 : Int) = 1 from rfl)]
  refine EvC.a ?_ (by simp only [go_sem, kindTab, kindN, n0, n1, n2, n3, n4, Nat.reduceMul] <;> rfl)
  refine EvC.z 36 ?_
  refine EvC.seq ?_
  cases hq : inN t m.rows.length with
  | false =>
    rw [hq] at qt
    apply EvC.s1
    ·apply Tr.run
     ·simp only [go_sem, FA.cells, Mach.cells, List.length_map] <;> rfl
     ·simp
     apply Tr.cons
     ·exact .cg (qt)
     apply Tr.run
     ·simp only [go_sem, FA.cells, Mach.cells, List.length_map] <;> rfl
     ·simp
     apply Tr.cons
     ·exact .skipv (.sc (.bool false)) rfl rfl (by simp only [go_sem] <;> rfl) (by simp only [go_sem] <;> rfl)
     apply Tr.run
     ·simp only [go_sem, FA.cells, Mach.cells, List.length_map] <;> rfl
     ·simp
     apply Tr.cons
     ·exact .skipv (.sc (.bool false)) rfl rfl (by simp only [go_sem] <;> rfl) (by simp only [go_sem] <;> rfl)
     apply Tr.done
     ·simp only [go_sem] <;> rfl
     ·simp
    refine EvC.ct ?_
    refine EvC.a ?_
    refine EvC.rz ?_
    simp only [go_sem]
  | true =>
  rw [hq] at qt
  apply EvC.s1
  ·apply Tr.run
   ·simp only [go_sem, FA.cells, Mach.cells, List.length_map] <;> rfl
   ·simp
   apply Tr.cons
   ·exact .cg (qt)
   apply Tr.run
   ·simp only [go_sem, FA.cells, Mach.cells, List.length_map] <;> rfl
   ·simp
   apply Tr.cons
   ·exact .skipv (.sc (.bool false)) rfl rfl (by simp only [go_sem] <;> rfl) (by simp only [go_sem] <;> rfl)
   apply Tr.run
   ·simp only [go_sem, FA.cells, Mach.cells, List.length_map] <;> rfl
   ·simp
   apply Tr.cons
   ·exact .skipv (.sc (.bool false)) rfl rfl (by simp only [go_sem] <;> rfl) (by simp only [go_sem] <;> rfl)
   apply Tr.done
   ·simp only [go_sem] <;> rfl
   ·simp
  refine EvC.cs ?_
  refine EvC.seq ?_
  refine EvC.d mixed ?_ (h := by simp only [go_sem, h3, h4, rowC, edgeC, n0, List.length_map] <;> rfl) (hok := by simp; try omega)
  refine EvC.cond (by simp only [go_sem] <;> rfl) (fun hc => ?_) (fun hc => ?_)
  ·have hc' : t = e.1 := by simpa using hc
   refine EvC.a ?_
   refine EvC.rz ?_
   simp only [go_sem]
   simp [hc']
  have hc' : ¬ t = e.1 := by simpa using hc
  refine EvC.skip ?_
  refine EvC.seq ?_
  refine EvC.g ?_ (h := by simp only [go_sem, List.length_map] <;> rfl)
  refine EvC.cs ?_
  refine EvC.a ?_
  refine EvC.rz ?_
  simp only [go_sem]
  simp [hc']
 ·
  obtain rfl := hat (by decide)
  have h4 : r3.2[0]? = some (r3.2[0]'(by omega)) := List.getElem?_eq_getElem (by omega)
  generalize r3.2[0]'(by omega) = e4 at h4
  rw [if_neg (show ¬ (2 : Int) = 0 by decide), if_neg (show ¬ (2 : Int) = 1 by decide), if_pos (show (2 : Int) = 2 from rfl)]
  refine EvC.a ?_ (by simp only [go_sem, kindTab, kindN, n0, n1, n2, n3, n4, Nat.reduceMul] <;> rfl)
  refine EvC.z 36 ?_
  refine EvC.seq ?_
  apply EvC.s1
  ·apply Tr.run
   ·simp only [go_sem, FA.cells, Mach.cells, List.length_map] <;> rfl
   ·simp
   apply Tr.cons
   ·exact .skipv (.sc (.bool false)) rfl rfl (by simp only [go_sem] <;> rfl) (by simp only [go_sem] <;> rfl)
   apply Tr.run
   ·simp only [go_sem, FA.cells, Mach.cells, List.length_map] <;> rfl
   ·simp
   apply Tr.cons
   ·exact .skipv (.sc (.bool false)) rfl rfl (by simp only [go_sem] <;> rfl) (by simp only [go_sem] <;> rfl)
   apply Tr.run
   ·simp only [go_sem, FA.cells, Mach.cells, List.length_map] <;> rfl
   ·simp
   apply Tr.cons
   ·exact .skipv (.sc (.bool false)) rfl rfl (by simp only [go_sem] <;> rfl) (by simp only [go_sem] <;> rfl)
   apply Tr.done
   ·simp only [go_sem] <;> rfl
   ·simp
  refine EvC.cs ?_
  refine EvC.seq ?_
  refine EvC.d mixed ?_ (h := by simp only [go_sem, h3, h4, rowC, edgeC, n0, List.length_map] <;> rfl) (hok := by simp; try omega)
  refine EvC.cs ?_
  refine EvC.seq ?_
  refine EvC.g ?_ (h := by simp only [go_sem, List.length_map] <;> rfl)
  refine EvC.cs ?_
  refine EvC.a ?_
  refine EvC.rz ?_
  simp only [go_sem]
  simp
 ·
  obtain rfl := hat (by decide)
  have h4 : r3.2[0]? = some (r3.2[0]'(by omega)) := List.getElem?_eq_getElem (by omega)
  generalize r3.2[0]'(by omega) = e4 at h4
  rw [if_neg (show ¬ (3 : Int) = 0 by decide), if_neg (show ¬ (3 : Int) = 1 by decide), if_neg (show ¬ (3 : Int) = 2 by decide), if_pos (show (3 : Int) = 3 from rfl)]
  refine EvC.a ?_ (by simp only [go_sem, kindTab, kindN, n0, n1, n2, n3, n4, Nat.reduceMul] <;> rfl)
  refine EvC.z 36 ?_
  refine EvC.seq ?_
  cases hq : inN t m.rows.length with
  | false =>
    rw [hq] at qt
    apply EvC.s1
    ·apply Tr.run
     ·simp only [go_sem, FA.cells, Mach.cells, List.length_map] <;> rfl
     ·simp
     apply Tr.cons
     ·exact .cg (qt)
     apply Tr.run
     ·simp only [go_sem, FA.cells, Mach.cells, List.length_map] <;> rfl
     ·simp
     apply Tr.cons
     ·exact .skipv (.sc (.bool false)) rfl rfl (by simp only [go_sem] <;> rfl) (by simp only [go_sem] <;> rfl)
     apply Tr.run
     ·simp only [go_sem, FA.cells, Mach.cells, List.length_map] <;> rfl
     ·simp
     apply Tr.cons
     ·exact .skipv (.sc (.bool false)) rfl rfl (by simp only [go_sem] <;> rfl) (by simp only [go_sem] <;> rfl)
     apply Tr.done
     ·simp only [go_sem] <;> rfl
     ·simp
    refine EvC.ct ?_
    refine EvC.a ?_
    refine EvC.rz ?_
    simp only [go_sem]
  | true =>
  rw [hq] at qt
  apply EvC.s1
  ·apply Tr.run
   ·simp only [go_sem, FA.cells, Mach.cells, List.length_map] <;> rfl
   ·simp
   apply Tr.cons
   ·exact .cg (qt)
   apply Tr.run
   ·simp only [go_sem, FA.cells, Mach.cells, List.length_map] <;> rfl
   ·simp
   apply Tr.cons
   ·exact .skipv (.sc (.bool false)) rfl rfl (by simp only [go_sem] <;> rfl) (by simp only [go_sem] <;> rfl)
   apply Tr.run
   ·simp only [go_sem, FA.cells, Mach.cells, List.length_map] <;> rfl
   ·simp
   apply Tr.cons
   ·exact .skipv (.sc (.bool false)) rfl rfl (by simp only [go_sem] <;> rfl) (by simp only [go_sem] <;> rfl)
   apply Tr.done
   ·simp only [go_sem] <;> rfl
   ·simp
  refine EvC.cs ?_
  refine EvC.seq ?_
  refine EvC.d mixed ?_ (h := by simp only [go_sem, h3, h4, rowC, edgeC, n0, List.length_map] <;> rfl) (hok := by simp; try omega)
  refine EvC.cs ?_
  refine EvC.seq ?_
  by_cases h64 : m.rows.length = 64
  ·have d : decide ((m.rows.length : Int) = 64) = true := decide_eq_true (by omega)
   refine EvC.g ?_ (h := by simp only [go_sem, List.length_map, d] <;> rfl)
   refine EvC.ct ?_
   refine EvC.a ?_
   refine EvC.rz ?_
   simp only [go_sem]
   simp [h64]
  ·have d : decide ((m.rows.length : Int) = 64) = false := decide_eq_false (by omega)
   refine EvC.g ?_ (h := by simp only [go_sem, List.length_map, d] <;> rfl)
   refine EvC.cs ?_
   refine EvC.a ?_
   refine EvC.rz ?_
   simp only [go_sem]
   simp [h64]
 ·
  rw [if_neg (show ¬ (4 : Int) = 0 by decide), if_neg (show ¬ (4 : Int) = 1 by decide), if_neg (show ¬ (4 : Int) = 2 by decide), if_neg (show ¬ (4 : Int) = 3 by decide)]
  have qd2 := defined84_is hv e.1 a
  rw [hsm]
  refine EvC.a ?_ (by simp only [go_sem, kindTab, kindN, n0, n1, n2, n3, n4, Nat.reduceMul] <;> rfl)
  refine EvC.z 36 ?_
  refine EvC.seq ?_
  cases hq : inN o m.outs with
  | false =>
    rw [hq] at qo
    apply EvC.s1
    ·apply Tr.run
     ·simp only [go_sem, FA.cells, Mach.cells, List.length_map] <;> rfl
     ·simp
     apply Tr.cons
     ·exact .skipv (.sc (.bool false)) rfl rfl (by simp only [go_sem] <;> rfl) (by simp only [go_sem] <;> rfl)
     apply Tr.run
     ·simp only [go_sem, FA.cells, Mach.cells, List.length_map] <;> rfl
     ·simp
     apply Tr.cons
     ·exact .cg (qo)
     apply Tr.run
     ·simp only [go_sem, FA.cells, Mach.cells, List.length_map] <;> rfl
     ·simp
     apply Tr.cons
     ·exact .skipv (.sc (.bool false)) rfl rfl (by simp only [go_sem] <;> rfl) (by simp only [go_sem] <;> rfl)
     apply Tr.done
     ·simp only [go_sem] <;> rfl
     ·simp
    refine EvC.ct ?_
    refine EvC.a ?_
    refine EvC.rz ?_
    simp only [go_sem]
  | true =>
  rw [hq] at qo
  cases hq2 : definedB m e.1 a with
  | false =>
    rw [hq2] at qd2
    apply EvC.s1
    ·apply Tr.run
     ·simp only [go_sem, FA.cells, Mach.cells, List.length_map] <;> rfl
     ·simp
     apply Tr.cons
     ·exact .skipv (.sc (.bool false)) rfl rfl (by simp only [go_sem] <;> rfl) (by simp only [go_sem] <;> rfl)
     apply Tr.run
     ·simp only [go_sem, FA.cells, Mach.cells, List.length_map] <;> rfl
     ·simp
     apply Tr.cons
     ·exact .cg (qo)
     apply Tr.run
     ·simp only [go_sem, FA.cells, Mach.cells, List.length_map] <;> rfl
     ·simp
     apply Tr.cons
     ·exact .cg (qd2)
     apply Tr.done
     ·simp only [go_sem] <;> rfl
     ·simp
    refine EvC.ct ?_
    refine EvC.a ?_
    refine EvC.rz ?_
    simp only [go_sem]
  | true =>
  rw [hq2] at qd2
  obtain ⟨r4, k1, k2, _⟩ := step_in hv hq2
  have hr34 : r4 = r3 := by rw [h3] at k1; exact (Option.some.inj k1).symm
  subst hr34
  rw [hsm] at k2
  generalize (r4.2[a.toNat]?).getD (-1, -1) = e4 at k2
  obtain ⟨_, b3, _⟩ := definedB_iff.1 hq2
  apply EvC.s1
  ·apply Tr.run
   ·simp only [go_sem, FA.cells, Mach.cells, List.length_map] <;> rfl
   ·simp
   apply Tr.cons
   ·exact .skipv (.sc (.bool false)) rfl rfl (by simp only [go_sem] <;> rfl) (by simp only [go_sem] <;> rfl)
   apply Tr.run
   ·simp only [go_sem, FA.cells, Mach.cells, List.length_map] <;> rfl
   ·simp
   apply Tr.cons
   ·exact .cg (qo)
   apply Tr.run
   ·simp only [go_sem, FA.cells, Mach.cells, List.length_map] <;> rfl
   ·simp
   apply Tr.cons
   ·exact .cg (qd2)
   apply Tr.done
   ·simp only [go_sem] <;> rfl
   ·simp
  refine EvC.cs ?_
  refine EvC.seq ?_
  refine EvC.d mixed ?_ (h := by simp only [go_sem, h3, k2, rowC, edgeC, n0, List.length_map] <;> rfl) (hok := by simp; try omega)
  refine EvC.cond (by simp only [go_sem] <;> rfl) (fun hc => ?_) (fun hc => ?_)
  ·have hc' : o = e4.2 := by simpa using hc
   refine EvC.a ?_
   refine EvC.rz ?_
   simp only [go_sem]
   simp [hc']
  have hc' : ¬ o = e4.2 := by simpa using hc
  refine EvC.skip ?_
  refine EvC.seq ?_
  by_cases h64 : m.rows.length = 64
  ·have d : decide ((m.rows.length : Int) = 64) = true := decide_eq_true (by omega)
   refine EvC.g ?_ (h := by simp only [go_sem, List.length_map, d] <;> rfl)
   refine EvC.ct ?_
   refine EvC.a ?_
   refine EvC.rz ?_
   simp only [go_sem]
   simp [h64, hc']
  ·have d : decide ((m.rows.length : Int) = 64) = false := decide_eq_false (by omega)
   refine EvC.g ?_ (h := by simp only [go_sem, List.length_map, d] <;> rfl)
   refine EvC.cs ?_
   refine EvC.a ?_
   refine EvC.rz ?_
   simp only [go_sem]
   simp [h64, hc']
theorem clone80_is (es : List (Int × Int)) (c : Cp) (hl : es.length < 1000000) : PureIs prog 80 [.sl false (es.map edgeC) c] (.sl false (es.map edgeC) .unk) := by
 refine PureIs.of1 1 [2, 4] func80 ntmps80 results80 fun _ => ?_
 refine EvC.a ?_
 refine EvC.seq ?_
 refine EvC.a ?_
 refine EvC.cs ?_
 have hr1 : room es.length 16 = true := by simp only [room_eq, decide_eq_true_eq]; omega
 have hr3 : ∀ a b : Int, (a, b) ∈ es → (edgeC (a, b)).length = 2 := fun _ _ _ => rfl
 refine EvC.a ?_ (by simp only [go_sem, List.length_map] <;> rfl) (by simp [hr1]; try exact hr3)
 refine EvC.frz 5 (by simp only [go_sem, List.length_map] <;> rfl) ?_
 refine EvC.ret ⟨.inl rfl, _, (by simp only [go_sem, List.length_map] <;> rfl), ?_, by simp [AV.noref, norefs_edges]⟩
 simp only [go_sem, List.length_map]
theorem clone80_new (es : List (Int × Int)) (c : Cp) (hl : es.length < 1000000) (h0 : es.length ≠ 0) : PureNew prog 80 [.sl false (es.map edgeC) c] 2 (es.map edgeC) := by
 refine PureNew.of (nv := 1) (hid := [2, 4]) func80 rfl (by kernel_rfl) (by simp [ntmps80]) fun _ => ?_
 rw [ntmps80, results80]
 refine EvC.a ?_
 refine EvC.seq ?_
 refine EvC.a ?_
 refine EvC.cs ?_
 have hr1 : room es.length 16 = true := by simp only [room_eq, decide_eq_true_eq]; omega
 have hr3 : ∀ a b : Int, (a, b) ∈ es → (edgeC (a, b)).length = 2 := fun _ _ _ => rfl
 refine EvC.a ?_ (by simp only [go_sem, List.length_map] <;> rfl) (by simp [hr1]; try exact hr3)
 refine EvC.ret ⟨.inl rfl, _, 5, (by simp only [go_sem, List.length_map] <;> rfl), .inl ?_, ?_, by simpa using h0, norefs_edges es⟩
 ·simp only [List.length_map]
 ·rfl
theorem clip79_is (es : List (Int × Int)) (c : Cp) : PureIs prog 79 [.sl false (es.map edgeC) c] (.sl false (es.map edgeC) .unk) := by
 have hr3 : ∀ a b : Int, (a, b) ∈ es → (edgeC (a, b)).length = 2 := fun _ _ _ => rfl
 have key : PureIs prog 79 [.sl false (es.map edgeC) c] (.sl false (es.map edgeC) .full) := by
  refine PureIs.of1 1 [2] func79 ntmps79 results79 fun _ => ?_
  refine EvC.a ?_
  refine EvC.a ?_ (by simp only [go_sem, List.length_map, Int.toNat_natCast, List.drop_zero] <;> rfl) (by simp; try exact hr3)
  refine EvC.ret ⟨.inl rfl, _, (by simp only [go_sem] <;> rfl), ?_, by simp [AV.noref, norefs_edges]⟩
  simp only [go_sem]
  rw [List.take_of_length_le (by simp)]
 have h := key.weakR
 rwa [show (AV.sl false (es.map edgeC) Cp.full).unk = .sl false (es.map edgeC) .unk from by
  simp only [AV.unk]; congr 1; exact unkss_map edgeC (fun x => rfl) es] at h
theorem clip79_clips : Clips prog 79 := fun a n c h hlt => by
 refine PureIs.of1 1 [2] func79 ntmps79 results79 fun _ => ?_
 refine EvC.a ?_
 refine EvC.a ?_ (by simp only [go_sem, Int.toNat_natCast] <;> rfl) (by simp; try omega)
 refine EvC.rz ?_
 simp only [go_sem]
def rowAt (m : Mach) (s : Int) : List (Int × Int) := ((m.rows[s.toNat]?).map (·.2)).getD []
def copyR (m : Mach) : List Row := m.rows.map fun r => (false, r.2)
def putR (m : Mach) (s i : Int) (e : Int × Int) : List Row := (copyR m).set s.toNat (false, (rowAt m s).set i.toNat e)
def mutRows (m : Mach) (f : FA) : List Row :=
 if f.kind = 0 then putR m f.state f.input ((stepM m f.state f.input).1, f.out)
 else if f.kind = 1 then putR m f.state f.input (f.to, (stepM m f.state f.input).2)
 else if f.kind = 2 then putR m f.state f.input (-1, -1)
 else if f.kind = 3 then putR m f.state f.input ((m.rows.length : Int), (stepM m f.state f.input).2) ++ [(false, rowAt m f.to)]
 else putR m f.state f.input ((m.rows.length : Int), (stepM m f.state f.input).2) ++ [(false, (rowAt m (stepM m f.state f.input).1).set f.at'.toNat ((stepM m (stepM m f.state f.input).1 f.at').1, f.out))]
def mutF (m : Mach) (f : FA) : Mach := ⟨m.ins, m.outs, false, mutRows m f⟩
def putRaw (m : Mach) (s i : Int) (e : Int × Int) : List (List AV) := ((copyR m).map rowC).set s.toNat [.sl false (((rowAt m s).set i.toNat e).map edgeC) .full]
def rawRows (m : Mach) (f : FA) : List (List AV) :=
 if f.kind = 0 then putRaw m f.state f.input ((stepM m f.state f.input).1, f.out)
 else if f.kind = 1 then putRaw m f.state f.input (f.to, (stepM m f.state f.input).2)
 else if f.kind = 2 then putRaw m f.state f.input (-1, -1)
 else if f.kind = 3 then putRaw m f.state f.input ((m.rows.length : Int), (stepM m f.state f.input).2) ++ [[.sl false ((rowAt m f.to).map edgeC) .unk]]
 else putRaw m f.state f.input ((m.rows.length : Int), (stepM m f.state f.input).2) ++ [[.sl false (((rowAt m (stepM m f.state f.input).1).set f.at'.toNat ((stepM m (stepM m f.state f.input).1 f.at').1, f.out)).map edgeC) .full]]
theorem unk_edges (b : Bool) (es : List (Int × Int)) (c : Cp) : AV.unks [.sl b (es.map edgeC) c] = rowC (b, es) := by
 have h : AV.unkss (es.map edgeC) = es.map edgeC := unkss_map edgeC (fun x => rfl) es
 simp only [AV.unks, AV.unk, h]; rfl
theorem unkss_rows (l : List Row) : AV.unkss (l.map rowC) = l.map rowC := unkss_map rowC (fun x => unk_edges x.1 x.2 .unk) l
theorem putRaw_unk (m : Mach) (s i : Int) (e : Int × Int) : AV.unkss (putRaw m s i e) = (putR m s i e).map rowC := by
 unfold putRaw putR
 rw [unkss_eq, List.map_set, unk_edges, ← unkss_eq, unkss_rows, List.map_set]
theorem rawRows_unk (m : Mach) (f : FA) : AV.unkss (rawRows m f) = (mutRows m f).map rowC := by
 have app : ∀ (A B : List (List AV)), AV.unkss (A ++ B) = AV.unkss A ++ AV.unkss B := fun A B => by simp [unkss_eq]
 unfold rawRows mutRows
 split
 ·exact putRaw_unk _ _ _ _
 split
 ·exact putRaw_unk _ _ _ _
 split
 ·exact putRaw_unk _ _ _ _
 split
 ·rw [app, putRaw_unk, List.map_append]
  congr 1
  simp only [AV.unkss, unk_edges]; rfl
 ·rw [app, putRaw_unk, List.map_append]
  congr 1
  simp only [AV.unkss, unk_edges]; rfl
def applyRaw (m : Mach) (f : FA) : AV :=
 if checkF m f = 0 then .tu [.ag [.sc (.int .i64 m.ins), .sc (.int .i64 m.outs), .sl false (rawRows m f) .full], .sc (.int .i64 0)] else .tu [.ag [.sc (.int .i64 0), .sc (.int .i64 0), .sl true [] .zer], .sc (.int .i64 (checkF m f))]
def applyR (m : Mach) (f : FA) : AV :=
 if checkF m f = 0 then .tu [.ag (mutF m f).cells, .sc (.int .i64 0)] else .tu [.ag [.sc (.int .i64 0), .sc (.int .i64 0), .sl true [] .unk], .sc (.int .i64 (checkF m f))]
theorem applyRaw_unk (m : Mach) (f : FA) : (applyRaw m f).unk = applyR m f := by
 unfold applyRaw applyR
 split
 ·simp only [AV.unk, AV.unks, rawRows_unk]; rfl
 ·simp only [AV.unk, AV.unks, AV.unkss]
def NoNil (m : Mach) : Prop := ∀ r ∈ m.rows, r.1 = true → r.2 = []
theorem NoNil.row {m : Mach} (hv : Valid m) (h : NoNil m) {r : Row} (hr : r ∈ m.rows) : r = (false, r.2) := by
 obtain ⟨b, l⟩ := r
 cases b with
 | false => rfl
 | true =>
   have h1 := h _ hr rfl
   have h2 := (hv.row _ hr).1
   have h3 := hv.ins
   simp only at h1 h2
   rw [h1] at h2
   simp at h2
   omega
def rowsK (m : Mach) (k S : Nat) (v : AV) : List (List AV) := (((m.rows.take k).map fun r => (false, r.2)).map rowC).set S [v]
theorem rowsK_len {m : Mach} {k S : Nat} {v : AV} (h : k ≤ m.rows.length) : (rowsK m k S v).length = k := by simp [rowsK]; omega
theorem rowsK_other {m : Mach} {k S : Nat} {v : AV} {r : Row} (h : m.rows[k]? = some r) (hk : k ≠ S) : rowsK m k S v ++ [rowC (false, r.2)] = rowsK m (k + 1) S v := by
 obtain ⟨hi, he⟩ := List.getElem?_eq_some_iff.1 h
 have hl : (((m.rows.take k).map fun r => ((false, r.2) : Row)).map rowC).length = k := by simp; omega
 unfold rowsK
 rw [List.take_succ_eq_append_getElem hi, he, List.map_append, List.map_append]
 generalize ((m.rows.take k).map fun r => ((false, r.2) : Row)).map rowC = A at hl
 by_cases hS : S < k
 ·rw [List.set_append_left _ _ (by omega)]; rfl
 ·rw [List.set_append_right _ _ (by omega), List.set_eq_of_length_le (by omega : A.length ≤ S), List.set_eq_of_length_le (by simp; omega)]; rfl
theorem rowsK_self {m : Mach} {S : Nat} {v w : AV} {r : Row} (h : m.rows[S]? = some r) : rowsK m S S w ++ [[v]] = rowsK m (S + 1) S v := by
 obtain ⟨hi, he⟩ := List.getElem?_eq_some_iff.1 h
 have hl : (((m.rows.take S).map fun r => ((false, r.2) : Row)).map rowC).length = S := by simp; omega
 unfold rowsK
 rw [List.take_succ_eq_append_getElem hi, he, List.map_append, List.map_append]
 generalize ((m.rows.take S).map fun r => ((false, r.2) : Row)).map rowC = A at hl
 rw [List.set_append_right _ _ (by omega), List.set_eq_of_length_le (by omega : A.length ≤ S), hl, Nat.sub_self]
 rfl
theorem rowC_norefs (r : Row) : AV.norefs (rowC r) = true := by simp [rowC, AV.norefs, AV.noref, norefs_edges]
theorem rowsK_get {m : Mach} {k S : Nat} {v : AV} (h : S < k) (hk : k ≤ m.rows.length) : (rowsK m k S v)[S]? = some [v] := by
 unfold rowsK
 rw [List.getElem?_set_self (by simp; omega)]
theorem rowsK_norefs {m : Mach} {k S : Nat} {v : AV} (h : S < k) (hk : k ≤ m.rows.length) (hv : v.noref = false) : (rowsK m k S v).all AV.norefs = false := by
 rw [List.all_eq_false]
 exact ⟨[v], List.mem_of_getElem? (rowsK_get h hk), by simp [AV.norefs, hv]⟩
theorem rowC_ren (K : List (Nat × Nat)) (r : Row) : (rowC r).map (AV.ren K) = rowC r := by
 have h : (AV.sl r.1 (r.2.map edgeC) Cp.unk).noref = true := by simp [AV.noref, norefs_edges]
 simp [rowC, AV.ren, h]
theorem rowsK_ren (m : Mach) (k S : Nat) (v : AV) (K : List (Nat × Nat)) : (rowsK m k S v).map (fun c => c.map (AV.ren K)) = rowsK m k S (v.ren K) := by
 unfold rowsK
 rw [List.map_set, List.map_map]
 have e : List.map ((fun c => c.map (AV.ren K)) ∘ rowC) ((m.rows.take k).map fun r => ((false, r.2) : Row)) = List.map rowC ((m.rows.take k).map fun r => ((false, r.2) : Row)) := List.map_congr_left fun r _ => rowC_ren K r
 rw [e]; rfl
theorem clip81r_is (es : List (List AV)) (c : Cp) (h1 : ∀ c ∈ es, c.length = 1) (hn : es.all AV.norefs = true) : PureIs prog 81 [.sl false es c] (.sl false es .full) := by
 refine PureIs.of1 1 [2] func81 ntmps81 results81 fun _ => ?_
 refine EvC.a ?_
 refine EvC.a ?_ (by simp only [go_sem, Int.toNat_natCast, List.drop_zero, List.take_length] <;> rfl) (by simp; exact h1)
 refine EvC.ret ⟨.inl rfl, _, (by simp only [go_sem] <;> rfl), ?_, by simp [AV.noref, hn]⟩
 simp only [go_sem]
set_option maxHeartbeats 8000000 in
theorem apply71_is {m : Mach} (hv : Valid m) (hc0 : checkM m = 0) (hnn : NoNil m) (f : FA) : PureIs prog 47 [.ag m.cells, .ag f.cells] (applyR m f) := by
 rw [← applyRaw_unk]
 refine PureIs.weakR ?_
 have q0 := check78_is hv hc0 f
 have hkf : checkF m f = 0 → faultB m f = true := fun h => by
  unfold checkF at h
  split at h
  ·assumption
  ·cases h
 unfold applyRaw
 obtain ⟨kd, s, i, t, a, o⟩ := f
 refine PureIs.of1 8 [9, 10, 11, 12, 17, 23, 24, 25, 26, 34, 48, 53, 67, 87, 94, 101] func47 ntmps47 results47 fun _ => ?_
 refine EvC.a ?_ (by simp only [go_sem, Mach.cells, FA.cells] <;> rfl)
 refine EvC.z 0 ?_
 refine EvC.z 1 ?_
 refine EvC.seq ?_
 refine EvC.k1 ?_ (h1 := by simp only [go_sem, Mach.cells, FA.cells] <;> rfl) (c1 := .ca q0)
 refine EvC.a ?_
 refine EvC.cond (by simp only [go_sem] <;> rfl) (fun hc => ?_) (fun hc => ?_)
 ·
  have hc' : ¬ checkF m ⟨kd, s, i, t, a, o⟩ = 0 := by simpa using hc
  refine EvC.a ?_
  rw [if_neg hc']
  refine EvC.rz ?_
  simp only [go_sem]
 have hc' : checkF m ⟨kd, s, i, t, a, o⟩ = 0 := by simpa using hc
 rw [if_pos hc']
 have hfb := hkf hc'
 clear hc hkf
 unfold faultB at hfb
 simp only [Bool.and_eq_true] at hfb
 obtain ⟨hp, hd, hkb⟩ := hfb
 obtain ⟨r, h1, h2, he⟩ := step_in hv hd
 obtain ⟨b1, b2, _⟩ := definedB_iff.1 hd
 have hkd := plainB_kind hp
 simp only at hkd
 obtain ⟨S, hS⟩ : ∃ S : Nat, S = s.toNat := ⟨_, rfl⟩
 have hSl : S < m.rows.length := by omega
 rw [← hS] at h1
 have hn1 := hv.rows
 have hro := hnn.row hv (List.mem_of_getElem? h1)
 have hrl := (hv.row _ (List.mem_of_getElem? h1)).1
 have hi1 := hv.ins
 refine EvC.skip ?_
 refine EvC.a ?_
 refine EvC.a ?_
 refine EvC.ownC 11 2 1 (by simp only [go_sem] <;> rfl) ?_
 refine EvC.thaw 15 (by simp only [go_sem] <;> rfl) ?_
 refine EvC.seq ?_
 refine EvC.a ?_ (by simp only [go_sem, List.length_map] <;> rfl)
 refine EvC.block ?_
 obtain ⟨n, hn⟩ : ∃ n, n = r.2.length := ⟨_, rfl⟩
 have hn0 : n ≠ 0 := by omega
 obtain ⟨memK, hmK⟩ : ∃ memK : Nat → Mem, memK = fun k => (0, RObj.cells [.sc (.int .i64 0), .sc (.int .i64 0), .sl true [] .zer]) :: (1, .cells [.sc (.int .i64 m.ins), .sc (.int .i64 m.outs), .tl 2 k (decide (k = 0))]) :: (2, .arr 1 (rowsK m k S (.tv 3 n 0 n (.val n))) false) :: (if S < k then [(3, .arr 2 (r.2.map edgeC) false)] else []) := ⟨_, rfl⟩
 have hlo : ∀ k, k ≤ S → memK k = [(0, RObj.cells [.sc (.int .i64 0), .sc (.int .i64 0), .sl true [] .zer]), (1, .cells [.sc (.int .i64 m.ins), .sc (.int .i64 m.outs), .tl 2 k (decide (k = 0))]), (2, .arr 1 (((m.rows.take k).map fun r => ((false, r.2) : Row)).map rowC) false)] := fun k hk => by
  rw [hmK]
  simp only
  rw [if_neg (by omega), rowsK, List.set_eq_of_length_le (by simp; omega)]
 have hhi : ∀ k, S < k → memK k = [(0, RObj.cells [.sc (.int .i64 0), .sc (.int .i64 0), .sl true [] .zer]), (1, .cells [.sc (.int .i64 m.ins), .sc (.int .i64 m.outs), .tl 2 k (decide (k = 0))]), (2, .arr 1 (rowsK m k S (.tv 3 n 0 n (.val n))) false), (3, .arr 2 (r.2.map edgeC) false)] := fun k hk => by
  rw [hmK]
  simp only
  rw [if_pos hk]
 refine EvC.loopS (σ := Nat) (fun k => ⟨[(2, .ia [.sc (.int .i64 m.ins), .sc (.int .i64 m.outs), .sl m.nl (m.rows.map rowC) .unk]), (3, .ia [.sc (.int .i64 kd), .sc (.int .i64 s), .sc (.int .i64 i), .sc (.int .i64 t), .sc (.int .i64 a), .sc (.int .i64 o)]), (4, .rf 0 0), (7, .rf 1 0), (23, .sl m.nl (m.rows.map rowC) .unk), (24, .sc (.int .i64 m.rows.length)), (25, .sc (.int .i64 k))], [], memK k, 4⟩) (fun k => m.rows.length - k) (fun k => k ≤ m.rows.length) [2, 3, 4, 7, 23, 24, 25] 4 ?_ ?_
 ·exact ⟨[(2, 0), (11, 1), (15, 2)], 0, rfl, (by rw [hlo 0 (by omega)]; simp only [go_sem, Int.natCast_zero, List.take_zero, List.map_nil] <;> rfl), Nat.zero_le _⟩
 intro k hk1
 by_cases hkl : k < m.rows.length
 rotate_left
 ·
  obtain rfl : k = m.rows.length := by omega
  rw [hhi m.rows.length hSl]
  have dk : decide ((m.rows.length : Int) < m.rows.length) = false := decide_eq_false (by omega)
  refine EvC.a ?_
  refine EvC.seq ?_
  refine EvC.cf ?_ (by simp only [go_sem, dk] <;> rfl)
  refine EvC.exit ?_
  have hNd : decide (m.rows.length = 0) = false := decide_eq_false (by omega)
  have hg := rowsK_get (v := .tv 3 n 0 n (.val n)) hSl (Nat.le_refl m.rows.length)
  have hRl := rowsK_len (S := S) (v := .tv 3 n 0 n (.val n)) (Nat.le_refl m.rows.length)
  have hel : (r.2.map edgeC).length = n := by rw [List.length_map]; exact hn.symm
  have hin : i.toNat < n := by omega
  refine EvC.d mixed ?_ (h := by simp only [go_sem, hg, hRl, hel, ← hS, hNd] <;> rfl) (hok := by simp; try omega)
  have hrowAt : rowAt m s = r.2 := by unfold rowAt; rw [← hS, h1]; rfl
  refine EvC.mergeC (α := List (Int × Int) × List (List AV)) (fun p => ⟨[(4, .rf 0 0), (7, .rf 1 0)], [], [(0, .cells [.sc (.int .i64 0), .sc (.int .i64 0), .sl true [] .zer]), (1, .cells [.sc (.int .i64 m.ins), .sc (.int .i64 m.outs), .tl 2 (m.rows.length + p.2.length) false]), (2, .arr 1 (rowsK m m.rows.length S (.tv 3 n 0 n (.val n)) ++ p.2) false), (3, .arr 2 (p.1.map edgeC) false)], 4⟩)
   (fun p => p.1.length = n ∧ p.2.all AV.norefs = true ∧ (∀ c ∈ p.2, c.length = 1) ∧ rowsK m m.rows.length S (.sl false (p.1.map edgeC) .full) ++ p.2 = rawRows m ⟨kd, s, i, t, a, o⟩) ?_ ?_
  rotate_left
  ·
   rintro ⟨es, ex⟩ ⟨hes, hex1, hex2, hraw⟩
   simp only at hes hex1 hex2 hraw ⊢
   have hel2 : (es.map edgeC).length = n := by rw [List.length_map]; exact hes
   have hRe : (rowsK m m.rows.length S (.tv 3 n 0 n (.val n)) ++ ex).length = m.rows.length + ex.length := by rw [List.length_append, hRl]
   have hge : (rowsK m m.rows.length S (.tv 3 n 0 n (.val n)) ++ ex)[S]? = some [.tv 3 n 0 n (.val n)] := by rw [List.getElem?_append_left (by rw [hRl]; exact hSl)]; exact hg
   have hse : (rowsK m m.rows.length S (.tv 3 n 0 n (.val n)) ++ ex).set S [.sl false (es.map edgeC) .full] = rawRows m ⟨kd, s, i, t, a, o⟩ := by
    rw [← hraw, List.set_append_left _ _ (by rw [hRl]; exact hSl)]
    unfold rowsK
    rw [List.set_set]
   generalize rowsK m m.rows.length S (.tv 3 n 0 n (.val n)) ++ ex = RW at hRe hge hse
   have hraw1 : (rawRows m ⟨kd, s, i, t, a, o⟩).all AV.norefs = true := by
    rw [← hraw, List.all_append, hex1, Bool.and_true, List.all_eq_true]
    intro c hc
    rcases List.mem_or_eq_of_mem_set hc with h | rfl
    ·obtain ⟨r, _, rfl⟩ := List.mem_map.1 h
     exact rowC_norefs r
    ·simp [AV.norefs, AV.noref, norefs_edges]
   have hraw2 : ∀ c ∈ rawRows m ⟨kd, s, i, t, a, o⟩, c.length = 1 := by
    rw [← hraw]
    intro c hc
    rcases List.mem_append.1 hc with h | h
    ·rcases List.mem_or_eq_of_mem_set h with h | rfl
     ·obtain ⟨r, _, rfl⟩ := List.mem_map.1 h
      rfl
     ·rfl
    ·exact hex2 c h
   have hraw3 : (rawRows m ⟨kd, s, i, t, a, o⟩).length = m.rows.length + ex.length := by
    rw [← hraw, List.length_append, rowsK_len (Nat.le_refl _)]
   have qc := clip81r_is (rawRows m ⟨kd, s, i, t, a, o⟩) .unk hraw2 hraw1
   clear hraw
   generalize rawRows m ⟨kd, s, i, t, a, o⟩ = RR at *
   refine EvC.frz 3 (by simp only [go_sem, hel2] <;> rfl) ?_
   refine EvC.snapE 2 S (by simp only [go_sem, hge, hel2, hse] <;> rfl) ?_
   refine EvC.frzD 2 (by simp only [go_sem, hraw1, hraw3] <;> rfl) ?_
   apply EvC.s1
   ·apply Tr.run
    ·simp only [go_sem] <;> rfl
    ·simp
    apply Tr.cons
    ·exact .call rfl rfl (by simp only [go_sem] <;> rfl) (by simp only [go_sem] <;> rfl) (by simp only [go_sem, hraw1] <;> rfl) (by simp only [go_sem] <;> rfl) (by simp only [go_sem] <;> rfl) (qc)
    apply Tr.done
    ·simp only [go_sem] <;> rfl
    ·simp
   refine EvC.a ?_
   refine EvC.ret ⟨.inl rfl, _, (by simp only [go_sem] <;> rfl), ?_, by simp [AV.noref, AV.norefs, hraw1]⟩
   simp only [go_sem]
  ·
   have hfin : ∀ (es : List (Int × Int)) (ex : List (List AV)), es.length = n → rowsK m m.rows.length S (.sl false (es.map edgeC) .full) = ((copyR m).map rowC).set s.toNat [.sl false (es.map edgeC) .full] := fun es ex _ => by
    unfold rowsK copyR
    rw [List.take_length, ← hS]
   have hge : (r.2.map edgeC)[i.toNat]? = some (edgeC (stepM m s i)) := by rw [List.getElem?_map, h2]; rfl
   have hsetE : ∀ x y : Int, (r.2.map edgeC).set i.toNat [.sc (.int .i64 x), .sc (.int .i64 y)] = (r.2.set i.toNat (x, y)).map edgeC := fun x y => by rw [List.map_set]; rfl
   have hset2 : ∀ x : Int × Int, (r.2.set i.toNat x).length = n := fun x => by rw [List.length_set]; exact hn.symm
   have hnr : (rowsK m m.rows.length S (.tv 3 n 0 n (.val n))).all AV.norefs = false := rowsK_norefs hSl (Nat.le_refl _) rfl
   have hrn := rowsK_ren m m.rows.length S (.tv 3 n 0 n (.val n)) [(0, 0), (1, 1), (2, 2), (3, 3)]
   refine EvC.a ?_
   refine EvC.block ?_
   have hraw : ∀ e' : Int × Int, rowsK m m.rows.length S (.sl false ((r.2.set i.toNat e').map edgeC) .full) = putRaw m s i e' := fun e' => by
    unfold putRaw
    rw [hfin _ [] (hset2 e'), hrowAt]
   generalize hE : stepM m s i = e at *
   rcases hkd with rfl | rfl | rfl | rfl | rfl
   ·
    refine EvC.a ?_
    refine EvC.ct ?_
    refine EvC.b ?_ (by simp only [go_sem, hge, edgeC, hel, hsetE] <;> rfl) (by simp [edgeC])
    refine ⟨rfl, (r.2.set i.toNat (e.1, o), []), ⟨hset2 _, rfl, (fun _ h => by cases h), ?_⟩, fun c Q h => ?_⟩
    ·rw [List.append_nil, hraw, rawRows, if_pos rfl, hE]
    refine EvC.gcE [4, 7] [(0, 0), (1, 1), (2, 2), (3, 3)] 4 rfl (by simp only [go_sem, hnr, hrn, Bool.and_false, List.append_nil, List.length_nil] <;> rfl) h
   ·
    refine EvC.a ?_
    refine EvC.cf ?_
    refine EvC.a ?_
    refine EvC.ct ?_
    refine EvC.b ?_ (by simp only [go_sem, hge, edgeC, hel, hsetE] <;> rfl) (by simp [edgeC])
    refine ⟨rfl, (r.2.set i.toNat (t, e.2), []), ⟨hset2 _, rfl, (fun _ h => by cases h), ?_⟩, fun c Q h => ?_⟩
    ·rw [List.append_nil, hraw, rawRows, if_neg (show ¬ (1 : Int) = 0 by decide), if_pos (show (1 : Int) = 1 from rfl), hE]
    refine EvC.gcE [4, 7] [(0, 0), (1, 1), (2, 2), (3, 3)] 4 rfl (by simp only [go_sem, hnr, hrn, Bool.and_false, List.append_nil, List.length_nil] <;> rfl) h
   ·
    refine EvC.a ?_
    refine EvC.cf ?_
    refine EvC.a ?_
    refine EvC.cf ?_
    refine EvC.a ?_
    refine EvC.ct ?_
    refine EvC.b ?_ (by simp only [go_sem, hge, edgeC, hel, hsetE] <;> rfl) (by simp [edgeC])
    refine ⟨rfl, (r.2.set i.toNat (-1, -1), []), ⟨hset2 _, rfl, (fun _ h => by cases h), ?_⟩, fun c Q h => ?_⟩
    ·rw [List.append_nil, hraw, rawRows, if_neg (show ¬ (2 : Int) = 0 by decide), if_neg (show ¬ (2 : Int) = 1 by decide), if_pos (show (2 : Int) = 2 from rfl)]
    refine EvC.gcE [4, 7] [(0, 0), (1, 1), (2, 2), (3, 3)] 4 rfl (by simp only [go_sem, hnr, hrn, Bool.and_false, List.append_nil, List.length_nil] <;> rfl) h
   ·
    have htn : 0 ≤ t ∧ t < m.rows.length := by
     unfold kindB at hkb
     rw [if_neg (show ¬ (3 : Int) = 0 by decide), if_neg (show ¬ (3 : Int) = 1 by decide), if_neg (show ¬ (3 : Int) = 2 by decide), if_pos (show (3 : Int) = 3 from rfl)] at hkb
     simpa [inN] using hkb
    have h5 : m.rows[t.toNat]? = some (m.rows[t.toNat]'(by omega)) := List.getElem?_eq_getElem (by omega)
    have h5m := List.getElem_mem (show t.toNat < m.rows.length by omega)
    have h5n := hnn.row hv h5m
    have h5r := (hv.row _ h5m).1
    have hrt : rowAt m t = (m.rows[t.toNat]'(by omega)).2 := by unfold rowAt; rw [h5]; rfl
    generalize m.rows[t.toNat]'(by omega) = r5 at h5 h5n h5r hrt
    obtain ⟨b5, e5⟩ := r5
    simp only [Prod.mk.injEq] at h5n h5r hrt
    obtain ⟨rfl, _⟩ := h5n
    have p1 := clone80_is e5 .unk (by omega)
    have p2 := clip79_is e5 .unk
    have hr8 : room (m.rows.length + 1) 24 = true := by simp only [room_eq, decide_eq_true_eq]; omega
    refine EvC.a ?_
    refine EvC.cf ?_
    refine EvC.a ?_
    refine EvC.cf ?_
    refine EvC.a ?_
    refine EvC.cf ?_
    refine EvC.a ?_
    refine EvC.seq ?_
    refine EvC.a ?_
    refine EvC.cs ?_
    refine EvC.k2 ?_ (h1 := by simp only [go_sem, h5, rowC, List.length_map] <;> rfl) (k1 := by simp; try omega) (c1 := .ca p1) (h2 := by simp only [go_sem, h5, rowC, List.length_map] <;> rfl) (k2 := by simp; try omega) (c2 := .ca p2)
    refine EvC.seq ?_
    refine EvC.a ?_
    refine EvC.cs ?_
    refine EvC.a ?_ (by simp only [go_sem, hge, edgeC, hel, hsetE, List.length_map] <;> rfl) (by simp [edgeC])
    refine EvC.b ?_ (by simp only [go_sem, hRl, hr8] <;> rfl)
    have hex1 : ([[.sl false (e5.map edgeC) .unk]] : List (List AV)).all AV.norefs = true := by simp [AV.norefs, AV.noref, norefs_edges]
    have hex3 : ([[.sl false (e5.map edgeC) .unk]] : List (List AV)).map (fun c => c.map (AV.ren [(0, 0), (1, 1), (2, 2), (3, 3)])) = [[.sl false (e5.map edgeC) .unk]] := by simp [AV.ren, AV.noref, norefs_edges]
    generalize hXX : ([[.sl false (e5.map edgeC) .unk]] : List (List AV)) = XX at hex1 hex3 ⊢
    have hXl : XX.length = 1 := by rw [← hXX]; rfl
    refine ⟨rfl, (r.2.set i.toNat ((m.rows.length : Int), e.2), XX), ⟨hset2 _, hex1, (fun c hc => by subst hXX; simp only [List.mem_singleton] at hc; rw [hc]; rfl), ?_⟩, fun c Q h => ?_⟩
    ·rw [hraw, rawRows, if_neg (show ¬ (3 : Int) = 0 by decide), if_neg (show ¬ (3 : Int) = 1 by decide), if_neg (show ¬ (3 : Int) = 2 by decide), if_pos (show (3 : Int) = 3 from rfl), hE, hrt, hXX]
    rw [hXl] at h
    refine EvC.gcE [4, 7] [(0, 0), (1, 1), (2, 2), (3, 3)] 4 rfl (by simp only [go_sem, hnr, hrn, List.all_append, Bool.false_and, hex1, hex3, List.map_append] <;> rfl) h
   ·
    have hd2 : definedB m e.1 a = true := by
     unfold kindB at hkb
     rw [if_neg (show ¬ (4 : Int) = 0 by decide), if_neg (show ¬ (4 : Int) = 1 by decide), if_neg (show ¬ (4 : Int) = 2 by decide), if_neg (show ¬ (4 : Int) = 3 by decide)] at hkb
     simp only [Bool.and_eq_true] at hkb
     rw [hE] at hkb
     exact hkb.2.1
    obtain ⟨r5, h5, h5i, _⟩ := step_in hv hd2
    obtain ⟨c1, c2, _⟩ := definedB_iff.1 hd2
    have h5m := List.mem_of_getElem? h5
    have h5n := hnn.row hv h5m
    have h5r := (hv.row _ h5m).1
    have hrt : rowAt m e.1 = r5.2 := by unfold rowAt; rw [h5]; rfl
    obtain ⟨b5, e5⟩ := r5
    simp only [Prod.mk.injEq] at h5n h5r hrt h5i
    obtain ⟨rfl, _⟩ := h5n
    obtain ⟨q, hq⟩ : ∃ q, q = e5.length := ⟨_, rfl⟩
    have q1 := clone80_new e5 .unk (by omega) (by omega)
    have hr8 : room (m.rows.length + 1) 24 = true := by simp only [room_eq, decide_eq_true_eq]; omega
    refine EvC.a ?_
    refine EvC.cf ?_
    refine EvC.a ?_
    refine EvC.cf ?_
    refine EvC.a ?_
    refine EvC.cf ?_
    refine EvC.a ?_
    refine EvC.seq ?_
    refine EvC.a ?_
    refine EvC.ct ?_
    refine EvC.b ?_ (by simp only [go_sem, hge, edgeC, hel] <;> rfl)
    refine EvC.seq ?_
    apply EvC.tr
    ·apply Tr.run
     ·simp only [go_sem, h5, rowC] <;> rfl
     ·simp; try omega
     apply Tr.cons
     ·exact .callN rfl rfl (by simp only [go_sem] <;> rfl) (by simp only [go_sem] <;> rfl) (by simp only [go_sem] <;> rfl) (by simp only [go_sem] <;> rfl) (by simp only [go_sem] <;> rfl) q1
     apply Tr.cons
     ·exact .clip (i := 39) (n := e5.length) rfl rfl (by simp only [go_sem] <;> rfl) (by simp only [go_sem] <;> rfl) (by simp only [go_sem, List.length_map] <;> rfl) (by simp only [go_sem] <;> rfl) (by rw [List.length_map]) (by omega) (by omega) (by simp only [go_sem] <;> rfl) clip79_clips
     apply Tr.done
     ·simp only [go_sem] <;> rfl
     ·simp
    have h5g : (e5.map edgeC)[a.toNat]? = some (edgeC (stepM m e.1 a)) := by rw [List.getElem?_map, h5i]; rfl
    have h5s : ∀ x y : Int, (e5.map edgeC).set a.toNat [.sc (.int .i64 x), .sc (.int .i64 y)] = (e5.set a.toNat (x, y)).map edgeC := fun x y => by rw [List.map_set]; rfl
    have h5l : (e5.set a.toNat ((stepM m e.1 a).1, o)).length = e5.length := List.length_set
    refine EvC.seq ?_
    refine EvC.a ?_
    refine EvC.ct ?_
    refine EvC.b ?_ (by simp only [go_sem, h5g, edgeC, List.length_map, h5s] <;> rfl) (by simp; try omega)
    refine EvC.a ?_ (by simp only [go_sem, hge, edgeC, hel, hsetE, List.length_map] <;> rfl) (by simp [edgeC])
    refine EvC.frz 39 (by simp only [go_sem, List.length_map, h5l] <;> rfl) ?_
    refine EvC.b ?_ (by simp only [go_sem, hRl, hr8] <;> rfl)
    have hex1 : ([[.sl false ((e5.set a.toNat ((stepM m e.1 a).1, o)).map edgeC) .full]] : List (List AV)).all AV.norefs = true := by simp [AV.norefs, AV.noref, norefs_edges]
    have hex3 : ([[.sl false ((e5.set a.toNat ((stepM m e.1 a).1, o)).map edgeC) .full]] : List (List AV)).map (fun c => c.map (AV.ren [(0, 0), (1, 1), (2, 2), (3, 3)])) = [[.sl false ((e5.set a.toNat ((stepM m e.1 a).1, o)).map edgeC) .full]] := by simp [AV.ren, AV.noref, norefs_edges]
    generalize hXX : ([[.sl false ((e5.set a.toNat ((stepM m e.1 a).1, o)).map edgeC) .full]] : List (List AV)) = XX at hex1 hex3 ⊢
    have hXl : XX.length = 1 := by rw [← hXX]; rfl
    refine ⟨rfl, (r.2.set i.toNat ((m.rows.length : Int), e.2), XX), ⟨hset2 _, hex1, (fun c hc => by subst hXX; simp only [List.mem_singleton] at hc; rw [hc]; rfl), ?_⟩, fun c Q h => ?_⟩
    ·rw [hraw, rawRows, if_neg (show ¬ (4 : Int) = 0 by decide), if_neg (show ¬ (4 : Int) = 1 by decide), if_neg (show ¬ (4 : Int) = 2 by decide), if_neg (show ¬ (4 : Int) = 3 by decide), hE, hrt, hXX]
    rw [hXl] at h
    refine EvC.gcE [4, 7] [(0, 0), (1, 1), (2, 2), (3, 3)] 4 rfl (by simp only [go_sem, hnr, hrn, List.all_append, Bool.false_and, hex1, hex3, List.map_append] <;> rfl) h
 have dk : decide ((k : Int) < m.rows.length) = true := decide_eq_true (by omega)
 have hk : m.rows[k]? = some (m.rows[k]'hkl) := List.getElem?_eq_getElem hkl
 have hkm := List.getElem_mem hkl
 have hkn := hnn.row hv hkm
 have hkr := (hv.row _ hkm).1
 generalize m.rows[k]'hkl = rk at hk hkn hkr
 obtain ⟨bk, es⟩ := rk
 simp only [Prod.mk.injEq] at hkn hkr
 obtain ⟨rfl, _⟩ := hkn
 have hin : (k : Int).toNat = k := Int.toNat_natCast k
 have hr8 : room (k + 1) 24 = true := by simp only [room_eq, decide_eq_true_eq]; omega
 have hk1d : decide (k + 1 = 0) = false := decide_eq_false (by omega)
 have hel : (es.map edgeC).length = es.length := List.length_map _
 by_cases hkS : k = S
 ·subst hkS
  have hre : r = (false, es) := by rw [hk] at h1; exact (Option.some.inj h1).symm
  subst hre
  have hsn := rowsK_self (m := m) (S := k) (v := .tv 3 n 0 n (.val n)) (w := .tv 3 n 0 n (.val n)) hk
  have hl0 : rowsK m k k (.tv 3 n 0 n (.val n)) = ((m.rows.take k).map fun r => ((false, r.2) : Row)).map rowC := by rw [rowsK, List.set_eq_of_length_le (by simp; omega)]
  rw [hlo k (by omega)]
  refine EvC.a ?_
  refine EvC.seq ?_
  refine EvC.cr ?_ (by simp only [go_sem, dk] <;> rfl)
  refine EvC.seq ?_
  refine EvC.block ?_
  refine EvC.a ?_ (by simp only [go_sem, hk, hin, rowC] <;> rfl)
  have hsn := rowsK_self (m := m) (S := k) (v := .tv 11 n 0 n (.val n)) (w := .tv 3 n 0 n (.val n)) hk
  rw [hl0] at hsn
  have q1 := clone80_new es .unk (by omega) (by omega)
  have hnl : n = es.length := hn
  have hRl4 : (rowsK m (k + 1) k (.tv 11 n 0 n (.val n))).length = k + 1 := rowsK_len (by omega)
  have hRl : (((m.rows.take k).map fun r => ((false, r.2) : Row)).map rowC).length = k := by simp; omega
  apply EvC.drwA mixed
  ·apply Tr.run
   ·simp only [go_sem] <;> rfl
   ·simp
   apply Tr.cons
   ·exact .callN rfl rfl (by simp only [go_sem] <;> rfl) (by simp only [go_sem] <;> rfl) (by simp only [go_sem] <;> rfl) (by simp only [go_sem] <;> rfl) (by simp only [go_sem] <;> rfl) q1
   apply Tr.cons
   ·exact .clip (i := 11) (n := es.length) rfl rfl (by simp only [go_sem] <;> rfl) (by simp only [go_sem] <;> rfl) (by simp only [go_sem, hel] <;> rfl) (by simp only [go_sem] <;> rfl) (by rw [hel]) (by omega) (by omega) (by simp only [go_sem] <;> rfl) clip79_clips
   apply Tr.done
   ·simp only [go_sem, hRl, hel, ← hnl, hsn, hRl4] <;> rfl
   ·simp [hr8]
  ·kernel_rfl
  have hkk : k + 1 ≤ m.rows.length := hkl
  have hnr : (rowsK m (k + 1) k (.tv 11 n 0 n (.val n))).all AV.norefs = false := rowsK_norefs (by omega) hkk rfl
  have hrn := rowsK_ren m (k + 1) k (.tv 11 n 0 n (.val n)) [(0, 0), (1, 1), (2, 2), (11, 3)]
  refine EvC.b ?_ (hok := by exact inI64_of (by omega) (by omega))
  exact ⟨[(0, 0), (1, 1), (2, 2), (11, 3)], k + 1, rfl, (by rw [hhi (k + 1) (by omega)]; simp only [go_sem, hnr, hrn, hk1d, Bool.and_false, Int.natCast_add, Int.natCast_one] <;> rfl), hkk, by omega⟩
 ·have hsn := rowsK_other (v := .tv 3 n 0 n (.val n)) hk hkS
  simp only at hsn
  have hkk : k + 1 ≤ m.rows.length := hkl
  have hRl : (((m.rows.take k).map fun r => ((false, r.2) : Row)).map rowC).length = k := by simp; omega
  have hRl2 : (rowsK m k S (.tv 3 n 0 n (.val n))).length = k := rowsK_len (by omega)
  have hRl3 : (rowsK m (k + 1) S (.tv 3 n 0 n (.val n))).length = k + 1 := rowsK_len (by omega)
  have hRl5 : (List.take (k + 1) m.rows).length = k + 1 := by simp; omega
  have q1 := clone80_is es .unk (by omega)
  have q2 := clip79_is es .unk
  rcases Nat.lt_or_ge k S with hlt | hge
  ·have hl0 : rowsK m k S (.tv 3 n 0 n (.val n)) = ((m.rows.take k).map fun r => ((false, r.2) : Row)).map rowC := by rw [rowsK, List.set_eq_of_length_le (by simp; omega)]
   have hl1 : rowsK m (k + 1) S (.tv 3 n 0 n (.val n)) = ((m.rows.take (k + 1)).map fun r => ((false, r.2) : Row)).map rowC := by rw [rowsK, List.set_eq_of_length_le (by simp; omega)]
   rw [hl0, hl1] at hsn
   have hsn : List.map rowC (List.map (fun r => (false, r.snd)) (List.take k m.rows)) ++ [[.sl false (es.map edgeC) .unk]] = List.map rowC (List.map (fun r => (false, r.snd)) (List.take (k + 1) m.rows)) := hsn
   rw [hlo k (by omega)]
   refine EvC.a ?_
   refine EvC.seq ?_
   refine EvC.cr ?_ (by simp only [go_sem, dk] <;> rfl)
   refine EvC.seq ?_
   refine EvC.block ?_
   refine EvC.a ?_ (by simp only [go_sem, hk, hin, rowC] <;> rfl)
   apply EvC.drwA mixed
   ·apply Tr.run
    ·simp only [go_sem] <;> rfl
    ·simp
    apply Tr.cons
    ·exact .call rfl rfl (by simp only [go_sem] <;> rfl) (by simp only [go_sem] <;> rfl) (by simp only [go_sem] <;> rfl) (by simp only [go_sem] <;> rfl) (by simp only [go_sem] <;> rfl) q1
    apply Tr.cons
    ·exact .call rfl rfl (by simp only [go_sem] <;> rfl) (by simp only [go_sem] <;> rfl) (by simp only [go_sem] <;> rfl) (by simp only [go_sem] <;> rfl) (by simp only [go_sem] <;> rfl) q2
    apply Tr.done
    ·simp only [go_sem, hRl, hsn, List.length_map, hRl5] <;> rfl
    ·simp [hr8]
   ·kernel_rfl
   refine EvC.b ?_ (hok := by exact inI64_of (by omega) (by omega))
   have hnr : (List.map rowC (List.map (fun r => ((false, r.snd) : Row)) (List.take (k + 1) m.rows))).all AV.norefs = true := by
    simp only [List.all_eq_true]
    intro c hc
    obtain ⟨r, _, rfl⟩ := List.mem_map.1 hc
    exact rowC_norefs r
   exact ⟨[(0, 0), (1, 1), (2, 2)], k + 1, rfl, (by rw [hlo (k + 1) (by omega)]; simp only [go_sem, hnr, hk1d, Bool.and_false, Int.natCast_add, Int.natCast_one] <;> rfl), hkk, by omega⟩
  ·have hsn : rowsK m k S (.tv 3 n 0 n (.val n)) ++ [[.sl false (es.map edgeC) .unk]] = rowsK m (k + 1) S (.tv 3 n 0 n (.val n)) := hsn
   rw [hhi k (by omega)]
   refine EvC.a ?_
   refine EvC.seq ?_
   refine EvC.cr ?_ (by simp only [go_sem, dk] <;> rfl)
   refine EvC.seq ?_
   refine EvC.block ?_
   refine EvC.a ?_ (by simp only [go_sem, hk, hin, rowC] <;> rfl)
   apply EvC.drwA mixed
   ·apply Tr.run
    ·simp only [go_sem] <;> rfl
    ·simp
    apply Tr.cons
    ·exact .call rfl rfl (by simp only [go_sem] <;> rfl) (by simp only [go_sem] <;> rfl) (by simp only [go_sem] <;> rfl) (by simp only [go_sem] <;> rfl) (by simp only [go_sem] <;> rfl) q1
    apply Tr.cons
    ·exact .call rfl rfl (by simp only [go_sem] <;> rfl) (by simp only [go_sem] <;> rfl) (by simp only [go_sem] <;> rfl) (by simp only [go_sem] <;> rfl) (by simp only [go_sem] <;> rfl) q2
    apply Tr.done
    ·simp only [go_sem, hRl2, hsn, hRl3] <;> rfl
    ·simp [hr8]
   ·kernel_rfl
   have hnr : (rowsK m (k + 1) S (.tv 3 n 0 n (.val n))).all AV.norefs = false := rowsK_norefs (by omega) hkk rfl
   have hrn := rowsK_ren m (k + 1) S (.tv 3 n 0 n (.val n)) [(0, 0), (1, 1), (2, 2), (3, 3)]
   refine EvC.b ?_ (hok := by exact inI64_of (by omega) (by omega))
   exact ⟨[(0, 0), (1, 1), (2, 2), (3, 3)], k + 1, rfl, (by rw [hhi (k + 1) (by omega)]; simp only [go_sem, hnr, hrn, hk1d, Bool.and_false, Int.natCast_add, Int.natCast_one] <;> rfl), hkk, by omega⟩
theorem list_step {α : Type} {a : List α} {i : Nat} {x : α} (h : a[i]? = some x) : a.drop i = x :: a.drop (i + 1) := by
 obtain ⟨hi, he⟩ := List.getElem?_eq_some_iff.1 h
 rw [List.drop_eq_getElem_cons hi, he]
theorem clipI_is (nl : Bool) (es : List (List AV)) (c : Cp) (h : (es.all fun y => decide (y.length = 1)) = true) : PureIs prog 54 [.sl nl es c] (.sl nl es .full) := by
 refine PureIs.of1 3 [] func54 ntmps54 results54 fun _ => ?_
 refine EvC.seq (EvC.rg (by simp only [go_sem] <;> rfl) rfl ?_)
 refine EvC.a ?_ (hok := by simp [h])
 refine EvC.ret ⟨.inl rfl, _, (by simp only [go_sem] <;> rfl), rfl, rfl⟩
def cmpI : List Int → List Int → Int
 | x :: a, y :: b => if x < y then -1 else if y < x then 1 else cmpI a b
 | _, _ => 0
def cmpL (a b : List Int) : Int := if a.length = b.length then cmpI a b else if a.length < b.length then -1 else 1
theorem cmpI_zero : ∀ {a b : List Int}, a.length = b.length → (cmpI a b = 0 ↔ a = b)
 | [], [], _ => by simp [cmpI]
 | x :: a, y :: b, h => by
   unfold cmpI
   split
   ·simp; omega
   split
   ·simp; omega
   ·rw [cmpI_zero (by simpa using h)]
    simp; omega
theorem cmpL_zero {a b : List Int} : cmpL a b = 0 ↔ a = b := by
 unfold cmpL
 split
 ·rename_i h; exact cmpI_zero h
 ·rename_i h
  have : a ≠ b := fun e => h (by rw [e])
  split <;> simp [this]
theorem compare65_is (na nb : Bool) (a b : List Int) (ca cb : Cp) (hl : a.length < 1000000) :
  PureIs prog 83 [.sl na (a.map intC) ca, .sl nb (b.map intC) cb] (.sc (.int .i64 (cmpL a b))) := by
 refine PureIs.of1 2 [4, 5, 10, 15, 19, 30, 39] func83 ntmps83 results83 fun _ => ?_
 refine EvC.a ?_
 refine EvC.seq ?_
 refine EvC.a ?_ (by simp only [go_sem, List.length_map] <;> rfl)
 unfold cmpL
 by_cases hlen : a.length = b.length
 rotate_left
 ·have hd : decide ((a.length : Int) = (b.length : Int)) = false := decide_eq_false (by omega)
  rw [if_neg hlen]
  refine EvC.ct ?_ (by simp only [go_sem, hd] <;> rfl)
  refine EvC.seq ?_
  refine EvC.a ?_ (by simp only [go_sem, List.length_map] <;> rfl)
  by_cases hlt : a.length < b.length
  ·have h2 : decide ((a.length : Int) < (b.length : Int)) = true := decide_eq_true (by omega)
   refine EvC.ct ?_ (by simp only [go_sem, h2] <;> rfl)
   refine EvC.a ?_
   rw [if_pos hlt]
   refine EvC.rz ?_
   simp only [go_sem]
  ·have h2 : decide ((a.length : Int) < (b.length : Int)) = false := decide_eq_false (by omega)
   refine EvC.cs ?_ (by simp only [go_sem, h2] <;> rfl)
   refine EvC.a ?_
   rw [if_neg hlt]
   refine EvC.rz ?_
   simp only [go_sem]
 have hd : decide ((a.length : Int) = (b.length : Int)) = true := decide_eq_true (by omega)
 rw [if_pos hlen]
 refine EvC.cs ?_ (by simp only [go_sem, hd] <;> rfl)
 refine EvC.seq ?_
 refine EvC.a ?_
 refine EvC.block ?_
 refine EvC.loopS (σ := Nat) (fun i => ⟨[(0, .sl na (a.map intC) ca), (1, .sl nb (b.map intC) cb), (5, .sc (.int .i64 i))], [], [], 0⟩) (fun i => a.length - i) (fun i => i ≤ a.length ∧ cmpI a b = cmpI (a.drop i) (b.drop i)) [0, 1, 5] 0 ?_ ?_
 ·exact ⟨[], 0, rfl, (by simp only [go_sem, Int.natCast_zero] <;> rfl), Nat.zero_le _, rfl⟩
 rintro i ⟨hi, hinv⟩
 refine EvC.seq ?_
 refine EvC.a ?_ (by simp only [go_sem, List.length_map] <;> rfl)
 refine EvC.cond (by simp only [go_sem] <;> rfl) (fun hc => ?_) (fun hc => ?_)
 rotate_left
 ·
  refine EvC.exit ?_
  obtain rfl : a.length = i := by have : ¬ i < a.length := by simpa using hc
                                  omega
  have h0 : cmpI a b = 0 := by rw [hinv, List.drop_length, hlen, List.drop_length]; rfl
  rw [h0]
  refine EvC.a ?_
  refine EvC.rz ?_
  simp only [go_sem]
 have hil : i < a.length := by simpa using hc
 clear hc
 have he : a[i]? = some (a[i]'hil) := List.getElem?_eq_getElem hil
 have hf : b[i]? = some (b[i]'(by omega)) := List.getElem?_eq_getElem (by omega)
 generalize a[i]'hil = x at he
 generalize b[i]'(by omega) = y at hf
 rw [list_step he, list_step hf, cmpI] at hinv
 have hin : (i : Int).toNat = i := Int.toNat_natCast i
 refine EvC.skip ?_
 refine EvC.seq ?_
 refine EvC.block ?_
 refine EvC.seq ?_
 refine EvC.d mixed ?_ (h := by simp only [go_sem, he, hf, intC, hin, List.length_map] <;> rfl) (hok := by simp; try omega)
 by_cases hxy : x < y
 ·have d1 : decide (x < y) = true := decide_eq_true hxy
  refine EvC.ct ?_ (by simp only [go_sem, d1] <;> rfl)
  refine EvC.a ?_
  rw [hinv, if_pos hxy]
  refine EvC.rz ?_
  simp only [go_sem]
 have d1 : decide (x < y) = false := decide_eq_false hxy
 refine EvC.cs ?_ (by simp only [go_sem, d1] <;> rfl)
 refine EvC.d mixed ?_ (h := by simp only [go_sem, he, hf, intC, hin, List.length_map] <;> rfl) (hok := by simp; try omega)
 by_cases hyx : y < x
 ·have d2 : decide (y < x) = true := decide_eq_true hyx
  refine EvC.ct ?_ (by simp only [go_sem, d2] <;> rfl)
  refine EvC.a ?_
  rw [hinv, if_neg hxy, if_pos hyx]
  refine EvC.rz ?_
  simp only [go_sem]
 have d2 : decide (y < x) = false := decide_eq_false hyx
 refine EvC.cs ?_ (by simp only [go_sem, d2] <;> rfl)
 refine EvC.b ?_ (hok := by exact inI64_of (by omega) (by omega))
 exact ⟨[], i + 1, rfl, (by simp only [go_sem, Int.natCast_add, Int.natCast_one] <;> rfl), ⟨hil, by rw [hinv, if_neg hxy, if_neg hyx]⟩, by omega⟩
abbrev RW := Bool × List Int × Cp
def rwC (r : RW) : List AV := [.sl r.1 (r.2.1.map intC) r.2.2]
@[go_sem] theorem norefs_rw (l : List RW) : (l.map rwC).all AV.norefs = true := by simp [List.all_eq_true, rwC, AV.norefs, AV.noref]
def sameW : List RW → List RW → Bool
 | [], [] => true
 | x :: a, y :: b => decide (x.2.1 = y.2.1) && sameW a b
 | _, _ => false
theorem sameW_eq : ∀ {a b : List RW}, sameW a b = decide (a.map (·.2.1) = b.map (·.2.1))
 | [], [] => by simp [sameW]
 | x :: a, [] => by simp [sameW]
 | [], y :: b => by simp [sameW]
 | x :: a, y :: b => by simp [sameW, sameW_eq (a := a) (b := b)]
theorem sameW_len {a b : List RW} (h : sameW a b = true) : a.length = b.length := by
 rw [sameW_eq, decide_eq_true_eq] at h
 simpa using congrArg List.length h
theorem same37_is (na nb : Bool) (a b : List RW) (ca cb : Cp) (hl : a.length < 1000000) (hk : ∀ x ∈ a, x.2.1.length < 1000000) :
  PureIs prog 55 [.sl na (a.map rwC) ca, .sl nb (b.map rwC) cb] (.sc (.bool (sameW a b))) := by
 refine PureIs.of1 2 [4, 5, 10, 14, 26] func55 ntmps55 results55 fun _ => ?_
 refine EvC.a ?_
 refine EvC.seq ?_
 refine EvC.a ?_ (by simp only [go_sem, List.length_map] <;> rfl)
 by_cases hlen : a.length = b.length
 rotate_left
 ·have hd : decide ((a.length : Int) = (b.length : Int)) = false := decide_eq_false (by omega)
  have hab : sameW a b = false := by
   cases h : sameW a b with
   | false => rfl
   | true => exact absurd (sameW_len h) hlen
  rw [hab]
  refine EvC.ct ?_ (by simp only [go_sem, hd] <;> rfl)
  refine EvC.a ?_
  refine EvC.rz ?_
  simp only [go_sem]
 have hd : decide ((a.length : Int) = (b.length : Int)) = true := decide_eq_true (by omega)
 refine EvC.cs ?_ (by simp only [go_sem, hd] <;> rfl)
 refine EvC.seq ?_
 refine EvC.a ?_
 refine EvC.block ?_
 refine EvC.loopS (σ := Nat) (fun i => ⟨[(0, .sl na (a.map rwC) ca), (1, .sl nb (b.map rwC) cb), (5, .sc (.int .i64 i))], [], [], 0⟩) (fun i => a.length - i) (fun i => i ≤ a.length ∧ sameW a b = sameW (a.drop i) (b.drop i)) [0, 1, 5] 0 ?_ ?_
 ·exact ⟨[], 0, rfl, (by simp only [go_sem, Int.natCast_zero] <;> rfl), Nat.zero_le _, rfl⟩
 rintro i ⟨hi, hinv⟩
 refine EvC.seq ?_
 refine EvC.a ?_ (by simp only [go_sem, List.length_map] <;> rfl)
 refine EvC.cond (by simp only [go_sem] <;> rfl) (fun hc => ?_) (fun hc => ?_)
 rotate_left
 ·
  refine EvC.exit ?_
  obtain rfl : a.length = i := by have : ¬ i < a.length := by simpa using hc
                                  omega
  have h0 : sameW a b = true := by rw [hinv, List.drop_length, hlen, List.drop_length]; rfl
  rw [h0]
  refine EvC.a ?_
  refine EvC.rz ?_
  simp only [go_sem]
 have hil : i < a.length := by simpa using hc
 clear hc
 have he : a[i]? = some (a[i]'hil) := List.getElem?_eq_getElem hil
 have hf : b[i]? = some (b[i]'(by omega)) := List.getElem?_eq_getElem (by omega)
 have hx := hk _ (List.getElem_mem hil)
 generalize a[i]'hil = x at he hx
 generalize b[i]'(by omega) = y at hf
 rw [list_step he, list_step hf, sameW] at hinv
 have hin : (i : Int).toNat = i := Int.toNat_natCast i
 have q := compare65_is x.1 y.1 x.2.1 y.2.1 x.2.2 y.2.2 hx
 have hz := cmpL_zero (a := x.2.1) (b := y.2.1)
 generalize cmpL x.2.1 y.2.1 = z at q hz
 refine EvC.skip ?_
 refine EvC.seq ?_
 refine EvC.block ?_
 refine EvC.k1D mixed ?_ (h1 := by simp only [go_sem, he, hf, rwC, hin, List.length_map] <;> rfl) (k1 := by simp; try omega) (c1 := .ca q)
 by_cases hxy : x.2.1 = y.2.1
 ·have d1 : z = 0 := hz.2 hxy
  refine EvC.cs ?_ (by simp only [go_sem, d1] <;> rfl)
  refine EvC.b ?_ (hok := by exact inI64_of (by omega) (by omega))
  exact ⟨[], i + 1, rfl, (by simp only [go_sem, Int.natCast_add, Int.natCast_one] <;> rfl), ⟨hil, by rw [hinv, decide_eq_true hxy, Bool.true_and]⟩, by omega⟩
 ·have d1 : decide (z = 0) = false := decide_eq_false fun h => hxy (hz.1 h)
  refine EvC.ct ?_ (by simp only [go_sem, d1] <;> rfl)
  refine EvC.a ?_
  rw [hinv, decide_eq_false hxy, Bool.false_and]
  refine EvC.rz ?_
  simp only [go_sem]
theorem defined66_is {m : Mach} (hv : Valid m) (s i : Int) : PureIs prog 96 [.ag m.cells, .sc (.int .i64 s), .sc (.int .i64 i)] (.sc (.bool (definedB m s i))) := by
 refine PureIs.of1 4 [6] func96 ntmps96 results96 fun _ => ?_
 refine EvC.a ?_ (by simp only [go_sem, Mach.cells] <;> rfl)
 refine EvC.z 0 ?_
 have hn1 := hv.rows
 have hi1 := hv.ins
 cases h1 : m.rows[s.toNat]? with
 | none =>
   have hs : m.rows.length ≤ s.toNat := List.getElem?_eq_none_iff.1 h1
   have d1 : decide (0 ≤ s) = true := decide_eq_true (by omega)
   have d2 : decide (s < (m.rows.length : Int)) = false := decide_eq_false (by omega)
   have hres : definedB m s i = false := by simp [definedB, d1, d2]
   rw [hres]
   apply EvC.s1
   ·apply Tr.run
    ·simp only [go_sem, Mach.cells, List.length_map, h1, d1, d2] <;> rfl
    ·simp
    apply Tr.cons
    ·exact .skipv (.ia [.sl false [] .unk]) rfl rfl (by simp only [go_sem] <;> rfl) (by simp only [go_sem] <;> rfl)
    apply Tr.run
    ·simp only [go_sem, Mach.cells, List.length_map, h1, d1, d2] <;> rfl
    ·simp
    apply Tr.cons
    ·exact .skipv (.ia [.sc (.int .i64 0), .sc (.int .i64 0)]) rfl rfl (by simp only [go_sem] <;> rfl) (by simp only [go_sem] <;> rfl)
    apply Tr.done
    ·simp only [go_sem] <;> rfl
    ·simp
   refine EvC.rz ?_
   simp only [go_sem]
 | some r =>
   have hsl : s.toNat < m.rows.length := (List.getElem?_eq_some_iff.1 h1).1
   have hrl := (hv.row _ (List.mem_of_getElem? h1)).1
   cases h2 : r.2[i.toNat]? with
   | none =>
     have hi : r.2.length ≤ i.toNat := List.getElem?_eq_none_iff.1 h2
     have d3 : decide (0 ≤ i) = true := decide_eq_true (by omega)
     have d4 : decide (i < m.ins) = false := decide_eq_false (by omega)
     have hres : definedB m s i = false := by simp [definedB, d3, d4]
     rw [hres]
     by_cases h0 : 0 ≤ s
     ·have d1 : decide (0 ≤ s) = true := decide_eq_true h0
      have d2 : decide (s < (m.rows.length : Int)) = true := decide_eq_true (by omega)
      apply EvC.s1
      ·apply Tr.run
       ·simp only [go_sem, Mach.cells, rowC, List.length_map, h1, h2, d1, d2, d3, d4] <;> rfl
       ·simp
       apply Tr.cons
       ·exact .skipv (.ia [.sc (.int .i64 0), .sc (.int .i64 0)]) rfl rfl (by simp only [go_sem] <;> rfl) (by simp only [go_sem] <;> rfl)
       apply Tr.done
       ·simp only [go_sem] <;> rfl
       ·simp
      refine EvC.rz ?_
      simp only [go_sem]
     ·have d1 : decide (0 ≤ s) = false := decide_eq_false h0
      apply EvC.s1
      ·apply Tr.run
       ·simp only [go_sem, Mach.cells, rowC, List.length_map, h1, h2, d1, d3, d4] <;> rfl
       ·simp
       apply Tr.cons
       ·exact .skipv (.ia [.sc (.int .i64 0), .sc (.int .i64 0)]) rfl rfl (by simp only [go_sem] <;> rfl) (by simp only [go_sem] <;> rfl)
       apply Tr.done
       ·simp only [go_sem] <;> rfl
       ·simp
      refine EvC.rz ?_
      simp only [go_sem]
   | some e =>
     have he : stepM m s i = e := by rw [stepM, h1]; simp [h2]
     unfold definedB
     rw [he]
     refine EvC.g ?_ (h := by simp only [go_sem, Mach.cells, h1, h2, rowC, edgeC, List.length_map] <;> rfl) (hok := by by_cases k1 : 0 ≤ s <;> by_cases k3 : 0 ≤ i <;> simp [k1, k3])
     refine EvC.rz ?_
     simp only [go_sem]
     by_cases k1 : 0 ≤ s <;> by_cases k2 : s < m.rows.length <;> by_cases k3 : 0 ≤ i <;> by_cases k4 : i < m.ins <;> simp [k1, k2, k3, k4]
theorem inN_if (x n : Int) : (if decide (0 ≤ x) = true then decide (x < n) else false) = inN x n := by
 unfold inN
 by_cases h : 0 ≤ x <;> simp [h]
set_option maxHeartbeats 4000000 in
theorem is40_is {m : Mach} (hv : Valid m) (f : FA) : PureIs prog 66 [.ag m.cells, .ag f.cells] (.sc (.bool (faultB m f))) := by
 obtain ⟨kd, s, i, t, a, o⟩ := f
 have qd := defined66_is hv s i
 refine PureIs.of1 9 [15, 49, 50, 70, 90, 105, 118] func66 ntmps66 results66 fun _ => ?_
 refine EvC.a ?_ (by simp only [go_sem, Mach.cells, FA.cells] <;> rfl)
 refine EvC.z 0 ?_
 refine EvC.z 1 ?_
 refine EvC.seq ?_
 cases hd : definedB m s i with
 | false =>
   have hres : faultB m ⟨kd, s, i, t, a, o⟩ = false := by unfold faultB; simp only; rw [hd]; simp
   rw [hd] at qd
   rw [hres]
   refine EvC.k1 ?_ (h1 := by simp only [go_sem, Mach.cells] <;> rfl) (c1 := .ca qd)
   refine EvC.ct ?_
   refine EvC.a ?_
   refine EvC.rz ?_
   simp only [go_sem]
 | true =>
 rw [hd] at qd
 refine EvC.k1 ?_ (h1 := by simp only [go_sem, Mach.cells] <;> rfl) (c1 := .ca qd)
 refine EvC.cs ?_
 obtain ⟨r, h1, h2, he⟩ := step_in hv hd
 obtain ⟨b1, b2, _⟩ := definedB_iff.1 hd
 have hfb : faultB m ⟨kd, s, i, t, a, o⟩ = (plainB ⟨kd, s, i, t, a, o⟩ && kindB m ⟨kd, s, i, t, a, o⟩) := by unfold faultB; simp only; rw [hd, Bool.true_and]
 rw [hfb]
 clear hfb
 unfold kindB
 simp only
 generalize stepM m s i = e at *
 have h3 : m.rows[e.1.toNat]? = some (m.rows[e.1.toNat]'(by omega)) := List.getElem?_eq_getElem (by omega)
 have hrl := (hv.row _ (List.getElem_mem (show e.1.toNat < m.rows.length by omega))).1
 generalize m.rows[e.1.toNat]'(by omega) = r3 at h3 hrl
 have hsm : stepM m e.1 a = (r3.2[a.toNat]?).getD (-1, -1) := by rw [stepM, h3]; rfl
 have hi1 := hv.ins
 have hro1 := hv.rows
 refine EvC.d mixed ?_ (h := by simp only [go_sem, h1, h2, rowC, edgeC, List.length_map] <;> rfl) (hok := by simp; try omega)
 refine EvC.z 20 ?_
 refine EvC.a ?_ (by simp only [go_sem, List.length_map] <;> rfl)
 refine EvC.g ?_ (h := by simp only [go_sem, inN_if] <;> rfl)
 refine EvC.g ?_ (h := by simp only [go_sem, inN_if] <;> rfl)
 refine EvC.seq ?_
 refine EvC.a ?_
 refine EvC.block ?_
 have hno : ¬ (kd = 0 ∨ kd = 1 ∨ kd = 2 ∨ kd = 3 ∨ kd = 4) → plainB ⟨kd, s, i, t, a, o⟩ = false := fun h => by
  unfold plainB
  simp only
  rw [if_neg (by omega), if_neg (by omega), if_neg (by omega), if_neg (by omega), if_neg (by omega)]
 by_cases hk0 : kd = 0
 ·
  subst hk0
  refine EvC.a ?_
  refine EvC.ct ?_
  refine EvC.g ?_ (h := by simp only [go_sem, inN_if] <;> rfl)
  refine EvC.rz ?_
  simp only [go_sem]
  unfold plainB
  generalize inN o m.outs = b
  by_cases e1 : t = 0 <;> by_cases e2 : a = 0 <;> cases b <;> simp [e1, e2]
 have dk0 : decide (kd = 0) = false := decide_eq_false hk0
 refine EvC.a ?_ (by simp only [go_sem, dk0] <;> rfl)
 refine EvC.cf ?_
 by_cases hk1 : kd = 1
 ·
  subst hk1
  refine EvC.a ?_
  refine EvC.ct ?_
  refine EvC.g ?_ (h := by simp only [go_sem, inN_if] <;> rfl)
  refine EvC.rz ?_
  simp only [go_sem]
  unfold plainB
  generalize inN t m.rows.length = b
  by_cases e1 : o = 0 <;> by_cases e2 : a = 0 <;> cases b <;> simp [e1, e2]
 have dk1 : decide (kd = 1) = false := decide_eq_false hk1
 refine EvC.a ?_ (by simp only [go_sem, dk1] <;> rfl)
 refine EvC.cf ?_
 by_cases hk2 : kd = 2
 ·
  subst hk2
  refine EvC.a ?_
  refine EvC.ct ?_
  refine EvC.g ?_ (h := by simp only [go_sem, inN_if] <;> rfl)
  refine EvC.rz ?_
  simp only [go_sem]
  unfold plainB
  by_cases e1 : o = 0 <;> by_cases e2 : a = 0 <;> by_cases e3 : t = 0 <;> simp [e1, e2, e3]
 have dk2 : decide (kd = 2) = false := decide_eq_false hk2
 refine EvC.a ?_ (by simp only [go_sem, dk2] <;> rfl)
 refine EvC.cf ?_
 by_cases hk3 : kd = 3
 ·
  subst hk3
  refine EvC.a ?_
  refine EvC.ct ?_
  refine EvC.g ?_ (h := by simp only [go_sem, inN_if] <;> rfl)
  refine EvC.rz ?_
  simp only [go_sem]
  unfold plainB
  generalize inN t m.rows.length = b
  by_cases e1 : o = 0 <;> by_cases e2 : a = 0 <;> cases b <;> simp [e1, e2]
 have dk3 : decide (kd = 3) = false := decide_eq_false hk3
 refine EvC.a ?_ (by simp only [go_sem, dk3] <;> rfl)
 refine EvC.cf ?_
 by_cases hk4 : kd = 4
 rotate_left
 ·
  have dk4 : decide (kd = 4) = false := decide_eq_false hk4
  rw [hno (by omega)]
  refine EvC.a ?_ (by simp only [go_sem, dk4] <;> rfl)
  refine EvC.cs ?_
  refine EvC.a ?_
  refine EvC.rz ?_
  simp only [go_sem]
 subst hk4
 have qd2 := defined66_is hv e.1 a
 refine EvC.a ?_
 refine EvC.ct ?_
 have hp4 : plainB ⟨4, s, i, t, a, o⟩ = decide (t = 0) := rfl
 rw [hp4]
 rw [hsm]
 cases h4 : r3.2[a.toNat]? with
 | none =>
   have hdf : definedB m e.1 a = false := by
    cases hx : definedB m e.1 a with
    | false => rfl
    | true =>
      obtain ⟨_, k2, _⟩ := definedB_iff.1 hx
      have := List.getElem?_eq_none_iff.1 h4
      omega
   rw [hdf] at qd2
   rw [hdf]
   simp only [Bool.false_and, Bool.and_false]
   by_cases ht0 : t = 0
   ·have d1 : decide (t = 0) = true := decide_eq_true ht0
    apply EvC.seq
    apply EvC.drw mixed
    ·apply Tr.run
     ·simp only [go_sem, d1, h3, h4, rowC, List.length_map, Mach.cells] <;> rfl
     ·simp
     apply Tr.cons
     ·exact .cg (qd2)
     apply Tr.run
     ·simp only [go_sem, d1, h3, h4, rowC, List.length_map, Mach.cells] <;> rfl
     ·simp
     apply Tr.cons
     ·exact .skipv (.ia [.sc (.int .i64 0), .sc (.int .i64 0)]) rfl rfl (by simp only [go_sem] <;> rfl) (by simp only [go_sem] <;> rfl)
     apply Tr.done
     ·simp only [go_sem, d1, h3, h4, rowC, List.length_map, Mach.cells] <;> rfl
     ·simp
    ·kernel_rfl
    refine EvC.rz ?_
    simp only [go_sem]
   ·have d1 : decide (t = 0) = false := decide_eq_false ht0
    apply EvC.seq
    apply EvC.drw mixed
    ·apply Tr.run
     ·simp only [go_sem, d1, h3, h4, rowC, List.length_map, Mach.cells] <;> rfl
     ·simp
     apply Tr.cons
     ·exact .skipv (.sc (.bool false)) rfl rfl (by simp only [go_sem] <;> rfl) (by simp only [go_sem] <;> rfl)
     apply Tr.run
     ·simp only [go_sem, d1, h3, h4, rowC, List.length_map, Mach.cells] <;> rfl
     ·simp
     apply Tr.cons
     ·exact .skipv (.ia [.sc (.int .i64 0), .sc (.int .i64 0)]) rfl rfl (by simp only [go_sem] <;> rfl) (by simp only [go_sem] <;> rfl)
     apply Tr.done
     ·simp only [go_sem, d1, h3, h4, rowC, List.length_map, Mach.cells] <;> rfl
     ·simp
    ·kernel_rfl
    refine EvC.rz ?_
    simp only [go_sem]
 | some e4 =>
   have hal : a.toNat < r3.2.length := (List.getElem?_eq_some_iff.1 h4).1
   by_cases ht0 : t = 0
   rotate_left
   ·have d1 : decide (t = 0) = false := decide_eq_false ht0
    apply EvC.seq
    apply EvC.drw mixed
    ·apply Tr.run
     ·simp only [go_sem, d1, h3, h4, edgeC, rowC, List.length_map, Mach.cells] <;> rfl
     ·simp
     apply Tr.cons
     ·exact .skipv (.sc (.bool false)) rfl rfl (by simp only [go_sem] <;> rfl) (by simp only [go_sem] <;> rfl)
     apply Tr.done
     ·simp only [go_sem, d1, h3, h4, edgeC, rowC, List.length_map, Mach.cells] <;> rfl
     ·simp
    ·kernel_rfl
    refine EvC.rz ?_
    simp only [go_sem]
    rw [d1]; rfl
   have d1 : decide (t = 0) = true := decide_eq_true ht0
   cases hdf : definedB m e.1 a with
   | false =>
     rw [hdf] at qd2
     refine EvC.k1D mixed ?_ (h1 := by simp only [go_sem, d1, h3, h4, edgeC, rowC, List.length_map, Mach.cells] <;> rfl) (c1 := .cg qd2) (h2 := by simp only [go_sem, d1, h3, h4, edgeC, rowC, List.length_map, Mach.cells] <;> rfl)
     refine EvC.rz ?_
     simp only [go_sem]
   | true =>
     rw [hdf] at qd2
     obtain ⟨k1, k2, _⟩ := definedB_iff.1 hdf
     refine EvC.k1D mixed ?_ (h1 := by simp only [go_sem, d1, h3, h4, edgeC, rowC, List.length_map, Mach.cells] <;> rfl) (k1 := by simp; try omega) (c1 := .cg qd2) (h2 := by simp only [go_sem, d1, h3, h4, edgeC, rowC, List.length_map, Mach.cells] <;> rfl) (k2 := by simp; try omega)
     refine EvC.rz ?_
     simp only [go_sem]
     generalize inN o m.outs = b
     rw [d1]
     cases b <;> simp
@[go_sem] theorem norefs_faL (l : List FA) : (l.map FA.cells).all AV.norefs = true := by simp [List.all_eq_true, FA.cells, AV.norefs, AV.noref]
def apF (a b : List FA) : List FA := a ++ b
theorem apF_nil (a : List FA) : apF a [] = a := List.append_nil a
theorem apF_app (a b c : List FA) : apF a (b ++ c) = apF (apF a b) c := (List.append_assoc a b c).symm
theorem apF_len (a b : List FA) : (apF a b).length = a.length + b.length := List.length_append
def u8C (x : Int) : List AV := [.sc (.int .u8 x)]
@[go_sem] theorem norefs_u8 (l : List Int) : (l.map u8C).all AV.norefs = true := by simp [List.all_eq_true, u8C, AV.norefs, AV.noref]
def wbR (x : Bool × List Int) : List AV := [.sl x.1 (x.2.map u8C) .unk]
def boolC (b : Bool) : List AV := [.sc (.bool b)]
@[go_sem] theorem norefs_bool (l : List Bool) : (l.map boolC).all AV.norefs = true := by simp [List.all_eq_true, boolC, AV.norefs, AV.noref]
def ex (xs : List (Int × Int)) (a : Nat) : Int × Int := xs[a]?.getD (-1, -1)
theorem fits_cases {n o a b : Int} (h : fitsR n o a b = true) : (a = -1 ∧ b = -1) ∨ (0 ≤ a ∧ a < n ∧ 0 ≤ b ∧ b < o) := by
 unfold fitsR at h; simp at h; omega
structure WV (m : Mach) : Prop where
 ins : 1 ≤ m.ins ∧ m.ins ≤ 16
 rows : 1 ≤ m.rows.length ∧ m.rows.length ≤ 1000
 row : ∀ r ∈ m.rows, (r.2.length : Int) = m.ins ∧ ∀ e ∈ r.2, fitsR m.rows.length m.outs e.1 e.2 = true
theorem Valid.w {m : Mach} (h : Valid m) : WV m := ⟨h.ins, ⟨h.rows.1, by have := h.rows.2; omega⟩, h.row⟩
abbrev Mtx := Nat → Nat → Bool
def mrow (cp : Cp) (n : Nat) (M : Mtx) (i : Nat) : List AV := [.sl false (((List.range n).map (M i)).map boolC) cp]
@[go_sem] theorem norefs_mrow (cp : Cp) (n : Nat) (M : Mtx) (l : List Nat) : (l.map (mrow cp n M)).all AV.norefs = true := by
 rw [List.all_eq_true]
 intro y hy
 obtain ⟨i, _, rfl⟩ := List.mem_map.1 hy
 simp only [mrow, AV.norefs, AV.noref, norefs_bool, Bool.and_self]
def mtab (n : Nat) (M : Mtx) (i : Nat) : List (List AV) := (List.range i).map (mrow .unk n M)
@[go_sem] theorem norefs_mtab (n : Nat) (M : Mtx) (i : Nat) : (mtab n M i).all AV.norefs = true := norefs_mrow _ _ _ _
@[go_sem] theorem mtab_ren (n : Nat) (M : Mtx) (i : Nat) (ρ : List (Nat × Nat)) : (mtab n M i).map (fun c => c.map (AV.ren ρ)) = mtab n M i := by
 rw [mtab, List.map_map]
 refine List.map_congr_left fun k _ => ?_
 simp only [Function.comp, mrow, List.map_cons, List.map_nil]
 rfl
def orR : List Int → Int
 | [] => 0
 | x :: xs => if x ≠ 0 then x else orR xs
theorem or_is (nl : Bool) (xs : List Int) (c : Cp) (hl : xs.length < 1000000) : PureIs prog 121 [.sl nl (xs.map intC) c] (.sc (.int .i64 (orR xs))) := by
 refine PureIs.of1 6 [6, 7, 8, 9, 14] func121 ntmps121 results121 fun _ => ?_
 refine EvC.seq (EvC.rg (by simp only [go_sem] <;> rfl) rfl ?_)
 refine EvC.seq (EvC.rg (by simp only [go_sem] <;> rfl) rfl ?_)
 refine EvC.seq ?_
 refine EvC.seq (EvC.rg (by simp only [go_sem] <;> rfl) rfl ?_)
 refine EvC.block (EvC.loopS (σ := Nat) (fun i => ⟨[(3, .sc (.int .i64 0)), (6, .sl nl (xs.map intC) c), (7, .sc (.int .i64 xs.length)), (8, .sc (.int .i64 i))], [], [], 0⟩) (fun i => xs.length - i) (fun i => i ≤ xs.length ∧ orR xs = orR (xs.drop i)) [3, 6, 7, 8] 0 ?_ ?_)
 ·refine ⟨[], 0, rfl, (by simp only [go_sem] <;> rfl), Nat.zero_le _, by simp⟩
 rintro i ⟨h1, h2⟩
 refine EvC.seq (EvC.rg (by simp only [go_sem] <;> rfl) rfl ?_)
 refine EvC.seq (EvC.cond (by simp only [go_sem] <;> rfl) (fun hc => ?_) (fun hc => ?_))
 ·refine EvC.skip ?_
  have hi : i < xs.length := by simpa using hc
  have he : xs[i]? = some xs[i] := List.getElem?_eq_getElem hi
  generalize xs[i] = e at he
  have hd : xs.drop i = e :: xs.drop (i + 1) := by
   rw [List.drop_eq_getElem_cons hi]; congr 1; rw [List.getElem?_eq_getElem hi] at he; simpa using he
  refine EvC.seq ?_
  refine EvC.block (EvC.seq (EvC.rg (by simp only [go_sem, he, intC] <;> rfl) (by simp) ?_))
  refine EvC.a ?_
  refine EvC.cond (by simp only [go_sem] <;> rfl) (fun hc1 => ?_) (fun hc1 => ?_)
  ·refine EvC.seq (EvC.rg (by simp only [go_sem] <;> rfl) rfl ?_)
   refine EvC.rz ?_
   simp only [go_sem]
   rw [h2, hd, orR, if_pos (by simpa using hc1)]
  refine EvC.skip ?_
  refine EvC.rg (by simp only [go_sem] <;> rfl) ?_ ?_
  ·exact inI64_of (by omega) (by omega)
  refine ⟨[], i + 1, rfl, (by simp only [go_sem] <;> rfl), ⟨by omega, ?_⟩, by omega⟩
  rw [h2, hd, orR, if_neg (by simpa using hc1)]
 ·refine EvC.exit ?_
  have hi : ¬ i < xs.length := by simpa using hc
  refine EvC.seq (EvC.rg (by simp only [go_sem] <;> rfl) rfl ?_)
  refine EvC.rz ?_
  simp only [go_sem]
  rw [h2, List.drop_of_length_le (by omega)]; rfl
def bothR (a b : Mach) : Int := if checkM a ≠ 0 then checkM a else if checkM b ≠ 0 then checkM b else if a.ins ≠ b.ins then 5 else 0
theorem both_is (a b : Mach) (ha : ∀ r ∈ a.rows, r.2.length < 1000000) (hb : ∀ r ∈ b.rows, r.2.length < 1000000) : PureIs prog 105 [.ag a.cells, .ag b.cells] (.sc (.int .i64 (bothR a b))) := by
 refine PureIs.of1 6 [20] func105 ntmps105 results105 fun _ => ?_
 refine EvC.seq (EvC.rg (by simp only [go_sem, Mach.cells] <;> rfl) rfl ?_)
 apply EvC.seq
 apply EvC.drw mixed
 ·apply Tr.run
  ·simp only [go_sem] <;> rfl
  ·simp
  apply Tr.cons
  ·exact .ca (check_is a ha)
  apply Tr.run
  ·simp only [go_sem] <;> rfl
  ·simp
  apply Tr.cons
  ·exact .ca (check_is b hb)
  apply Tr.run
  ·simp only [go_sem, List.set_cons_zero, List.set_cons_succ] <;> rfl
  ·simp
  apply Tr.cons
  ·exact .ca (or_is false [checkM a, checkM b] .full (by simp))
  apply Tr.done
  ·simp only [go_sem] <;> rfl
  ·simp
 ·kernel_rfl
 apply EvC.seq
 apply EvC.seq
 apply EvC.trd
 ·simp only [go_sem] <;> rfl
 ·simp
 have ho : orR [checkM a, checkM b] = if checkM a ≠ 0 then checkM a else checkM b := by
  unfold orR orR orR; by_cases h : checkM a = 0 <;> simp [h] <;> omega
 refine EvC.cond (by simp only [go_sem] <;> rfl) (fun hc => ?_) (fun hc => ?_)
 ·refine EvC.rg (by simp only [go_sem] <;> rfl) rfl ?_
  refine EvC.seq (EvC.rg (by simp only [go_sem] <;> rfl) rfl ?_)
  refine EvC.rz ?_
  simp only [go_sem]
  rw [ho] at hc
  have : bothR a b = 5 := by unfold bothR; grind
  rw [this]
 ·refine EvC.skip ?_
  refine EvC.seq (EvC.rg (by simp only [go_sem] <;> rfl) rfl ?_)
  refine EvC.rz ?_
  simp only [go_sem]
  rw [ho] at hc ⊢
  have : bothR a b = if checkM a ≠ 0 then checkM a else checkM b := by unfold bothR; grind
  rw [this]
theorem index49_is (nl : Bool) (xs : List (Int × Int)) (c : Cp) (v : Int × Int) (hl : xs.length < 1000000) :
  PureIs prog 130 [.sl nl (xs.map edgeC) c, edgeA v] (.sc (.int .i64 (findIdxR (fun e => decide (e = v)) xs 0))) := by
 refine PureIs.of1 2 [3, 4, 5, 7, 8, 9, 16] func130 ntmps130 results130 fun _ => ?_
 refine EvC.a ?_ (by simp only [go_sem, edgeA] <;> rfl)
 refine EvC.seq ?_
 refine EvC.a ?_
 refine EvC.block ?_
 refine EvC.loopS (σ := Nat) (fun i => ⟨[(0, .sl nl (xs.map edgeC) c), (3, .rf 0 0), (7, .sc (.int .i64 xs.length)), (8, .sc (.int .i64 i))], [], [(0, .cells (edgeC v))], 1⟩) (fun i => xs.length - i)
  (fun i => i ≤ xs.length ∧ findIdxR (fun e => decide (e = v)) xs 0 = findIdxR (fun e => decide (e = v)) (xs.drop i) i) [0, 3, 7, 8] 1 ?_ ?_
 ·refine ⟨[(0, 0)], 0, rfl, (by simp only [go_sem, edgeC] <;> rfl), Nat.zero_le _, by simp⟩
 rintro i ⟨h1, h2⟩
 refine EvC.a ?_
 refine EvC.seq ?_
 refine EvC.cond (by simp only [go_sem] <;> rfl) (fun hc => ?_) (fun hc => ?_)
 rotate_left
 ·refine EvC.exit ?_
  have hi : ¬ i < xs.length := by simpa using hc
  refine EvC.a ?_
  refine EvC.rz ?_
  simp only [go_sem]
  rw [h2, List.drop_of_length_le (by omega)]; rfl
 refine EvC.skip ?_
 have hi : i < xs.length := by simpa using hc
 have he : xs[i]? = some xs[i] := List.getElem?_eq_getElem hi
 have hd : xs.drop i = xs[i] :: xs.drop (i + 1) := List.drop_eq_getElem_cons hi
 generalize xs[i] = e at he hd
 refine EvC.seq ?_
 refine EvC.block ?_
 refine EvC.a ?_
 apply EvC.seq
 apply EvC.drd mixed
 ·simp only [go_sem, he, edgeC] <;> rfl
 ·simp
 ·kernel_rfl
 have hev : (decide (v.1 = e.1) && (decide (v.2 = e.2) && true)) = decide (e = v) := by
  obtain ⟨a, b⟩ := e; obtain ⟨c, d⟩ := v
  by_cases h1 : a = c <;> by_cases h2 : b = d <;> simp [h1, h2, eq_comm]
 refine EvC.cond (by simp only [go_sem] <;> rfl) (fun hc => ?_) (fun hc => ?_)
 ·refine EvC.a ?_
  refine EvC.rz ?_
  simp only [go_sem]
  have : decide (e = v) = true := by rw [← hev]; simpa using hc
  rw [h2, hd, findIdxR, if_pos this]
 refine EvC.skip ?_
 refine EvC.b ?_ (hok := inI64_of (by omega) (by omega))
 refine ⟨[(0, 0)], i + 1, rfl, (by simp only [go_sem] <;> rfl), ⟨by omega, ?_⟩, by omega⟩
 have : ¬ decide (e = v) = true := by rw [← hev]; simpa using hc
 rw [h2, hd, findIdxR, if_neg this]; rfl
theorem any_mem (xs : List (Int × Int)) (v : Int × Int) : (xs.any fun e => decide (e = v)) = decide (v ∈ xs) := by
 rw [Bool.eq_iff_iff]; simp
theorem contains46_is (nl : Bool) (xs : List (Int × Int)) (c : Cp) (v : Int × Int) (hl : xs.length < 1000000) :
  PureIs prog 124 [.sl nl (xs.map edgeC) c, edgeA v] (.sc (.bool (decide (v ∈ xs)))) := by
 refine PureIs.of1 2 [3, 4] func124 ntmps124 results124 fun _ => ?_
 refine EvC.a ?_ (by simp only [go_sem, edgeA] <;> rfl)
 apply EvC.seq
 apply EvC.tr
 ·apply Tr.run
  ·simp only [go_sem] <;> rfl
  ·simp
  apply Tr.cons
  ·exact .ca (index49_is nl xs c v hl)
  apply Tr.done
  ·simp only [go_sem] <;> rfl
  ·simp
 refine EvC.rz ?_
 simp only [go_sem]
 rw [findIdxR_any _ _ _ (Int.le_refl 0), any_mem]
abbrev Arr := (Int × Int) × Int × Int
def arrC (a : Arr) : List AV := [.sc (.int .i64 a.1.1), .sc (.int .i64 a.1.2), .sc (.int .i64 a.2.1), .sc (.int .i64 a.2.2)]
@[go_sem] theorem norefs_arrs (l : List Arr) : (l.map arrC).all AV.norefs = true := by simp [List.all_eq_true, arrC, AV.norefs, AV.noref]
def wordR (l : List Arr) : Nat → Int → List Int → List Int
 | 0, _, acc => acc
 | n + 1, at', acc => match l[at'.toNat]? with
   | some a => if a.2.1 = -1 then acc else wordR l n a.2.1 (a.2.2 :: acc)
   | none => acc
def WfArr (l : List Arr) : Prop := ∀ (i : Nat) (a : Arr), l[i]? = some a → -1 ≤ a.2.1 ∧ a.2.1 < i
theorem word_is (nl : Bool) (l : List Arr) (c : Cp) (hw : WfArr l) (at' : Int) (h0 : 0 ≤ at') (ha : at' < l.length) (acc : List Int) (c2 : Cp) (hl : l.length + acc.length < 1000000) :
  PureIs prog 123 [.sl nl (l.map arrC) c, .sc (.int .i64 at'), .sl false (acc.map intC) c2] (.sl false ((wordR l l.length at' acc).map intC) .full) := by
 refine PureIs.of1 3 [6, 12] func123 ntmps123 results123 fun _ => ?_
 refine EvC.a ?_
 refine EvC.seq ?_
 refine EvC.block ?_
 refine EvC.loopS (σ := Int × List Int × Cp) (fun g => ⟨[(0, .sl nl (l.map arrC) c), (1, .sc (.int .i64 g.1)), (2, .sl false (g.2.1.map intC) g.2.2)], [], [], 0⟩) (fun g => g.1.toNat)
  (fun g => 0 ≤ g.1 ∧ g.1 < l.length ∧ g.2.1.length + g.1 < 1000000 ∧ ∃ n : Nat, g.1 < n ∧ wordR l l.length at' acc = wordR l n g.1 g.2.1) [0, 1, 2] 0 ?_ ?_
 ·refine ⟨[], (at', acc, c2), rfl, (by simp only [go_sem] <;> rfl), h0, ha, ?_, l.length, by omega, rfl⟩
  simp only; omega
 rintro ⟨t, xs, c3⟩ ⟨h1, h2, h3, n, h4, h5⟩
 simp only at h1 h2 h3 h4 h5
 have hi : t.toNat < l.length := by omega
 have he : l[t.toNat]? = some l[t.toNat] := List.getElem?_eq_getElem hi
 generalize l[t.toNat] = a at he
 obtain ⟨w1, w2⟩ := hw _ _ he
 refine EvC.seq ?_
 refine EvC.a ?_ (by simp only [go_sem, he, arrC] <;> rfl) (by simp [h1])
 refine EvC.cond (by simp only [go_sem] <;> rfl) (fun hc => ?_) (fun hc => ?_)
 rotate_left
 ·refine EvC.exit ?_
  have hc : a.2.1 = -1 := by simpa using hc
  apply EvC.seq
  apply EvC.tr
  ·apply Tr.run
   ·simp only [go_sem] <;> rfl
   ·simp
   apply Tr.cons
   ·exact .ca (clipI_is false (xs.map intC) c3 (by simp [intC]))
   apply Tr.done
   ·simp only [go_sem] <;> rfl
   ·simp
  refine EvC.rz ?_
  simp only [go_sem]
  rw [h5]
  obtain ⟨m, rfl⟩ : ∃ m, n = m + 1 := ⟨n - 1, by omega⟩
  simp only [wordR, he, hc, if_true]
 have hc : a.2.1 ≠ -1 := by simpa using hc
 refine EvC.skip ?_
 refine EvC.block ?_
 refine EvC.seq (EvC.rg (by simp only [go_sem, he, arrC, List.set_cons_zero] <;> rfl) ?_ ?_)
 ·have hx : xs.length < 1000000 := by omega
  simp [h1, room_eq, intC, AV.norefs, AV.noref]; omega
 refine EvC.b ?_ (by simp only [go_sem, he, arrC] <;> rfl) (by simp [h1])
 refine ⟨[], (a.2.1, a.2.2 :: xs, .unk), rfl, (by simp only [go_sem, intC] <;> rfl), ⟨?_, ?_, ?_, n - 1, ?_, ?_⟩, ?_⟩
 all_goals simp only [List.length_cons]
 ·omega
 ·omega
 ·omega
 ·omega
 ·rw [h5]
  obtain ⟨m, rfl⟩ : ∃ m, n = m + 1 := ⟨n - 1, by omega⟩
  simp only [wordR, he, if_neg hc, Nat.add_sub_cancel]
 ·omega
theorem nodup_bound : ∀ (n : Nat) (l : List Nat), l.Nodup → (∀ x ∈ l, x < n) → l.length ≤ n
 | 0, [], _, _ => Nat.le_refl _
 | 0, x :: _, _, h => absurd (h x List.mem_cons_self) (Nat.not_lt_zero _)
 | n + 1, l, hn, h => by
   have h1 := nodup_bound n (l.filter (fun x => decide (x ≠ n))) (hn.filter _) fun x hx => by
    obtain ⟨h2, h3⟩ := List.mem_filter.1 hx
    have := h x h2
    have h3 : x ≠ n := by simpa using h3
    omega
   have h2 : (l.filter (fun x => decide (x = n))).length ≤ 1 := by
    have h3 : ∀ x ∈ l.filter (fun x => decide (x = n)), x = n := fun x hx => by simpa using (List.mem_filter.1 hx).2
    have h4 := hn.filter (fun x => decide (x = n))
    generalize l.filter (fun x => decide (x = n)) = m at h3 h4
    match m, h3, h4 with
    | [], _, _ => simp
    | [_], _, _ => simp
    | x :: y :: m, h3, h4 =>
      have e1 := h3 x (by simp)
      have e2 := h3 y (by simp)
      subst e1; subst e2
      simp at h4
   have h3 : l.length = (l.filter (fun x => decide (x ≠ n))).length + (l.filter (fun x => decide (x = n))).length := by
    clear hn h h1 h2
    induction l with
    | nil => rfl
    | cons x l ih =>
      by_cases hx : x = n <;> simp [List.filter_cons, hx, ih] <;> omega
   omega
theorem pairs_bound (l : List (Int × Int)) (hn : l.Nodup) (h : ∀ p ∈ l, 0 ≤ p.1 ∧ p.1 < 64 ∧ 0 ≤ p.2 ∧ p.2 < 64) : l.length ≤ 4096 := by
 have := nodup_bound 4096 (l.map fun p => p.1.toNat * 64 + p.2.toNat) (by
  refine List.Pairwise.map _ (R := fun a b => a ∈ l ∧ b ∈ l ∧ a ≠ b) ?_ ?_
  ·rintro ⟨a, b⟩ ⟨c, d⟩ ⟨h1, h2, h3⟩ h4
   have k1 := h _ h1
   have k2 := h _ h2
   simp only at k1 k2 h4
   exact h3 (by rw [Prod.mk.injEq]; omega)
  ·exact List.Pairwise.imp_of_mem (fun h1 h2 h3 => ⟨h1, h2, h3⟩) hn) (by
  intro x hx
  obtain ⟨p, hp, rfl⟩ := List.mem_map.1 hx
  have := h p hp; omega)
 simpa using this
structure Yld where
 at' : Int
 inp : Int
 x : Int × Int
 y : Int × Int
 l : List Arr
def meetA (z : Yld) : AV := .ag [.sc (.int .i64 z.at'), .sc (.int .i64 z.inp), .sc (.int .i64 z.x.1), .sc (.int .i64 z.x.2), .sc (.int .i64 z.y.1), .sc (.int .i64 z.y.2)]
def yldC (z : Yld) : List AV := [meetA z, .sl false (z.l.map arrC) .unk]
def nextL (at' i : Int) (x y : Int × Int) (l : List Arr) : List Arr :=
 if x.1 ≠ -1 ∧ y.1 ≠ -1 ∧ (x.1, y.1) ∉ l.map (·.1) then l ++ [((x.1, y.1), at', i)] else l
def inR (a b : Mach) (at' s t : Int) : Nat → Nat → List Arr → List Yld × List Arr
 | 0, _, l => ([], l)
 | n + 1, i, l => (⟨at', i, stepR a s i, stepR b t i, l⟩ :: (inR a b at' s t n (i + 1) (nextL at' i (stepR a s i) (stepR b t i) l)).1, (inR a b at' s t n (i + 1) (nextL at' i (stepR a s i) (stepR b t i) l)).2)
def outR (a b : Mach) : Nat → Nat → List Arr → List Yld
 | 0, _, _ => []
 | n + 1, at', l => match l[at']? with
   | none => []
   | some p => (inR a b at' p.1.1 p.1.2 a.ins.toNat 0 l).1 ++ outR a b n (at' + 1) (inR a b at' p.1.1 p.1.2 a.ins.toNat 0 l).2
def arr0 : List Arr := [((0, 0), -1, 0)]
def meetsR (a b : Mach) : List Yld := outR a b 5000 0 arr0
structure GoodL (a b : Mach) (l : List Arr) : Prop where
 nd : (l.map (·.1)).Nodup
 rng : ∀ p ∈ l, 0 ≤ p.1.1 ∧ p.1.1 < a.rows.length ∧ 0 ≤ p.1.2 ∧ p.1.2 < b.rows.length
 wf : WfArr l
theorem GoodL.len {a b : Mach} (ha : Valid a) (hb : Valid b) {l : List Arr} (h : GoodL a b l) : l.length ≤ 4096 := by
 have := pairs_bound (l.map (·.1)) h.nd fun p hp => by
  obtain ⟨q, hq, rfl⟩ := List.mem_map.1 hp
  have := h.rng q hq
  have h1 := ha.rows; have h2 := hb.rows; omega
 simpa using this
theorem GoodL.zero {a b : Mach} (ha : Valid a) (hb : Valid b) : GoodL a b arr0 := by
 have h1 := ha.rows
 have h2 := hb.rows
 refine ⟨by simp [arr0], ?_, ?_⟩
 ·intro p hp
  simp only [arr0, List.mem_singleton] at hp
  subst hp
  simp only; omega
 ·intro i p hp
  cases i with
  | zero => simp only [arr0, List.getElem?_cons_zero, Option.some.injEq] at hp; subst hp; simp
  | succ i => simp [arr0] at hp
theorem GoodL.next {a b : Mach} (ha : Valid a) (hb : Valid b) {l : List Arr} (h : GoodL a b l) {at' : Nat} (hat : at' < l.length) {i : Int} {s t : Int} (hs : 0 ≤ s ∧ s < a.rows.length) (ht : 0 ≤ t ∧ t < b.rows.length) (hi : 0 ≤ i ∧ i < a.ins) (hab : a.ins = b.ins) :
  GoodL a b (nextL at' i (stepR a s i) (stepR b t i) l) ∧ at' < (nextL at' i (stepR a s i) (stepR b t i) l).length := by
 unfold nextL
 split
 ·rename_i hx
  obtain ⟨h1, h2, h3⟩ := hx
  obtain ⟨_, _, _, _, e1, f1⟩ := stepR_get ha hs.1 hs.2 hi
  obtain ⟨_, _, _, _, e2, f2⟩ := stepR_get hb ht.1 ht.2 (by rw [← hab]; exact hi)
  rw [← e1] at f1
  rw [← e2] at f2
  refine ⟨⟨?_, ?_, ?_⟩, by simp; omega⟩
  ·rw [List.map_append, List.nodup_append]
   refine ⟨h.nd, by simp, ?_⟩
   rintro p hp q hq rfl
   simp only [List.map_cons, List.map_nil, List.mem_singleton] at hq
   subst hq
   exact h3 hp
  ·intro p hp
   rcases List.mem_append.1 hp with hp | hp
   ·exact h.rng p hp
   ·simp only [List.mem_singleton] at hp
    subst hp
    unfold fitsR at f1 f2
    simp at f1 f2
    simp only; omega
  ·intro j p hp
   by_cases hj : j < l.length
   ·rw [List.getElem?_append_left hj] at hp; exact h.wf j p hp
   ·rw [List.getElem?_append_right (by omega)] at hp
    by_cases h0 : j - l.length = 0
    ·rw [h0] at hp
     simp only [List.getElem?_cons_zero, Option.some.injEq] at hp
     subst hp
     simp only; omega
    ·obtain ⟨m, hm⟩ : ∃ m, j - l.length = m + 1 := ⟨j - l.length - 1, by omega⟩
     rw [hm] at hp; simp at hp
 ·exact ⟨h, hat⟩
def pairV (p : Int × Int) : Value := .agg [Value.int .i64 p.1, .int .i64 p.2].toArray
def seenE (a : Arr) : Value × AV := (pairV a.1, .sc (.bool true))
@[go_sem] theorem key183 : isKey prog 183 = keyTest true [.int .i64, .int .i64] := isKey_of (by kernel_rfl) (by kernel_rfl)
@[go_sem] theorem norefs_seen (l : List Arr) : ((l.map seenE).all fun p => p.2.noref) = true := by simp [List.all_eq_true, seenE, AV.noref]
theorem eqVal_pair (p q : Int × Int) : eqVal (pairV p) (pairV q) = decide (p = q) := by
 obtain ⟨a, b⟩ := p; obtain ⟨c, d⟩ := q
 simp [eqVal, pairV, Value.cells, eqCells, eqCell]
theorem elook_seen (l : List Arr) (p : Int × Int) : elook (l.map seenE) (pairV p) = if p ∈ l.map (·.1) then some (.sc (.bool true)) else none := by
 induction l with
 | nil => rfl
 | cons a l ih =>
   simp only [List.map_cons, seenE, elook, eqVal_pair, List.mem_cons]
   by_cases h : p = a.1
   ·simp [h]
   ·simp only [h, decide_false, Bool.false_eq_true, if_false, false_or]; exact ih
theorem eset_seen (l : List Arr) (p : Int × Int) (h : p ∉ l.map (·.1)) (q : Int × Int) : eset (l.map seenE) (pairV p) (.sc (.bool true)) = (l ++ [(p, q)]).map seenE := by
 induction l with
 | nil => rfl
 | cons a l ih =>
   simp only [List.map_cons, List.mem_cons, not_or] at h
   simp only [List.map_cons, List.cons_append, seenE, eset, eqVal_pair]
   rw [if_neg (by simpa using h.1)]
   congr 1
   exact ih h.2
theorem meets1_seq (a b : Mach) (ha : Valid a) (hb : Valid b) (hab : a.ins = b.ins) : SeqIs prog 129 [.ia a.cells, .ia b.cells] ((meetsR a b).map yldC) := by
 refine SeqIs.of (nv := 3) (hid := [4, 5, 6, 7, 8, 9, 10, 11, 12, 17, 21, 37, 38, 39, 65, 84]) func129 rfl (by kernel_rfl) (by simp [ntmps129]) (by rw [results129]) fun lp J h0 hJ hy => ?_
 rw [ntmps129]
 refine EvY.seqL hJ (EvC.rg (by simp only [go_sem] <;> rfl) (by simp [descAgg, matchKinds, matchKind]) ?_)
 refine EvY.seqL hJ (EvC.rg (by simp only [go_sem] <;> rfl) (by simp) ?_)
 refine EvY.fz hJ 6 (by simp only [go_sem] <;> rfl) ?_
 refine EvY.seqL hJ (EvC.rg (by simp only [go_sem] <;> rfl) (by simp) ?_)
 refine EvY.block ?_
 refine EvY.loopS hJ (σ := Nat × Nat × List Arr × List Yld) (fun g => ⟨[(0, .sc (yv lp)), (1, .ia a.cells), (2, .ia b.cells), (4, .mp 0), (5, .tl 1 g.2.2.1.length false), (6, .sc (.int .i64 g.2.1))], [], [(0, .map 183 (g.2.2.1.map seenE)), (1, .arr 4 (g.2.2.1.map arrC) true)], 2⟩) (fun g => g.2.2.2.length) (fun g => 5000 - g.2.1)
  (fun g => GoodL a b g.2.2.1 ∧ g.2.1 ≤ g.2.2.1.length ∧ meetsR a b = g.2.2.2 ++ outR a b g.1 g.2.1 g.2.2.1 ∧ g.1 + g.2.1 = 5000) [0, 1, 2, 4, 5, 6] 2 ?_ ?_
 ·refine ⟨[(0, 0), (6, 1)], (5000, 0, arr0, []), rfl, (by simp only [go_sem, arr0, seenE, pairV, arrC] <;> rfl), ⟨.zero ha hb, Nat.zero_le _, rfl, rfl⟩, rfl⟩
 rintro ⟨n, at', l, pre⟩ ⟨hg, hat, hpre, hn⟩
 simp only at hg hat hpre hn
 have hlen := hg.len ha hb
 have hra := ha.rows
 have hrb := hb.rows
 have hia := ha.ins
 refine EvY.seq ?_
 refine EvY.seqL hJ (EvC.rg (by simp only [go_sem] <;> rfl) (by simp) ?_)
 refine EvY.cond (by simp only [go_sem] <;> rfl) (fun hc => ?_) (fun hc => ?_)
 rotate_left
 ·refine EvY.exit ⟨.inr rfl, .inl ?_⟩
  have hc : ¬ at' < l.length := by simpa using hc
  have : outR a b n at' l = [] := by
   cases n with
   | zero => rfl
   | succ n => simp only [outR, List.getElem?_eq_none (show l.length ≤ at' by omega)]
  rw [hpre, this]; simp
 have hc : at' < l.length := by simpa using hc
 have he : l[at']? = some l[at'] := List.getElem?_eq_getElem hc
 have hmem := List.getElem_mem hc
 generalize l[at'] = p at he hmem
 have hp := hg.rng p hmem
 obtain ⟨n, rfl⟩ : ∃ m, n = m + 1 := ⟨n - 1, by omega⟩
 refine EvY.skip ?_
 refine EvY.seq ?_
 refine EvY.block ?_
 refine EvY.seqL hJ ?_
 intro _
 apply EvC.drd mixed
 ·simp only [go_sem, he, arrC] <;> rfl
 ·simp [hc]
 ·kernel_rfl
 refine EvY.seqL hJ (EvC.rg (by simp only [go_sem, Mach.cells] <;> rfl) (by simp) ?_)
 refine EvY.block ?_
 refine EvY.loopS hJ (σ := Nat × Nat × List Arr × List Yld) (fun g => ⟨[(0, .sc (yv lp)), (1, .ia a.cells), (2, .ia b.cells), (4, .mp 0), (5, .tl 1 g.2.2.1.length false), (6, .sc (.int .i64 at')), (7, .sc (.int .i64 p.1.1)), (8, .sc (.int .i64 p.1.2)), (37, .sc (.int .i64 a.ins)), (38, .sc (.int .i64 g.2.1))], [],
   [(0, .map 183 (g.2.2.1.map seenE)), (1, .arr 4 (g.2.2.1.map arrC) true)], 2⟩) (fun g => g.2.2.2.length) (fun g => g.1)
  (fun g => GoodL a b g.2.2.1 ∧ at' < g.2.2.1.length ∧ meetsR a b = g.2.2.2 ++ ((inR a b at' p.1.1 p.1.2 g.1 g.2.1 g.2.2.1).1 ++ outR a b n (at' + 1) (inR a b at' p.1.1 p.1.2 g.1 g.2.1 g.2.2.1).2) ∧ g.1 + g.2.1 = a.ins.toNat) [0, 1, 2, 4, 5, 6, 7, 8, 37, 38] 2 ?_ ?_
 ·refine ⟨[(0, 0), (1, 1)], (a.ins.toNat, 0, l, pre), rfl, (by simp only [go_sem] <;> rfl), ⟨hg, hc, ?_, rfl⟩, rfl⟩
  simp only
  rw [hpre, outR, he]
 clear hpre hg hlen hc he hmem hat
 rintro ⟨m, i, l, pre⟩ ⟨hg, hat, hpre, hm⟩
 simp only at hg hat hpre hm
 have hlen := hg.len ha hb
 refine EvY.seqL hJ (EvC.rg (by simp only [go_sem] <;> rfl) (by simp) ?_)
 refine EvY.seq ?_
 refine EvY.cond (by simp only [go_sem] <;> rfl) (fun hc => ?_) (fun hc => ?_)
 rotate_left
 ·refine EvY.exit ?_
  have hc : ¬ (i : Int) < a.ins := by simpa using hc
  have hm0 : m = 0 := by omega
  subst hm0
  refine EvY.lift hJ (EvC.rg (by simp only [go_sem] <;> rfl) (inI64_of (by omega) (by omega)) ?_)
  refine ⟨[(0, 0), (1, 1)], (n, at' + 1, l, pre), rfl, (by simp only [go_sem] <;> rfl), ⟨hg, by simp only; omega, ?_, by simp only; omega⟩, rfl, by simp only; omega⟩
  simp only
  rw [hpre, inR]; rfl
 have hc : (i : Int) < a.ins := by simpa using hc
 obtain ⟨m, rfl⟩ : ∃ k, m = k + 1 := ⟨m - 1, by omega⟩
 obtain ⟨r1, e, q1, q2, q3, f1⟩ := stepR_get ha hp.1 hp.2.1 (a := (i : Int)) (by omega)
 obtain ⟨r2, f, q4, q5, q6, f2⟩ := stepR_get hb hp.2.2.1 hp.2.2.2 (a := (i : Int)) (by omega)
 rw [Int.toNat_natCast] at q2 q5
 have hnx := hg.next ha hb hat (s := p.1.1) (t := p.1.2) (i := i) ⟨hp.1, hp.2.1⟩ ⟨hp.2.2.1, hp.2.2.2⟩ (by omega) hab
 rw [inR, q3, q6] at hpre
 rw [q3, q6] at hnx
 refine EvY.skip ?_
 refine EvY.seq ?_
 refine EvY.block ?_
 refine EvY.seqL hJ (EvC.rg (by simp only [go_sem] <;> rfl) (by simp) ?_)
 refine EvY.seqL hJ ?_
 intro _
 apply EvC.drd mixed
 ·simp only [go_sem, Mach.cells, q1, q4, rowC, q2, q5, edgeC] <;> rfl
 ·simp; omega
 ·kernel_rfl
 refine EvY.seq ?_
 refine EvY.seq (EvY.region ?_)
 have hlt : pre.length < ((meetsR a b).map yldC).length := by rw [hpre]; simp
 have hget : ((meetsR a b).map yldC)[pre.length] = yldC ⟨at', i, e, f, l⟩ := by
  simp only [hpre]; simp
 refine XRY.run hJ (by simp only [go_sem] <;> rfl) (by simp) ?_
 refine XRY.yield hlt hy rfl rfl (by simp only [go_sem] <;> rfl) (by simp only [go_sem] <;> rfl) (by rw [hget]; simp only [go_sem, yldC, meetA] <;> rfl) (by rw [hget]; simp only [go_sem, yldC, meetA]) fun b => ?_
 refine XRY.done hJ (by simp only [go_sem] <;> rfl) rfl ?_
 refine EvY.cond (by simp only [go_sem] <;> rfl) (fun hb => ?_) (fun hb => ?_)
 ·have hb : b = false := by simpa using hb
  subst hb
  exact EvY.ret ⟨.inl rfl, .inr rfl⟩
 have hb : b = true := by simpa using hb
 subst hb
 refine EvY.skip ?_
 refine EvY.seqL hJ (EvC.rg (by simp only [go_sem] <;> rfl) (by simp) ?_)
 have hI : inI64 (i + 1 : Int) = true := inI64_of (by omega) (by omega)
 have hel : elook (l.map seenE) (.agg [Value.int .i64 e.1, .int .i64 f.1].toArray) = some (.sc (.bool true)) ∨ elook (l.map seenE) (.agg [Value.int .i64 e.1, .int .i64 f.1].toArray) = none := by
  have := elook_seen l (e.1, f.1)
  by_cases hmm : (e.1, f.1) ∈ l.map (·.1)
  ·exact .inl (this.trans (if_pos hmm))
  ·exact .inr (this.trans (if_neg hmm))
 by_cases hx : e.1 = -1
 ·have hl' : nextL at' i e f l = l := by unfold nextL; rw [if_neg (fun h => h.1 hx)]
  rw [hl'] at hpre hnx
  have hx := decide_eq_true hx
  rcases hel with hel | hel
  all_goals
   refine EvY.seqL hJ ?_
   intro _
   apply EvC.trd
   ·simp only [go_sem, hx, hel] <;> rfl
   ·simp
   refine EvY.cond_false (by simp only [go_sem] <;> rfl) ?_
   refine EvY.skip ?_
   refine EvY.lift hJ (EvC.rg (by simp only [go_sem] <;> rfl) hI ?_)
   exact ⟨[(0, 0), (1, 1)], (m, i + 1, l, pre ++ [⟨at', i, e, f, l⟩]), rfl, (by simp only [go_sem] <;> rfl), ⟨hg, hnx.2, by rw [hpre]; simp, by simp only; omega⟩, by simp, by simp⟩
 by_cases hyy : f.1 = -1
 ·have hl' : nextL at' i e f l = l := by unfold nextL; rw [if_neg (fun h => h.2.1 hyy)]
  rw [hl'] at hpre hnx
  have hx := decide_eq_false hx
  have hyy := decide_eq_true hyy
  rcases hel with hel | hel
  all_goals
   refine EvY.seqL hJ ?_
   intro _
   apply EvC.trd
   ·simp only [go_sem, hx, hyy, hel] <;> rfl
   ·simp
   refine EvY.cond_false (by simp only [go_sem] <;> rfl) ?_
   refine EvY.skip ?_
   refine EvY.lift hJ (EvC.rg (by simp only [go_sem] <;> rfl) hI ?_)
   exact ⟨[(0, 0), (1, 1)], (m, i + 1, l, pre ++ [⟨at', i, e, f, l⟩]), rfl, (by simp only [go_sem] <;> rfl), ⟨hg, hnx.2, by rw [hpre]; simp, by simp only; omega⟩, by simp, by simp⟩
 by_cases hmm : (e.1, f.1) ∈ l.map (·.1)
 ·have hl' : nextL at' i e f l = l := by unfold nextL; rw [if_neg (fun h => h.2.2 hmm)]
  have hel : elook (l.map seenE) (.agg [Value.int .i64 e.1, .int .i64 f.1].toArray) = some (.sc (.bool true)) := (elook_seen l (e.1, f.1)).trans (if_pos hmm)
  rw [hl'] at hpre hnx
  refine EvY.seqL hJ ?_
  intro _
  apply EvC.trd
  ·simp only [go_sem, hx, hyy, hel] <;> rfl
  ·simp [descAgg, matchKinds, matchKind]
  refine EvY.cond_false (by simp only [go_sem] <;> rfl) ?_
  refine EvY.skip ?_
  refine EvY.lift hJ (EvC.rg (by simp only [go_sem] <;> rfl) hI ?_)
  exact ⟨[(0, 0), (1, 1)], (m, i + 1, l, pre ++ [⟨at', i, e, f, l⟩]), rfl, (by simp only [go_sem] <;> rfl), ⟨hg, hnx.2, by rw [hpre]; simp, by simp only; omega⟩, by simp, by simp⟩
 have hl' : nextL at' i e f l = l ++ [((e.1, f.1), (at' : Int), (i : Int))] := by unfold nextL; rw [if_pos ⟨hx, hyy, hmm⟩]
 have hel : elook (l.map seenE) (.agg [Value.int .i64 e.1, .int .i64 f.1].toArray) = none := (elook_seen l (e.1, f.1)).trans (if_neg hmm)
 have hes : eset (l.map seenE) (.agg [Value.int .i64 e.1, .int .i64 f.1].toArray) (.sc (.bool true)) = (l ++ [((e.1, f.1), (at' : Int), (i : Int))]).map seenE := eset_seen l (e.1, f.1) hmm _
 rw [hl'] at hpre hnx
 refine EvY.seqL hJ ?_
 intro _
 apply EvC.trd
 ·simp only [go_sem, hx, hyy, hel] <;> rfl
 ·simp [descAgg, matchKinds, matchKind]
 refine EvY.cond_true (by simp only [go_sem] <;> rfl) ?_
 refine EvY.seqL hJ (EvC.rg (by simp only [go_sem, hes] <;> rfl) (by simp [descAgg, matchKinds, matchKind]) ?_)
 refine EvY.lift hJ (EvC.rg (by simp only [go_sem] <;> rfl) (by simp [room_eq, AV.norefs, AV.noref]; omega) ?_)
 refine EvY.lift hJ (EvC.rg (by simp only [go_sem] <;> rfl) hI ?_)
 exact ⟨[(0, 0), (1, 1)], (m, i + 1, l ++ [((e.1, f.1), (at' : Int), (i : Int))], pre ++ [⟨at', i, e, f, l⟩]), rfl, (by simp only [go_sem, arrC] <;> rfl), ⟨hnx.1, hnx.2, by rw [hpre]; simp, by simp only; omega⟩, by simp, by simp⟩
theorem meets_is (a b : Mach) : PureIs prog 122 [.ag a.cells, .ag b.cells] (.fn 129 [.ia a.cells, .ia b.cells]) := by
 refine PureIs.of1 5 [] func122 ntmps122 results122 fun _ => ?_
 refine EvC.a ?_ (by simp only [go_sem, Mach.cells] <;> rfl)
 refine EvC.z 0 ?_
 refine EvC.z 1 ?_
 refine EvC.a ?_
 refine EvC.rz ?_
 simp only [go_sem, Mach.cells]
structure GoodY (a b : Mach) (z : Yld) : Prop where
 l : GoodL a b z.l
 at0 : 0 ≤ z.at'
 at1 : z.at' < z.l.length
 inp : 0 ≤ z.inp ∧ z.inp < a.ins
 xy : ∃ p, z.l[z.at'.toNat]? = some p ∧ z.x = stepR a p.1.1 z.inp ∧ z.y = stepR b p.1.2 z.inp
theorem nextL_get {at' i : Int} {x y : Int × Int} {l : List Arr} {j : Nat} {p : Arr} (h : l[j]? = some p) : (nextL at' i x y l)[j]? = some p := by
 unfold nextL
 split
 ·rw [List.getElem?_append_left (List.getElem?_eq_some_iff.1 h).1]; exact h
 ·exact h
theorem inR_good {a b : Mach} (ha : Valid a) (hb : Valid b) (hab : a.ins = b.ins) {at' : Nat} {p : Arr} : ∀ (n i : Nat) (l : List Arr), GoodL a b l → l[at']? = some p → n + i = a.ins.toNat →
  (∀ z ∈ (inR a b at' p.1.1 p.1.2 n i l).1, GoodY a b z) ∧ GoodL a b (inR a b at' p.1.1 p.1.2 n i l).2 ∧ (inR a b at' p.1.1 p.1.2 n i l).2[at']? = some p
 | 0, i, l, hg, hp, _ => ⟨fun _ h => (by cases h), hg, hp⟩
 | n + 1, i, l, hg, hp, hn => by
   have hia := ha.ins
   have hat := (List.getElem?_eq_some_iff.1 hp).1
   have hr := hg.rng p (List.mem_of_getElem? hp)
   have hnx := hg.next ha hb hat (s := p.1.1) (t := p.1.2) (i := i) ⟨hr.1, hr.2.1⟩ ⟨hr.2.2.1, hr.2.2.2⟩ (by omega) hab
   obtain ⟨h1, h2, h3⟩ := inR_good ha hb hab n (i + 1) _ hnx.1 (nextL_get hp) (by omega)
   simp only [inR]
   refine ⟨fun z hz => ?_, h2, h3⟩
   rcases List.mem_cons.1 hz with rfl | hz
   ·exact ⟨hg, by simp, by simp only; omega, by simp only; omega, p, by simpa using hp, rfl, rfl⟩
   ·exact h1 z hz
theorem inR_len {a b : Mach} {at' s t : Int} : ∀ (n i : Nat) (l : List Arr), (inR a b at' s t n i l).1.length = n
 | 0, _, _ => rfl
 | n + 1, i, l => by simp only [inR, List.length_cons]; rw [inR_len n]
theorem outR_good {a b : Mach} (ha : Valid a) (hb : Valid b) (hab : a.ins = b.ins) : ∀ (n at' : Nat) (l : List Arr), GoodL a b l → (∀ z ∈ outR a b n at' l, GoodY a b z) ∧ (outR a b n at' l).length ≤ n * 16
 | 0, _, _, _ => ⟨fun _ h => (by cases h), by simp [outR]⟩
 | n + 1, at', l, hg => by
   have hia := ha.ins
   simp only [outR]
   cases hp : l[at']? with
   | none => exact ⟨fun _ h => (by cases h), by simp⟩
   | some p =>
     obtain ⟨h1, h2, _⟩ := inR_good ha hb hab a.ins.toNat 0 l hg hp rfl
     obtain ⟨h3, h4⟩ := outR_good ha hb hab n (at' + 1) _ h2
     refine ⟨fun z hz => ?_, ?_⟩
     ·rcases List.mem_append.1 hz with hz | hz
      ·exact h1 z hz
      ·exact h3 z hz
     ·simp only [List.length_append, inR_len]; omega
theorem meetsR_good {a b : Mach} (ha : Valid a) (hb : Valid b) (hab : a.ins = b.ins) : (∀ z ∈ meetsR a b, GoodY a b z) ∧ (meetsR a b).length ≤ 80000 := outR_good ha hb hab 5000 0 _ (.zero ha hb)
def pairsR : List Yld → List (Int × Int) → List (Int × Int)
 | [], ps => ps
 | z :: zs, ps => pairsR zs (if z.x.1 ≠ -1 ∧ (z.x.1, z.y.1) ∉ ps then ps ++ [(z.x.1, z.y.1)] else ps)
def diffA (zs : List Yld) : AV := match zs.find? (fun z => decide (z.x.2 ≠ z.y.2)) with
 | some z => .tu [.sl false ((wordR z.l z.l.length z.at' [z.inp]).map intC) .full, .sl true [] .zer]
 | none => .tu [.sl true [] .zer, .sl false ((pairsR zs [(0, 0)]).map edgeC) .unk]
theorem diffA_noref (zs : List Yld) : (diffA zs).noref = true := by unfold diffA; split <;> rfl
theorem find_at {α : Type} {p : α → Bool} : ∀ {l : List α} {k : Nat} {z : α}, ((l.take k).all fun x => !p x) = true → l.drop k = z :: l.drop (k + 1) → p z = true → l.find? p = some z
 | [], k, z, _, h, _ => by simp at h
 | x :: l, 0, z, _, h, hz => by
   simp only [List.drop_zero, List.cons.injEq] at h
   rw [List.find?_cons, h.1, hz]
 | x :: l, k + 1, z, h1, h, hz => by
   simp only [List.take_succ_cons, List.all_cons, Bool.and_eq_true, Bool.not_eq_true'] at h1
   rw [List.find?_cons, h1.1]
   exact find_at h1.2 (by simpa using h) hz
theorem find_no {α : Type} {p : α → Bool} {l : List α} (h : (l.all fun x => !p x) = true) : l.find? p = none := by
 rw [List.find?_eq_none]
 intro x hx
 rw [List.all_eq_true] at h
 simpa using h x hx
theorem differ_is (a b : Mach) (ha : Valid a) (hb : Valid b) (hab : a.ins = b.ins) : PureIs prog 106 [.ag a.cells, .ag b.cells] (diffA (meetsR a b)) := by
 refine PureIs.of1 10 [11, 14, 15, 16, 23, 47] func106 ntmps106 results106 fun _ => ?_
 refine EvC.a ?_ (by simp only [go_sem, Mach.cells] <;> rfl)
 refine EvC.z 0 ?_
 refine EvC.z 1 ?_
 refine EvC.a ?_
 refine EvC.fz 5 (by simp only [go_sem] <;> rfl) ?_
 refine EvC.seq ?_
 apply EvC.seq
 apply EvC.tr
 ·apply Tr.run
  ·simp only [go_sem] <;> rfl
  ·simp
  apply Tr.cons
  ·exact .ca (by simpa [Mach.cells] using meets_is a b)
  apply Tr.done
  ·simp only [go_sem] <;> rfl
  ·simp
 refine EvC.block ?_
 refine EvC.gcTo ⟨[(4, .rf 0 0), (5, .rf 1 0), (6, .rf 2 0), (14, .fn 129 [.ia a.cells, .ia b.cells])], [], [(0, .cells [.sl true [] .zer]), (1, .cells [.sl true [] .zer]), (2, .cells [.tl 3 1 false]), (3, .arr 2 [[.sc (.int .i64 0), .sc (.int .i64 0)]] true)], 4⟩ [4, 5, 6, 14] [(2, 0), (3, 1), (6, 2), (5, 3)] (by rfl) (by simp only [go_sem] <;> rfl) ?_
 obtain ⟨gY, gl⟩ := meetsR_good ha hb hab
 refine EvC.range (σ := List (Int × Int)) (gf := 129) (caps := [.ia a.cells, .ia b.cells]) (xs := (meetsR a b).map yldC) rfl (fun _ => rfl) (by simp only [go_sem] <;> rfl) rfl (meets1_seq a b ha hb hab) ?_ (by simp) (Nat.zero_le _)
  (fun _ ps => [(0, .cells [.sl true [] .zer]), (1, .cells [.sl true [] .zer]), (2, .cells [.tl 3 ps.length false]), (3, .arr 2 (ps.map edgeC) true)])
  (fun k ps => ps.length ≤ 1 + k ∧ (((meetsR a b).take k).all fun z => decide (z.x.2 = z.y.2)) = true ∧ pairsR (meetsR a b) [(0, 0)] = pairsR ((meetsR a b).drop k) ps) ⟨[(0, 0)], rfl, by simp, rfl, rfl⟩ ?_ ?_
 ·intro x hx
  obtain ⟨z, _, rfl⟩ := List.mem_map.1 hx
  rfl
 ·rintro k ps lp hk ⟨h1, h2, h3⟩
  have hk' : k < (meetsR a b).length := by simpa using hk
  have hz : ((meetsR a b).map yldC)[k] = yldC (meetsR a b)[k] := by simp
  have gz := gY _ (List.getElem_mem hk')
  have hd : (meetsR a b).drop k = (meetsR a b)[k] :: (meetsR a b).drop (k + 1) := List.drop_eq_getElem_cons hk'
  rw [hz]
  generalize (meetsR a b)[k] = z at gz hd
  refine EvC.a ?_ (by simp only [go_sem, yldC, meetA] <;> rfl)
  refine EvC.rg (by simp only [go_sem] <;> rfl) (by simp) ⟨rfl, ?_⟩
  refine EvC.block ?_
  refine EvC.seq ?_
  refine EvC.a ?_
  refine EvC.cond (by simp only [go_sem] <;> rfl) (fun hc => ?_) (fun hc => ?_)
  ·have hc : ¬ z.x.2 = z.y.2 := by simpa using hc
   have hlen := gz.l.len ha hb
   apply EvC.seq
   apply EvC.tr
   ·apply Tr.run
    ·simp only [go_sem] <;> rfl
    ·simp
    apply Tr.cons
    ·exact .ca (by simpa [intC] using word_is false z.l .unk gz.l.wf z.at' gz.at0 gz.at1 [z.inp] .full (by simp; omega))
    apply Tr.done
    ·simp only [go_sem] <;> rfl
    ·simp
   refine EvC.ret ⟨.inl rfl, _, (by simp only [go_sem] <;> rfl), ?_, diffA_noref _⟩
   simp only [go_sem]
   rw [diffA, find_at (k := k) (z := z) (by simpa using h2) hd (by simpa using hc)]
  have hc : z.x.2 = z.y.2 := by simpa using hc
  have h2' : (((meetsR a b).take (k + 1)).all fun z => decide (z.x.2 = z.y.2)) = true := by
   have : (meetsR a b).take (k + 1) = (meetsR a b).take k ++ [z] := by
    have h := List.getElem?_drop (xs := meetsR a b) (i := k) (j := 0)
    rw [hd] at h
    rw [List.take_add_one]
    simp only [Nat.add_zero, List.getElem?_cons_zero] at h
    rw [← h]; rfl
   rw [this, List.all_append, h2]
   simp [hc]
  rw [hd] at h3
  rw [pairsR] at h3
  refine EvC.skip ?_
  refine EvC.a ?_
  by_cases hx : z.x.1 = -1
  ·have hx' := decide_eq_true hx
   rw [if_neg (fun h => h.1 hx)] at h3
   apply EvC.seq
   apply EvC.tr
   ·apply Tr.run
    ·simp only [go_sem, hx'] <;> rfl
    ·simp
    apply Tr.cons
    ·exact .skipv (.sc (.bool false)) rfl rfl (by simp only [go_sem] <;> rfl) (by simp only [go_sem] <;> rfl)
    apply Tr.done
    ·simp only [go_sem] <;> rfl
    ·simp
   refine EvC.cs ?_
   exact ⟨[(0, 0), (1, 1), (2, 2), (3, 3)], ps, rfl, (by simp only [go_sem] <;> rfl), by omega, h2', h3⟩
  have hx' := decide_eq_false hx
  have hpl : ps.length < 1000000 := by omega
  apply EvC.seq
  apply EvC.tr
  ·apply Tr.run
   ·simp only [go_sem, hx'] <;> rfl
   ·simp
   apply Tr.cons
   ·exact .cg (by simpa [edgeA] using contains46_is false ps .unk (z.x.1, z.y.1) hpl)
   apply Tr.done
   ·simp only [go_sem] <;> rfl
   ·simp
  refine EvC.cond (by simp only [go_sem] <;> rfl) (fun hm => ?_) (fun hm => ?_)
  ·have hm : ¬ (z.x.1, z.y.1) ∈ ps := by simpa using hm
   rw [if_pos ⟨hx, hm⟩] at h3
   refine EvC.b ?_ (hok := by simp [room_eq, AV.norefs, AV.noref]; omega)
   exact ⟨[(0, 0), (1, 1), (2, 2), (3, 3)], ps ++ [(z.x.1, z.y.1)], rfl, (by simp only [go_sem, edgeC] <;> rfl), by simp; omega, h2', h3⟩
  ·have hm : (z.x.1, z.y.1) ∈ ps := by simpa using hm
   rw [if_neg (fun h => h.2 hm)] at h3
   refine EvC.skip ?_
   exact ⟨[(0, 0), (1, 1), (2, 2), (3, 3)], ps, rfl, (by simp only [go_sem] <;> rfl), by omega, h2', h3⟩
 ·rintro ps ⟨h1, h2, h3⟩
  rw [List.length_map] at h2 h3
  rw [List.take_length] at h2
  rw [List.drop_length, pairsR] at h3
  refine EvC.frzD 3 (by simp only [go_sem] <;> rfl) ?_
  apply EvC.seq
  apply EvC.drd mixed
  ·simp only [go_sem] <;> rfl
  ·simp
  ·kernel_rfl
  refine EvC.ret ⟨.inl rfl, _, (by simp only [go_sem] <;> rfl), ?_, diffA_noref _⟩
  simp only [go_sem]
  rw [diffA, find_no (by simpa using h2), h3]
def diffO (a b : Mach) : Option Yld := (meetsR a b).find? (fun z => decide (z.x.2 ≠ z.y.2))
def diffW (a b : Mach) : List Int := match diffO a b with
 | some z => wordR z.l z.l.length z.at' [z.inp]
 | none => []
theorem diffA_eq (a b : Mach) : diffA (meetsR a b) = .tu [.sl (diffO a b).isNone ((diffW a b).map intC) (if (diffO a b).isNone then .zer else .full), if (diffO a b).isNone then .sl false ((pairsR (meetsR a b) [(0, 0)]).map edgeC) .unk else .sl true [] .zer] := by
 unfold diffA diffW diffO
 split
 ·rename_i z hz; rw [hz]; rfl
 ·rename_i hz; rw [hz]; rfl
theorem wordR_len (l : List Arr) : ∀ (n : Nat) (t : Int) (acc : List Int), acc.length ≤ (wordR l n t acc).length
 | 0, _, _ => Nat.le_refl _
 | n + 1, t, acc => by
   simp only [wordR]
   split
   ·split
    ·exact Nat.le_refl _
    ·exact Nat.le_trans (by simp) (wordR_len l n _ _)
   ·exact Nat.le_refl _
theorem diffW_pos (a b : Mach) : decide (0 < ((diffW a b).length : Int)) = (diffO a b).isSome := by
 unfold diffW
 cases h : diffO a b with
 | none => rfl
 | some z =>
   have := wordR_len z.l z.l.length z.at' [z.inp]
   simp only [List.length_cons, List.length_nil] at this
   simp only [Option.isSome_some, decide_eq_true_eq]
   omega
def differA (a b : Mach) : AV := if bothR a b = 0 then .tu [.sl (diffO a b).isNone ((diffW a b).map intC) (if (diffO a b).isNone then .zer else .full), .sc (.bool (diffO a b).isSome), .sc (.int .i64 0)]
 else .tu [.sl true [] .unk, .sc (.bool false), .sc (.int .i64 (bothR a b))]
theorem both_valid {a b : Mach} (h : bothR a b = 0) : Valid a ∧ Valid b ∧ a.ins = b.ins := by
 unfold bothR at h
 split at h
 ·contradiction
 ·rename_i h1
  split at h
  ·contradiction
  ·rename_i h2
   split at h
   ·cases h
   ·rename_i h3
    exact ⟨.of (by simpa using h1), .of (by simpa using h2), by simpa using h3⟩
theorem equals_differ_is (a b : Mach) (ha : ∀ r ∈ a.rows, r.2.length < 1000000) (hb : ∀ r ∈ b.rows, r.2.length < 1000000) : PureIs prog 82 [.ag a.cells, .ag b.cells] (differA a b) := by
 refine PureIs.of1 9 [14] func82 ntmps82 results82 fun _ => ?_
 refine EvC.a ?_ (by simp only [go_sem, Mach.cells] <;> rfl)
 refine EvC.seq ?_
 apply EvC.seq
 apply EvC.tr
 ·apply Tr.run
  ·simp only [go_sem] <;> rfl
  ·simp
  apply Tr.cons
  ·exact .ca (both_is a b ha hb)
  apply Tr.done
  ·simp only [go_sem] <;> rfl
  ·simp
 refine EvC.a ?_
 refine EvC.cond (by simp only [go_sem] <;> rfl) (fun hc => ?_) (fun hc => ?_)
 ·have hc : bothR a b ≠ 0 := by simpa using hc
  refine EvC.a ?_
  refine EvC.ret ⟨.inl rfl, _, (by simp only [go_sem] <;> rfl), ?_, by unfold differA; split <;> rfl⟩
  simp only [go_sem]
  rw [differA, if_neg hc]
 have hc : bothR a b = 0 := by simpa using hc
 obtain ⟨va, vb, hab⟩ := both_valid hc
 have hd := differ_is a b va vb hab
 rw [diffA_eq] at hd
 refine EvC.skip ?_
 apply EvC.seq
 apply EvC.tr
 ·apply Tr.run
  ·simp only [go_sem] <;> rfl
  ·simp
  apply Tr.cons
  ·exact .call rfl rfl (by simp only [go_sem] <;> rfl) (by simp only [go_sem] <;> rfl) (by simp only [go_sem] <;> rfl) (by simp only [go_sem] <;> rfl) (by simp only [go_sem] <;> rfl) hd
  apply Tr.done
  ·simp only [go_sem] <;> rfl
  ·simp
 refine EvC.a ?_
 refine EvC.ret ⟨.inl rfl, _, (by simp only [go_sem] <;> rfl), ?_, by unfold differA; split <;> rfl⟩
 simp only [go_sem]
 have := diffW_pos a b
 rw [differA, if_pos hc, ← this]
def equalR (a b : Mach) : Bool × Int := (decide (bothR a b = 0) && (diffO a b).isNone, bothR a b)
theorem equals_equal_is (a b : Mach) (ha : ∀ r ∈ a.rows, r.2.length < 1000000) (hb : ∀ r ∈ b.rows, r.2.length < 1000000) : PureIs prog 50 [.ag a.cells, .ag b.cells] (.tu [.sc (.bool (equalR a b).1), .sc (.int .i64 (equalR a b).2)]) := by
 refine PureIs.of1 6 [7, 8] func50 ntmps50 results50 fun _ => ?_
 have hd := equals_differ_is a b ha hb
 refine EvC.a ?_ (by simp only [go_sem, Mach.cells] <;> rfl)
 by_cases h : bothR a b = 0
 ·rw [differA, if_pos h] at hd
  apply EvC.seq
  apply EvC.tr
  ·apply Tr.run
   ·simp only [go_sem] <;> rfl
   ·simp
   apply Tr.cons
   ·exact .call rfl rfl (by simp only [go_sem] <;> rfl) (by simp only [go_sem] <;> rfl) (by simp only [go_sem] <;> rfl) (by simp only [go_sem] <;> rfl) (by simp only [go_sem] <;> rfl) hd
   apply Tr.done
   ·simp only [go_sem] <;> rfl
   ·simp
  apply EvC.seq
  apply EvC.trd
  ·simp only [go_sem] <;> rfl
  ·simp
  refine EvC.rz ?_
  simp only [go_sem]
  unfold equalR
  cases diffO a b <;> simp [h]
 ·rw [differA, if_neg h] at hd
  apply EvC.seq
  apply EvC.tr
  ·apply Tr.run
   ·simp only [go_sem] <;> rfl
   ·simp
   apply Tr.cons
   ·exact .call rfl rfl (by simp only [go_sem] <;> rfl) (by simp only [go_sem] <;> rfl) (by simp only [go_sem] <;> rfl) (by simp only [go_sem] <;> rfl) (by simp only [go_sem] <;> rfl) hd
   apply Tr.done
   ·simp only [go_sem] <;> rfl
   ·simp
  apply EvC.seq
  apply EvC.trd
  ·simp only [go_sem] <;> rfl
  ·simp
  refine EvC.rz ?_
  simp only [go_sem]
  unfold equalR
  simp [h]
end Go.Avl
