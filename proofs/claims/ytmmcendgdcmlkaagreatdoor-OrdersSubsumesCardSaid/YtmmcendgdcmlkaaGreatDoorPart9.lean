/-
  Lemmas.
-/
import Derived.Test.YtmmcendgdcmlkaaGreatDoorPart8
set_option linter.unusedSimpArgs false
set_option linter.unusedVariables false
set_option linter.unnecessarySimpa false
set_option linter.deprecated false
namespace Go.Avl
open Go Go.Proofs.Tryz
set_option maxRecDepth 10000
def stepsW (W : List RW) : Nat := (W.map fun w => w.2.1.length).sum
def aheadB : List RW → Bool
 | [] => true
 | [_] => true
 | a :: b :: l => decide (cmpL a.2.1 b.2.1 < 0) && aheadB (b :: l)
def errW (n : Int) : List RW → Int
 | [] => 0
 | w :: W => if wordErr n w.2.1 ≠ 0 then wordErr n w.2.1 else errW n W
def looseE (n : Int) (W : List RW) : Int := if 16 < n ∨ 4096 < (W.length : Int) then 3 else if n < 1 then 1 else errW n W
def triesE (n : Int) (W : List RW) : Int := if looseE n W ≠ 0 then looseE n W else if aheadB W = false then 1 else if 65536 < (stepsW W : Int) then 3 else 0
def readyE (m : Mach) (W : List RW) : Int := if checkM m ≠ 0 then checkM m else triesE m.ins W
theorem rw_get {W : List RW} {i : Nat} {w : RW} (h : W[i]? = some w) : (W.map rwC)[i]? = some [.sl w.1 (w.2.1.map intC) w.2.2] := by rw [List.getElem?_map, h]; rfl
theorem loose_is (wn : Bool) (W : List RW) (wc : Cp) (n : Int) (hW : ∀ w ∈ W, w.2.1.length < 1000000) (hWl : W.length < 1000000) :
  PureIs prog 58 [.sl wn (W.map rwC) wc, .sc (.int .i64 n)] (.sc (.int .i64 (looseE n W))) := by
 have hWn := norefs_rw W
 have hl : (W.map rwC).length = W.length := List.length_map _
 refine PureIs.of1 2 [4, 6, 7, 14, 16, 17, 18, 19, 20, 27] func58 ntmps58 results58 fun _ => ?_
 refine EvC.a ?_
 refine EvC.seq ?_
 by_cases c1 : 16 < n
 ·rw [show looseE n W = 3 by unfold looseE; rw [if_pos (.inl c1)]]
  refine EvC.g ?_ (h := by simp only [go_sem, decide_eq_true c1, hl] <;> rfl)
  refine EvC.ct ?_
  refine EvC.a ?_
  refine EvC.rz ?_
  simp only [go_sem]
 by_cases c2 : 4096 < (W.length : Int)
 ·rw [show looseE n W = 3 by unfold looseE; rw [if_pos (.inr c2)]]
  refine EvC.g ?_ (h := by simp only [go_sem, decide_eq_false c1, decide_eq_true c2, hl] <;> rfl)
  refine EvC.ct ?_
  refine EvC.a ?_
  refine EvC.rz ?_
  simp only [go_sem]
 refine EvC.g ?_ (h := by simp only [go_sem, decide_eq_false c1, decide_eq_false c2, hl] <;> rfl)
 refine EvC.cs ?_
 refine EvC.seq ?_
 refine EvC.a ?_
 by_cases c3 : n < 1
 ·rw [show looseE n W = 1 by unfold looseE; rw [if_neg (fun h => h.elim c1 c2), if_pos c3]]
  refine EvC.ct ?_ (by simp only [go_sem, decide_eq_true c3] <;> rfl)
  refine EvC.a ?_
  refine EvC.rz ?_
  simp only [go_sem]
 rw [show looseE n W = errW n W by unfold looseE; rw [if_neg (fun h => h.elim c1 c2), if_neg c3]]
 refine EvC.cs ?_ (by simp only [go_sem, decide_eq_false c3] <;> rfl)
 refine EvC.seq ?_
 refine EvC.a ?_ (by simp only [go_sem, hl] <;> rfl)
 refine EvC.block ?_
 refine EvC.loopS (σ := Nat) (fun i => ⟨[(1, .sc (.int .i64 n)), (17, .sl wn (W.map rwC) wc), (18, .sc (.int .i64 W.length)), (19, .sc (.int .i64 i))], [], [], 0⟩) (fun i => W.length - i) (fun i => i ≤ W.length ∧ errW n W = errW n (W.drop i)) [1, 17, 18, 19] 0 ?_ ?_
 ·exact ⟨[], 0, rfl, (by simp only [go_sem, Int.natCast_zero] <;> rfl), Nat.zero_le _, rfl⟩
 rintro i ⟨i1, i2⟩
 refine EvC.a ?_
 refine EvC.seq ?_
 refine EvC.cond (by simp only [go_sem] <;> rfl) (fun hc => ?_) (fun hc => ?_)
 rotate_left
 ·refine EvC.exit ?_
  have hi : ¬ i < W.length := by simpa using hc
  rw [List.drop_of_length_le (by omega), errW] at i2
  rw [i2]
  refine EvC.a ?_
  refine EvC.rz ?_
  simp only [go_sem]
 have hil : i < W.length := by simpa using hc
 clear hc
 have hge := List.getElem?_eq_getElem hil
 have hwm := List.getElem_mem hil
 have hdr : W.drop i = W[i] :: W.drop (i + 1) := List.drop_eq_getElem_cons hil
 generalize W[i] = w at hge hwm hdr
 have hwg := rw_get hge
 have hit : (i : Int).toNat = i := Int.toNat_natCast i
 rw [hdr, errW] at i2
 refine EvC.skip ?_
 refine EvC.seq ?_
 refine EvC.block ?_
 refine EvC.a ?_ (by simp only [go_sem, hwg, hit, hl] <;> rfl) (by simp; try omega)
 refine EvC.k1 ?_ (c1 := .ca (wordCheck_is w.1 w.2.1 w.2.2 n (hW w hwm)))
 refine EvC.a ?_
 by_cases he : wordErr n w.2.1 = 0
 ·rw [if_neg (fun h => h he)] at i2
  refine EvC.cs ?_ (by simp only [go_sem, decide_eq_true he] <;> rfl)
  refine EvC.b ?_ (hok := by exact inI64_of (by omega) (by omega))
  exact ⟨[], i + 1, rfl, (by simp only [go_sem, Int.natCast_add, Int.natCast_one] <;> rfl), ⟨hil, i2⟩, by omega⟩
 ·rw [if_pos he] at i2
  refine EvC.ct ?_ (by simp only [go_sem, decide_eq_false he] <;> rfl)
  rw [i2]
  refine EvC.a ?_
  refine EvC.rz ?_
  simp only [go_sem]
theorem aheadB_drop {W : List RW} {i : Nat} (h : i + 1 < W.length) : aheadB (W.drop i) = (decide (cmpL (W[i]'(by omega)).2.1 (W[i + 1]).2.1 < 0) && aheadB (W.drop (i + 1))) := by
 rw [List.drop_eq_getElem_cons (show i < W.length by omega), List.drop_eq_getElem_cons h, aheadB]
theorem ahead_is (wn : Bool) (W : List RW) (wc : Cp) (hW : ∀ w ∈ W, w.2.1.length < 1000000) (hWl : W.length < 1000000) :
  PureIs prog 59 [.sl wn (W.map rwC) wc] (.sc (.bool (aheadB W))) := by
 have hWn := norefs_rw W
 have hl : (W.map rwC).length = W.length := List.length_map _
 refine PureIs.of1 1 [2, 3, 7, 20] func59 ntmps59 results59 fun _ => ?_
 refine EvC.a ?_
 refine EvC.seq ?_
 refine EvC.a ?_
 refine EvC.block ?_
 refine EvC.loopS (σ := Nat) (fun i => ⟨[(0, .sl wn (W.map rwC) wc), (3, .sc (.int .i64 ((i + 1 : Nat) : Int)))], [], [], 0⟩) (fun i => W.length - i) (fun i => (i < W.length ∨ i = 0) ∧ aheadB W = aheadB (W.drop i)) [0, 3] 0 ?_ ?_
 ·exact ⟨[], 0, rfl, (by simp only [go_sem, show ((0 + 1 : Nat) : Int) = 1 from rfl] <;> rfl), .inr rfl, rfl⟩
 rintro i ⟨i1, i2⟩
 obtain ⟨iZ, hiZ⟩ : ∃ z : Int, z = ((i + 1 : Nat) : Int) := ⟨_, rfl⟩
 rw [← hiZ]
 refine EvC.seq ?_
 refine EvC.a ?_ (by simp only [go_sem, hl] <;> rfl)
 by_cases hil : i + 1 < W.length
 rotate_left
 ·refine EvC.cf ?_ (by simp only [go_sem, decide_eq_false (show ¬ iZ < (W.length : Int) by omega)] <;> rfl)
  refine EvC.exit ?_
  have : aheadB (W.drop i) = true := by
   have hd : (W.drop i).length ≤ 1 := by rw [List.length_drop]; omega
   match W.drop i, hd with
   | [], _ => rfl
   | [_], _ => rfl
  rw [i2, this]
  refine EvC.a ?_
  refine EvC.rz ?_
  simp only [go_sem]
 rw [aheadB_drop hil] at i2
 have hga := List.getElem?_eq_getElem (show i < W.length by omega)
 have hgb := List.getElem?_eq_getElem hil
 have ham := hW _ (List.getElem_mem (show i < W.length by omega))
 generalize W[i]'(by omega) = a at hga i2 ham
 generalize W[i + 1] = b at hgb i2
 have hag := rw_get hga
 have hbg := rw_get hgb
 have h1 : (iZ - 1).toNat = i := by omega
 have h2 : iZ.toNat = i + 1 := by omega
 have hI : inI64 (iZ - 1) = true := inI64_of (by omega) (by omega)
 have hb : 1 ≤ iZ ∧ i < W.length ∧ 0 ≤ iZ := by omega
 have q := wCompare_is a.1 a.2.1 a.2.2 b.1 b.2.1 b.2.2 ham
 refine EvC.cr ?_ (by simp only [go_sem, decide_eq_true (show iZ < (W.length : Int) by omega)] <;> rfl)
 refine EvC.seq ?_
 refine EvC.block ?_
 refine EvC.k1D mixed ?_ (h1 := by simp only [go_sem, hag, hbg, h1, h2, hl] <;> rfl) (k1 := by simp [hI, hb, hil]; try omega) (c1 := .ca q) (h2 := by simp only [go_sem, hWn] <;> rfl)
 by_cases hc : cmpL a.2.1 b.2.1 < 0
 ·rw [decide_eq_true hc, Bool.true_and] at i2
  refine EvC.cs ?_ (by simp only [go_sem, decide_eq_false (show ¬ 0 ≤ cmpL a.2.1 b.2.1 by omega)] <;> rfl)
  refine EvC.b ?_ (hok := by exact inI64_of (by omega) (by omega))
  exact ⟨[], i + 1, rfl, (by rw [show ((i + 1 + 1 : Nat) : Int) = iZ + 1 by omega]; simp only [go_sem] <;> rfl), ⟨.inl hil, i2⟩, by omega⟩
 ·rw [decide_eq_false hc, Bool.false_and] at i2
  refine EvC.ct ?_ (by simp only [go_sem, decide_eq_true (show 0 ≤ cmpL a.2.1 b.2.1 by omega)] <;> rfl)
  rw [i2]
  refine EvC.a ?_
  refine EvC.rz ?_
  simp only [go_sem]
theorem steps_is (wn : Bool) (W : List RW) (wc : Cp) (hW : ∀ w ∈ W, w.2.1.length < 1000000) (hWl : W.length < 1000000) :
  PureIs prog 60 [.sl wn (W.map rwC) wc] (.sc (.int .i64 (stepsW W))) := by
 have hl : (W.map rwC).length = W.length := List.length_map _
 refine PureIs.of1 1 [2, 4, 5, 6, 7, 8] func60 ntmps60 results60 fun _ => ?_
 refine EvC.a ?_
 refine EvC.seq ?_
 refine EvC.a ?_ (by simp only [go_sem, hl] <;> rfl)
 refine EvC.block ?_
 refine EvC.loopS (σ := Nat × Nat) (fun g => ⟨[(2, .sc (.int .i64 g.2)), (5, .sl wn (W.map rwC) wc), (6, .sc (.int .i64 W.length)), (7, .sc (.int .i64 g.1))], [], [], 0⟩) (fun g => W.length - g.1) (fun g => g.1 ≤ W.length ∧ stepsW W = g.2 + stepsW (W.drop g.1) ∧ g.2 ≤ g.1 * 1000000) [2, 5, 6, 7] 0 ?_ ?_
 ·exact ⟨[], (0, 0), rfl, (by simp only [go_sem, Int.natCast_zero] <;> rfl), Nat.zero_le _, by simp only [Nat.zero_add]; rfl, Nat.le_refl _⟩
 rintro ⟨i, s⟩ ⟨i1, i2, i3⟩
 simp only at i1 i2 i3 ⊢
 refine EvC.a ?_
 refine EvC.seq ?_
 refine EvC.cond (by simp only [go_sem] <;> rfl) (fun hc => ?_) (fun hc => ?_)
 rotate_left
 ·refine EvC.exit ?_
  have hi : ¬ i < W.length := by simpa using hc
  rw [List.drop_of_length_le (by omega), show stepsW [] = 0 from rfl, Nat.add_zero] at i2
  rw [i2]
  refine EvC.a ?_
  refine EvC.rz ?_
  simp only [go_sem]
 have hil : i < W.length := by simpa using hc
 clear hc
 have hge := List.getElem?_eq_getElem hil
 have hwm := hW _ (List.getElem_mem hil)
 have hdr : W.drop i = W[i] :: W.drop (i + 1) := List.drop_eq_getElem_cons hil
 generalize W[i] = w at hge hwm hdr
 have hwg := rw_get hge
 have hit : (i : Int).toNat = i := Int.toNat_natCast i
 have i4 : stepsW W = (s + w.2.1.length) + stepsW (W.drop (i + 1)) := by rw [i2, hdr]; simp only [stepsW, List.map_cons, List.sum_cons]; omega
 have hI : inI64 ((s : Int) + w.2.1.length) = true := inI64_of (by omega) (by omega)
 refine EvC.skip ?_
 refine EvC.seq ?_
 refine EvC.block ?_
 refine EvC.a ?_ (by simp only [go_sem, hwg, hit, hl] <;> rfl) (by simp; try omega)
 refine EvC.b ?_ (by simp only [go_sem, List.length_map] <;> rfl) (by simp [hI])
 refine EvC.b ?_ (hok := by exact inI64_of (by omega) (by omega))
 exact ⟨[], (i + 1, s + w.2.1.length), rfl, (by simp only [go_sem, Int.natCast_add, Int.natCast_one] <;> rfl), ⟨hil, i4, by simp only; omega⟩, by simp only; omega⟩
theorem tries_is (wn : Bool) (W : List RW) (wc : Cp) (n : Int) (hW : ∀ w ∈ W, w.2.1.length < 1000000) (hWl : W.length < 1000000) :
  PureIs prog 34 [.sl wn (W.map rwC) wc, .sc (.int .i64 n)] (.sc (.int .i64 (triesE n W))) := by
 have hWn := norefs_rw W
 refine PureIs.of1 2 [4, 5, 10, 14, 17] func34 ntmps34 results34 fun _ => ?_
 refine EvC.a ?_
 refine EvC.seq ?_
 refine EvC.k1 ?_ (c1 := .ca (loose_is wn W wc n hW hWl)) (h2 := by simp only [go_sem, hWn] <;> rfl)
 refine EvC.a ?_
 by_cases h1 : looseE n W = 0
 rotate_left
 ·rw [show triesE n W = looseE n W by unfold triesE; rw [if_pos h1]]
  refine EvC.ct ?_ (by simp only [go_sem, decide_eq_false h1] <;> rfl)
  refine EvC.a ?_
  refine EvC.rz ?_
  simp only [go_sem]
 refine EvC.cs ?_ (by simp only [go_sem, decide_eq_true h1] <;> rfl)
 refine EvC.seq ?_
 refine EvC.k1 ?_ (c1 := .ca (ahead_is wn W wc hW hWl)) (h2 := by simp only [go_sem, hWn] <;> rfl)
 cases h2 : aheadB W with
 | false =>
   rw [show triesE n W = 1 by unfold triesE; rw [if_neg (fun h => h h1), if_pos h2]]
   refine EvC.ct ?_ (by simp only [go_sem, h2] <;> rfl)
   refine EvC.a ?_
   refine EvC.rz ?_
   simp only [go_sem]
 | true =>
   refine EvC.cs ?_ (by simp only [go_sem, h2] <;> rfl)
   refine EvC.seq ?_
   refine EvC.k1 ?_ (c1 := .ca (steps_is wn W wc hW hWl)) (h2 := by simp only [go_sem, hWn] <;> rfl)
   by_cases h3 : 65536 < (stepsW W : Int)
   ·rw [show triesE n W = 3 by unfold triesE; rw [if_neg (fun h => h h1), if_neg (by rw [h2]; simp), if_pos h3]]
    refine EvC.ct ?_ (by simp only [go_sem, decide_eq_true h3] <;> rfl)
    refine EvC.a ?_
    refine EvC.rz ?_
    simp only [go_sem]
   rw [show triesE n W = 0 by unfold triesE; rw [if_neg (fun h => h h1), if_neg (by rw [h2]; simp), if_neg h3]]
   refine EvC.cs ?_ (by simp only [go_sem, decide_eq_false h3] <;> rfl)
   refine EvC.a ?_
   refine EvC.rz ?_
   simp only [go_sem]
theorem ready60_is (m : Mach) (hm : ∀ r ∈ m.rows, r.2.length < 1000000) (wn : Bool) (W : List RW) (wc : Cp) (hW : ∀ w ∈ W, w.2.1.length < 1000000) (hWl : W.length < 1000000) :
  PureIs prog 17 [.ag m.cells, .sl wn (W.map rwC) wc] (.sc (.int .i64 (readyE m W))) := by
 have hWn := norefs_rw W
 refine PureIs.of1 3 [4, 5, 9] func17 ntmps17 results17 fun _ => ?_
 refine EvC.a ?_ (by simp only [go_sem, Mach.cells] <;> rfl)
 refine EvC.z 0 ?_
 refine EvC.seq ?_
 refine EvC.k1 ?_ (h1 := by simp only [go_sem, Mach.cells] <;> rfl) (c1 := .ca (check_is m hm))
 refine EvC.a ?_
 by_cases h1 : checkM m = 0
 rotate_left
 ·rw [show readyE m W = checkM m by unfold readyE; rw [if_pos h1]]
  refine EvC.ct ?_ (by simp only [go_sem, decide_eq_false h1] <;> rfl)
  refine EvC.a ?_
  refine EvC.rz ?_
  simp only [go_sem]
 rw [show readyE m W = triesE m.ins W by unfold readyE; rw [if_neg (fun h => h h1)]]
 refine EvC.cs ?_ (by simp only [go_sem, decide_eq_true h1] <;> rfl)
 refine EvC.k1 ?_ (c1 := .ca (tries_is wn W wc m.ins hW hWl)) (h2 := by simp only [go_sem, hWn] <;> rfl)
 refine EvC.rz ?_
 simp only [go_sem]
theorem errW_zero {n : Int} : ∀ {W : List RW}, errW n W = 0 → ∀ w ∈ W, wordErr n w.2.1 = 0
 | [], _, _, h => by cases h
 | v :: W, h, w, hw => by
   rw [errW] at h
   split at h
   ·rename_i h1; exact absurd h h1
   ·rename_i h1
    rcases List.mem_cons.1 hw with rfl | hw
    ·exact Classical.not_not.1 h1
    ·exact errW_zero h w hw
theorem readyE_ok {m : Mach} {W : List RW} (h : readyE m W = 0) : checkM m = 0 ∧ W.length ≤ 4096 ∧ ∀ w ∈ W, wordErr m.ins w.2.1 = 0 := by
 unfold readyE at h
 split at h
 ·rename_i h1; exact absurd h h1
 rename_i h1
 unfold triesE at h
 split at h
 ·rename_i h2; exact absurd h h2
 rename_i h2
 have h2 := Classical.not_not.1 h2
 unfold looseE at h2
 split at h2
 ·cases h2
 rename_i h3
 split at h2
 ·cases h2
 exact ⟨Classical.not_not.1 h1, by omega, errW_zero h2⟩
def killW (m : Mach) (W : List RW) (f : FA) : List Int := killL m (mutF m f) W 0
def subE (m : Mach) (W : List RW) (f g : FA) : Int := if readyE m W ≠ 0 then readyE m W else if checkF m f ≠ 0 then checkF m f else checkF m g
def subV (m : Mach) (W : List RW) (f g : FA) : Bool := decide ((0 : Int) < (killW m W f).length) && subB (killW m W f) (killW m W g)
def subsumesA (m : Mach) (W : List RW) (f g : FA) : AV :=
 if subE m W f g ≠ 0 then .tu [.sc (.bool false), .sc (.int .i64 (subE m W f g))] else .tu [.sc (.bool (subV m W f g)), .sc (.int .i64 0)]
set_option maxHeartbeats 4000000 in
theorem subsumes_is (m : Mach) (hm : ∀ r ∈ m.rows, r.2.length < 1000000) (hnn : NoNil m) (wn : Bool) (W : List RW) (wc : Cp) (hW : ∀ w ∈ W, w.2.1.length < 1000000) (hWl : W.length < 1000000) (f g : FA) :
  PureIs prog 11 [.ag m.cells, .sl wn (W.map rwC) wc, .ag f.cells, .ag g.cells] (subsumesA m W f g) := by
 have hWn := norefs_rw W
 have q0 := ready60_is m hm wn W wc hW hWl
 unfold subsumesA
 generalize hE : subE m W f g = E
 have hE := hE.symm
 unfold subE at hE
 have hfc : f.cells = [.sc (.int .i64 f.kind), .sc (.int .i64 f.state), .sc (.int .i64 f.input), .sc (.int .i64 f.to), .sc (.int .i64 f.at'), .sc (.int .i64 f.out)] := rfl
 have hgc : g.cells = [.sc (.int .i64 g.kind), .sc (.int .i64 g.state), .sc (.int .i64 g.input), .sc (.int .i64 g.to), .sc (.int .i64 g.at'), .sc (.int .i64 g.out)] := rfl
 by_cases h0 : readyE m W = 0
 rotate_left
 ·rw [if_pos h0] at hE
  rw [hE, if_pos h0, hfc, hgc]
  refine PureIs.of1 5 [6, 7, 8, 9, 10, 11, 12, 13, 18, 28, 38] func11 ntmps11 results11 fun _ => ?_
  refine EvC.a ?_ (by simp only [go_sem, Mach.cells] <;> rfl)
  refine EvC.z 0 ?_
  refine EvC.z 1 ?_
  refine EvC.z 2 ?_
  refine EvC.seq ?_
  refine EvC.k1 ?_ (h1 := by simp only [go_sem, Mach.cells] <;> rfl) (c1 := .ca q0) (h2 := by simp only [go_sem, hWn] <;> rfl)
  refine EvC.a ?_
  refine EvC.ct ?_ (by simp only [go_sem, decide_eq_false h0] <;> rfl)
  refine EvC.a ?_
  refine EvC.rz ?_
  simp only [go_sem]
 rw [if_neg (fun h => h h0)] at hE
 obtain ⟨hc0, _, hWe⟩ := readyE_ok h0
 have hv := Valid.of hc0
 have q1 := killers_is hv hnn wn W wc ⟨hWe, hW, hWl⟩ f
 have q2 := killers_is hv hnn wn W wc ⟨hWe, hW, hWl⟩ g
 unfold killersA at q1 q2
 have hl1 := killL_len m (mutF m f) W 0
 have hl2 := killL_len m (mutF m g) W 0
 rw [hfc] at q1 ⊢
 rw [hgc] at q2 ⊢
 rw [h0] at q0
 refine PureIs.of1 5 [6, 7, 8, 9, 10, 11, 12, 13, 18, 28, 38] func11 ntmps11 results11 fun _ => ?_
 refine EvC.a ?_ (by simp only [go_sem, Mach.cells] <;> rfl)
 refine EvC.z 0 ?_
 refine EvC.z 1 ?_
 refine EvC.z 2 ?_
 refine EvC.seq ?_
 refine EvC.k1 ?_ (h1 := by simp only [go_sem, Mach.cells] <;> rfl) (c1 := .ca q0) (h2 := by simp only [go_sem, hWn] <;> rfl)
 refine EvC.a ?_
 refine EvC.cs ?_
 by_cases h1 : checkF m f = 0
 rotate_left
 ·rw [if_pos h1] at hE q1
  rw [hE, if_pos h1]
  refine EvC.k1 ?_ (h1 := by simp only [go_sem, Mach.cells] <;> rfl) (c1 := .ca q1) (h2 := by simp only [go_sem, hWn] <;> rfl)
  refine EvC.seq ?_
  refine EvC.a ?_
  refine EvC.ct ?_ (by simp only [go_sem, decide_eq_false h1] <;> rfl)
  refine EvC.a ?_
  refine EvC.rz ?_
  simp only [go_sem]
 rw [if_neg (fun h => h h1)] at hE q1
 obtain ⟨K1, hK1⟩ : ∃ K, K = killL m (mutF m f) W 0 := ⟨_, rfl⟩
 rw [← hK1] at q1 hl1
 have hn1 := norefs_intC K1
 refine EvC.k1 ?_ (h1 := by simp only [go_sem, Mach.cells] <;> rfl) (c1 := .ca q1) (h2 := by simp only [go_sem, hn1] <;> rfl)
 refine EvC.z 18 ?_
 refine EvC.seq ?_
 refine EvC.a ?_
 refine EvC.cs ?_
 by_cases h2 : checkF m g = 0
 rotate_left
 ·rw [if_pos h2] at q2
  rw [hE, if_pos h2]
  refine EvC.k1 ?_ (h1 := by simp only [go_sem, Mach.cells] <;> rfl) (c1 := .ca q2) (h2 := by simp only [go_sem, hWn] <;> rfl)
  refine EvC.seq ?_
  refine EvC.a ?_
  refine EvC.ct ?_ (by simp only [go_sem, decide_eq_false h2] <;> rfl)
  refine EvC.a ?_
  refine EvC.rz ?_
  simp only [go_sem]
 rw [h2] at hE
 rw [if_neg (fun h => h h2)] at q2
 obtain ⟨K2, hK2⟩ : ∃ K, K = killL m (mutF m g) W 0 := ⟨_, rfl⟩
 rw [← hK2] at q2 hl2
 have hn2 := norefs_intC K2
 rw [hE, if_neg (show ¬ (0 : Int) ≠ 0 from fun h => h rfl), subV, killW, killW, ← hK1, ← hK2]
 refine EvC.k1 ?_ (h1 := by simp only [go_sem, Mach.cells] <;> rfl) (c1 := .ca q2) (h2 := by simp only [go_sem, hn2] <;> rfl)
 refine EvC.z 30 ?_
 refine EvC.seq ?_
 refine EvC.a ?_
 refine EvC.cs ?_
 have hkl : (K1.map intC).length = K1.length := List.length_map _
 by_cases hp : (0 : Int) < K1.length
 ·rw [decide_eq_true hp]
  have q3 := within63_is K1.isEmpty K1 .unk K2.isEmpty K2 .unk (by omega) (by omega)
  refine EvC.k1 ?_ (h1 := by simp only [go_sem, hkl, decide_eq_true hp] <;> rfl) (c1 := .cg q3) (h2 := by simp only [go_sem, hkl, decide_eq_true hp, hn1, hn2] <;> rfl)
  refine EvC.rz ?_
  simp only [go_sem]
 ·rw [decide_eq_false hp]
  apply EvC.s1
  ·apply Tr.run
   ·simp only [go_sem, hkl, decide_eq_false hp] <;> rfl
   ·simp
   apply Tr.cons
   ·exact .skipv (.sc (.bool false)) rfl rfl (by simp only [go_sem] <;> rfl) (by simp only [go_sem] <;> rfl)
   apply Tr.done
   ·simp only [go_sem, hkl, decide_eq_false hp, hn1, hn2] <;> rfl
   ·simp
  refine EvC.rz ?_
  simp only [go_sem]
def badB (S : List (List Int)) (i k : Nat) : Bool :=
 !decide (k = i) && (decide ((0 : Int) < (S.getD k []).length) && (subB (S.getD k []) (S.getD i []) && (decide (k < i) || !subB (S.getD i []) (S.getD k []))))
def keepB (S : List (List Int)) (i : Nat) : Bool := !decide ((S.getD i []).length = 0) && !((List.range S.length).any (badB S i))
def leastL (S : List (List Int)) : List Int := ((List.range S.length).filter (keepB S)).map fun i : Nat => (i : Int)
def leastE (m : Mach) (W : List RW) (fs : List FA) : Int := if readyE m W ≠ 0 then readyE m W else mutErr m fs
def leastA (m : Mach) (W : List RW) (fs : List FA) : AV :=
 if leastE m W fs ≠ 0 then .tu [.sl true [] .unk, .sc (.int .i64 (leastE m W fs))] else .tu [.sl (leastL (fs.map (killW m W))).isEmpty ((leastL (fs.map (killW m W))).map intC) .full, .sc (.int .i64 0)]
def setC (S : List Int) : List AV := [.sl S.isEmpty (S.map intC) .unk]
theorem norefs_sets (l : List (List Int)) : (l.map setC).all AV.norefs = true := by simp [List.all_eq_true, setC, AV.norefs, AV.noref]
def leastTo (S : List (List Int)) (i : Nat) : List Int := ((List.range i).filter (keepB S)).map fun i : Nat => (i : Int)
theorem leastTo_succ (S : List (List Int)) (i : Nat) : leastTo S (i + 1) = leastTo S i ++ if keepB S i = true then [(i : Int)] else [] := by
 unfold leastTo
 rw [List.range_succ, List.filter_append, List.map_append]
 congr 1
 by_cases h : keepB S i = true
 ·rw [if_pos h, List.filter_cons_of_pos h]; rfl
 ·rw [if_neg h, List.filter_cons_of_neg h]; rfl
theorem leastTo_len (S : List (List Int)) (i : Nat) : (leastTo S i).length ≤ i := by
 unfold leastTo
 rw [List.length_map]
 have := List.length_filter_le (keepB S) (List.range i)
 rw [List.length_range] at this
 exact this
set_option maxHeartbeats 8000000 in
theorem least_is (m : Mach) (hm : ∀ r ∈ m.rows, r.2.length < 1000000) (hnn : NoNil m) (wn : Bool) (W : List RW) (wc : Cp) (hW : ∀ w ∈ W, w.2.1.length < 1000000) (hWl : W.length < 1000000) (fn : Bool) (fs : List FA) (fc : Cp) (hfl : fs.length < 1000000) :
  PureIs prog 8 [.ag m.cells, .sl wn (W.map rwC) wc, .sl fn (fs.map FA.cells) fc] (leastA m W fs) := by
 have hWn := norefs_rw W
 have q0 := ready60_is m hm wn W wc hW hWl
 have q1 := check61_is m hm fn fs fc hfl
 have hFn := fas_norefs2 fs
 unfold leastA
 generalize hE : leastE m W fs = E
 have hE := hE.symm
 unfold leastE at hE
 refine PureIs.of1 4 [6, 7, 8, 9, 10, 12, 13, 15, 16, 17, 18, 19, 20, 25, 31, 33, 34, 35, 36, 51, 52, 53, 54, 61, 62, 63, 64, 65, 95] func8 ntmps8 results8 fun _ => ?_
 refine EvC.a ?_ (by simp only [go_sem, Mach.cells] <;> rfl)
 refine EvC.z 0 ?_
 refine EvC.scope ?_
 refine EvC.seq ?_
 refine EvC.k1 ?_ (h1 := by simp only [go_sem, Mach.cells] <;> rfl) (c1 := .ca q0) (h2 := by simp only [go_sem, hWn] <;> rfl)
 refine EvC.a ?_
 by_cases h0 : readyE m W = 0
 rotate_left
 ·rw [if_pos h0] at hE
  rw [hE, if_pos h0]
  refine EvC.ct ?_ (by simp only [go_sem, decide_eq_false h0] <;> rfl)
  refine EvC.a ?_
  refine EvC.rz ?_
  simp only [go_sem]
 rw [if_neg (fun h => h h0)] at hE
 refine EvC.cs ?_ (by simp only [go_sem, decide_eq_true h0] <;> rfl)
 refine EvC.seq ?_
 refine EvC.k1 ?_ (h1 := by simp only [go_sem, Mach.cells] <;> rfl) (c1 := .ca q1) (h2 := by simp only [go_sem, hFn] <;> rfl)
 refine EvC.a ?_
 by_cases h1 : mutErr m fs = 0
 rotate_left
 ·rw [hE, if_pos h1]
  refine EvC.ct ?_ (by simp only [go_sem, decide_eq_false h1] <;> rfl)
  refine EvC.a ?_
  refine EvC.rz ?_
  simp only [go_sem]
 rw [h1] at hE
 rw [hE, if_neg (show ¬ (0 : Int) ≠ 0 from fun h => h rfl)]
 refine EvC.cs ?_ (by simp only [go_sem, decide_eq_true h1] <;> rfl)
 obtain ⟨hc0, _, hWe⟩ := readyE_ok h0
 have hv := Valid.of hc0
 obtain ⟨_, hf2, hf3⟩ := mutErr_ok h1
 have hfz := errFs_zero hf3
 have qk := fun f => killers_is hv hnn wn W wc ⟨hWe, hW, hWl⟩ f
 have hkl := fun f => killL_len m (mutF m f) W 0
 refine EvC.a ?_
 refine EvC.seq ?_
 refine EvC.a ?_ (by simp only [go_sem, List.length_map] <;> rfl)
 refine EvC.block ?_
 obtain ⟨N, hN⟩ : ∃ N, N = fs.length := ⟨_, rfl⟩
 obtain ⟨S, hS⟩ : ∃ S, S = fs.map (killW m W) := ⟨_, rfl⟩
 have hSl : S.length = N := by rw [hS, List.length_map, hN]
 have hSb : ∀ s ∈ S, s.length < 1000000 := fun s hs => by
  rw [hS] at hs
  obtain ⟨f, _, rfl⟩ := List.mem_map.1 hs
  have := hkl f
  unfold killW; omega
 rw [← hN] at hf2 ⊢
 rw [← hS]
 refine EvC.loopS (σ := Nat) (fun i => ⟨[(1, .sl wn (W.map rwC) wc), (3, .ia m.cells), (10, .tl 0 i (i == 0)), (33, .sl fn (fs.map FA.cells) fc), (34, .sc (.int .i64 N)), (35, .sc (.int .i64 i))], [], [(0, .arr 1 ((S.take i).map setC) true)], 1⟩) (fun i => N - i) (fun i => i ≤ N) [1, 3, 10, 33, 34, 35] 1 ?_ ?_
 ·exact ⟨[(15, 0)], 0, rfl, (by simp only [go_sem, Int.natCast_zero, List.take_zero, List.map_nil, Mach.cells] <;> rfl), Nat.zero_le _⟩
 intro i hi
 have hLn := norefs_sets (S.take i)
 have hLl : ((S.take i).map setC).length = i := by rw [List.length_map, List.length_take]; omega
 refine EvC.a ?_
 refine EvC.seq ?_
 refine EvC.cond (by simp only [go_sem] <;> rfl) (fun hc => ?_) (fun hc => ?_)
 rotate_left
 ·refine EvC.exit ?_
  obtain rfl : i = N := by have : ¬ i < N := (by simpa using hc); omega
  clear hc
  rw [List.take_of_length_le (by omega)] at hLn hLl ⊢
  have hSg : ∀ (k : Nat), k < i → (S.map setC)[k]? = some [.sl (S.getD k []).isEmpty ((S.getD k []).map intC) .unk] := fun k hk => by
   rw [List.getElem?_map, List.getElem?_eq_getElem (by omega), List.getD_eq_getElem?_getD, List.getElem?_eq_getElem (by omega)]; rfl
  have hSb2 : ∀ k, k < i → (S.getD k []).length < 1000000 := fun k hk => hSb _ (by
   rw [List.getD_eq_getElem?_getD, List.getElem?_eq_getElem (by omega)]; exact List.getElem_mem _)
  generalize S.map setC = SC at hLn hLl hSg ⊢
  refine EvC.frz 0 (by simp only [go_sem, hLn, hLl] <;> rfl) ?_
  refine EvC.a ?_
  refine EvC.a ?_
  refine EvC.seq ?_
  refine EvC.label ?_
  refine EvC.seq ?_
  refine EvC.a ?_ (by simp only [go_sem, hLl] <;> rfl)
  refine EvC.block ?_
  obtain ⟨N, hNi⟩ : ∃ N, N = i := ⟨_, rfl⟩
  rw [← hNi] at hLl hSg hSb2 hf2 hSl ⊢
  clear hi
  refine EvC.loopS (σ := Nat) (fun i => ⟨[(10, .sl (N == 0) SC .unk), (15, .fn 20 []), (16, .tl 0 (leastTo S i).length (leastTo S i).isEmpty), (51, .sl (N == 0) SC .unk), (52, .sc (.int .i64 N)), (53, .sc (.int .i64 i))], [], [(0, .arr 1 ((leastTo S i).map intC) true)], 1⟩) (fun i => N - i) (fun i => i ≤ N) [10, 15, 16, 51, 52, 53] 1 ?_ ?_
  ·exact ⟨[(3, 0)], 0, rfl, (by (simp only [go_sem, Int.natCast_zero, show leastTo S 0 = [] from rfl, List.map_nil, List.length_nil, List.isEmpty_nil]) <;> rfl), Nat.zero_le _⟩
  intro i hi
  have hOn := norefs_intC (leastTo S i)
  have hOl : ((leastTo S i).map intC).length = (leastTo S i).length := List.length_map _
  have hOb := leastTo_len S i
  refine EvC.a ?_
  refine EvC.seq ?_
  refine EvC.cond (by simp only [go_sem] <;> rfl) (fun hc => ?_) (fun hc => ?_)
  rotate_left
  ·refine EvC.exit ?_
   obtain rfl : i = N := by have : ¬ i < N := (by simpa using hc); omega
   clear hc
   have hLe : leastL S = leastTo S i := by rw [leastL, leastTo, hSl]
   rw [hLe]
   have h1 : (((leastTo S i).map intC).all fun y => decide (y.length = 1)) = true := by simp [List.all_eq_true, intC]
   generalize (leastTo S i).map intC = L at hOn hOl h1 ⊢
   refine EvC.frz 0 (by simp only [go_sem, hOn, hOl] <;> rfl) ?_
   refine EvC.k1 ?_ (h1 := by simp only [go_sem, hOl] <;> rfl) (c1 := .ca (clipI_is _ L .unk h1))
   refine EvC.rz ?_
   simp only [go_sem]
  have hil : i < N := by simpa using hc
  clear hc
  have hgi := hSg i hil
  have hbi := hSb2 i hil
  have hit : (i : Int).toNat = i := Int.toNat_natCast i
  have hsu := leastTo_succ S i
  have hOl2 := leastTo_len S (i + 1)
  obtain ⟨Ti, hTi⟩ : ∃ T, T = S.getD i [] := ⟨_, rfl⟩
  rw [← hTi] at hgi hbi
  refine EvC.skip ?_
  refine EvC.seq ?_
  refine EvC.block ?_
  refine EvC.a ?_ (by simp only [go_sem, hgi, hit, hLl] <;> rfl) (by simp; try omega)
  refine EvC.z 5 ?_
  have hTl : (Ti.map intC).length = Ti.length := List.length_map _
  have hTn := norefs_intC Ti
  have hI1 : inI64 ((i : Int) + 1) = true := inI64_of (by omega) (by omega)
  have hno : keepB S i = false → leastTo S (i + 1) = leastTo S i := fun h => by rw [hsu, h]; simp
  refine EvC.seq ?_
  refine EvC.a ?_ (by simp only [go_sem, hTl] <;> rfl)
  by_cases hz : Ti.length = 0
  ·refine EvC.ct ?_ (by simp only [go_sem, decide_eq_true (show (Ti.length : Int) = 0 by omega)] <;> rfl)
   refine EvC.exit ?_
   have hk : keepB S i = false := by unfold keepB; rw [← hTi, decide_eq_true hz]; rfl
   refine EvC.b ?_ (hok := by simp [hI1])
   exact ⟨[(0, 0)], i + 1, rfl, (by rw [hno hk]; simp only [go_sem, hOn, Int.natCast_add, Int.natCast_one] <;> rfl), hil, by omega⟩
  refine EvC.cs ?_ (by simp only [go_sem, decide_eq_false (show ¬ (Ti.length : Int) = 0 by omega)] <;> rfl)
  refine EvC.seq ?_
  refine EvC.a ?_ (by simp only [go_sem, hLl] <;> rfl)
  refine EvC.block ?_
  refine EvC.loopS (σ := Nat) (fun k => ⟨[(10, .sl (N == 0) SC .unk), (15, .fn 20 []), (16, .tl 0 (leastTo S i).length (leastTo S i).isEmpty), (17, .sc (.int .i64 i)), (18, .ia [.sl Ti.isEmpty (Ti.map intC) .unk]), (51, .sl (N == 0) SC .unk), (52, .sc (.int .i64 N)), (53, .sc (.int .i64 i)), (62, .sl (N == 0) SC .unk), (63, .sc (.int .i64 N)), (64, .sc (.int .i64 k))], [], [(0, .arr 1 ((leastTo S i).map intC) true)], 1⟩) (fun k => N - k) (fun k => k ≤ N ∧ ∀ j, j < k → badB S i j = false) [10, 15, 16, 17, 18, 51, 52, 53, 62, 63, 64] 1 ?_ ?_
  ·exact ⟨[(0, 0)], 0, rfl, (by simp only [go_sem, hOn, Int.natCast_zero] <;> rfl), Nat.zero_le _, fun j h => absurd h (Nat.not_lt_zero _)⟩
  rintro k ⟨k1, k2⟩
  refine EvC.a ?_
  refine EvC.seq ?_
  refine EvC.cond (by simp only [go_sem] <;> rfl) (fun hc => ?_) (fun hc => ?_)
  rotate_left
  ·refine EvC.exit ?_
   obtain rfl : k = N := by have : ¬ k < N := (by simpa using hc); omega
   clear hc
   have hk : keepB S i = true := by
    unfold keepB
    rw [← hTi, decide_eq_false hz]
    simp only [Bool.not_false, Bool.true_and, Bool.not_eq_true']
    rw [List.any_eq_false]
    intro j hj
    rw [List.mem_range, hSl] at hj
    rw [k2 j hj]; simp
   rw [hk, if_pos rfl] at hsu
   have hs : (leastTo S i).map intC ++ [[.sc (.int .i64 i)]] = (leastTo S (i + 1)).map intC := by rw [hsu, List.map_append]; rfl
   have hl2 : (leastTo S i).length + 1 = (leastTo S (i + 1)).length := by rw [hsu]; simp
   have hn2 : (leastTo S (i + 1)).isEmpty = false := by rw [hsu]; simp
   have hr2 : room (leastTo S (i + 1)).length 8 = true := by simp only [room_eq, decide_eq_true_eq]; omega
   have hOn2 := norefs_intC (leastTo S (i + 1))
   have hOl3 : ((leastTo S (i + 1)).map intC).length = (leastTo S (i + 1)).length := List.length_map _
   obtain ⟨U, hU⟩ : ∃ U, U = (leastTo S (i + 1)).map intC := ⟨_, rfl⟩
   rw [← hU] at hs hOn2 hOl3
   refine EvC.b ?_ (by simp only [go_sem, hs, hl2, hOl] <;> rfl) (by simp [hr2])
   refine EvC.b ?_ (hok := by simp [hI1])
   exact ⟨[(0, 0)], i + 1, rfl, (by rw [hn2, ← hU]; simp only [go_sem, hOn2, hOl3, Int.natCast_add, Int.natCast_one] <;> rfl), hil, by omega⟩
  have hkl2 : k < N := by simpa using hc
  clear hc
  have hgk := hSg k hkl2
  have hbk := hSb2 k hkl2
  have hkt : (k : Int).toNat = k := Int.toNat_natCast k
  have hI2 : inI64 ((k : Int) + 1) = true := inI64_of (by omega) (by omega)
  obtain ⟨Tk, hTk⟩ : ∃ T, T = S.getD k [] := ⟨_, rfl⟩
  rw [← hTk] at hgk hbk
  have hTkl : (Tk.map intC).length = Tk.length := List.length_map _
  have hTkn := norefs_intC Tk
  have hbad : badB S i k = (!decide (k = i) && (decide ((0 : Int) < Tk.length) && (subB Tk Ti && (decide (k < i) || !subB Ti Tk)))) := by unfold badB; rw [← hTi, ← hTk]
  have hnext : badB S i k = false → ∀ j, j < k + 1 → badB S i j = false := fun h j hj => by
   by_cases e : j = k
   ·rw [e]; exact h
   ·exact k2 j (by omega)
  have hkeep : badB S i k = true → keepB S i = false := fun h => by
   unfold keepB
   have : (List.range S.length).any (badB S i) = true := List.any_eq_true.2 ⟨k, List.mem_range.2 (by omega), h⟩
   rw [this]; simp
  refine EvC.skip ?_
  refine EvC.seq ?_
  refine EvC.block ?_
  refine EvC.a ?_ (by simp only [go_sem, hgk, hkt, hLl] <;> rfl) (by simp; try omega)
  refine EvC.z 5 ?_
  have qa := within63_is Tk.isEmpty Tk .unk Ti.isEmpty Ti .unk hbk hbi
  have qb := within63_is Ti.isEmpty Ti .unk Tk.isEmpty Tk .unk hbi hbk
  by_cases e1 : k = i
  ·have hb : badB S i k = false := by rw [hbad, decide_eq_true e1]; rfl
   have d1 : decide ((k : Int) = i) = true := decide_eq_true (by omega)
   apply EvC.s1
   ·apply Tr.run
    ·simp only [go_sem, d1, hTkl] <;> rfl
    ·simp
    apply Tr.cons
    ·exact .skipv (.sc (.bool false)) rfl rfl (by simp only [go_sem] <;> rfl) (by simp only [go_sem] <;> rfl)
    apply Tr.run
    ·simp only [go_sem, d1, hTkl] <;> rfl
    ·simp
    apply Tr.cons
    ·exact .skipv (.sc (.bool false)) rfl rfl (by simp only [go_sem] <;> rfl) (by simp only [go_sem] <;> rfl)
    apply Tr.done
    ·simp only [go_sem, d1, hTkl] <;> rfl
    ·simp
   refine EvC.cs ?_
   refine EvC.b ?_ (hok := by simp [hI2])
   exact ⟨[(0, 0)], k + 1, rfl, (by simp only [go_sem, hOn, Int.natCast_add, Int.natCast_one] <;> rfl), ⟨hkl2, hnext hb⟩, by omega⟩
  have d1 : decide ((k : Int) = i) = false := decide_eq_false (by omega)
  by_cases e2 : Tk.length = 0
  ·have hb : badB S i k = false := by rw [hbad, decide_eq_false (show ¬ (0 : Int) < Tk.length by omega)]; simp
   have d2 : decide ((0 : Int) < Tk.length) = false := decide_eq_false (by omega)
   apply EvC.s1
   ·apply Tr.run
    ·simp only [go_sem, d1, d2, hTkl] <;> rfl
    ·simp
    apply Tr.cons
    ·exact .skipv (.sc (.bool false)) rfl rfl (by simp only [go_sem] <;> rfl) (by simp only [go_sem] <;> rfl)
    apply Tr.run
    ·simp only [go_sem, d1, d2, hTkl] <;> rfl
    ·simp
    apply Tr.cons
    ·exact .skipv (.sc (.bool false)) rfl rfl (by simp only [go_sem] <;> rfl) (by simp only [go_sem] <;> rfl)
    apply Tr.done
    ·simp only [go_sem, d1, d2, hTkl] <;> rfl
    ·simp
   refine EvC.cs ?_
   refine EvC.b ?_ (hok := by simp [hI2])
   exact ⟨[(0, 0)], k + 1, rfl, (by simp only [go_sem, hOn, Int.natCast_add, Int.natCast_one] <;> rfl), ⟨hkl2, hnext hb⟩, by omega⟩
  have d2 : decide ((0 : Int) < Tk.length) = true := decide_eq_true (by omega)
  rw [decide_eq_false e1, d2] at hbad
  by_cases e3 : subB Tk Ti = true
  rotate_left
  ·have e3' : subB Tk Ti = false := by simpa using e3
   have hb : badB S i k = false := by rw [hbad, e3']; rfl
   rw [e3'] at qa
   apply EvC.s1
   ·apply Tr.run
    ·simp only [go_sem, d1, d2, hTkl] <;> rfl
    ·simp
    apply Tr.cons
    ·exact .cg (qa)
    apply Tr.run
    ·simp only [go_sem, d1, d2, hTkl] <;> rfl
    ·simp
    apply Tr.cons
    ·exact .skipv (.sc (.bool false)) rfl rfl (by simp only [go_sem] <;> rfl) (by simp only [go_sem] <;> rfl)
    apply Tr.done
    ·simp only [go_sem, d1, d2, hTkl, hTkn, hTn] <;> rfl
    ·simp
   refine EvC.cs ?_
   refine EvC.b ?_ (hok := by simp [hI2])
   exact ⟨[(0, 0)], k + 1, rfl, (by simp only [go_sem, hOn, Int.natCast_add, Int.natCast_one] <;> rfl), ⟨hkl2, hnext hb⟩, by omega⟩
  rw [e3] at qa hbad
  by_cases e4 : k < i
  ·have hb : badB S i k = true := by rw [hbad, decide_eq_true e4]; rfl
   have d3 : decide ((k : Int) < i) = true := decide_eq_true (by omega)
   apply EvC.s1
   ·apply Tr.run
    ·simp only [go_sem, d1, d2, d3, hTkl] <;> rfl
    ·simp
    apply Tr.cons
    ·exact .cg (qa)
    apply Tr.run
    ·simp only [go_sem, d1, d2, d3, hTkl] <;> rfl
    ·simp
    apply Tr.cons
    ·exact .skipv (.sc (.bool false)) rfl rfl (by simp only [go_sem] <;> rfl) (by simp only [go_sem] <;> rfl)
    apply Tr.done
    ·simp only [go_sem, d1, d2, d3, hTkl, hTkn, hTn] <;> rfl
    ·simp
   refine EvC.ct ?_
   refine EvC.exit ?_
   refine EvC.b ?_ (hok := by simp [hI1])
   exact ⟨[(0, 0)], i + 1, rfl, (by rw [hno (hkeep hb)]; simp only [go_sem, hOn, Int.natCast_add, Int.natCast_one] <;> rfl), hil, by omega⟩
  have d3 : decide ((k : Int) < i) = false := decide_eq_false (by omega)
  rw [decide_eq_false e4] at hbad
  by_cases e5 : subB Ti Tk = true
  ·have hb : badB S i k = false := by rw [hbad, e5]; rfl
   rw [e5] at qb
   refine EvC.k2 ?_ (h1 := by simp only [go_sem, d1, d2, d3, hTkl] <;> rfl) (c1 := .cg qa) (h2 := by simp only [go_sem, d1, d2, d3, hTkl] <;> rfl) (c2 := .cg qb) (h3 := by simp only [go_sem, d1, d2, d3, hTkl, hTkn, hTn] <;> rfl)
   refine EvC.cs ?_
   refine EvC.b ?_ (hok := by simp [hI2])
   exact ⟨[(0, 0)], k + 1, rfl, (by simp only [go_sem, hOn, Int.natCast_add, Int.natCast_one] <;> rfl), ⟨hkl2, hnext hb⟩, by omega⟩
  have e5' : subB Ti Tk = false := by simpa using e5
  have hb : badB S i k = true := by rw [hbad, e5']; rfl
  rw [e5'] at qb
  refine EvC.k2 ?_ (h1 := by simp only [go_sem, d1, d2, d3, hTkl] <;> rfl) (c1 := .cg qa) (h2 := by simp only [go_sem, d1, d2, d3, hTkl] <;> rfl) (c2 := .cg qb) (h3 := by simp only [go_sem, d1, d2, d3, hTkl, hTkn, hTn] <;> rfl)
  refine EvC.ct ?_
  refine EvC.exit ?_
  refine EvC.b ?_ (hok := by simp [hI1])
  exact ⟨[(0, 0)], i + 1, rfl, (by rw [hno (hkeep hb)]; simp only [go_sem, hOn, Int.natCast_add, Int.natCast_one] <;> rfl), hil, by omega⟩
 have hil : i < N := by simpa using hc
 clear hc
 have hge : fs[i]? = some (fs[i]'(by omega)) := List.getElem?_eq_getElem (by omega)
 have hfz2 := hfz _ (List.getElem_mem (show i < fs.length by omega))
 have htk : S.take (i + 1) = S.take i ++ [killW m W (fs[i]'(by omega))] := by
  rw [List.take_succ_eq_append_getElem (by omega)]; simp [hS]
 generalize fs[i]'(by omega) = f at hge hfz2 htk
 have hfg : (fs.map FA.cells)[i]? = some f.cells := by rw [List.getElem?_map, hge]; rfl
 have hit : (i : Int).toNat = i := Int.toNat_natCast i
 have q2 := qk f
 unfold killersA at q2
 rw [if_neg (fun h => h hfz2)] at q2
 have hK := hkl f
 rw [show killL m (mutF m f) W 0 = killW m W f from rfl] at q2 hK
 generalize killW m W f = K at q2 htk hK
 have hKn := norefs_intC K
 rw [FA.cells] at hfg q2
 have hfcl : (fs.map FA.cells).length = N := by rw [List.length_map, hN]
 refine EvC.skip ?_
 refine EvC.seq ?_
 refine EvC.block ?_
 refine EvC.a ?_ (by simp only [go_sem, hfg, hit, hfcl] <;> rfl) (by simp; try omega)
 refine EvC.z 4 ?_
 refine EvC.k1 ?_ (h1 := by simp only [go_sem, Mach.cells] <;> rfl) (c1 := .ca q2) (h2 := by simp only [go_sem, hWn, hKn] <;> rfl)
 refine EvC.z 13 ?_
 have hs : (S.take i).map setC ++ [[.sl K.isEmpty (K.map intC) .unk]] = (S.take (i + 1)).map setC := by rw [htk, List.map_append]; rfl
 have hLn2 := norefs_sets (S.take (i + 1))
 have hr2 : room (i + 1) 24 = true := by simp only [room_eq, decide_eq_true_eq]; omega
 have hLl2 : ((S.take (i + 1)).map setC).length = i + 1 := by rw [List.length_map, List.length_take]; omega
 have hne : (i + 1 == 0) = false := rfl
 obtain ⟨L2, hL2⟩ : ∃ L, L = (S.take (i + 1)).map setC := ⟨_, rfl⟩
 rw [← hL2] at hs hLn2 hLl2
 refine EvC.b ?_ (by simp only [go_sem, hs, hLl] <;> rfl) (by simp [hr2])
 refine EvC.b ?_ (hok := by exact inI64_of (by omega) (by omega))
 exact ⟨[(0, 0)], i + 1, rfl, (by rw [← hL2]; simp only [go_sem, Mach.cells, hLn2, hLl2, hne, Int.natCast_add, Int.natCast_one] <;> rfl), hil, by omega⟩
def agreeB (a b : Mach) (W : List RW) : Bool := W.all fun w => decide (runR a 0 w.2.1 = runR b 0 w.2.1)
theorem agree_is {a b : Mach} (ha : Valid a) (hb : Valid b) (wn : Bool) (W : List RW) (wc : Cp) (hWa : ∀ w ∈ W, ∀ x ∈ w.2.1, 0 ≤ x ∧ x < a.ins) (hWb : ∀ w ∈ W, ∀ x ∈ w.2.1, 0 ≤ x ∧ x < b.ins) (hl : ∀ w ∈ W, w.2.1.length < 1000000) (hn : W.length < 1000000) :
  PureIs prog 44 [.ag a.cells, .ag b.cells, .sl wn (W.map rwC) wc] (.sc (.bool (agreeB a b W))) := by
 refine PureIs.of1 5 [6, 7, 11, 29] func44 ntmps44 results44 fun _ => ?_
 refine EvC.a ?_ (by simp only [go_sem, Mach.cells] <;> rfl)
 refine EvC.z 0 ?_
 refine EvC.z 1 ?_
 refine EvC.seq ?_
 refine EvC.a ?_
 refine EvC.block ?_
 have hWn := norefs_rw W
 obtain ⟨N, hN⟩ : ∃ N, N = W.length := ⟨_, rfl⟩
 refine EvC.loopS (σ := Nat) (fun i => ⟨[(2, .sl wn (W.map rwC) wc), (3, .ia a.cells), (4, .ia b.cells), (7, .sc (.int .i64 i))], [], [], 0⟩) (fun i => N - i) (fun i => i ≤ N ∧ ∀ w ∈ W.take i, runR a 0 w.2.1 = runR b 0 w.2.1) [2, 3, 4, 7] 0 ?_ ?_
 ·exact ⟨[], 0, rfl, (by simp only [go_sem, Mach.cells, Int.natCast_zero] <;> rfl), Nat.zero_le _, by simp⟩
 rintro i ⟨h1, h2⟩
 refine EvC.seq ?_
 refine EvC.a ?_ (by simp only [go_sem, List.length_map, hN.symm] <;> rfl)
 refine EvC.cond (by simp only [go_sem] <;> rfl) (fun hc => ?_) (fun hc => ?_)
 rotate_left
 ·refine EvC.exit ?_
  obtain rfl : i = N := by have : ¬ i < N := (by simpa using hc); omega
  rw [List.take_of_length_le (by omega)] at h2
  have hR : agreeB a b W = true := List.all_eq_true.2 fun w hw => decide_eq_true (h2 w hw)
  rw [hR]
  refine EvC.a ?_
  refine EvC.rz ?_
  simp only [go_sem]
 have hil : i < N := by simpa using hc
 clear hc
 have he : W[i]? = some (W[i]'(by omega)) := List.getElem?_eq_getElem (by omega)
 have hm2 := List.getElem_mem (show i < W.length by omega)
 have htk : W.take (i + 1) = W.take i ++ [W[i]'(by omega)] := by
  rw [List.take_succ_eq_append_getElem (by omega)]
 generalize W[i]'(by omega) = w at he hm2 htk
 have hwg : (W.map rwC)[i]? = some [.sl w.1 (w.2.1.map intC) w.2.2] := by rw [List.getElem?_map, he]; rfl
 have hit : (i : Int).toNat = i := Int.toNat_natCast i
 have hll : (W.map rwC).length = N := by rw [List.length_map, hN]
 have har := ha.rows
 have hbr := hb.rows
 have q1 := run04_is ha 0 (by omega) w.1 w.2.1 w.2.2 (hWa w hm2) (hl w hm2)
 have q2 := run04_is hb 0 (by omega) w.1 w.2.1 w.2.2 (hWb w hm2) (hl w hm2)
 have hl1 : (runR a 0 w.2.1).length < 1000000 := by rw [runR_len]; exact hl w hm2
 have hd : ∀ b' : Bool, decide (runR a 0 w.2.1 = runR b 0 w.2.1) = b' → sameW [((runR a 0 w.2.1).isEmpty, runR a 0 w.2.1, Cp.unk)] [((runR b 0 w.2.1).isEmpty, runR b 0 w.2.1, Cp.unk)] = b' := fun b' h => by simp only [sameW, h, Bool.and_true]
 have q3 := fun ca cb => same37_is false false [((runR a 0 w.2.1).isEmpty, runR a 0 w.2.1, Cp.unk)] [((runR b 0 w.2.1).isEmpty, runR b 0 w.2.1, Cp.unk)] ca cb (by simp) (by simpa using hl1)
 have ge : ∀ X : List Int, X.map intC = X.map intC := fun _ => rfl
 refine EvC.skip ?_
 refine EvC.seq ?_
 refine EvC.block ?_
 have hn1 := norefs_intC (runR a 0 w.2.1)
 have hn2 := norefs_intC (runR b 0 w.2.1)
 simp only [List.map_cons, List.map_nil, rwC] at q3
 by_cases hq : runR a 0 w.2.1 = runR b 0 w.2.1
 ·rw [hd true (decide_eq_true hq)] at q3
  apply EvC.seq
  apply EvC.drw mixed
  ·apply Tr.run
   ·simp only [go_sem, hwg, hit, hll, Mach.cells] <;> rfl
   ·simp; try omega
   apply Tr.cons
   ·exact .ca (q1)
   apply Tr.run
   ·simp only [go_sem, hwg, hit, hll, Mach.cells] <;> rfl
   ·simp; try omega
   apply Tr.cons
   ·exact .ca (q2)
   apply Tr.run
   ·simp only [go_sem, hwg, hit, hll, Mach.cells] <;> rfl
   ·simp; try omega
   apply Tr.cons
   ·exact .ca (q3 .full .full)
   apply Tr.done
   ·simp only [go_sem, hn1, hn2, hwg, hit, hll, Mach.cells] <;> rfl
   ·simp; try omega
  ·kernel_rfl
  refine EvC.cs ?_
  refine EvC.b ?_ (hok := by exact inI64_of (by omega) (by omega))
  exact ⟨[], i + 1, rfl, (by simp only [go_sem, Mach.cells, Int.natCast_add, Int.natCast_one] <;> rfl), ⟨hil, fun x hx => by rw [htk] at hx; rcases List.mem_append.1 hx with h | h; exact h2 x h; rw [List.mem_singleton.1 h]; exact hq⟩, by omega⟩
 rw [hd false (decide_eq_false hq)] at q3
 apply EvC.seq
 apply EvC.drw mixed
 ·apply Tr.run
  ·simp only [go_sem, hwg, hit, hll, Mach.cells] <;> rfl
  ·simp; try omega
  apply Tr.cons
  ·exact .ca (q1)
  apply Tr.run
  ·simp only [go_sem, hwg, hit, hll, Mach.cells] <;> rfl
  ·simp; try omega
  apply Tr.cons
  ·exact .ca (q2)
  apply Tr.run
  ·simp only [go_sem, hwg, hit, hll, Mach.cells] <;> rfl
  ·simp; try omega
  apply Tr.cons
  ·exact .ca (q3 .full .full)
  apply Tr.done
  ·simp only [go_sem, hn1, hn2, hwg, hit, hll, Mach.cells] <;> rfl
  ·simp; try omega
 ·kernel_rfl
 refine EvC.ct ?_
 have hR : agreeB a b W = false := by
  rw [Bool.eq_false_iff]; intro h; exact hq (of_decide_eq_true (List.all_eq_true.1 h w hm2))
 rw [hR]
 refine EvC.a ?_
 refine EvC.rz ?_
 simp only [go_sem]
def killedL (m t : Mach) (W : List RW) : List Bool := W.map fun w => !decide (runR m 0 w.2.1 = runR t 0 w.2.1)
set_option maxHeartbeats 4000000 in
theorem refKilled_is {m : Mach} (hv : Valid m) (f : FA) (hf : faultB m f = true) (hvt : Valid (mutF m f)) (wn : Bool) (W : List RW) (wc : Cp) (hW : ∀ w ∈ W, ∀ x ∈ w.2.1, 0 ≤ x ∧ x < m.ins) (hl : ∀ w ∈ W, w.2.1.length < 1000000) (hn : W.length < 1000000) :
  PureIs prog 23 [.ag m.cells, .sl wn (W.map rwC) wc, .ag f.cells] (.sl W.isEmpty ((killedL m (mutF m f) W).map boolC) .unk) := by
 have q0 := apply55_is hv f hf
 have hti : (mutF m f).ins = m.ins := rfl
 generalize mutF m f = t at q0 hvt hti ⊢
 have hWn := norefs_rw W
 have hfc : f.cells = [.sc (.int .i64 f.kind), .sc (.int .i64 f.state), .sc (.int .i64 f.input), .sc (.int .i64 f.to), .sc (.int .i64 f.at'), .sc (.int .i64 f.out)] := rfl
 rw [hfc] at q0 ⊢
 have htc : t.cells = [.sc (.int .i64 t.ins), .sc (.int .i64 t.outs), .sl t.nl (t.rows.map rowC) .unk] := rfl
 rw [htc] at q0
 refine PureIs.of1 4 [5, 6, 7, 8, 9, 16] func23 ntmps23 results23 fun _ => ?_
 refine EvC.a ?_ (by simp only [go_sem, Mach.cells] <;> rfl)
 refine EvC.z 0 ?_
 refine EvC.z 1 ?_
 refine EvC.k1 ?_ (h1 := by simp only [go_sem, Mach.cells] <;> rfl) (c1 := .ca q0)
 refine EvC.z 6 ?_
 refine EvC.a ?_
 refine EvC.seq ?_
 refine EvC.a ?_
 refine EvC.block ?_
 obtain ⟨N, hN⟩ : ∃ N, N = W.length := ⟨_, rfl⟩
 have hfe : W.isEmpty = (N == 0) := by rw [hN]; cases W <;> rfl
 have hel : (killedL m t W).length = N := by rw [killedL, List.length_map, hN]
 have hll : (W.map rwC).length = N := by rw [List.length_map, hN]
 refine EvC.loopS (σ := Nat) (fun i => ⟨[(1, .sl wn (W.map rwC) wc), (3, .ia m.cells), (7, .ia t.cells), (8, .tl 0 i (i == 0)), (9, .sc (.int .i64 i))], [], [(0, .arr 1 (((killedL m t W).take i).map boolC) true)], 1⟩) (fun i => N - i) (fun i => i ≤ N) [1, 3, 7, 8, 9] 1 ?_ ?_
 ·exact ⟨[(8, 0)], 0, rfl, (by simp only [go_sem, Mach.cells, Int.natCast_zero, List.take_zero, List.map_nil] <;> rfl), Nat.zero_le _⟩
 intro i hi
 have hLn := norefs_bools ((killedL m t W).take i)
 have hLl : (((killedL m t W).take i).map boolC).length = i := by rw [List.length_map, List.length_take]; omega
 refine EvC.seq ?_
 refine EvC.a ?_ (by simp only [go_sem, hll] <;> rfl)
 refine EvC.cond (by simp only [go_sem] <;> rfl) (fun hc => ?_) (fun hc => ?_)
 rotate_left
 ·refine EvC.exit ?_
  obtain rfl : i = N := by have : ¬ i < N := (by simpa using hc); omega
  rw [List.take_of_length_le (by omega)] at hLn hLl ⊢
  generalize (killedL m t W).map boolC = L at hLn hLl ⊢
  refine EvC.frz 0 (by simp only [go_sem, hLn, hLl] <;> rfl) ?_
  refine EvC.a ?_
  refine EvC.rz ?_
  simp only [go_sem]
  rw [hfe]
 have hil : i < N := by simpa using hc
 clear hc
 have he : W[i]? = some (W[i]'(by omega)) := List.getElem?_eq_getElem (by omega)
 have hm2 := List.getElem_mem (show i < W.length by omega)
 have htk : (killedL m t W).take (i + 1) = (killedL m t W).take i ++ [!decide (runR m 0 (W[i]'(by omega)).2.1 = runR t 0 (W[i]'(by omega)).2.1)] := by
  rw [List.take_succ_eq_append_getElem (by omega)]; simp [killedL]
 generalize W[i]'(by omega) = w at he hm2 htk
 have hwg : (W.map rwC)[i]? = some [.sl w.1 (w.2.1.map intC) w.2.2] := by rw [List.getElem?_map, he]; rfl
 have hit : (i : Int).toNat = i := Int.toNat_natCast i
 have hI : inI64 ((i : Int) + 1) = true := inI64_of (by omega) (by omega)
 have q : ∀ nl c, PureIs prog 44 [.ag m.cells, .ag t.cells, .sl nl [[.sl w.1 (w.2.1.map intC) w.2.2]] c] (.sc (.bool (decide (runR m 0 w.2.1 = runR t 0 w.2.1)))) := fun nl c => by
  have := agree_is hv hvt nl [w] c (by intro x hx; rw [List.mem_singleton.1 hx]; exact hW w hm2) (by intro x hx; rw [List.mem_singleton.1 hx, hti]; exact hW w hm2) (by intro x hx; rw [List.mem_singleton.1 hx]; exact hl w hm2) (by simp)
  simpa [agreeB, rwC] using this
 generalize decide (runR m 0 w.2.1 = runR t 0 w.2.1) = d at q htk
 have hsl : List.drop i (List.take ((i : Int) + 1).toNat (W.map rwC)) = [[.sl w.1 (w.2.1.map intC) w.2.2]] := by
  rw [show ((i : Int) + 1).toNat = i + 1 by omega, List.drop_take, show i + 1 - i = 1 by omega]
  have hlt : i < (W.map rwC).length := by omega
  rw [List.drop_eq_getElem_cons hlt, List.take_succ_cons, List.take_zero]
  rw [List.getElem?_eq_getElem hlt] at hwg
  rw [Option.some.inj hwg]
 have hall : ((W.map rwC).all fun y => decide (y.length = 1)) = true := by simp [List.all_eq_true, rwC]
 have hs : ((killedL m t W).take i).map boolC ++ [[.sc (.bool (!d))]] = ((killedL m t W).take (i + 1)).map boolC := by rw [htk, List.map_append]; rfl
 have hLn2 := norefs_bools ((killedL m t W).take (i + 1))
 have hLl2 : (((killedL m t W).take (i + 1)).map boolC).length = i + 1 := by rw [List.length_map, List.length_take]; omega
 have hr2 : room (i + 1) 1 = true := by simp only [room_eq, decide_eq_true_eq]; omega
 have hne : (i + 1 == 0) = false := rfl
 obtain ⟨U, hU⟩ : ∃ U, U = ((killedL m t W).take (i + 1)).map boolC := ⟨_, rfl⟩
 rw [← hU] at hs hLn2 hLl2
 refine EvC.skip ?_
 refine EvC.seq ?_
 refine EvC.block ?_
 refine EvC.k1LD mixed ?_ (h1 := by simp only [go_sem, hsl, hwg, hit, hll, hI, Mach.cells] <;> rfl) (k1 := by simp only [hI, hall]; simp; omega) (c1 := .ca (q _ _)) (h2 := by simp only [go_sem, hs, hLl, hr2] <;> rfl) (k2 := by simp [hr2])
 refine EvC.b ?_ (hok := by exact hI)
 exact ⟨[(0, 0)], i + 1, rfl, (by rw [← hU]; simp only [go_sem, hLn2, hLl2, hne, Mach.cells, Int.natCast_add, Int.natCast_one] <;> rfl), hil, by omega⟩
theorem rows_get {a b : Mach} (h : a.rows.map (·.2) = b.rows.map (·.2)) {i : Nat} {r : Row} (hr : a.rows[i]? = some r) : ∃ n, b.rows[i]? = some (n, r.2) := by
 have h2 := congrArg (fun l => l[i]?) h
 simp only [List.getElem?_map, hr, Option.map_some] at h2
 cases hb : b.rows[i]? with
 | none => rw [hb] at h2; cases h2
 | some q => rw [hb] at h2; simp only [Option.map_some, Option.some.injEq] at h2; exact ⟨q.1, by rw [h2]⟩
theorem sameM_is {a b : Mach} (h1 : a.ins = b.ins) (h2 : a.outs = b.outs) (h3 : a.rows.map (·.2) = b.rows.map (·.2)) (hl : a.rows.length < 1000000) (hr : ∀ r ∈ a.rows, r.2.length < 1000000) : PureIs prog 26 [.ag a.cells, .ag b.cells] (.sc (.bool true)) := by
 have hl2 : b.rows.length = a.rows.length := by have := congrArg List.length h3; simpa using this.symm
 refine PureIs.of1 7 [27, 32, 47, 55, 74] func26 ntmps26 results26 fun _ => ?_
 refine EvC.a ?_ (by simp only [go_sem, Mach.cells] <;> rfl)
 refine EvC.z 0 ?_
 refine EvC.z 1 ?_
 refine EvC.seq ?_
 refine EvC.g ?_ (h := by simp only [go_sem, h1, h2, hl2] <;> rfl)
 refine EvC.cs ?_
 refine EvC.seq ?_
 refine EvC.a ?_
 refine EvC.block ?_
 refine EvC.loopS (σ := Nat) (fun i => ⟨[(2, .ia a.cells), (3, .ia b.cells), (5, .sc (.int .i64 i))], [], [], 0⟩) (fun i => a.rows.length - i) (fun i => i ≤ a.rows.length) [2, 3, 5] 0 ?_ ?_
 ·exact ⟨[], 0, rfl, (by simp only [go_sem, Mach.cells, h1, h2] <;> rfl), Nat.zero_le _⟩
 intro i hi
 refine EvC.seq ?_
 refine EvC.a ?_ (by simp only [go_sem, Mach.cells] <;> rfl)
 refine EvC.cond (by simp only [go_sem] <;> rfl) (fun hc => ?_) (fun hc => ?_)
 rotate_left
 ·refine EvC.exit ?_
  refine EvC.a ?_
  refine EvC.rz ?_
  simp only [go_sem]
 have hi : i < a.rows.length := by simpa using hc
 have he : a.rows[i]? = some a.rows[i] := List.getElem?_eq_getElem hi
 have hm := List.getElem_mem hi
 generalize a.rows[i] = r at he hm
 obtain ⟨n, hb⟩ := rows_get h3 he
 obtain ⟨na, es⟩ := r
 have hes := hr _ hm
 simp only at hb hes
 refine EvC.skip ?_
 refine EvC.seq ?_
 refine EvC.block ?_
 refine EvC.seq ?_
 refine EvC.d mixed ?_ (h := by simp only [go_sem, he, hb, rowC, Mach.cells] <;> rfl)
 refine EvC.cs ?_
 refine EvC.a ?_
 refine EvC.block ?_
 refine EvC.loopS (σ := Nat) (fun k => ⟨[(2, .ia a.cells), (3, .ia b.cells), (5, .sc (.int .i64 i)), (6, .sc (.int .i64 k))], [], [], 0⟩) (fun k => es.length - k) (fun k => k ≤ es.length) [2, 3, 5, 6] 0 ?_ ?_
 ·exact ⟨[], 0, rfl, (by simp only [go_sem, Mach.cells, h1, h2] <;> rfl), Nat.zero_le _⟩
 intro k hk
 refine EvC.seq ?_
 refine EvC.a ?_ (by simp only [go_sem, he, rowC, Mach.cells] <;> rfl)
 refine EvC.cond (by simp only [go_sem] <;> rfl) (fun hc => ?_) (fun hc => ?_)
 rotate_left
 ·refine EvC.exit ?_
  refine EvC.b ?_ (hok := by exact inI64_of (by omega) (by omega))
  exact ⟨[], i + 1, rfl, (by simp only [go_sem, Mach.cells] <;> rfl), by omega, by omega⟩
 have hk : k < es.length := by simpa using hc
 have hek : es[k]? = some es[k] := List.getElem?_eq_getElem hk
 generalize es[k] = e at hek
 refine EvC.skip ?_
 refine EvC.seq ?_
 refine EvC.block ?_
 refine EvC.d mixed ?_ (h := by simp only [go_sem, he, hb, rowC, Mach.cells, hek, edgeC] <;> rfl)
 refine EvC.cs ?_
 refine EvC.b ?_ (hok := by exact inI64_of (by omega) (by omega))
 exact ⟨[], k + 1, rfl, (by simp only [go_sem, Mach.cells] <;> rfl), by omega, by omega⟩
theorem intsEq_is (na nb : Bool) (a : List Int) (cb : Cp) (hl : a.length < 1000000) : PureIs prog 9 [.sl na (a.map intC) .full, .sl nb (a.map intC) cb] (.sc (.bool true)) := by
 have q := same37_is false false [(na, a, .full)] [(nb, a, cb)] .full .full (by simp) (by simpa using hl)
 rw [show sameW [(na, a, Cp.full)] [(nb, a, cb)] = true by simp [sameW]] at q
 simp only [List.map_cons, List.map_nil, rwC] at q
 have hn := norefs_intC a
 have hll : (a.map intC).length = a.length := List.length_map _
 generalize a.map intC = L at q hn hll ⊢
 refine PureIs.of1 2 [4] func9 ntmps9 results9 fun _ => ?_
 refine EvC.a ?_
 refine EvC.k1 ?_ (c1 := .ca q) (h2 := by simp only [go_sem, hn, hll] <;> rfl)
 refine EvC.rz ?_
 simp only [go_sem]
theorem pairsEq_is (na nb : Bool) (a : List (FA × FA)) (cb : Cp) (hl : a.length < 1000000) : PureIs prog 27 [.sl na (a.map prC) .full, .sl nb (a.map prC) cb] (.sc (.bool true)) := by
 have hn := pairs_norefs a
 have hll : (a.map prC).length = a.length := List.length_map _
 refine PureIs.of1 2 [4, 5, 17, 21, 32] func27 ntmps27 results27 fun _ => ?_
 refine EvC.a ?_
 refine EvC.seq ?_
 refine EvC.g ?_ (h := by simp only [go_sem, hll] <;> rfl)
 refine EvC.cs ?_
 refine EvC.seq ?_
 refine EvC.a ?_
 refine EvC.block ?_
 refine EvC.loopS (σ := Nat) (fun i => ⟨[(0, .sl na (a.map prC) .full), (1, .sl nb (a.map prC) cb), (5, .sc (.int .i64 i))], [], [], 0⟩) (fun i => a.length - i) (fun i => i ≤ a.length) [0, 1, 5] 0 ?_ ?_
 ·exact ⟨[], 0, rfl, (by simp only [go_sem, Int.natCast_zero] <;> rfl), Nat.zero_le _⟩
 intro i hi
 refine EvC.seq ?_
 refine EvC.a ?_ (by simp only [go_sem, hll] <;> rfl)
 refine EvC.cond (by simp only [go_sem] <;> rfl) (fun hc => ?_) (fun hc => ?_)
 rotate_left
 ·refine EvC.exit ?_
  refine EvC.a ?_
  refine EvC.rz ?_
  simp only [go_sem]
 have hil : i < a.length := by simpa using hc
 clear hc
 have he : a[i]? = some (a[i]'hil) := List.getElem?_eq_getElem hil
 generalize a[i]'hil = p at he
 have hpc : (a.map prC)[i]? = some (prC p) := by rw [List.getElem?_map, he]; rfl
 obtain ⟨f, g⟩ := p
 unfold prC at hpc
 rw [List.getElem?_map, he, Option.map_some] at hpc
 clear hpc
 have hpc : (a.map prC)[i]? = some [.sc (.int .i64 f.kind), .sc (.int .i64 f.state), .sc (.int .i64 f.input), .sc (.int .i64 f.to), .sc (.int .i64 f.at'), .sc (.int .i64 f.out), .sc (.int .i64 g.kind), .sc (.int .i64 g.state), .sc (.int .i64 g.input), .sc (.int .i64 g.to), .sc (.int .i64 g.at'), .sc (.int .i64 g.out)] := by rw [List.getElem?_map, he]; rfl
 have hit : (i : Int).toNat = i := Int.toNat_natCast i
 refine EvC.skip ?_
 refine EvC.seq ?_
 refine EvC.block ?_
 refine EvC.d mixed ?_ (h := by simp only [go_sem, hpc, hit, hll] <;> rfl) (hok := by simp; try omega)
 refine EvC.cs ?_
 refine EvC.b ?_ (hok := by exact inI64_of (by omega) (by omega))
 exact ⟨[], i + 1, rfl, (by simp only [go_sem, Int.natCast_add, Int.natCast_one] <;> rfl), hil, by omega⟩
theorem fOf_is {m : Mach} (hv : Valid m) (n : Int) (hn : 0 ≤ n ∧ n < 65536) (f : FA) (hf : (allF m allK)[(n % ((allF m allK).length : Int)).toNat]? = some f) :
  PureIs prog 16 [.ag [.sc (.int .u16 n)], .ag m.cells] (.tu [.ag f.cells, .sc (.bool true)]) := by
 have q := all48_is hv false allK .full (by decide)
 have hAn := norefs_faL (allF m allK)
 have hlt := (List.getElem?_eq_some_iff.1 hf).1
 generalize allF m allK = A at q hAn hf hlt
 have hAl : (A.map FA.cells).length = A.length := List.length_map _
 have hne : (A.length : Int) ≠ 0 := by omega
 have ht : 0 ≤ n % (A.length : Int) := Int.emod_nonneg _ hne
 have ht2 : n % (A.length : Int) < A.length := Int.emod_lt_of_pos _ (by omega)
 have htt : Int.tmod n A.length = n % (A.length : Int) := Int.tmod_eq_emod_of_nonneg hn.1
 have hI : inI64 n = true := inI64_of (by omega) (by omega)
 rw [show allK.map intC = [[.sc (.int .i64 0)], [.sc (.int .i64 1)], [.sc (.int .i64 2)], [.sc (.int .i64 3)], [.sc (.int .i64 4)]] from rfl] at q
 rw [FA.cells]
 refine PureIs.of1 7 [12] func16 ntmps16 results16 fun _ => ?_
 refine EvC.a ?_ (by simp only [go_sem, Mach.cells] <;> rfl)
 refine EvC.z 0 ?_
 refine EvC.z 1 ?_
 refine EvC.k1 ?_ (h1 := by simp only [go_sem, Mach.cells] <;> rfl) (c1 := .ca q) (h2 := by simp only [go_sem, hAn] <;> rfl)
 refine EvC.seq ?_
 refine EvC.a ?_ (by simp only [go_sem, hAl] <;> rfl)
 refine EvC.cs ?_ (by simp only [go_sem, decide_eq_false hne] <;> rfl)
 refine EvC.a ?_ (by simp only [go_sem, hAl, hf, hI, FA.cells, decide_eq_true ht, decide_eq_false hne] <;> rfl) (by simp [hI, hne]; try omega)
 refine EvC.rz ?_
 simp only [go_sem]
def pickN (m : Mach) (n : Int) : FA := (allF m allK).getD (n % ((allF m allK).length : Int)).toNat ⟨0, 0, 0, 0, 0, 0⟩
def listL (m : Mach) (ns : List Int) : List FA := (ns.take 12).map (pickN m)
set_option maxHeartbeats 4000000 in
theorem list18_is {m : Mach} (hv : Valid m) (nl : Bool) (ns : List Int) (c : Cp) (hns : ∀ n ∈ ns, 0 ≤ n ∧ n < 65536) (hl : (ns.length : Int) ≤ 140737488355328) (hA : 0 < (allF m allK).length) :
  PureIs prog 7 [.ag m.cells, .sl nl (ns.map u16C) c] (.sl (listL m ns).isEmpty ((listL m ns).map FA.cells) .unk) := by
 have hll : (ns.map u16C).length = ns.length := List.length_map _
 refine PureIs.of1 3 [4, 5, 6, 7, 8, 16, 29] func7 ntmps7 results7 fun _ => ?_
 refine EvC.a ?_ (by simp only [go_sem, Mach.cells] <;> rfl)
 refine EvC.z 0 ?_
 refine EvC.a ?_
 refine EvC.seq ?_
 refine EvC.a ?_
 refine EvC.block ?_
 have hel : (listL m ns).length = min 12 ns.length := by rw [listL, List.length_map, List.length_take]
 obtain ⟨K, hK⟩ : ∃ K, K = min 12 ns.length := ⟨_, rfl⟩
 rw [← hK] at hel
 have hfe : (listL m ns).isEmpty = (K == 0) := by rw [← hel]; cases listL m ns <;> rfl
 refine EvC.loopS (σ := Nat) (fun i => ⟨[(1, .sl nl (ns.map u16C) c), (2, .ia m.cells), (5, .tl 0 i (i == 0)), (6, .sc (.int .i64 i))], [], [(0, .arr 6 (((listL m ns).take i).map FA.cells) true)], 1⟩) (fun i => K - i) (fun i => i ≤ K) [1, 2, 5, 6] 1 ?_ ?_
 ·exact ⟨[(2, 0)], 0, rfl, (by simp only [go_sem, Mach.cells, Int.natCast_zero, List.take_zero, List.map_nil] <;> rfl), Nat.zero_le _⟩
 intro i hi
 have hLn := norefs_faL ((listL m ns).take i)
 have hLl : (((listL m ns).take i).map FA.cells).length = i := by rw [List.length_map, List.length_take]; omega
 refine EvC.seq ?_
 by_cases hiK : i < K
 rotate_left
 ·obtain rfl : i = K := by omega
  rw [List.take_of_length_le (by omega)] at hLn hLl ⊢
  rw [hfe]
  generalize (listL m ns).map FA.cells = L at hLn hLl ⊢
  by_cases h1 : i < ns.length
  ·have d1 : decide ((i : Int) < ns.length) = true := decide_eq_true (by omega)
   have d2 : decide ((i : Int) < 12) = false := decide_eq_false (by omega)
   refine EvC.g ?_ (h := by simp only [go_sem, hll, d1, d2] <;> rfl)
   refine EvC.cf ?_
   refine EvC.exit ?_
   refine EvC.frz 0 (by simp only [go_sem, hLn, hLl] <;> rfl) ?_
   refine EvC.a ?_
   refine EvC.rz ?_
   simp only [go_sem]
  ·have d1 : decide ((i : Int) < ns.length) = false := decide_eq_false (by omega)
   refine EvC.g ?_ (h := by simp only [go_sem, hll, d1] <;> rfl)
   refine EvC.cf ?_
   refine EvC.exit ?_
   refine EvC.frz 0 (by simp only [go_sem, hLn, hLl] <;> rfl) ?_
   refine EvC.a ?_
   refine EvC.rz ?_
   simp only [go_sem]
 have d1 : decide ((i : Int) < ns.length) = true := decide_eq_true (by omega)
 have d2 : decide ((i : Int) < 12) = true := decide_eq_true (by omega)
 refine EvC.g ?_ (h := by simp only [go_sem, hll, d1, d2] <;> rfl)
 refine EvC.cr ?_
 refine EvC.seq ?_
 refine EvC.block ?_
 have hil : i < ns.length := by omega
 have he : ns[i]? = some (ns[i]'hil) := List.getElem?_eq_getElem hil
 have hnm := hns _ (List.getElem_mem hil)
 have htk : (listL m ns).take (i + 1) = (listL m ns).take i ++ [pickN m (ns[i]'hil)] := by
  rw [List.take_succ_eq_append_getElem (by omega)]; simp [listL]
 generalize ns[i]'hil = n at he hnm htk
 have hx : (allF m allK)[(n % ((allF m allK).length : Int)).toNat]? = some (pickN m n) := by
  have h1 : 0 ≤ n % ((allF m allK).length : Int) := Int.emod_nonneg _ (by omega)
  have h2 : n % ((allF m allK).length : Int) < (allF m allK).length := Int.emod_lt_of_pos _ (by omega)
  have h3 : (n % ((allF m allK).length : Int)).toNat < (allF m allK).length := by omega
  rw [List.getElem?_eq_getElem h3, pickN, List.getD_eq_getElem?_getD, List.getElem?_eq_getElem h3]; rfl
 have q := fOf_is hv n hnm _ hx
 generalize pickN m n = f at q htk
 have hnc : (ns.map u16C)[i]? = some [.sc (.int .u16 n)] := by rw [List.getElem?_map, he]; rfl
 have hit : (i : Int).toNat = i := Int.toNat_natCast i
 rw [FA.cells] at q
 have hs : ((listL m ns).take i).map FA.cells ++ [[.sc (.int .i64 f.kind), .sc (.int .i64 f.state), .sc (.int .i64 f.input), .sc (.int .i64 f.to), .sc (.int .i64 f.at'), .sc (.int .i64 f.out)]] = ((listL m ns).take (i + 1)).map FA.cells := by rw [htk, List.map_append]; rfl
 have hLn2 := norefs_faL ((listL m ns).take (i + 1))
 have hLl2 : (((listL m ns).take (i + 1)).map FA.cells).length = i + 1 := by rw [List.length_map, List.length_take]; omega
 have hr2 : room (i + 1) 48 = true := by simp only [room_eq, decide_eq_true_eq]; omega
 have hne : (i + 1 == 0) = false := rfl
 obtain ⟨U, hU⟩ : ∃ U, U = ((listL m ns).take (i + 1)).map FA.cells := ⟨_, rfl⟩
 rw [← hU] at hs hLn2 hLl2
 refine EvC.k1D mixed ?_ (h1 := by simp only [go_sem, hnc, hit, hll, Mach.cells] <;> rfl) (k1 := by simp; try omega) (c1 := .ca q)
 refine EvC.a ?_
 refine EvC.ct ?_
 refine EvC.b ?_ (by simp only [go_sem, hs, hLl] <;> rfl) (by simp [hr2])
 refine EvC.b ?_ (hok := by exact inI64_of (by omega) (by omega))
 exact ⟨[(0, 0)], i + 1, rfl, (by rw [← hU]; simp only [go_sem, hLn2, hLl2, hne, Mach.cells, Int.natCast_add, Int.natCast_one] <;> rfl), hiK, by omega⟩
set_option maxRecDepth 100000
def exM : Mach := ⟨1, 2, false, [(false, [(1, 0)]), (false, [(0, 1)])]⟩
def exW : Mach := ⟨1, 2, false, [(false, [(1, 1)]), (false, [(0, 0)])]⟩
def xa : FA := ⟨0, 0, 0, 0, 0, 1⟩
def xb : FA := ⟨0, 1, 0, 0, 0, 0⟩
def xc : FA := ⟨1, 0, 0, 0, 0, 0⟩
def xd : FA := ⟨3, 0, 0, 1, 0, 0⟩
def xu : FA := ⟨2, 0, 0, 0, 0, 0⟩
def xv : FA := ⟨2, 1, 0, 0, 0, 0⟩
def xWs : List RW := [(false, [0], .unk), (false, [0, 0], .unk)]
def errB (e : Int) : AV := .tu [.ag [.sc (.int .i64 0), .sc (.int .i64 0), .sl true [] .zer], .sc (.int .i64 e)]
theorem ex_both1 : bothA exM (xa, xb) = .tu [.ag (mutF (mutF exM xa) xb).cells, .sc (.int .i64 0)] := by kernel_rfl
theorem ex_both1m : mutF (mutF exM xa) xb = exW := by kernel_rfl
theorem ex_both2 : bothA exM (xb, xa) = errB 1 := by kernel_rfl
theorem ex_both3 : bothA exM (xa, xc) = errB 1 := by kernel_rfl
theorem ex_srt : srtE (alF exM [0, 2]) = [xa, xu, xb, xv] := by kernel_rfl
theorem ex_all : allR exM [0, 2] 65536 = 0 := by kernel_rfl
theorem ex_check : checkM exM = 0 := by kernel_rfl
theorem ex_prs : prs [xa, xu, xb, xv] = [(xa, xb), (xa, xv), (xu, xb), (xu, xv)] := by kernel_rfl
theorem ex_pairsE (n : Int) (h0 : 0 ≤ n) (h1 : n ≤ 65536) : pairsE exM [0, 2] n = if n < 4 then 13 else 0 := by
 unfold pairsE
 rw [if_neg (by rw [ex_check]; simp), if_neg (by
  rintro (h | h | ⟨k, hk, h⟩)
  ·omega
  ·omega
  ·simp at hk; omega), if_neg (by rw [ex_all]; simp), ex_srt, ex_prs]
 rfl
theorem ex_pairs1 : pairsA exM [0, 2] 4 = .tu [.sl false ([(xa, xb), (xa, xv), (xu, xb), (xu, xv)].map prC) .full, .sc (.int .i64 0)] := by
 rw [pairsA, ex_pairsE 4 (by omega) (by omega), if_neg (by simp), ex_srt, ex_prs]; rfl
theorem ex_pairs2 : pairsA exM [0, 2] 3 = .tu [.sl true [] .unk, .sc (.int .i64 13)] := by
 rw [pairsA, ex_pairsE 3 (by omega) (by omega), if_pos (by omega), if_pos (by simp)]
theorem ex_eqs : equalsA exM [xa, xb, xc, xd] = .tu [.sl false ([false, false, false, true].map boolC) .full, .sc (.int .i64 0)] := by kernel_rfl
theorem ex_dist : distinctA exM [xa, xb, xc, xd, ⟨3, 1, 0, 0, 0, 0⟩] = .tu [.sl false ([0, 1, 1, 3, 3].map intC) .full, .sc (.int .i64 0)] := by kernel_rfl
theorem ex_least : leastA exM xWs [xa, xb, xc, xd] = .tu [.sl false ([1].map intC) .full, .sc (.int .i64 0)] := by kernel_rfl
theorem ex_sub1 : subsumesA exM xWs xa xb = .tu [.sc (.bool false), .sc (.int .i64 0)] := by kernel_rfl
theorem ex_sub2 : subsumesA exM xWs xb xa = .tu [.sc (.bool true), .sc (.int .i64 0)] := by kernel_rfl
theorem ex_sub3 : subsumesA exM xWs xb xc = .tu [.sc (.bool true), .sc (.int .i64 0)] := by kernel_rfl
theorem ex_sub4 : subsumesA exM xWs xd xa = .tu [.sc (.bool false), .sc (.int .i64 0)] := by kernel_rfl
set_option maxRecDepth 10000
abbrev fA (a b c d e f : Int) : List AV := [.sc (.int .i64 a), .sc (.int .i64 b), .sc (.int .i64 c), .sc (.int .i64 d), .sc (.int .i64 e), .sc (.int .i64 f)]
abbrev pA (a b c d e f a' b' c' d' e' f' : Int) : List AV := [.sc (.int .i64 a), .sc (.int .i64 b), .sc (.int .i64 c), .sc (.int .i64 d), .sc (.int .i64 e), .sc (.int .i64 f), .sc (.int .i64 a'), .sc (.int .i64 b'), .sc (.int .i64 c'), .sc (.int .i64 d'), .sc (.int .i64 e'), .sc (.int .i64 f')]
abbrev iA (a : Int) : List AV := [.sc (.int .i64 a)]
abbrev eA (a b : Int) : List AV := [.sc (.int .i64 a), .sc (.int .i64 b)]
abbrev exC : List AV := [.sc (.int .i64 1), .sc (.int .i64 2), .sl false [[.sl false [eA 1 0] .full], [.sl false [eA 0 1] .full]] .full]
abbrev wsC : AV := .sl false [[.sl false [iA 0] .full], [.sl false [iA 0, iA 0] .full]] .full
abbrev noC : List AV := [.sc (.int .i64 0), .sc (.int .i64 0), .sl true [] .zer]
theorem ex_rows : ∀ r ∈ exM.rows, r.2.length < 1000000 := by decide
theorem ex_noNil : NoNil exM := fun r hr h => by
 simp only [exM, List.mem_cons, List.not_mem_nil, or_false] at hr
 rcases hr with rfl | rfl <;> cases h
theorem ex_ws : ∀ w ∈ xWs, w.2.1.length < 1000000 := by decide
theorem ex_both1_is : PureIs prog 24 [.ag exC, .ag (pA 0 0 0 0 0 1 0 1 0 0 0 0)] (.tu [.ag [.sc (.int .i64 1), .sc (.int .i64 2), .sl false [[.sl false [eA 1 1] .unk], [.sl false [eA 0 0] .unk]] .unk], .sc (.int .i64 0)]) := by
 have q := pairBoth_is exM ex_rows ex_noNil (xa, xb)
 rw [ex_both1, ex_both1m] at q
 exact .weak q
theorem ex_both2_is : PureIs prog 24 [.ag exC, .ag (pA 0 1 0 0 0 0 0 0 0 0 0 1)] (.tu [.ag noC, .sc (.int .i64 1)]) := by
 have q := pairBoth_is exM ex_rows ex_noNil (xb, xa)
 rw [ex_both2] at q
 exact .weak q
theorem ex_both3_is : PureIs prog 24 [.ag exC, .ag (pA 0 0 0 0 0 1 1 0 0 0 0 0)] (.tu [.ag noC, .sc (.int .i64 1)]) := by
 have q := pairBoth_is exM ex_rows ex_noNil (xa, xc)
 rw [ex_both3] at q
 exact .weak q
abbrev exP : List (List AV) := [pA 0 0 0 0 0 1 0 1 0 0 0 0, pA 0 0 0 0 0 1 2 1 0 0 0 0, pA 2 0 0 0 0 0 0 1 0 0 0 0, pA 2 0 0 0 0 0 2 1 0 0 0 0]
theorem ex_pairs1_is : PureIs prog 25 [.ag exC, .sl false [iA 0, iA 2] .full, .sc (.int .i64 4)] (.tu [.sl false exP .full, .sc (.int .i64 0)]) := by
 have q := pairs_is exM ex_rows false [0, 2] .unk (by decide) 4
 rw [ex_pairs1] at q
 exact .weak q
theorem ex_pairs2_is : PureIs prog 25 [.ag exC, .sl false [iA 0, iA 2] .full, .sc (.int .i64 3)] (.tu [.sl true [] .unk, .sc (.int .i64 13)]) := by
 have q := pairs_is exM ex_rows false [0, 2] .unk (by decide) 3
 rw [ex_pairs2] at q
 exact .weak q
theorem ex_same_is : PureIs prog 26 [.ag [.sc (.int .i64 1), .sc (.int .i64 2), .sl false [[.sl false [eA 1 1] .unk], [.sl false [eA 0 0] .unk]] .unk], .ag [.sc (.int .i64 1), .sc (.int .i64 2), .sl false [[.sl false [eA 1 1] .full], [.sl false [eA 0 0] .full]] .full]] (.sc (.bool true)) := by
 have q := sameM_is (a := exW) (b := exW) rfl rfl rfl (by decide) (by decide)
 exact .weak q
theorem ex_pairsEq_is : PureIs prog 27 [.sl false exP .full, .sl false exP .full] (.sc (.bool true)) := by
 exact pairsEq_is false false [(xa, xb), (xa, xv), (xu, xb), (xu, xv)] .full (by decide)
abbrev exL : List (List AV) := [fA 0 0 0 0 0 1, fA 0 1 0 0 0 0, fA 1 0 0 0 0 0, fA 3 0 0 1 0 0]
theorem ex_eqs_is : PureIs prog 28 [.ag exC, .sl false exL .full] (.tu [.sl false [[.sc (.bool false)], [.sc (.bool false)], [.sc (.bool false)], [.sc (.bool true)]] .full, .sc (.int .i64 0)]) := by
 have q := equals19_is exM ex_rows ex_noNil false [xa, xb, xc, xd] .unk (by decide)
 rw [ex_eqs] at q
 exact .weak q
theorem ex_dist_is (c : Cp) : PureIs prog 29 [.ag exC, .sl false (exL ++ [fA 3 1 0 0 0 0]) c] (.tu [.sl false [iA 0, iA 1, iA 1, iA 3, iA 3] .full, .sc (.int .i64 0)]) := by
 have q := distinct_is exM ex_rows ex_noNil false [xa, xb, xc, xd, ⟨3, 1, 0, 0, 0, 0⟩] .unk (by decide)
 rw [ex_dist] at q
 exact .weak q
theorem ex_least_is : PureIs prog 8 [.ag exC, wsC, .sl false exL .full] (.tu [.sl false [iA 1] .full, .sc (.int .i64 0)]) := by
 have q := least_is exM ex_rows ex_noNil false xWs .unk ex_ws (by decide) false [xa, xb, xc, xd] .unk (by decide)
 rw [ex_least] at q
 exact .weak q
theorem ex_sub1_is : PureIs prog 11 [.ag exC, wsC, .ag (fA 0 0 0 0 0 1), .ag (fA 0 1 0 0 0 0)] (.tu [.sc (.bool false), .sc (.int .i64 0)]) := by
 have q := subsumes_is exM ex_rows ex_noNil false xWs .unk ex_ws (by decide) xa xb
 rw [ex_sub1] at q
 exact .weak q
theorem ex_sub2_is : PureIs prog 11 [.ag exC, wsC, .ag (fA 0 1 0 0 0 0), .ag (fA 0 0 0 0 0 1)] (.tu [.sc (.bool true), .sc (.int .i64 0)]) := by
 have q := subsumes_is exM ex_rows ex_noNil false xWs .unk ex_ws (by decide) xb xa
 rw [ex_sub2] at q
 exact .weak q
theorem ex_sub3_is : PureIs prog 11 [.ag exC, wsC, .ag (fA 0 1 0 0 0 0), .ag (fA 1 0 0 0 0 0)] (.tu [.sc (.bool true), .sc (.int .i64 0)]) := by
 have q := subsumes_is exM ex_rows ex_noNil false xWs .unk ex_ws (by decide) xb xc
 rw [ex_sub3] at q
 exact .weak q
theorem ex_sub4_is : PureIs prog 11 [.ag exC, wsC, .ag (fA 3 0 0 1 0 0), .ag (fA 0 0 0 0 0 1)] (.tu [.sc (.bool false), .sc (.int .i64 0)]) := by
 have q := subsumes_is exM ex_rows ex_noNil false xWs .unk ex_ws (by decide) xd xa
 rw [ex_sub4] at q
 exact .weak q
set_option maxHeartbeats 4000000 in
theorem lives_is : PureIs prog 13 [] (.sc (.bool true)) := by
 refine PureIs.of1 8 [9, 11, 12, 13, 15, 16, 17, 18, 19, 20, 21, 22, 23, 24, 25, 26, 27, 123, 201] func13 ntmps13 results13 fun _ => ?_
 refine EvC.a ?_
 refine EvC.a ?_
 refine EvC.z 7 ?_
 refine EvC.a ?_
 refine EvC.z 10 ?_
 refine EvC.a ?_
 refine EvC.z 13 ?_
 refine EvC.a ?_
 refine EvC.z 16 ?_
 refine EvC.a ?_
 refine EvC.z 19 ?_
 refine EvC.k1 ?_ (c1 := .ca ex_both1_is)
 refine EvC.z 29 ?_
 refine EvC.k1 ?_ (c1 := .ca ex_both2_is)
 refine EvC.k1 ?_ (c1 := .ca ex_both3_is)
 refine EvC.k1 ?_ (c1 := .ca ex_pairs1_is)
 refine EvC.k1 ?_ (c1 := .ca ex_pairs2_is)
 refine EvC.a ?_
 refine EvC.z 76 ?_
 refine EvC.a ?_
 refine EvC.z 79 ?_
 refine EvC.a ?_
 refine EvC.z 82 ?_
 refine EvC.seq ?_
 refine EvC.k2 ?_ (c1 := .cg ex_same_is) (c2 := .cg ex_pairsEq_is)
 refine EvC.cs ?_
 refine EvC.a ?_
 refine EvC.a ?_
 refine EvC.k1 ?_ (c1 := .ca ex_eqs_is)
 have hr5 : room 5 48 = true := by simp only [room_eq, decide_eq_true_eq]; omega
 refine EvC.k1D mixed ?_ (k1 := by simp [hr5]) (c1 := .ca (ex_dist_is _))
 refine EvC.k1 ?_ (c1 := .ca ex_least_is)
 refine EvC.seq ?_
 refine EvC.k2 ?_ (c1 := .cg (intsEq_is false false [0, 1, 1, 3, 3] .full (by decide))) (c2 := .cg (intsEq_is false false [1] .full (by decide)))
 refine EvC.cs ?_
 refine EvC.k1 ?_ (c1 := .ca ex_sub1_is)
 refine EvC.k1 ?_ (c1 := .ca ex_sub2_is)
 refine EvC.k1 ?_ (c1 := .ca ex_sub3_is)
 refine EvC.k1 ?_ (c1 := .ca ex_sub4_is)
 refine EvC.g ?_
 refine EvC.rz ?_
 simp only [go_sem]
theorem Valid.check {m : Mach} (h : Valid m) : checkM m = 0 := by
 have h1 := h.ins
 have h2 := h.outs
 have h3 := h.rows
 unfold checkM
 rw [if_neg (by omega), if_neg (by omega), if_pos]
 rw [List.all_eq_true]
 intro r hr
 obtain ⟨k1, k2⟩ := h.row r hr
 simp only [rowOk, Bool.and_eq_true, decide_eq_true_eq, Bool.not_eq_true', List.any_eq_false]
 exact ⟨k1, fun e he => by simpa using k2 e he⟩
theorem LM.small {x : LM} (h : x.Ok) : x.mach.rows.length ≤ 6 ∧ x.mach.ins ≤ 3 := by
 obtain ⟨b1, b2, b3, b4, b5, b6, -, -⟩ := LM.bounds h
 rw [show x.mach.rows.length = x.n by simp [LM.mach]]
 exact ⟨b2, by show (x.i : Int) ≤ 3; omega⟩
theorem LM.noNil (x : LM) : NoNil x.mach := fun r hr h => by
 simp only [LM.mach, List.mem_map] at hr
 obtain ⟨s, _, rfl⟩ := hr
 cases h
theorem fOf_nil {m : Mach} (hv : Valid m) (n : Int) (hA : allF m allK = []) :
  PureIs prog 16 [.ag [.sc (.int .u16 n)], .ag m.cells] (.tu [.ag [.sc (.int .i64 0), .sc (.int .i64 0), .sc (.int .i64 0), .sc (.int .i64 0), .sc (.int .i64 0), .sc (.int .i64 0)], .sc (.bool false)]) := by
 have q := all48_is hv false allK .full (by decide)
 rw [hA, show allK.map intC = [[.sc (.int .i64 0)], [.sc (.int .i64 1)], [.sc (.int .i64 2)], [.sc (.int .i64 3)], [.sc (.int .i64 4)]] from rfl] at q
 simp only [List.map_nil, List.isEmpty_nil] at q
 refine PureIs.of1 7 [12] func16 ntmps16 results16 fun _ => ?_
 refine EvC.a ?_ (by simp only [go_sem, Mach.cells] <;> rfl)
 refine EvC.z 0 ?_
 refine EvC.z 1 ?_
 refine EvC.k1 ?_ (h1 := by simp only [go_sem, Mach.cells] <;> rfl) (c1 := .ca q)
 refine EvC.seq ?_
 refine EvC.a ?_
 refine EvC.ct ?_
 refine EvC.a ?_
 refine EvC.rz ?_
 simp only [go_sem]
set_option maxHeartbeats 4000000 in
theorem list18_nil {m : Mach} (hv : Valid m) (nl : Bool) (ns : List Int) (c : Cp) (hl : (ns.length : Int) ≤ 140737488355328) (hA : allF m allK = []) :
  PureIs prog 7 [.ag m.cells, .sl nl (ns.map u16C) c] (.sl true [] .unk) := by
 have hll : (ns.map u16C).length = ns.length := List.length_map _
 refine PureIs.of1 3 [4, 5, 6, 7, 8, 16, 29] func7 ntmps7 results7 fun _ => ?_
 refine EvC.a ?_ (by simp only [go_sem, Mach.cells] <;> rfl)
 refine EvC.z 0 ?_
 refine EvC.a ?_
 refine EvC.seq ?_
 refine EvC.a ?_
 refine EvC.block ?_
 obtain ⟨K, hK⟩ : ∃ K, K = min 12 ns.length := ⟨_, rfl⟩
 refine EvC.loopS (σ := Nat) (fun i => ⟨[(1, .sl nl (ns.map u16C) c), (2, .ia m.cells), (5, .tl 0 0 true), (6, .sc (.int .i64 i))], [], [(0, .arr 6 [] true)], 1⟩) (fun i => K - i) (fun i => i ≤ K) [1, 2, 5, 6] 1 ?_ ?_
 ·exact ⟨[(2, 0)], 0, rfl, (by simp only [go_sem, Mach.cells, Int.natCast_zero] <;> rfl), Nat.zero_le _⟩
 intro i hi
 refine EvC.seq ?_
 by_cases hiK : i < K
 rotate_left
 ·obtain rfl : i = K := by omega
  by_cases h1 : i < ns.length
  ·have d1 : decide ((i : Int) < ns.length) = true := decide_eq_true (by omega)
   have d2 : decide ((i : Int) < 12) = false := decide_eq_false (by omega)
   refine EvC.g ?_ (h := by simp only [go_sem, hll, d1, d2] <;> rfl)
   refine EvC.cf ?_
   refine EvC.exit ?_
   refine EvC.frz 0 (by simp only [go_sem] <;> rfl) ?_
   refine EvC.a ?_
   refine EvC.rz ?_
   simp only [go_sem]
  ·have d1 : decide ((i : Int) < ns.length) = false := decide_eq_false (by omega)
   refine EvC.g ?_ (h := by simp only [go_sem, hll, d1] <;> rfl)
   refine EvC.cf ?_
   refine EvC.exit ?_
   refine EvC.frz 0 (by simp only [go_sem] <;> rfl) ?_
   refine EvC.a ?_
   refine EvC.rz ?_
   simp only [go_sem]
 have d1 : decide ((i : Int) < ns.length) = true := decide_eq_true (by omega)
 have d2 : decide ((i : Int) < 12) = true := decide_eq_true (by omega)
 refine EvC.g ?_ (h := by simp only [go_sem, hll, d1, d2] <;> rfl)
 refine EvC.cr ?_
 refine EvC.seq ?_
 refine EvC.block ?_
 have hil : i < ns.length := by omega
 have he : ns[i]? = some (ns[i]'hil) := List.getElem?_eq_getElem hil
 generalize ns[i]'hil = n at he
 have q := fOf_nil hv n hA
 have hnc : (ns.map u16C)[i]? = some [.sc (.int .u16 n)] := by rw [List.getElem?_map, he]; rfl
 have hit : (i : Int).toNat = i := Int.toNat_natCast i
 refine EvC.k1D mixed ?_ (h1 := by simp only [go_sem, hnc, hit, hll, Mach.cells] <;> rfl) (k1 := by simp; try omega) (c1 := .ca q)
 refine EvC.a ?_
 refine EvC.cs ?_
 refine EvC.b ?_ (hok := by exact inI64_of (by omega) (by omega))
 exact ⟨[(0, 0)], i + 1, rfl, (by simp only [go_sem, Mach.cells, Int.natCast_add, Int.natCast_one] <;> rfl), hiK, by omega⟩
def listA (m : Mach) (ns : List Int) : List FA := if allF m allK = [] then [] else listL m ns
theorem listA_is {m : Mach} (hv : Valid m) (nl : Bool) (ns : List Int) (c : Cp) (hns : ∀ n ∈ ns, 0 ≤ n ∧ n < 65536) (hl : (ns.length : Int) ≤ 140737488355328) :
  PureIs prog 7 [.ag m.cells, .sl nl (ns.map u16C) c] (.sl (listA m ns).isEmpty ((listA m ns).map FA.cells) .unk) := by
 unfold listA
 split
 ·rename_i h
  exact list18_nil hv nl ns c hl h
 ·rename_i h
  exact list18_is hv nl ns c hns hl (List.length_pos_iff.2 h)
theorem listA_ok {m : Mach} {ns : List Int} : (listA m ns).length ≤ 12 ∧ ∀ f ∈ listA m ns, faultB m f = true := by
 unfold listA
 split
 ·exact ⟨Nat.zero_le _, fun f h => by cases h⟩
 ·rename_i h
  have h2 : 0 < (allF m allK).length := List.length_pos_iff.2 h
  refine ⟨by rw [listL, List.length_map, List.length_take]; omega, fun f hf => ?_⟩
  unfold listL at hf
  obtain ⟨n, _, rfl⟩ := List.mem_map.1 hf
  unfold pickN
  have h3 : (n % ((allF m allK).length : Int)).toNat < (allF m allK).length := by
   have h4 : n % ((allF m allK).length : Int) < (allF m allK).length := Int.emod_lt_of_pos _ (by omega)
   have h5 : 0 ≤ n % ((allF m allK).length : Int) := Int.emod_nonneg _ (by omega)
   omega
  rw [List.getD_eq_getElem?_getD, List.getElem?_eq_getElem h3]
  exact faK_mem (List.getElem_mem h3)
structure MutsOk (m : Mach) (fs : List FA) : Prop where
 v : Valid m
 r : m.rows.length < 64
 b : ∀ f ∈ fs, faultB m f = true
 n : fs.length ≤ 256
theorem MutsOk.check {m : Mach} {fs : List FA} (h : MutsOk m fs) {f : FA} (hf : f ∈ fs) : checkF m f = 0 := by
 have := h.r
 unfold checkF
 rw [if_pos (h.b f hf), if_neg (by omega)]
theorem MutsOk.mv {m : Mach} {fs : List FA} (h : MutsOk m fs) {f : FA} (hf : f ∈ fs) : Valid (mutF m f) := mutF_valid h.v (h.check hf)
theorem errFs_ok {m : Mach} : ∀ {fs : List FA}, (∀ f ∈ fs, checkF m f = 0) → errFs m fs = 0
 | [], _ => rfl
 | f :: fs, h => by
   rw [errFs, if_pos (h f List.mem_cons_self)]
   exact errFs_ok fun g hg => h g (List.mem_cons_of_mem _ hg)
theorem MutsOk.err {m : Mach} {fs : List FA} (h : MutsOk m fs) : mutErr m fs = 0 := by
 have := h.n
 unfold mutErr
 rw [if_neg (by rw [h.v.check]; simp), if_neg (by omega), errFs_ok fun f hf => h.check hf]
theorem LM.muts {x : LM} (hx : x.Ok) (ns : List Int) : MutsOk x.mach (listA x.mach ns) := by
 obtain ⟨h6, h3⟩ := LM.small hx
 exact ⟨LM.valid hx, by omega, listA_ok.2, by have := (listA_ok (m := x.mach) (ns := ns)).1; omega⟩
theorem cmpI_swap : ∀ {a b : List Int}, cmpI b a = - cmpI a b
 | [], [] => rfl
 | [], _ :: _ => rfl
 | _ :: _, [] => rfl
 | x :: a, y :: b => by
   unfold cmpI
   by_cases h1 : x < y
   ·rw [if_neg (by omega), if_pos h1, if_pos h1]; rfl
   ·by_cases h2 : y < x
    ·rw [if_pos h2, if_neg h1, if_pos h2]
    ·rw [if_neg h2, if_neg h1, if_neg h1, if_neg h2, cmpI_swap]
theorem cmpL_swap (a b : List Int) : cmpL b a = - cmpL a b := by
 unfold cmpL
 by_cases h : a.length = b.length
 ·rw [if_pos h, if_pos h.symm, cmpI_swap]
 ·rw [if_neg h, if_neg (fun e => h e.symm)]
  by_cases h2 : a.length < b.length
  ·rw [if_pos h2, if_neg (by omega)]; rfl
  ·rw [if_neg h2, if_pos (by omega)]
theorem cmpI_trans : ∀ {a b c : List Int}, a.length = b.length → b.length = c.length → cmpI a b < 0 → cmpI b c < 0 → cmpI a c < 0
 | [], [], _, _, _, h, _ => by simp [cmpI] at h
 | x :: a, y :: b, [], _, h2, _, _ => by simp at h2
 | x :: a, y :: b, z :: c, h1, h2, k1, k2 => by
   unfold cmpI at k1 k2 ⊢
   by_cases e1 : x < y
   ·by_cases e2 : y < z
    ·rw [if_pos (by omega)]; omega
    ·rw [if_neg e2] at k2
     by_cases e3 : z < y
     ·rw [if_pos e3] at k2; omega
     ·rw [if_pos (by omega)]; omega
   ·rw [if_neg e1] at k1
    by_cases e2 : y < x
    ·rw [if_pos e2] at k1; omega
    ·rw [if_neg e2] at k1
     by_cases e3 : y < z
     ·rw [if_pos (by omega)]; omega
     ·rw [if_neg e3] at k2
      by_cases e4 : z < y
      ·rw [if_pos e4] at k2; omega
      ·rw [if_neg e4] at k2
       rw [if_neg (by omega), if_neg (by omega)]
       exact cmpI_trans (by simpa using h1) (by simpa using h2) k1 k2
theorem cmpL_len {a b : List Int} (h : cmpL a b < 0) : a.length ≤ b.length := by
 unfold cmpL at h
 split at h
 ·omega
 ·split at h
  ·omega
  ·omega
theorem cmpL_of_lt {a b : List Int} (h : a.length < b.length) : cmpL a b < 0 := by
 unfold cmpL
 rw [if_neg (by omega), if_pos h]; omega
theorem cmpL_trans {a b c : List Int} (h1 : cmpL a b < 0) (h2 : cmpL b c < 0) : cmpL a c < 0 := by
 have l1 := cmpL_len h1
 have l2 := cmpL_len h2
 by_cases e1 : a.length = b.length
 ·by_cases e2 : b.length = c.length
  ·unfold cmpL at h1 h2 ⊢
   rw [if_pos e1] at h1
   rw [if_pos e2] at h2
   rw [if_pos (by omega)]
   exact cmpI_trans e1 e2 h1 h2
  ·exact cmpL_of_lt (by omega)
 ·exact cmpL_of_lt (by omega)
def SrtW (W : List RW) : Prop := W.Pairwise fun x y => cmpL x.2.1 y.2.1 < 0
def insW : List RW → RW → List RW
 | [], x => [x]
 | y :: l, x => if cmpL y.2.1 x.2.1 < 0 then y :: insW l x else if cmpL y.2.1 x.2.1 = 0 then y :: l else x :: y :: l
theorem insW_app {x : RW} : ∀ {A : List RW} (B : List RW), (∀ a ∈ A, cmpL a.2.1 x.2.1 < 0) → insW (A ++ B) x = A ++ insW B x
 | [], B, _ => rfl
 | a :: A, B, h => by
   rw [List.cons_append, insW, if_pos (h a List.mem_cons_self), insW_app B fun b hb => h b (List.mem_cons_of_mem _ hb)]; rfl
theorem insW_mem {x z : RW} : ∀ {W : List RW}, z ∈ insW W x → z = x ∨ z ∈ W
 | [], h => by rw [insW, List.mem_singleton] at h; exact .inl h
 | y :: l, h => by
   rw [insW] at h
   split at h
   ·rcases List.mem_cons.1 h with h | h
    ·exact .inr (by rw [h]; exact List.mem_cons_self)
    ·rcases insW_mem h with h | h
     ·exact .inl h
     ·exact .inr (List.mem_cons_of_mem _ h)
   ·split at h
    ·exact .inr h
    ·rcases List.mem_cons.1 h with h | h
     ·exact .inl h
     ·exact .inr h
theorem insW_srt {x : RW} : ∀ {W : List RW}, SrtW W → SrtW (insW W x)
 | [], _ => List.pairwise_singleton _ _
 | y :: l, h => by
   obtain ⟨h1, h2⟩ := List.pairwise_cons.1 h
   rw [insW]
   split
   ·rename_i c
    refine List.pairwise_cons.2 ⟨fun z hz => ?_, insW_srt h2⟩
    rcases insW_mem hz with rfl | hz
    ·exact c
    ·exact h1 z hz
   ·split
    ·exact h
    ·rename_i c1 c2
     have hxy : cmpL x.2.1 y.2.1 < 0 := by have := cmpL_swap x.2.1 y.2.1; omega
     refine List.pairwise_cons.2 ⟨fun z hz => ?_, h⟩
     rcases List.mem_cons.1 hz with rfl | hz
     ·exact hxy
     ·exact cmpL_trans hxy (h1 z hz)
theorem insW_len (x : RW) : ∀ W : List RW, (insW W x).length ≤ W.length + 1 ∧ 1 ≤ (insW W x).length
 | [] => by simp [insW]
 | y :: l => by
   have := insW_len x l
   rw [insW]
   split
   ·simp only [List.length_cons]; omega
   ·split <;> simp only [List.length_cons] <;> omega
theorem SrtW.lt {W : List RW} (h : SrtW W) {i j : Nat} (hij : i < j) (hj : j < W.length) : cmpL (W[i]'(by omega)).2.1 W[j].2.1 < 0 := List.pairwise_iff_getElem.1 h i j (by omega) hj hij
def holeW (W : List RW) (i : Nat) (h : List AV) : List (List AV) := (W.take i).map rwC ++ h :: (W.drop i).map rwC
theorem holeW_len {W : List RW} {i : Nat} {h : List AV} (hi : i ≤ W.length) : (holeW W i h).length = W.length + 1 := by
 unfold holeW
 rw [List.length_append, List.length_cons, List.length_map, List.length_map, List.length_take, List.length_drop]; omega
theorem holeW_norefs {W : List RW} {i : Nat} {h : List AV} (hh : AV.norefs h = true) : (holeW W i h).all AV.norefs = true := by
 unfold holeW
 rw [List.all_append, List.all_cons, norefs_rw, norefs_rw, hh]; rfl
theorem holeW_get {W : List RW} {i : Nat} {h : List AV} (hi : i + 1 ≤ W.length) : (holeW W (i + 1) h)[i]? = some (rwC (W[i]'(by omega))) := by
 unfold holeW
 rw [List.getElem?_append_left (by rw [List.length_map, List.length_take]; omega), List.getElem?_map, List.getElem?_take_of_lt (by omega), List.getElem?_eq_getElem (by omega)]; rfl
theorem holeW_set {W : List RW} {i : Nat} {h : List AV} (hi : i + 1 ≤ W.length) : (holeW W (i + 1) h).set (i + 1) (rwC (W[i]'(by omega))) = holeW W i (rwC (W[i]'(by omega))) := by
 unfold holeW
 rw [List.set_append_right _ _ (by rw [List.length_map, List.length_take]; omega)]
 have e : i + 1 - ((W.take (i + 1)).map rwC).length = 0 := by rw [List.length_map, List.length_take]; omega
 rw [e, List.set_cons_zero, List.take_succ_eq_append_getElem (by omega), List.map_append, List.append_assoc, List.drop_eq_getElem_cons (show i < W.length by omega)]
 rfl
theorem holeW_at {W : List RW} {i : Nat} {h : List AV} (hi : i ≤ W.length) : (holeW W i h)[i]? = some h := by
 unfold holeW
 rw [List.getElem?_append_right (by rw [List.length_map, List.length_take]; omega)]
 have e : i - ((W.take i).map rwC).length = 0 := by rw [List.length_map, List.length_take]; omega
 rw [e]; rfl
theorem holeW_put {W : List RW} {i : Nat} {h : List AV} (hi : i ≤ W.length) (x : RW) : (holeW W i h).set i (rwC x) = (W.take i ++ x :: W.drop i).map rwC := by
 unfold holeW
 rw [List.set_append_right _ _ (by rw [List.length_map, List.length_take]; omega)]
 have e : i - ((W.take i).map rwC).length = 0 := by rw [List.length_map, List.length_take]; omega
 rw [e, List.set_cons_zero, List.map_append]; rfl
def wM (W : List RW) : Mem := [(0, .arr 1 (W.map rwC) false)]
set_option maxHeartbeats 4000000 in
theorem put_body (W : List RW) (hS : SrtW W) (hl : W.length < 100000) (hW : ∀ x ∈ W, x.2.1.length < 1000000) (wn : Bool) (w : List Int) (wc : Cp) (hwl : w.length < 1000000) :
  BodyIs prog 30 [.tl 0 W.length (decide (W.length = 0)), .sl wn (w.map intC) wc] (wM W) 1 (fun r M _ => r = .tl 0 (insW W (false, w, .unk)).length false ∧ M = wM (insW W (false, w, .unk))) := by
 refine BodyIs.of (nv := 2) (hid := [4, 5, 6, 7, 8, 13, 24, 40, 50]) func30 rfl (by kernel_rfl) (by simp [ntmps30]) fun _ => ?_
 rw [ntmps30, results30]
 have hWl : (W.map rwC).length = W.length := List.length_map _
 have hwn := norefs_intC w
 have hwL : (w.map intC).length = w.length := List.length_map _
 obtain ⟨n, hn⟩ : ∃ n, n = W.length := ⟨_, rfl⟩
 rw [wM]
 have hWn := norefs_rw W
 rw [← hn] at hWl ⊢
 obtain ⟨en, hen⟩ : ∃ en, en = decide (n = 0) := ⟨_, rfl⟩
 rw [← hen]
 refine EvC.a ?_
 refine EvC.a ?_
 refine EvC.a ?_ (by simp only [go_sem, hWl] <;> rfl)
 refine EvC.seq ?_
 refine EvC.block ?_
 refine EvC.loopS (σ := Nat × Nat) (fun g => ⟨[(0, .tl 0 n en), (1, .sl wn (w.map intC) wc), (5, .sc (.int .i64 g.1)), (6, .sc (.int .i64 g.2))], [], [(0, .arr 1 (W.map rwC) false)], 1⟩) (fun g => g.2 - g.1) (fun g => g.1 ≤ g.2 ∧ g.2 ≤ n ∧ (∀ i (h : i < W.length), i < g.1 → cmpL W[i].2.1 w < 0) ∧ ∀ i (h : i < W.length), g.2 ≤ i → 0 ≤ cmpL W[i].2.1 w) [0, 1, 5, 6] 1 ?_ ?_
 ·exact ⟨[(0, 0)], (0, n), rfl, (by simp only [go_sem, hWn, hWl, Int.natCast_zero] <;> rfl), Nat.zero_le _, Nat.le_refl _, fun i _ h => absurd h (Nat.not_lt_zero _), fun i h h2 => absurd h (by simp only at h2; omega)⟩
 rintro ⟨lo, hi⟩ ⟨i1, i2, i3, i4⟩
 simp only at i1 i2 i3 i4 ⊢
 refine EvC.seq ?_
 refine EvC.a ?_
 by_cases hlh : lo < hi
 ·refine EvC.cr ?_ (by simp only [go_sem, decide_eq_true (show (lo : Int) < hi by omega)] <;> rfl)
  obtain ⟨md, hmd⟩ : ∃ md, md = (lo + hi) / 2 := ⟨_, rfl⟩
  have hmZ : ((lo : Int) + hi) / 2 = (md : Int) := by omega
  have hI : inI64 ((lo : Int) + hi) = true := inI64_of (by omega) (by omega)
  have hI2 : inI64 (md : Int) = true := inI64_of (by omega) (by omega)
  have h0 : (0 : Int) ≤ lo + hi := by omega
  have hml : md < W.length := by omega
  have hge : W[md]? = some (W[md]'hml) := List.getElem?_eq_getElem hml
  have hwm := hW _ (List.getElem_mem hml)
  have hrg := rw_get hge
  have hmt : (md : Int).toNat = md := Int.toNat_natCast md
  have qc := compare65_is (W[md]'hml).1 wn (W[md]'hml).2.1 w (W[md]'hml).2.2 wc hwm
  refine EvC.block ?_
  refine EvC.a ?_ (by simp only [go_sem, hmZ] <;> rfl) (by simp [hI, hI2, h0])
  refine EvC.k1 ?_ (h1 := by simp only [go_sem, hrg, hmt, hWl, hWn] <;> rfl) (k1 := by simp; try omega) (c1 := .ca qc)
  by_cases hc : cmpL (W[md]'hml).2.1 w < 0
  ·refine EvC.ct ?_ (by simp only [go_sem, decide_eq_true hc] <;> rfl)
   refine EvC.b ?_ (by simp only [go_sem, hWn] <;> rfl) (by exact inI64_of (by omega) (by omega))
   refine ⟨[(0, 0)], (md + 1, hi), rfl, (by simp only [go_sem, hWn, hWl, Int.natCast_add, Int.natCast_one] <;> rfl), ⟨by simp only; omega, i2, fun i h h2 => ?_, i4⟩, by simp only; omega⟩
   rcases Nat.lt_or_ge i md with h3 | h3
   ·exact cmpL_trans (hS.lt h3 hml) hc
   ·obtain rfl : i = md := by simp only at h2; omega
    exact hc
  ·refine EvC.cf ?_ (by simp only [go_sem, decide_eq_false hc] <;> rfl)
   refine EvC.b ?_ (by simp only [go_sem, hWn] <;> rfl)
   refine ⟨[(0, 0)], (lo, md), rfl, (by simp only [go_sem, hWn, hWl] <;> rfl), ⟨by simp only; omega, by simp only; omega, i3, fun i h h2 => ?_⟩, by simp only; omega⟩
   rcases Nat.lt_or_ge md i with h3 | h3
   ·have h4 := hS.lt h3 h
    by_cases h5 : cmpL W[i].2.1 w < 0
    ·exact absurd (cmpL_trans h4 h5) hc
    ·omega
   ·obtain rfl : i = md := by simp only at h2; omega
    omega
 obtain rfl : lo = hi := by omega
 refine EvC.cf ?_ (by simp only [go_sem, decide_eq_false (show ¬ (lo : Int) < lo by omega)] <;> rfl)
 refine EvC.exit ?_
 refine EvC.seq ?_
 have hA : ∀ a ∈ W.take lo, cmpL a.2.1 w < 0 := fun a ha => by
  rw [List.mem_take_iff_getElem] at ha
  obtain ⟨i, hi, rfl⟩ := ha
  exact i3 i (by omega) (by omega)
 have hsp := insW_app (x := (false, w, .unk)) (W.drop lo) hA
 rw [List.take_append_drop] at hsp
 by_cases hz : ∃ h : lo < W.length, cmpL (W[lo]'h).2.1 w = 0
 ·obtain ⟨hll, hz⟩ := hz
  have hge : W[lo]? = some (W[lo]'hll) := List.getElem?_eq_getElem hll
  have hwm := hW _ (List.getElem_mem hll)
  have hrg := rw_get hge
  have hlt : (lo : Int).toNat = lo := Int.toNat_natCast lo
  have qc := compare65_is (W[lo]'hll).1 wn (W[lo]'hll).2.1 w (W[lo]'hll).2.2 wc hwm
  have hsame : insW W (false, w, .unk) = W := by
   rw [hsp, List.drop_eq_getElem_cons hll, insW, if_neg (by simp only [hz]; omega), if_pos (by simp only [hz])]
   rw [← List.drop_eq_getElem_cons hll, List.take_append_drop]
  rw [hsame]
  refine EvC.k1 ?_ (h1 := by simp only [go_sem, hrg, hlt, hWl, hWn, decide_eq_true (show (lo : Int) < n by omega)] <;> rfl) (k1 := by simp; try omega) (c1 := .cg qc) (h2 := by simp only [go_sem, decide_eq_true hz] <;> rfl)
  refine EvC.ct ?_
  refine EvC.a ?_ (by simp only [go_sem, hWn] <;> rfl)
  have hen2 : en = false := by rw [hen]; exact decide_eq_false (by omega)
  refine EvC.ret ⟨.inl rfl, _, (by simp only [go_sem] <;> rfl), ?_⟩
  rw [hen2, hn]
  exact ⟨rfl, rfl⟩
 have hput : insW W (false, w, .unk) = W.take lo ++ (false, w, .unk) :: W.drop lo := by
  rw [hsp]
  congr 1
  by_cases hll : lo < W.length
  ·have h4 := i4 lo hll (Nat.le_refl _)
   have hne : cmpL (W[lo]'hll).2.1 w ≠ 0 := fun h => hz ⟨hll, h⟩
   rw [List.drop_eq_getElem_cons hll, insW, if_neg (by simp only; omega), if_neg (by simp only; exact hne)]
  ·rw [List.drop_of_length_le (by omega)]; rfl
 refine EvC.mergeS (α := Unit) (fun _ => ⟨[(0, .tl 0 n en), (1, .sl wn (w.map intC) wc), (5, .sc (.int .i64 lo)), (40, .sc (.bool false))], [], [(0, .arr 1 (W.map rwC) false)], 1⟩) (fun _ => True) [0, 1, 5, 40] 1 ?_ ?_
 ·by_cases hll : lo < W.length
  ·have hge : W[lo]? = some (W[lo]'hll) := List.getElem?_eq_getElem hll
   have hwm := hW _ (List.getElem_mem hll)
   have hrg := rw_get hge
   have hlt : (lo : Int).toNat = lo := Int.toNat_natCast lo
   have qc := compare65_is (W[lo]'hll).1 wn (W[lo]'hll).2.1 w (W[lo]'hll).2.2 wc hwm
   have hne : ¬ cmpL (W[lo]'hll).2.1 w = 0 := fun h => hz ⟨hll, h⟩
   refine EvC.k1L ?_ (h1 := by simp only [go_sem, hrg, hlt, hWl, hWn, decide_eq_true (show (lo : Int) < n by omega)] <;> rfl) (k1 := by simp; try omega) (c1 := .cg qc) (h2 := by simp only [go_sem, decide_eq_false hne] <;> rfl)
   exact ⟨rfl, [(0, 0)], (), rfl, (by simp only [go_sem, hWn, hWl] <;> rfl), trivial⟩
  ·have hgn : W[lo]? = none := List.getElem?_eq_none (by omega)
   have hlt : (lo : Int).toNat = lo := Int.toNat_natCast lo
   apply EvC.tr
   ·apply Tr.run
    ·simp only [go_sem, hWl, hWn, hgn, hlt, decide_eq_false (show ¬ (lo : Int) < n by omega)] <;> rfl
    ·simp
    apply Tr.cons
    ·exact .skipv (.sl true [] .unk) rfl rfl (by simp only [go_sem] <;> rfl) (by simp only [go_sem] <;> rfl)
    apply Tr.run
    ·simp only [go_sem, hWl, hWn, hgn, hlt, decide_eq_false (show ¬ (lo : Int) < n by omega)] <;> rfl
    ·simp
    apply Tr.cons
    ·exact .skipv (.sc (.int .i64 0)) rfl rfl (by simp only [go_sem] <;> rfl) (by simp only [go_sem] <;> rfl)
    apply Tr.done
    ·simp only [go_sem] <;> rfl
    ·simp
   exact ⟨rfl, [(0, 0)], (), rfl, (by simp only [go_sem, hWn, hWl] <;> rfl), trivial⟩
 rintro _ -
 refine EvC.cs ?_
 have hno : AV.norefs [.sl true [] .zer] = true := rfl
 have hr1 : room (n + 1) 24 = true := by simp only [room_eq, decide_eq_true_eq]; omega
 refine EvC.a ?_ (by simp only [go_sem, hWl, hWn] <;> rfl) (by simp [hr1])
 refine EvC.seq ?_
 refine EvC.a ?_ (by simp only [go_sem, hWl, hWn, List.length_append, List.length_cons, List.length_nil, Int.natCast_add, Int.natCast_one] <;> rfl) (by exact inI64_of (by omega) (by omega))
 refine EvC.block ?_
 have h0 : W.map rwC ++ [[.sl true [] .zer]] = holeW W n [.sl true [] .zer] := by
  unfold holeW
  rw [hn, List.take_length, List.drop_length]; rfl
 rw [h0]
 have hn1 : (n : Int) + 1 - 1 = n := by omega
 refine EvC.loopS (σ := Nat × List AV) (fun g => ⟨[(0, .tl 0 (n + 1) false), (1, .sl wn (w.map intC) wc), (5, .sc (.int .i64 lo)), (8, .sc (.int .i64 g.1))], [], [(0, .arr 1 (holeW W g.1 g.2) false)], 1⟩) (fun g => g.1 - lo) (fun g => lo ≤ g.1 ∧ g.1 ≤ n ∧ AV.norefs g.2 = true ∧ g.2.length = 1) [0, 1, 5, 8] 1 ?_ ?_
 ·have hH := holeW_norefs (W := W) (i := n) hno
  have hHl := holeW_len (W := W) (i := n) (h := [.sl true [] .zer]) (by omega)
  exact ⟨[(0, 0)], (n, [.sl true [] .zer]), rfl, (by simp only [go_sem, hH, hHl, hn1] <;> rfl), by simp only; omega, Nat.le_refl _, hno, rfl⟩
 rintro ⟨i, h⟩ ⟨j1, j2, j3, j4⟩
 simp only at j1 j2 j3 j4 ⊢
 have hH := holeW_norefs (W := W) (i := i) j3
 have hHl := holeW_len (W := W) (i := i) (h := h) (by omega)
 rw [← hn] at hHl
 have hat := holeW_at (W := W) (i := i) (h := h) (by omega)
 obtain ⟨hv, rfl⟩ : ∃ v, h = [v] := by
  match h, j4 with
  | [v], _ => exact ⟨v, rfl⟩
 refine EvC.seq ?_
 refine EvC.a ?_ (by simp only [go_sem, hH, hHl] <;> rfl)
 by_cases hil : lo < i
 ·refine EvC.cr ?_ (by simp only [go_sem, decide_eq_true (show (lo : Int) < i by omega)] <;> rfl)
  obtain ⟨k, rfl⟩ : ∃ k, i = k + 1 := ⟨i - 1, by omega⟩
  have hkl : k + 1 ≤ W.length := by omega
  have hge := holeW_get (h := [hv]) hkl
  have hse := holeW_set (h := [hv]) hkl
  have hrl : (rwC (W[k]'(by omega))).length = 1 := rfl
  have hrn : AV.norefs (rwC (W[k]'(by omega))) = true := by simp [rwC, AV.norefs, AV.noref]
  have hH2 := holeW_norefs (W := W) (i := k) hrn
  have hHl2 := holeW_len (W := W) (i := k) (h := rwC (W[k]'(by omega))) (by omega)
  obtain ⟨iZ, hiZ⟩ : ∃ z : Int, z = ((k + 1 : Nat) : Int) := ⟨_, rfl⟩
  rw [← hiZ]
  have e1 : iZ.toNat = k + 1 := by omega
  have e2 : (iZ - 1).toNat = k := by omega
  have hI : inI64 (iZ - 1) = true := inI64_of (by omega) (by omega)
  have hb : 0 ≤ iZ ∧ 1 ≤ iZ ∧ k < n + 1 ∧ k + 1 < n + 1 := by omega
  have hrw : rwC (W[k]'(by omega)) = [.sl (W[k]'(by omega)).1 ((W[k]'(by omega)).2.1.map intC) (W[k]'(by omega)).2.2] := rfl
  rw [hrw] at hge hse hrl hrn hH2 hHl2
  refine EvC.seq ?_
  refine EvC.block ?_
  refine EvC.b ?_ (by simp only [go_sem, hge, hse, hat, e1, e2, hH, hHl, hH2, hHl2] <;> rfl) (by simp [hI, hb, hHl]; try omega)
  refine EvC.b ?_ (by simp only [go_sem, hH2] <;> rfl) (by simp [hI])
  have e3 : iZ - 1 = (k : Int) := by omega
  replace hHl2 := hHl2.trans (show W.length + 1 = n + 1 by omega)
  exact ⟨[(0, 0)], (k, rwC (W[k]'(by omega))), rfl, (by rw [hrw]; simp only [go_sem, hH2, hHl2, e3] <;> rfl), ⟨by simp only; omega, by simp only; omega, hrn, hrl⟩, by simp only; omega⟩
 obtain rfl : i = lo := by omega
 refine EvC.cf ?_ (by simp only [go_sem, decide_eq_false (show ¬ (i : Int) < i by omega)] <;> rfl)
 refine EvC.exit ?_
 have hpu := holeW_put (h := [hv]) (show i ≤ W.length by omega) (false, w, .unk)
 rw [← hput] at hpu
 have hpl : (insW W (false, w, .unk)).length = n + 1 := by rw [hput, List.length_append, List.length_cons, List.length_take, List.length_drop]; omega
 simp only [rwC] at hpu
 have hir := norefs_rw (insW W (false, w, .unk))
 have hirl : ((insW W (false, w, .unk)).map rwC).length = n + 1 := by rw [List.length_map, hpl]
 rw [wM]
 generalize insW W (false, w, .unk) = V at hpu hpl hir hirl ⊢
 rw [hpl]
 change _ = V.map rwC at hpu
 generalize V.map rwC = VC at hpu hir hirl ⊢
 have hit : (i : Int).toNat = i := Int.toNat_natCast i
 have hrw : room w.length 8 = true := by simp only [room_eq, decide_eq_true_eq]; omega
 refine EvC.a ?_ (by simp only [go_sem, hat, hit, hHl, hwn, hwL] <;> rfl) (by simp [hrw]; exact ⟨fun _ _ => rfl, by omega⟩)
 have hg1 : ((holeW W i [hv]).set i [.tl 8 w.length false])[i]? = some [.tl 8 w.length false] := List.getElem?_set_self (by omega)
 have hl1 : ((holeW W i [hv]).set i [.tl 8 w.length false]).length = n + 1 := by rw [List.length_set]; exact hHl
 have hs1 : ∀ x, ((holeW W i [hv]).set i [.tl 8 w.length false]).set i x = (holeW W i [hv]).set i x := fun x => List.set_set ..
 refine EvC.frz 8 (by simp only [go_sem, hwn, hwL] <;> rfl) ?_
 refine EvC.snapE 0 i (by simp only [go_sem, hg1, hl1, hs1, hpu, hwn, hwL] <;> rfl) ?_
 refine EvC.gcE [0] [(0, 0)] 1 (st2 := ⟨[(0, .tl 0 (n + 1) false)], [], [(0, .arr 1 VC false)], 1⟩) rfl (by simp only [go_sem, hir, hirl] <;> rfl) ?_
 refine EvC.a ?_ (by simp only [go_sem, hir, hirl] <;> rfl)
 refine EvC.ret ⟨.inl rfl, _, (by simp only [go_sem] <;> rfl), ?_⟩
 exact ⟨rfl, rfl⟩
def sortL (W : List RW) (l : List RW) : List RW := l.foldl (fun V x => insW V (false, x.2.1, .unk)) W
def sortW (W : List RW) : List RW := sortL [] W
theorem sortL_srt : ∀ (l W : List RW), SrtW W → SrtW (sortL W l)
 | [], _, h => h
 | x :: l, W, h => sortL_srt l _ (insW_srt h)
theorem sortL_len : ∀ (l W : List RW), (sortL W l).length ≤ W.length + l.length
 | [], W => by simp [sortL]
 | x :: l, W => by
   have h1 := sortL_len l (insW W (false, x.2.1, .unk))
   have h2 := insW_len (false, x.2.1, .unk) W
   show (sortL (insW W (false, x.2.1, .unk)) l).length ≤ _
   rw [List.length_cons]; omega
theorem sortL_mem {z : RW} : ∀ {l W : List RW}, z ∈ sortL W l → z ∈ W ∨ ∃ x ∈ l, z.2.1 = x.2.1
 | [], W, h => .inl h
 | x :: l, W, h => by
   rcases sortL_mem (l := l) (W := insW W (false, x.2.1, .unk)) h with h | ⟨y, hy, e⟩
   ·rcases insW_mem h with h | h
    ·exact .inr ⟨x, List.mem_cons_self, by rw [h]⟩
    ·exact .inl h
   ·exact .inr ⟨y, List.mem_cons_of_mem _ hy, e⟩
theorem sortW_srt (l : List RW) : SrtW (sortW l) := sortL_srt l [] List.Pairwise.nil
theorem sortW_len (l : List RW) : (sortW l).length ≤ l.length := by have := sortL_len l []; simpa [sortW] using this
theorem sortW_mem {z : RW} {l : List RW} (h : z ∈ sortW l) : ∃ x ∈ l, z.2.1 = x.2.1 := by
 rcases sortL_mem h with h | h
 ·cases h
 ·exact h
theorem sortL_snoc (W l : List RW) (x : RW) : sortL W (l ++ [x]) = insW (sortL W l) (false, x.2.1, .unk) := by simp [sortL]
set_option maxHeartbeats 4000000 in
theorem sort58_is (wn : Bool) (W : List RW) (wc : Cp) (hl : W.length < 100000) (hW : ∀ x ∈ W, x.2.1.length < 1000000) :
  PureIs prog 14 [.sl wn (W.map rwC) wc] (.sl (sortW W).isEmpty ((sortW W).map rwC) .unk) := by
 have hWl : (W.map rwC).length = W.length := List.length_map _
 have hWn := norefs_rw W
 refine PureIs.of1 1 [2, 3, 4, 8, 11, 15] func14 ntmps14 results14 fun _ => ?_
 refine EvC.a ?_
 refine EvC.a ?_
 refine EvC.thaw 1 (by simp only [go_sem] <;> rfl) ?_
 refine EvC.seq ?_
 refine EvC.a ?_
 refine EvC.block ?_
 refine EvC.loopS (σ := Nat) (fun i => ⟨[(0, .sl wn (W.map rwC) wc), (3, .tl 0 (sortW (W.take i)).length (decide ((sortW (W.take i)).length = 0))), (4, .sc (.int .i64 i))], [], wM (sortW (W.take i)), 1⟩) (fun i => W.length - i) (fun i => i ≤ W.length) [0, 3, 4] 1 ?_ ?_
 ·have hz : sortW (W.take 0) = [] := by simp [sortW, sortL]
  exact ⟨[(1, 0)], 0, rfl, (by rw [hz, wM]; simp only [go_sem, Int.natCast_zero, List.length_nil, List.map_nil] <;> rfl), Nat.zero_le _⟩
 intro i hi
 obtain ⟨V, hV⟩ : ∃ V, V = sortW (W.take i) := ⟨_, rfl⟩
 have hVl : V.length ≤ i := by rw [hV]; have := sortW_len (W.take i); rw [List.length_take] at this; omega
 have hVs : SrtW V := by rw [hV]; exact sortW_srt _
 have hVm : ∀ x ∈ V, x.2.1.length < 1000000 := fun x hx => by
  rw [hV] at hx
  obtain ⟨y, hy, e⟩ := sortW_mem hx
  rw [e]; exact hW y (List.mem_of_mem_take hy)
 have hn : ∀ (w : RW), W[i]? = some w → sortW (W.take (i + 1)) = insW V (false, w.2.1, .unk) := fun w h => by
  obtain ⟨h1, h2⟩ := List.getElem?_eq_some_iff.1 h
  rw [List.take_succ_eq_append_getElem h1, h2, sortW, sortL_snoc, hV]; rfl
 have hend : i = W.length → V = sortW W := fun h => by rw [hV, h, List.take_length]
 rw [← hV]
 clear hV
 have hVn := norefs_rw V
 have hVc : (V.map rwC).length = V.length := List.length_map _
 refine EvC.seq ?_
 refine EvC.a ?_ (by simp only [go_sem, hWl, wM] <;> rfl)
 refine EvC.cond (by simp only [go_sem] <;> rfl) (fun hc => ?_) (fun hc => ?_)
 rotate_left
 ·refine EvC.exit ?_
  have hi2 : i = W.length := by have : ¬ i < W.length := (by simpa using hc); omega
  rw [← hend hi2]
  have hVe : V.isEmpty = decide (V.length = 0) := by cases V <;> simp
  rw [hVe]
  generalize decide (V.length = 0) = e
  refine EvC.frz 0 (by simp only [go_sem, wM, hVn, hVc] <;> rfl) ?_
  refine EvC.a ?_
  refine EvC.rz ?_
  simp only [go_sem]
 have hil : i < W.length := by simpa using hc
 clear hc
 have hge : W[i]? = some (W[i]'hil) := List.getElem?_eq_getElem hil
 have hwm := hW _ (List.getElem_mem hil)
 have hn := hn _ hge
 generalize W[i]'hil = w at hge hwm hn
 have hrg := rw_get hge
 have hit : (i : Int).toNat = i := Int.toNat_natCast i
 refine EvC.skip ?_
 refine EvC.seq ?_
 refine EvC.block ?_
 apply EvC.region
 apply XR.run
 ·simp only [go_sem, hrg, hit, hWl] <;> rfl
 ·simp; try omega
 refine XR.gcTo ⟨[(0, .sl wn (W.map rwC) wc), (4, .sc (.int .i64 i)), (11, .tl 0 V.length (decide (V.length = 0))), (15, .sl w.1 (w.2.1.map intC) w.2.2)], [], wM V, 1⟩ [0, 4, 11, 15] [(0, 0)] rfl (by simp only [go_sem, wM, hVn, hVc] <;> rfl) ?_
 apply XR.callI rfl rfl (by simp only [go_sem] <;> rfl) (by simp only [go_sem] <;> rfl) (by simp only [go_sem] <;> rfl)
 refine (put_body V hVs (by omega) hVm w.1 w.2.1 w.2.2 hwm).mono fun r M z h => ?_
 obtain ⟨rfl, rfl⟩ := h
 rw [← hn]
 have hle := (insW_len (false, w.2.1, .unk) V).2
 rw [← hn] at hle
 have hdz : decide ((sortW (W.take (i + 1))).length = 0) = false := decide_eq_false (by omega)
 have hSn := norefs_rw (sortW (W.take (i + 1)))
 have hSc : ((sortW (W.take (i + 1))).map rwC).length = (sortW (W.take (i + 1))).length := List.length_map _
 apply XR.done
 ·simp only [go_sem] <;> rfl
 ·simp
 refine EvC.b ?_ (hok := by exact inI64_of (by omega) (by omega))
 exact ⟨[(0, 0)], i + 1, rfl, (by rw [hdz]; simp only [go_sem, wM, hSn, hSc, Int.natCast_add, Int.natCast_one] <;> rfl), hil, by omega⟩
def modW (n : Int) (x : RW) : RW := ((x.2.1.map (· % n)).isEmpty, x.2.1.map (· % n), .unk)
def withinF (n : Int) (W : List RW) : List RW := W.map (modW n)
set_option maxHeartbeats 4000000 in
theorem within24_is (wn : Bool) (W : List RW) (wc : Cp) (n : Int) (hn : 0 < n ∧ n < 1000) (hl : W.length < 100000) (hW : ∀ x ∈ W, x.2.1.length < 1000000 ∧ ∀ a ∈ x.2.1, 0 ≤ a ∧ a < 1000) :
  PureIs prog 5 [.sl wn (W.map rwC) wc, .sc (.int .i64 n)] (.sl (sortW (withinF n W)).isEmpty ((sortW (withinF n W)).map rwC) .unk) := by
 have hWl : (W.map rwC).length = W.length := List.length_map _
 have hWn := norefs_rw W
 have hn0 : decide (n = 0) = false := decide_eq_false (by omega)
 obtain ⟨F, hF⟩ : ∃ F, F = withinF n W := ⟨_, rfl⟩
 have hFl : F.length = W.length := by rw [hF, withinF, List.length_map]
 rw [← hF]
 refine PureIs.of1 2 [4, 5, 6, 7, 8, 12, 21] func5 ntmps5 results5 fun _ => ?_
 refine EvC.a ?_
 refine EvC.a ?_
 refine EvC.thaw 1 (by simp only [go_sem] <;> rfl) ?_
 refine EvC.seq ?_
 refine EvC.a ?_
 refine EvC.block ?_
 refine EvC.loopS (σ := Nat) (fun i => ⟨[(0, .sl wn (W.map rwC) wc), (1, .sc (.int .i64 n)), (5, .tl 0 i (i == 0)), (6, .sc (.int .i64 i))], [], [(0, .arr 1 ((F.take i).map rwC) false)], 1⟩) (fun i => W.length - i) (fun i => i ≤ W.length) [0, 1, 5, 6] 1 ?_ ?_
 ·exact ⟨[(1, 0)], 0, rfl, (by simp only [go_sem, Int.natCast_zero, List.take_zero, List.map_nil] <;> rfl), Nat.zero_le _⟩
 intro i hi
 have hLn := norefs_rw (F.take i)
 have hLl : ((F.take i).map rwC).length = i := by rw [List.length_map, List.length_take]; omega
 refine EvC.seq ?_
 refine EvC.a ?_ (by simp only [go_sem, hWl] <;> rfl)
 refine EvC.cond (by simp only [go_sem] <;> rfl) (fun hc => ?_) (fun hc => ?_)
 rotate_left
 ·refine EvC.exit ?_
  obtain rfl : i = W.length := by have : ¬ i < W.length := (by simpa using hc); omega
  rw [List.take_of_length_le (by omega)] at hLn hLl ⊢
  have q := sort58_is (W.length == 0) F .unk (by omega) (fun x hx => by
   rw [hF] at hx
   obtain ⟨y, hy, rfl⟩ := List.mem_map.1 hx
   simp only [modW, List.length_map]
   exact (hW y hy).1)
  have hSn := norefs_rw (sortW F)
  generalize (sortW F).map rwC = S at q hSn
  generalize (W.length == 0) = e at q ⊢
  generalize F.map rwC = FC at q hLn hLl ⊢
  refine EvC.frz 0 (by simp only [go_sem, hLn, hLl] <;> rfl) ?_
  refine EvC.k1 ?_ (c1 := .ca q) (h2 := by simp only [go_sem, hSn] <;> rfl) (k2 := by simp [hSn])
  refine EvC.rz ?_
  simp only [go_sem]
 have hil : i < W.length := by simpa using hc
 clear hc
 have hge : W[i]? = some (W[i]'hil) := List.getElem?_eq_getElem hil
 obtain ⟨hwl, hwa⟩ := hW _ (List.getElem_mem hil)
 have htk : F.take (i + 1) = F.take i ++ [modW n (W[i]'hil)] := by
  rw [List.take_succ_eq_append_getElem (by omega)]; simp [hF, withinF]
 generalize W[i]'hil = w at hge hwl hwa htk
 have hrg := rw_get hge
 have hit : (i : Int).toNat = i := Int.toNat_natCast i
 have hwL : (w.2.1.map intC).length = w.2.1.length := List.length_map _
 obtain ⟨Y, hY⟩ : ∃ Y, Y = w.2.1.map (· % n) := ⟨_, rfl⟩
 have hYl : Y.length = w.2.1.length := by rw [hY, List.length_map]
 refine EvC.skip ?_
 refine EvC.seq ?_
 refine EvC.block ?_
 refine EvC.a ?_
 refine EvC.seq ?_
 refine EvC.a ?_
 refine EvC.block ?_
 refine EvC.loopS (σ := Nat) (fun k => ⟨[(0, .sl wn (W.map rwC) wc), (1, .sc (.int .i64 n)), (5, .tl 0 i (i == 0)), (6, .sc (.int .i64 i)), (7, .tl 1 k (k == 0)), (8, .sc (.int .i64 k))], [], [(0, .arr 1 ((F.take i).map rwC) false), (1, .arr 1 ((Y.take k).map intC) true)], 2⟩) (fun k => Y.length - k) (fun k => k ≤ Y.length) [0, 1, 5, 6, 7, 8] 2 ?_ ?_
 ·exact ⟨[(0, 0), (5, 1)], 0, rfl, (by simp only [go_sem, hLn, hLl, Int.natCast_zero, List.take_zero, List.map_nil] <;> rfl), Nat.zero_le _⟩
 intro k hk
 have hYn := norefs_intC (Y.take k)
 have hYk : ((Y.take k).map intC).length = k := by rw [List.length_map, List.length_take]; omega
 refine EvC.seq ?_
 refine EvC.a ?_ (by simp only [go_sem, hrg, hit, hWl, hwL] <;> rfl) (by simp; try omega)
 refine EvC.cond (by simp only [go_sem] <;> rfl) (fun hc => ?_) (fun hc => ?_)
 rotate_left
 ·refine EvC.exit ?_
  obtain rfl : k = Y.length := by have : ¬ k < w.2.1.length := (by simpa using hc); omega
  rw [List.take_length] at hYn hYk ⊢
  have hYe : (Y.length == 0) = Y.isEmpty := by cases Y <;> rfl
  rw [hYe]
  have hmw : rwC (modW n w) = [.sl Y.isEmpty (Y.map intC) .unk] := by rw [hY]; rfl
  refine EvC.frz 1 (by simp only [go_sem, hYn, hYk] <;> rfl) ?_
  have hs : (F.take i).map rwC ++ [[.sl Y.isEmpty (Y.map intC) .unk]] = (F.take (i + 1)).map rwC := by rw [htk, List.map_append, ← hmw]; rfl
  have hL2 := norefs_rw (F.take (i + 1))
  have hL3 : ((F.take (i + 1)).map rwC).length = i + 1 := by rw [List.length_map, List.length_take]; omega
  have hL4 : (F.take (i + 1)).length = i + 1 := by rw [List.length_take]; omega
  have hr2 : room (i + 1) 24 = true := by simp only [room_eq, decide_eq_true_eq]; omega
  have hne : (i + 1 == 0) = false := rfl
  refine EvC.b ?_ (by simp only [go_sem, hs, hLl, hL4, hYn] <;> rfl) (by simp [hr2])
  refine EvC.b ?_ (by simp only [go_sem, hL4] <;> rfl) (by exact inI64_of (by omega) (by omega))
  exact ⟨[(0, 0)], i + 1, rfl, (by simp only [go_sem, hL2, hL3, hL4, hne, Int.natCast_add, Int.natCast_one] <;> rfl), hil, by omega⟩
 have hkl : k < Y.length := by have : k < w.2.1.length := (by simpa using hc); omega
 clear hc
 have hkw : k < w.2.1.length := by omega
 have hae : w.2.1[k]? = some (w.2.1[k]'hkw) := List.getElem?_eq_getElem hkw
 have ham := hwa _ (List.getElem_mem hkw)
 have hyk : Y.take (k + 1) = Y.take k ++ [(w.2.1[k]'hkw) % n] := by
  rw [List.take_succ_eq_append_getElem hkl]; simp [hY]
 generalize w.2.1[k]'hkw = a at hae ham hyk
 have hag : (w.2.1.map intC)[k]? = some [.sc (.int .i64 a)] := by rw [List.getElem?_map, hae]; rfl
 have hkt : (k : Int).toNat = k := Int.toNat_natCast k
 have hs : (Y.take k).map intC ++ [[.sc (.int .i64 (a % n))]] = (Y.take (k + 1)).map intC := by rw [hyk, List.map_append]; rfl
 have hr2 : room (k + 1) 8 = true := by simp only [room_eq, decide_eq_true_eq]; omega
 have hne : (k + 1 == 0) = false := rfl
 have hY2 := norefs_intC (Y.take (k + 1))
 have hY3 : ((Y.take (k + 1)).map intC).length = k + 1 := by rw [List.length_map, List.length_take]; omega
 have hn1 : n ≠ 0 := by omega
 have hI : inI64 (a % n) = true := by
  have h1 := Int.emod_nonneg a hn1
  have h2 := Int.emod_lt_of_pos a hn.1
  exact inI64_of (by omega) (by omega)
 refine EvC.skip ?_
 refine EvC.seq ?_
 refine EvC.block ?_
 refine EvC.b ?_ (by simp only [go_sem, hrg, hit, hag, hkt, hWl, hwL, hn0, hs, hYk] <;> rfl) (by simp [hr2, hI, hn1, ham.1]; try omega)
 have hY4 : (Y.take (k + 1)).length = k + 1 := by rw [List.length_take]; omega
 refine EvC.b ?_ (by simp only [go_sem, hY4] <;> rfl) (by exact inI64_of (by omega) (by omega))
 exact ⟨[(0, 0), (1, 1)], k + 1, rfl, (by simp only [go_sem, hLn, hLl, hY2, hY3, hY4, hne, Int.natCast_add, Int.natCast_one] <;> rfl), hkl, by omega⟩
@[go_sem] theorem norefs_wb (l : List (Bool × List Int)) : (l.map wbR).all AV.norefs = true := by simp [List.all_eq_true, wbR, AV.norefs, AV.noref]
structure LW where
 inp : Int
 wn : Bool
 ws : List (Bool × List Int)
 wc : Cp
def LW.cells (x : LW) : List AV := [.sc (.int .u8 x.inp), .sl x.wn (x.ws.map wbR) x.wc]
structure LW.Ok (x : LW) : Prop where
 i : 0 ≤ x.inp ∧ x.inp < 256
 a : ∀ y ∈ x.ws, ∀ e ∈ y.2, 0 ≤ e ∧ e < 256
def LW.alpha (x : LW) : Int := 1 + x.inp % 3
def LW.rawOf (x : LW) (y : Bool × List Int) : RW := (false, (y.2.take 12).map (· % x.alpha), .unk)
def LW.raw (x : LW) : List RW := (x.ws.take 40).map x.rawOf
theorem alpha_is {x : LW} (hx : x.Ok) : PureIs prog 31 [.ag x.cells] (.sc (.int .i64 x.alpha)) := by
 have h1 := hx.i
 have h2 : 0 ≤ x.inp % 3 := Int.emod_nonneg _ (by omega)
 have h3 : x.inp % 3 < 3 := Int.emod_lt_of_pos _ (by omega)
 unfold LW.alpha
 obtain ⟨q, hq⟩ : ∃ q, q = x.inp % 3 := ⟨_, rfl⟩
 rw [← hq] at h2 h3 ⊢
 have hI : inI64 q = true := inI64_of (by omega) (by omega)
 have hI2 : inI64 (1 + q) = true := inI64_of (by omega) (by omega)
 refine PureIs.of1 3 [] func31 ntmps31 results31 fun _ => ?_
 refine EvC.a ?_ (by simp only [go_sem, LW.cells] <;> rfl)
 refine EvC.z 0 ?_
 refine EvC.a ?_ (by simp only [go_sem, ← hq] <;> rfl) (by simp [h1.1, hI, hI2])
 refine EvC.rz ?_
 simp only [go_sem]
set_option maxHeartbeats 4000000 in
theorem raw_is {x : LW} (hx : x.Ok) (hl : (x.ws.length : Int) ≤ 140737488355328) (hwl : ∀ y ∈ x.ws, (y.2.length : Int) ≤ 140737488355328) : PureIs prog 15 [.ag x.cells] (.sl x.raw.isEmpty (x.raw.map rwC) .unk) := by
 have qa := alpha_is hx
 have ha1 : 1 ≤ x.alpha ∧ x.alpha ≤ 3 := by
  have h2 : 0 ≤ x.inp % 3 := Int.emod_nonneg _ (by omega)
  have h3 : x.inp % 3 < 3 := Int.emod_lt_of_pos _ (by omega)
  unfold LW.alpha; omega
 have hWl : (x.ws.map wbR).length = x.ws.length := List.length_map _
 have hWn := norefs_wb x.ws
 obtain ⟨N, hN⟩ : ∃ N, N = min 40 x.ws.length := ⟨_, rfl⟩
 obtain ⟨F, hF⟩ : ∃ F, F = x.raw := ⟨_, rfl⟩
 have hFl : F.length = N := by rw [hF, LW.raw, List.length_map, List.length_take, hN]
 have hFi : ∀ i (h : i < x.ws.length), i < N → F.take (i + 1) = F.take i ++ [x.rawOf x.ws[i]] := fun i h hi => by
  rw [List.take_succ_eq_append_getElem (by omega)]; simp [hF, LW.raw]
 have hFe : F.isEmpty = (N == 0) := by rw [← hFl]; cases F <;> rfl
 rw [← hF, hFe]
 have hae := hx.a
 rw [LW.cells] at qa ⊢
 generalize ha : x.alpha = A at qa ha1
 have hA0 : decide (A = 0) = false := decide_eq_false (by omega)
 have hA1 : A ≠ 0 := by omega
 clear hF
 refine PureIs.of1 7 [15, 30] func15 ntmps15 results15 fun _ => ?_
 refine EvC.a ?_
 refine EvC.z 0 ?_
 refine EvC.a ?_
 refine EvC.thaw 2 (by simp only [go_sem] <;> rfl) ?_
 refine EvC.seq ?_
 refine EvC.a ?_
 refine EvC.block ?_
 refine EvC.loopS (σ := Nat) (fun i => ⟨[(1, .ia [.sc (.int .u8 x.inp), .sl x.wn (x.ws.map wbR) x.wc]), (3, .tl 0 i (i == 0)), (4, .sc (.int .i64 i))], [], [(0, .arr 1 ((F.take i).map rwC) false)], 1⟩) (fun i => N - i) (fun i => i ≤ N) [1, 3, 4] 1 ?_ ?_
 ·exact ⟨[(2, 0)], 0, rfl, (by simp only [go_sem, Int.natCast_zero, List.take_zero, List.map_nil] <;> rfl), Nat.zero_le _⟩
 intro i hi
 have hLn := norefs_rw (F.take i)
 have hLl : ((F.take i).map rwC).length = i := by rw [List.length_map, List.length_take]; omega
 refine EvC.seq ?_
 by_cases hiN : i < N
 rotate_left
 ·obtain rfl : i = N := by omega
  rw [List.take_of_length_le (by omega)] at hLn hLl ⊢
  generalize F.map rwC = FC at hLn hLl ⊢
  by_cases h1 : i < x.ws.length
  ·have d1 : decide ((i : Int) < x.ws.length) = true := decide_eq_true (by omega)
   have d2 : decide ((i : Int) < 40) = false := decide_eq_false (by omega)
   refine EvC.g ?_ (h := by simp only [go_sem, hWl, hWn, d1, d2] <;> rfl)
   refine EvC.cf ?_
   refine EvC.exit ?_
   refine EvC.frz 0 (by simp only [go_sem, hLn, hLl] <;> rfl) ?_
   refine EvC.a ?_
   refine EvC.rz ?_
   simp only [go_sem]
  ·have d1 : decide ((i : Int) < x.ws.length) = false := decide_eq_false (by omega)
   refine EvC.g ?_ (h := by simp only [go_sem, hWl, hWn, d1] <;> rfl)
   refine EvC.cf ?_
   refine EvC.exit ?_
   refine EvC.frz 0 (by simp only [go_sem, hLn, hLl] <;> rfl) ?_
   refine EvC.a ?_
   refine EvC.rz ?_
   simp only [go_sem]
 have hil : i < x.ws.length := by omega
 have d1 : decide ((i : Int) < x.ws.length) = true := decide_eq_true (by omega)
 have d2 : decide ((i : Int) < 40) = true := decide_eq_true (by omega)
 refine EvC.g ?_ (h := by simp only [go_sem, hWl, hWn, d1, d2] <;> rfl)
 refine EvC.cr ?_
 have hge : x.ws[i]? = some (x.ws[i]'hil) := List.getElem?_eq_getElem hil
 have hwa := hae _ (List.getElem_mem hil)
 have hwL1 := hwl _ (List.getElem_mem hil)
 have htk := hFi i hil hiN
 generalize x.ws[i]'hil = y at hge hwa htk hwL1
 have hrg : (x.ws.map wbR)[i]? = some [.sl y.1 (y.2.map u8C) .unk] := by rw [List.getElem?_map, hge]; rfl
 have hit : (i : Int).toNat = i := Int.toNat_natCast i
 have hwL : (y.2.map u8C).length = y.2.length := List.length_map _
 obtain ⟨M, hM⟩ : ∃ M, M = min 12 y.2.length := ⟨_, rfl⟩
 obtain ⟨Y, hY⟩ : ∃ Y, Y = (y.2.take 12).map (· % A) := ⟨_, rfl⟩
 have hYl : Y.length = M := by rw [hY, List.length_map, List.length_take, hM]
 refine EvC.seq ?_
 refine EvC.block ?_
 refine EvC.a ?_
 refine EvC.ownV 5 1 (by simp only [go_sem] <;> rfl) ?_
 refine EvC.seq ?_
 refine EvC.a ?_
 refine EvC.block ?_
 refine EvC.loopS (σ := Nat) (fun k => ⟨[(1, .ia [.sc (.int .u8 x.inp), .sl x.wn (x.ws.map wbR) x.wc]), (3, .tl 0 i (i == 0)), (4, .sc (.int .i64 i)), (5, .tl 1 k false), (6, .sc (.int .i64 k))], [], [(0, .arr 1 ((F.take i).map rwC) false), (1, .arr 1 ((Y.take k).map intC) true)], 2⟩) (fun k => M - k) (fun k => k ≤ M) [1, 3, 4, 5, 6] 2 ?_ ?_
 ·exact ⟨[(0, 0), (12, 1)], 0, rfl, (by simp only [go_sem, hLn, hLl, Int.natCast_zero, List.take_zero, List.map_nil] <;> rfl), Nat.zero_le _⟩
 intro k hk
 have hYn := norefs_intC (Y.take k)
 have hYk : ((Y.take k).map intC).length = k := by rw [List.length_map, List.length_take]; omega
 refine EvC.seq ?_
 by_cases hkM : k < M
 rotate_left
 ·obtain rfl : k = M := by omega
  rw [show Y.take k = Y from List.take_of_length_le (by omega)] at hYn hYk ⊢
  have hmw : rwC (x.rawOf y) = [.sl false (Y.map intC) .unk] := by rw [hY, ← ha]; rfl
  have hs : (F.take i).map rwC ++ [[.sl false (Y.map intC) .unk]] = (F.take (i + 1)).map rwC := by rw [htk, List.map_append, ← hmw]; rfl
  have hL2 := norefs_rw (F.take (i + 1))
  have hL3 : ((F.take (i + 1)).map rwC).length = i + 1 := by rw [List.length_map, List.length_take]; omega
  have hL4 : (F.take (i + 1)).length = i + 1 := by rw [List.length_take]; omega
  have hr2 : room (i + 1) 24 = true := by simp only [room_eq, decide_eq_true_eq]; omega
  have hne : (i + 1 == 0) = false := rfl
  by_cases h1 : k < y.2.length
  ·have e1 : decide ((k : Int) < y.2.length) = true := decide_eq_true (by omega)
   have e2 : decide ((k : Int) < 12) = false := decide_eq_false (by omega)
   refine EvC.g ?_ (h := by simp only [go_sem, hrg, hit, hWl, hwL, e1, e2] <;> rfl) (hok := by simp; try omega)
   refine EvC.cf ?_
   refine EvC.exit ?_
   refine EvC.frz 1 (by simp only [go_sem, hYn, hYk] <;> rfl) ?_
   refine EvC.b ?_ (by simp only [go_sem, hs, hLl, hL4, hYn] <;> rfl) (by simp [hr2])
   refine EvC.b ?_ (by simp only [go_sem, hL4] <;> rfl) (by exact inI64_of (by omega) (by omega))
   exact ⟨[(0, 0)], i + 1, rfl, (by simp only [go_sem, hL2, hL3, hL4, hne, Int.natCast_add, Int.natCast_one] <;> rfl), hiN, by omega⟩
  ·have e1 : decide ((k : Int) < y.2.length) = false := decide_eq_false (by omega)
   refine EvC.g ?_ (h := by simp only [go_sem, hrg, hit, hWl, hwL, e1] <;> rfl) (hok := by simp; try omega)
   refine EvC.cf ?_
   refine EvC.exit ?_
   refine EvC.frz 1 (by simp only [go_sem, hYn, hYk] <;> rfl) ?_
   refine EvC.b ?_ (by simp only [go_sem, hs, hLl, hL4, hYn] <;> rfl) (by simp [hr2])
   refine EvC.b ?_ (by simp only [go_sem, hL4] <;> rfl) (by exact inI64_of (by omega) (by omega))
   exact ⟨[(0, 0)], i + 1, rfl, (by simp only [go_sem, hL2, hL3, hL4, hne, Int.natCast_add, Int.natCast_one] <;> rfl), hiN, by omega⟩
 have hkw : k < y.2.length := by omega
 have e1 : decide ((k : Int) < y.2.length) = true := decide_eq_true (by omega)
 have e2 : decide ((k : Int) < 12) = true := decide_eq_true (by omega)
 refine EvC.g ?_ (h := by simp only [go_sem, hrg, hit, hWl, hwL, e1, e2] <;> rfl) (hok := by simp; try omega)
 refine EvC.cr ?_
 have hae : y.2[k]? = some (y.2[k]'hkw) := List.getElem?_eq_getElem hkw
 have ham := hwa _ (List.getElem_mem hkw)
 have hyk : Y.take (k + 1) = Y.take k ++ [(y.2[k]'hkw) % A] := by
  rw [List.take_succ_eq_append_getElem (by omega)]; simp [hY]
 generalize y.2[k]'hkw = a at hae ham hyk
 have hag : (y.2.map u8C)[k]? = some [.sc (.int .u8 a)] := by rw [List.getElem?_map, hae]; rfl
 have hkt : (k : Int).toNat = k := Int.toNat_natCast k
 have hs : (Y.take k).map intC ++ [[.sc (.int .i64 (a % A))]] = (Y.take (k + 1)).map intC := by rw [hyk, List.map_append]; rfl
 have hr2 : room (k + 1) 8 = true := by simp only [room_eq, decide_eq_true_eq]; omega
 have hY2 := norefs_intC (Y.take (k + 1))
 have hY3 : ((Y.take (k + 1)).map intC).length = k + 1 := by rw [List.length_map, List.length_take]; omega
 have hY4 : (Y.take (k + 1)).length = k + 1 := by rw [List.length_take]; omega
 have hI0 : inI64 a = true := inI64_of (by omega) (by omega)
 have hI : inI64 (a % A) = true := by
  have h1 := Int.emod_nonneg a hA1
  have h2 := Int.emod_lt_of_pos a (show 0 < A by omega)
  exact inI64_of (by omega) (by omega)
 refine EvC.seq ?_
 refine EvC.block ?_
 refine EvC.k1LD mixed ?_ (h1 := by simp only [go_sem, hrg, hit, hag, hkt, hWl, hwL] <;> rfl) (k1 := by simp [ham.1, hI0]; try omega) (c1 := .ca qa) (h2 := by simp only [go_sem, hA0, hs, hYk] <;> rfl) (k2 := by simp [hr2, hI, hI0, hA1, ham.1]; try omega)
 refine EvC.b ?_ (by simp only [go_sem, hY4] <;> rfl) (by exact inI64_of (by omega) (by omega))
 exact ⟨[(0, 0), (1, 1)], k + 1, rfl, (by simp only [go_sem, hLn, hLl, hY2, hY3, hY4, Int.natCast_add, Int.natCast_one] <;> rfl), hkM, by omega⟩
theorem of25_is {x : LW} (hx : x.Ok) (hl : (x.ws.length : Int) ≤ 140737488355328) (hwl : ∀ y ∈ x.ws, (y.2.length : Int) ≤ 140737488355328) : PureIs prog 6 [.ag x.cells] (.sl (sortW x.raw).isEmpty ((sortW x.raw).map rwC) .unk) := by
 have q1 := raw_is hx hl hwl
 have hRl : x.raw.length ≤ 40 := by rw [LW.raw, List.length_map, List.length_take]; omega
 have hRm : ∀ w ∈ x.raw, w.2.1.length ≤ 12 := fun w hw => by
  obtain ⟨y, _, rfl⟩ := List.mem_map.1 hw
  simp only [LW.rawOf, List.length_map, List.length_take]; omega
 have q2 := sort58_is x.raw.isEmpty x.raw .unk (by omega) fun w hw => by have := hRm w hw; omega
 have h1 := norefs_rw x.raw
 have h2 := norefs_rw (sortW x.raw)
 rw [LW.cells] at q1 ⊢
 generalize (sortW x.raw).map rwC = S at q2 h2 ⊢
 generalize x.raw.map rwC = R at q1 q2 h1
 refine PureIs.of1 3 [] func6 ntmps6 results6 fun _ => ?_
 refine EvC.a ?_
 refine EvC.z 0 ?_
 refine EvC.k2 ?_ (c1 := .ca q1) (c2 := .ca q2) (h3 := by simp only [go_sem, h1, h2] <;> rfl)
 refine EvC.rz ?_
 simp only [go_sem]
def LW.words (x : LW) (n : Int) : List RW := sortW (withinF n (sortW x.raw))
theorem LW.words_ok (x : LW) {n : Int} (hn : 0 < n) : SrtW (x.words n) ∧ (x.words n).length ≤ 40 ∧ ∀ w ∈ x.words n, w.2.1.length ≤ 12 ∧ ∀ a ∈ w.2.1, 0 ≤ a ∧ a < n := by
 refine ⟨sortW_srt _, ?_, fun w hw => ?_⟩
 ·have h1 := sortW_len (withinF n (sortW x.raw))
  have h2 := sortW_len x.raw
  have h3 : x.raw.length ≤ 40 := by rw [LW.raw, List.length_map, List.length_take]; omega
  rw [withinF, List.length_map] at h1
  unfold LW.words withinF; omega
 ·obtain ⟨u, hu, e⟩ := sortW_mem hw
  obtain ⟨v, hv, rfl⟩ := List.mem_map.1 hu
  obtain ⟨z, hz, e2⟩ := sortW_mem hv
  obtain ⟨y, _, rfl⟩ := List.mem_map.1 hz
  rw [e]
  simp only [modW, e2]
  refine ⟨by simp only [LW.rawOf, List.length_map, List.length_take]; omega, fun a ha => ?_⟩
  obtain ⟨b, _, rfl⟩ := List.mem_map.1 ha
  exact ⟨Int.emod_nonneg _ (by omega), Int.emod_lt_of_pos _ hn⟩
end Go.Avl
namespace Go.Proofs.YtmmcendgdcmlkaaGreatDoor
open Go Go.Avl Go.Proofs Go.ChangeShapes Go.RowKit
section
variable {H : Type} {enc : TypeId × Value → H} {w : World}
theorem rd_bytes : Reads enc Tryz.prog w 85 (fun x : Bool × List Int => [.sl x.1 (x.2.map u8C) .unk]) (fun x => (∀ e ∈ x.2, 0 ≤ e ∧ e < 256) ∧ (x.2.length : Int) ≤ 140737488355328) :=
 (Reads.slice Tryz.underlying85 rd_u8 (fun a => by rw [show Program.cellsOf Tryz.prog 5 = 1 by kernel_rfl]; rfl) (by rw [show Program.cellsOf Tryz.prog 5 = 1 by kernel_rfl]; exact Nat.succ_pos _)).mono fun a h => ⟨a, ⟨h.1, len_of (b := Program.bytesOf Tryz.prog 5) (by decide +kernel) h.2.2⟩, rfl⟩
theorem rd_wbs : Reads enc Tryz.prog w 25 (fun x : Bool × List (Bool × List Int) => [.sl x.1 (x.2.map wbR) .unk]) (fun x => (∀ y ∈ x.2, (∀ e ∈ y.2, 0 ≤ e ∧ e < 256) ∧ (y.2.length : Int) ≤ 140737488355328) ∧ (x.2.length : Int) ≤ 140737488355328) :=
 (Reads.slice Tryz.underlying25 (rd_bytes.mono (g := wbR) (Ok' := fun y => (∀ e ∈ y.2, 0 ≤ e ∧ e < 256) ∧ (y.2.length : Int) ≤ 140737488355328) fun a h => ⟨a, h, rfl⟩) (fun a => by rw [show Program.cellsOf Tryz.prog 85 = 1 by kernel_rfl]; rfl) (by rw [show Program.cellsOf Tryz.prog 85 = 1 by kernel_rfl]; exact Nat.succ_pos _)).mono fun a h => ⟨a, ⟨h.1, len_of (b := Program.bytesOf Tryz.prog 85) (by decide +kernel) h.2.2⟩, rfl⟩
theorem rd_LW : Reads enc Tryz.prog w 27 LW.cells (fun y => y.Ok ∧ (y.ws.length : Int) ≤ 140737488355328 ∧ ∀ z ∈ y.ws, (z.2.length : Int) ≤ 140737488355328) := by
 have := (Reads.struct (enc := enc) (w := w) (tot := 2) Tryz.underlying27 (by kernel_rfl) (.cons (sz := 1) rfl (by kernel_rfl) rfl rd_u8' (.cons (sz := 1) rfl (by kernel_rfl) rfl rd_wbs .nil)))
 exact this.mono fun a h => ⟨⟨a.1, a.2.1.1, a.2.1.2, .unk⟩, ⟨⟨h.1, fun y hy => (h.2.1.1 y hy).1⟩, h.2.1.2, fun y hy => (h.2.1.1 y hy).2⟩, rfl⟩
end
end Go.Proofs.YtmmcendgdcmlkaaGreatDoor
namespace Go.Avl
open Go Go.Proofs.Tryz
set_option maxRecDepth 10000
structure WsOk (n : Int) (W : List RW) : Prop where
 s : SrtW W
 l : W.length ≤ 40
 w : ∀ w ∈ W, w.2.1.length ≤ 12 ∧ ∀ a ∈ w.2.1, 0 ≤ a ∧ a < n
theorem LW.wsOk (x : LW) {n : Int} (hn : 0 < n) : WsOk n (x.words n) := by
 obtain ⟨h1, h2, h3⟩ := x.words_ok hn
 exact ⟨h1, h2, h3⟩
theorem aheadB_srt : ∀ {W : List RW}, SrtW W → aheadB W = true
 | [], _ => rfl
 | [_], _ => rfl
 | a :: b :: l, h => by
   obtain ⟨h1, h2⟩ := List.pairwise_cons.1 h
   rw [aheadB, decide_eq_true (h1 b List.mem_cons_self), aheadB_srt h2]; rfl
theorem stepsW_le {K : Nat} : ∀ {W : List RW}, (∀ w ∈ W, w.2.1.length ≤ K) → stepsW W ≤ K * W.length
 | [], _ => Nat.zero_le _
 | w :: W, h => by
   have h1 := h w List.mem_cons_self
   have h2 := stepsW_le (W := W) fun x hx => h x (List.mem_cons_of_mem _ hx)
   simp only [stepsW, List.map_cons, List.sum_cons, List.length_cons] at h2 ⊢
   rw [Nat.mul_add]; omega
theorem wordErr_ok {n : Int} {w : List Int} (hn : 1 ≤ n ∧ n ≤ 16) (hl : w.length ≤ 256) (ha : ∀ a ∈ w, 0 ≤ a ∧ a < n) : wordErr n w = 0 := by
 unfold wordErr
 rw [if_neg (by omega), if_neg]
 rintro (h | h)
 ·omega
 ·rw [List.any_eq_true] at h
  obtain ⟨a, h1, h2⟩ := h
  have := ha a h1
  simp only [Bool.or_eq_true, decide_eq_true_eq] at h2
  omega
theorem errW_ok {n : Int} : ∀ {W : List RW}, (∀ w ∈ W, wordErr n w.2.1 = 0) → errW n W = 0
 | [], _ => rfl
 | w :: W, h => by
   rw [errW, if_neg (by rw [h w List.mem_cons_self]; simp)]
   exact errW_ok fun x hx => h x (List.mem_cons_of_mem _ hx)
theorem WsOk.ready {m : Mach} (hv : Valid m) {W : List RW} (h : WsOk m.ins W) : readyE m W = 0 := by
 have hi := hv.ins
 have h1 := h.l
 have h2 := stepsW_le (K := 12) fun w hw => (h.w w hw).1
 have h3 : errW m.ins W = 0 := errW_ok fun w hw => wordErr_ok (by omega) (by have := (h.w w hw).1; omega) (h.w w hw).2
 unfold readyE
 rw [if_neg (by rw [hv.check]; simp)]
 have h4 : looseE m.ins W = 0 := by
  unfold looseE
  rw [if_neg (by omega), if_neg (by omega), h3]
 unfold triesE
 rw [if_neg (by rw [h4]; simp), if_neg (by rw [aheadB_srt h.s]; simp), if_neg (by omega)]
theorem killL_mem {m t : Mach} {k : Int} : ∀ {W : List RW} {s : Nat}, k ∈ killL m t W s ↔ ∃ i, ∃ h : i < W.length, k = ((s + i : Nat) : Int) ∧ runR m 0 W[i].2.1 ≠ runR t 0 W[i].2.1
 | [], s => by simp [killL]
 | w :: W, s => by
   have ih := killL_mem (m := m) (t := t) (k := k) (W := W) (s := s + 1)
   have hr : (∃ i, ∃ h : i < W.length, k = ((s + 1 + i : Nat) : Int) ∧ runR m 0 W[i].2.1 ≠ runR t 0 W[i].2.1) ↔ ∃ i, ∃ h : i + 1 < (w :: W).length, k = ((s + (i + 1) : Nat) : Int) ∧ runR m 0 ((w :: W)[i + 1]'h).2.1 ≠ runR t 0 ((w :: W)[i + 1]'h).2.1 := by
    constructor
    ·rintro ⟨i, h, e, d⟩; exact ⟨i, by simpa using h, by omega, d⟩
    ·rintro ⟨i, h, e, d⟩; exact ⟨i, by simpa using h, by omega, d⟩
   rw [hr] at ih
   rw [killL]
   constructor
   ·intro h
    split at h
    ·obtain ⟨i, h1, h2⟩ := ih.1 h
     exact ⟨i + 1, h1, h2⟩
    ·rename_i hd
     rcases List.mem_cons.1 h with h | h
     ·exact ⟨0, by simp, by omega, hd⟩
     ·obtain ⟨i, h1, h2⟩ := ih.1 h
      exact ⟨i + 1, h1, h2⟩
   ·rintro ⟨i, h1, h2, h3⟩
    cases i with
    | zero =>
      have h3 : runR m 0 w.2.1 ≠ runR t 0 w.2.1 := h3
      rw [if_neg h3]
      exact List.mem_cons.2 (.inl (by omega))
    | succ i =>
      have := ih.2 ⟨i, h1, h2, h3⟩
      split
      ·exact this
      ·exact List.mem_cons_of_mem _ this
theorem subB_iff {a b : List Int} : subB a b = true ↔ ∀ x ∈ a, x ∈ b := by
 unfold subB
 simp
theorem sets_getD {m : Mach} {W : List RW} {fs : List FA} {j : Nat} (h : j < fs.length) : (fs.map (killW m W)).getD j [] = killW m W fs[j] := by
 rw [List.getD_eq_getElem?_getD, List.getElem?_map, List.getElem?_eq_getElem h]; rfl
def killsB (m t : Mach) (w : RW) : Bool := !decide (runR m 0 w.2.1 = runR t 0 w.2.1)
theorem subV_plain (m : Mach) (W : List RW) (f g : FA) : subV m W f g = (W.any (killsB m (mutF m f)) && W.all fun w => !killsB m (mutF m f) w || killsB m (mutF m g) w) := by
 have h1 : decide ((0 : Int) < (killW m W f).length) = W.any (killsB m (mutF m f)) := by
  rw [Bool.eq_iff_iff, decide_eq_true_eq, List.any_eq_true]
  constructor
  ·intro h
   obtain ⟨x, hx⟩ := List.exists_mem_of_length_pos (show 0 < (killW m W f).length by omega)
   obtain ⟨i, hi, _, hd⟩ := killL_mem.1 hx
   exact ⟨W[i], List.getElem_mem hi, by simp [killsB, hd]⟩
  ·rintro ⟨w, hw, hk⟩
   obtain ⟨i, hi, rfl⟩ := List.mem_iff_getElem.1 hw
   have := List.length_pos_of_mem (killL_mem.2 ⟨i, hi, rfl, by simpa [killsB] using hk⟩ : ((0 + i : Nat) : Int) ∈ killW m W f)
   unfold killW at this ⊢
   omega
 have h2 : subB (killW m W f) (killW m W g) = W.all fun w => !killsB m (mutF m f) w || killsB m (mutF m g) w := by
  rw [Bool.eq_iff_iff, subB_iff, List.all_eq_true]
  constructor
  ·intro h w hw
   obtain ⟨i, hi, rfl⟩ := List.mem_iff_getElem.1 hw
   cases hk : killsB m (mutF m f) W[i]
   ·rfl
   ·have := h _ (killL_mem.2 ⟨i, hi, rfl, by simpa [killsB] using hk⟩)
    obtain ⟨j, hj, e, hd⟩ := killL_mem.1 this
    obtain rfl : i = j := by omega
    simp [killsB, hd]
  ·intro h x hx
   obtain ⟨i, hi, e, hd⟩ := killL_mem.1 hx
   have := h _ (List.getElem_mem hi)
   rw [show killsB m (mutF m f) W[i] = true by simp [killsB, hd]] at this
   exact killL_mem.2 ⟨i, hi, e, by simpa [killsB] using this⟩
 rw [subV, h1, h2]
set_option maxHeartbeats 4000000 in
theorem refSub_is {m : Mach} (hv : Valid m) (wn : Bool) (W : List RW) (wc : Cp) (f g : FA) (hf : faultB m f = true) (hg : faultB m g = true) (vf : Valid (mutF m f)) (vg : Valid (mutF m g)) (hW : ∀ w ∈ W, ∀ x ∈ w.2.1, 0 ≤ x ∧ x < m.ins) (hl : ∀ w ∈ W, w.2.1.length < 1000000) (hn : W.length < 1000000) :
  PureIs prog 12 [.ag m.cells, .sl wn (W.map rwC) wc, .ag f.cells, .ag g.cells] (.sc (.bool (subV m W f g))) := by
 have q1 := refKilled_is hv f hf vf wn W wc hW hl hn
 have q2 := refKilled_is hv g hg vg wn W wc hW hl hn
 have hWn := norefs_rw W
 have hWl : (W.map rwC).length = W.length := List.length_map _
 have hA : ∀ t k (h : k < W.length), ((killedL m t W).map boolC)[k]? = some [.sc (.bool (killsB m t W[k]))] := fun t k h => by
  rw [killedL, List.map_map, List.getElem?_map, List.getElem?_eq_getElem h]; rfl
 have hL : ∀ t, ((killedL m t W).map boolC).length = W.length := fun t => by simp [killedL]
 have hA1 := hA (mutF m f)
 have hA2 := hA (mutF m g)
 have hL1 := hL (mutF m f)
 have hL2 := hL (mutF m g)
 have hN1 := norefs_bools (killedL m (mutF m f) W)
 have hN2 := norefs_bools (killedL m (mutF m g) W)
 clear hA hL
 generalize (killedL m (mutF m f) W).map boolC = A at q1 hA1 hL1 hN1
 generalize (killedL m (mutF m g) W).map boolC = B at q2 hA2 hL2 hN2
 rw [subV_plain]
 generalize killsB m (mutF m f) = p at hA1 ⊢
 generalize killsB m (mutF m g) = q at hA2 ⊢
 simp only [FA.cells, Mach.cells] at q1 q2
 refine PureIs.of1 5 [6, 7, 8, 9, 10, 11, 12, 24, 37] func12 ntmps12 results12 fun _ => ?_
 refine EvC.a ?_ (by simp only [go_sem, Mach.cells, FA.cells] <;> rfl)
 refine EvC.z 0 ?_
 refine EvC.z 1 ?_
 refine EvC.z 2 ?_
 refine EvC.k1 ?_ (h1 := by simp only [go_sem, hWn] <;> rfl) (c1 := .ca q1) (h2 := by simp only [go_sem, hWn, hN1] <;> rfl) (k2 := by simp [hN1])
 refine EvC.k1 ?_ (h1 := by simp only [go_sem, hWn, hN1] <;> rfl) (c1 := .ca q2) (h2 := by simp only [go_sem, hWn, hN1, hN2] <;> rfl) (k2 := by simp [hN2])
 refine EvC.a ?_ (by simp only [go_sem, hWn, hN1, hN2] <;> rfl)
 refine EvC.seq ?_
 refine EvC.a ?_ (by simp only [go_sem, hWn, hN1, hN2] <;> rfl)
 refine EvC.block ?_
 refine EvC.loopS (σ := Nat) (fun i => ⟨[(1, .sl wn (W.map rwC) wc), (9, .sl W.isEmpty A .unk), (10, .sl W.isEmpty B .unk), (11, .sc (.bool ((W.take i).any p))), (12, .sc (.int .i64 i))], [], [], 0⟩) (fun i => W.length - i) (fun i => i ≤ W.length ∧ (W.take i).all (fun w => !p w || q w) = true) [1, 9, 10, 11, 12] 0 ?_ ?_
 ·exact ⟨[], 0, rfl, (by simp only [go_sem, Int.natCast_zero, List.take_zero, List.any_nil, hWn, hN1, hN2] <;> rfl), Nat.zero_le _, rfl⟩
 rintro i ⟨h1, h2⟩
 obtain ⟨s, hs⟩ : ∃ s, s = (W.take i).any p := ⟨_, rfl⟩
 rw [← hs]
 refine EvC.seq ?_
 refine EvC.a ?_ (by simp only [go_sem, hWl, hWn, hN1, hN2] <;> rfl)
 refine EvC.cond (by simp only [go_sem] <;> rfl) (fun hc => ?_) (fun hc => ?_)
 rotate_left
 ·refine EvC.exit ?_
  obtain rfl : i = W.length := by have : ¬ i < W.length := (by simpa using hc); omega
  rw [List.take_length] at h2 hs
  rw [h2, ← hs, Bool.and_true]
  refine EvC.a ?_
  refine EvC.rz ?_
  simp only [go_sem]
 have hil : i < W.length := by simpa using hc
 clear hc
 have htk : W.take (i + 1) = W.take i ++ [W[i]] := List.take_succ_eq_append_getElem hil
 have hwm := List.getElem_mem hil
 have e1 := hA1 i hil
 have e2 := hA2 i hil
 generalize W[i] = w at htk e1 e2 hwm
 have hit : (i : Int).toNat = i := Int.toNat_natCast i
 refine EvC.skip ?_
 refine EvC.seq ?_
 refine EvC.block ?_
 refine EvC.seq ?_
 cases hp : p w with
 | true =>
   rw [hp] at e1
   cases hq : q w with
   | false =>
     rw [hq] at e2
     have hR : (W.all fun w => !p w || q w) = false := List.all_eq_false.2 ⟨w, hwm, by rw [hp, hq]; simp⟩
     rw [hR, Bool.and_false]
     refine EvC.g ?_ (h := by simp only [go_sem, e1, e2, hit, hL1, hL2, hWl] <;> rfl) (hok := by simp; try omega)
     refine EvC.ct ?_
     refine EvC.a ?_
     refine EvC.rz ?_
     simp only [go_sem]
   | true =>
     rw [hq] at e2
     refine EvC.g ?_ (h := by simp only [go_sem, e1, e2, hit, hL1, hL2, hWl] <;> rfl) (hok := by simp; try omega)
     refine EvC.cs ?_
     have hs' : (W.take (i + 1)).any p = true := by rw [htk, List.any_append, List.any_cons, hp]; simp
     cases hsb : s with
     | true =>
       refine EvC.gL ?_ (h := by simp only [go_sem, e1, hit, hL1] <;> rfl) (hok := by simp; try omega)
       refine EvC.b ?_ (hok := by exact inI64_of (by omega) (by omega))
       exact ⟨[], i + 1, rfl, (by rw [hs']; simp only [go_sem, Int.natCast_add, Int.natCast_one, hWn, hN1, hN2] <;> rfl), ⟨hil, by rw [htk, List.all_append, h2, List.all_cons, hp, hq]; rfl⟩, by omega⟩
     | false =>
       refine EvC.gL ?_ (h := by simp only [go_sem, e1, hit, hL1] <;> rfl) (hok := by simp; try omega)
       refine EvC.b ?_ (hok := by exact inI64_of (by omega) (by omega))
       exact ⟨[], i + 1, rfl, (by rw [hs']; simp only [go_sem, Int.natCast_add, Int.natCast_one, hWn, hN1, hN2] <;> rfl), ⟨hil, by rw [htk, List.all_append, h2, List.all_cons, hp, hq]; rfl⟩, by omega⟩
 | false =>
   rw [hp] at e1
   have hs' : (W.take (i + 1)).any p = s := by rw [htk, List.any_append, List.any_cons, hp, ← hs]; simp
   have h2' : (W.take (i + 1)).all (fun w => !p w || q w) = true := by rw [htk, List.all_append, h2, List.all_cons, hp]; rfl
   refine EvC.g ?_ (h := by simp only [go_sem, e1, e2, hit, hL1, hL2, hWl] <;> rfl) (hok := by simp; try omega)
   refine EvC.cs ?_
   cases hsb : s with
   | true =>
     rw [hsb] at hs'
     refine EvC.gL ?_ (h := by simp only [go_sem, e1, hit, hL1] <;> rfl) (hok := by simp; try omega)
     refine EvC.b ?_ (hok := by exact inI64_of (by omega) (by omega))
     exact ⟨[], i + 1, rfl, (by rw [hs']; simp only [go_sem, Int.natCast_add, Int.natCast_one, hWn, hN1, hN2] <;> rfl), ⟨hil, h2'⟩, by omega⟩
   | false =>
     rw [hsb] at hs'
     refine EvC.gL ?_ (h := by simp only [go_sem, e1, hit, hL1] <;> rfl) (hok := by simp; try omega)
     refine EvC.b ?_ (hok := by exact inI64_of (by omega) (by omega))
     exact ⟨[], i + 1, rfl, (by rw [hs']; simp only [go_sem, Int.natCast_add, Int.natCast_one, hWn, hN1, hN2] <;> rfl), ⟨hil, h2'⟩, by omega⟩
def badR (m : Mach) (W : List RW) (fs : List FA) (f : FA) (i k : Nat) : Bool :=
 subV m W (fs.getD k ⟨0, 0, 0, 0, 0, 0⟩) f && (!subV m W f (fs.getD k ⟨0, 0, 0, 0, 0, 0⟩) || decide (k < i))
theorem keep_ref {m : Mach} {W : List RW} {fs : List FA} {i : Nat} (hi : i < fs.length) : keepB (fs.map (killW m W)) i = (subV m W fs[i] fs[i] && !(List.range fs.length).any (badR m W fs fs[i] i)) := by
 have hs : subV m W fs[i] fs[i] = decide ((0 : Int) < (killW m W fs[i]).length) := by
  unfold subV
  rw [subB_iff.2 fun x hx => hx, Bool.and_true]
 unfold keepB
 rw [sets_getD hi, hs, List.length_map]
 by_cases h0 : (killW m W fs[i]).length = 0
 ·rw [decide_eq_true h0, decide_eq_false (by omega)]; rfl
 rw [decide_eq_false h0, decide_eq_true (show (0 : Int) < (killW m W fs[i]).length by omega)]
 have hpos : decide ((0 : Int) < (killW m W fs[i]).length) = true := decide_eq_true (by omega)
 have hkey : ∀ k, k < fs.length → badB (fs.map (killW m W)) i k = badR m W fs fs[i] i k := fun k hk => by
  have hg : fs.getD k ⟨0, 0, 0, 0, 0, 0⟩ = fs[k] := by rw [List.getD_eq_getElem?_getD, List.getElem?_eq_getElem hk]; rfl
  unfold badB badR
  rw [sets_getD hi, sets_getD hk, hg]
  unfold subV
  rw [hpos, Bool.true_and]
  by_cases e : k = i
  ·subst e
   rw [subB_iff.2 fun x hx => hx]
   simp
  ·rw [decide_eq_false e]
   generalize decide ((0 : Int) < (killW m W fs[k]).length) = a
   generalize subB (killW m W fs[k]) (killW m W fs[i]) = b
   generalize subB (killW m W fs[i]) (killW m W fs[k]) = c
   generalize decide (k < i) = d
   cases a <;> cases b <;> cases c <;> cases d <;> rfl
 have hany : (List.range fs.length).any (badB (fs.map (killW m W)) i) = (List.range fs.length).any (badR m W fs fs[i] i) := by
  rw [Bool.eq_iff_iff, List.any_eq_true, List.any_eq_true]
  constructor
  ·rintro ⟨k, hk, h⟩; exact ⟨k, hk, by rw [← hkey k (List.mem_range.1 hk)]; exact h⟩
  ·rintro ⟨k, hk, h⟩; exact ⟨k, hk, by rw [hkey k (List.mem_range.1 hk)]; exact h⟩
 rw [hany]; rfl
theorem any_range_succ (p : Nat → Bool) (k : Nat) : (List.range (k + 1)).any p = ((List.range k).any p || p k) := by
 rw [List.range_succ, List.any_append]; simp
set_option maxHeartbeats 8000000 in
theorem refLeast_is {m : Mach} (wn : Bool) (W : List RW) (wc : Cp) (fn : Bool) (fs : List FA) (fc : Cp) (hfl : fs.length < 1000000)
  (hs : ∀ f ∈ fs, ∀ g ∈ fs, PureIs prog 12 [.ag m.cells, .sl wn (W.map rwC) wc, .ag f.cells, .ag g.cells] (.sc (.bool (subV m W f g)))) :
  PureIs prog 10 [.ag m.cells, .sl wn (W.map rwC) wc, .sl fn (fs.map FA.cells) fc] (.sl (leastL (fs.map (killW m W))).isEmpty ((leastL (fs.map (killW m W))).map intC) .unk) := by
 have hWn := norefs_rw W
 have hFn := fas_norefs2 fs
 have hFl : (fs.map FA.cells).length = fs.length := List.length_map _
 obtain ⟨S, hS⟩ : ∃ S, S = fs.map (killW m W) := ⟨_, rfl⟩
 have hSl : S.length = fs.length := by rw [hS, List.length_map]
 have hke : ∀ i (hi : i < fs.length), keepB S i = (subV m W fs[i] fs[i] && !(List.range fs.length).any (badR m W fs fs[i] i)) := fun i hi => by rw [hS]; exact keep_ref hi
 rw [← hS]
 have hend : leastL S = leastTo S fs.length := by unfold leastL leastTo; rw [hSl]
 rw [hend]
 refine PureIs.of1 4 [6, 7, 8, 9, 10, 14, 31, 63, 64] func10 ntmps10 results10 fun _ => ?_
 refine EvC.a ?_ (by simp only [go_sem, Mach.cells] <;> rfl)
 refine EvC.z 0 ?_
 refine EvC.a ?_
 refine EvC.seq ?_
 refine EvC.a ?_
 refine EvC.block ?_
 refine EvC.loopS (σ := Nat) (fun i => ⟨[(1, .sl wn (W.map rwC) wc), (2, .sl fn (fs.map FA.cells) fc), (3, .ia m.cells), (7, .tl 0 (leastTo S i).length (leastTo S i).isEmpty), (8, .sc (.int .i64 i))], [], [(0, .arr 1 ((leastTo S i).map intC) true)], 1⟩) (fun i => fs.length - i) (fun i => i ≤ fs.length) [1, 2, 3, 7, 8] 1 ?_ ?_
 ·have hz : leastTo S 0 = [] := by simp [leastTo]
  exact ⟨[(2, 0)], 0, rfl, (by rw [hz]; simp only [go_sem, Mach.cells, Int.natCast_zero, List.map_nil, List.length_nil, List.isEmpty_nil, hWn, hFn] <;> rfl), Nat.zero_le _⟩
 intro i hi
 have hTl := leastTo_len S i
 have hTn := norefs_intC (leastTo S i)
 have hTc : ((leastTo S i).map intC).length = (leastTo S i).length := List.length_map _
 have hTs := leastTo_succ S i
 refine EvC.seq ?_
 refine EvC.a ?_ (by simp only [go_sem, hFl] <;> rfl)
 refine EvC.cond (by simp only [go_sem] <;> rfl) (fun hc => ?_) (fun hc => ?_)
 rotate_left
 ·refine EvC.exit ?_
  obtain rfl : i = fs.length := by have : ¬ i < fs.length := (by simpa using hc); omega
  generalize (leastTo S fs.length).isEmpty = e
  generalize (leastTo S fs.length).map intC = T at hTn hTc ⊢
  refine EvC.frz 0 (by simp only [go_sem, hTn, hTc] <;> rfl) ?_
  refine EvC.a ?_
  refine EvC.rz ?_
  simp only [go_sem]
 have hil : i < fs.length := by simpa using hc
 clear hc
 have hk1 := hke i hil
 have he : fs[i]? = some (fs[i]'hil) := List.getElem?_eq_getElem hil
 have hfm := List.getElem_mem hil
 have hsi := fun g hg => hs (fs[i]'hil) hfm g hg
 have hsj := fun g hg => hs g hg (fs[i]'hil) hfm
 have hself := hsi _ hfm
 generalize hfi : fs[i]'hil = f at he hk1 hsi hsj hself
 have hfc : (fs.map FA.cells)[i]? = some f.cells := by rw [List.getElem?_map, he]; rfl
 have hit : (i : Int).toNat = i := Int.toNat_natCast i
 generalize leastTo S i = T at hTl hTn hTc hTs ⊢
 generalize subV m W f f = b0 at hk1 hself
 rw [FA.cells] at hfc
 simp only [FA.cells, Mach.cells] at hself
 refine EvC.skip ?_
 refine EvC.seq ?_
 refine EvC.block ?_
 refine EvC.k1D mixed ?_ (h1 := by simp only [go_sem, hfc, hit, hFl, hWn, hTn, hTc, Mach.cells] <;> rfl) (k1 := by simp; try omega) (c1 := .ca hself) (h2 := by simp only [go_sem, hWn, hTn, hTc] <;> rfl)
 refine EvC.seq ?_
 refine EvC.a ?_ (by simp only [go_sem, hWn, hTn, hTc] <;> rfl)
 refine EvC.block ?_
 refine EvC.loopS (σ := Nat) (fun k => ⟨[(1, .sl wn (W.map rwC) wc), (2, .sl fn (fs.map FA.cells) fc), (3, .ia [.sc (.int .i64 m.ins), .sc (.int .i64 m.outs), .sl m.nl (m.rows.map rowC) .unk]), (7, .tl 0 T.length T.isEmpty), (8, .sc (.int .i64 i)), (9, .sc (.bool (b0 && !(List.range k).any (badR m W fs f i)))), (10, .sc (.int .i64 k))], [], [(0, .arr 1 (T.map intC) true)], 1⟩) (fun k => fs.length - k) (fun k => k ≤ fs.length) [1, 2, 3, 7, 8, 9, 10] 1 ?_ ?_
 ·exact ⟨[(0, 0)], 0, rfl, (by rw [show (List.range 0).any (badR m W fs f i) = false from rfl]; simp only [go_sem, Int.natCast_zero, hWn, hFn, hTn, hTc, Bool.not_false, Bool.and_true] <;> rfl), Nat.zero_le _⟩
 intro k hk
 have hstep := any_range_succ (badR m W fs f i) k
 obtain ⟨a, ha⟩ : ∃ a, a = (List.range k).any (badR m W fs f i) := ⟨_, rfl⟩
 rw [← ha] at hstep ⊢
 refine EvC.seq ?_
 refine EvC.a ?_ (by simp only [go_sem, hFl, hWn, hTn, hTc] <;> rfl)
 refine EvC.cond (by simp only [go_sem] <;> rfl) (fun hc => ?_) (fun hc => ?_)
 rotate_left
 ·refine EvC.exit ?_
  obtain rfl : k = fs.length := by have : ¬ k < fs.length := (by simpa using hc); omega
  rw [← ha] at hk1
  rw [hk1] at hTs
  cases hc : (b0 && !a) with
  | false =>
    rw [hc, if_neg (by simp), List.append_nil] at hTs
    refine EvC.a ?_
    refine EvC.cs ?_
    refine EvC.b ?_ (hok := by exact inI64_of (by omega) (by omega))
    exact ⟨[(0, 0)], i + 1, rfl, (by rw [hTs]; simp only [go_sem, Mach.cells, Int.natCast_add, Int.natCast_one, hWn, hFn, hTn, hTc] <;> rfl), hil, by omega⟩
  | true =>
    rw [hc, if_pos rfl] at hTs
    have hs2 : T.map intC ++ [[.sc (.int .i64 (i : Int))]] = (leastTo S (i + 1)).map intC := by rw [hTs, List.map_append]; rfl
    have hl2 : T.length + 1 = (leastTo S (i + 1)).length := by rw [hTs]; simp
    have hn2 : (leastTo S (i + 1)).isEmpty = false := by rw [hTs]; simp
    have hr2 : room (leastTo S (i + 1)).length 8 = true := by simp only [room_eq, decide_eq_true_eq]; omega
    have hT2 := norefs_intC (leastTo S (i + 1))
    have hT3 : ((leastTo S (i + 1)).map intC).length = (leastTo S (i + 1)).length := List.length_map _
    refine EvC.a ?_
    refine EvC.ct ?_
    refine EvC.b ?_ (by simp only [go_sem, hs2, hl2, hTc] <;> rfl) (by simp [hr2])
    refine EvC.b ?_ (hok := by exact inI64_of (by omega) (by omega))
    exact ⟨[(0, 0)], i + 1, rfl, (by rw [hn2]; simp only [go_sem, Mach.cells, Int.natCast_add, Int.natCast_one, hWn, hFn, hT2, hT3] <;> rfl), hil, by omega⟩
 have hkl : k < fs.length := by simpa using hc
 clear hc
 have hge : fs[k]? = some (fs[k]'hkl) := List.getElem?_eq_getElem hkl
 have hgm := List.getElem_mem hkl
 have hgd : fs.getD k ⟨0, 0, 0, 0, 0, 0⟩ = fs[k]'hkl := by rw [List.getD_eq_getElem?_getD, hge]; rfl
 have p1 := hsj _ hgm
 have p2 := hsi _ hgm
 have hbd : badR m W fs f i k = (subV m W (fs[k]'hkl) f && (!subV m W f (fs[k]'hkl) || decide (k < i))) := by unfold badR; rw [hgd]
 rw [hbd] at hstep
 generalize fs[k]'hkl = g at hge p1 p2 hstep
 have hgc : (fs.map FA.cells)[k]? = some g.cells := by rw [List.getElem?_map, hge]; rfl
 have hkt : (k : Int).toNat = k := Int.toNat_natCast k
 rw [FA.cells] at hgc
 simp only [FA.cells, Mach.cells] at p1 p2
 generalize subV m W g f = b1 at p1 hstep
 generalize subV m W f g = b2 at p2 hstep
 refine EvC.skip ?_
 refine EvC.seq ?_
 refine EvC.block ?_
 cases b1 with
 | false =>
   have hstep : (List.range (k + 1)).any (badR m W fs f i) = a := by rw [hstep]; simp
   apply EvC.seq
   apply EvC.drw mixed
   ·apply Tr.run
    ·simp only [go_sem, hfc, hgc, hit, hkt, hFl, hWn, hTn, hTc] <;> rfl
    ·simp; try omega
    apply Tr.cons
    ·exact .ca (p1)
    apply Tr.run
    ·simp only [go_sem, hfc, hgc, hit, hkt, hFl, hWn, hTn, hTc] <;> rfl
    ·simp; try omega
    apply Tr.cons
    ·exact .skipv (.sc (.bool false)) rfl rfl (by simp only [go_sem] <;> rfl) (by simp only [go_sem] <;> rfl)
    apply Tr.done
    ·simp only [go_sem, hfc, hgc, hit, hkt, hFl, hWn, hTn, hTc] <;> rfl
    ·simp; try omega
   ·kernel_rfl
   refine EvC.cs ?_
   refine EvC.b ?_ (hok := by exact inI64_of (by omega) (by omega))
   exact ⟨[(0, 0)], k + 1, rfl, (by rw [hstep]; simp only [go_sem, Int.natCast_add, Int.natCast_one, hWn, hFn, hTn, hTc] <;> rfl), hkl, by omega⟩
 | true =>
   cases b2 with
   | false =>
     have hstep : (b0 && !(List.range (k + 1)).any (badR m W fs f i)) = false := by rw [hstep]; simp
     refine EvC.k2D mixed ?_ (h1 := by simp only [go_sem, hfc, hgc, hit, hkt, hFl, hWn, hTn, hTc] <;> rfl) (k1 := by simp; try omega) (c1 := .ca p1) (h2 := by simp only [go_sem, hfc, hgc, hit, hkt, hFl, hWn, hTn, hTc] <;> rfl) (k2 := by simp; try omega) (c2 := .cg p2) (h3 := by simp only [go_sem, hfc, hgc, hit, hkt, hFl, hWn, hTn, hTc] <;> rfl) (k3 := by simp; try omega)
     refine EvC.ct ?_
     refine EvC.b ?_
     refine EvC.b ?_ (hok := by exact inI64_of (by omega) (by omega))
     exact ⟨[(0, 0)], k + 1, rfl, (by rw [hstep]; simp only [go_sem, Int.natCast_add, Int.natCast_one, hWn, hFn, hTn, hTc] <;> rfl), hkl, by omega⟩
   | true =>
     by_cases hki : k < i
     ·have hd : decide ((k : Int) < i) = true := decide_eq_true (by omega)
      have hstep : (b0 && !(List.range (k + 1)).any (badR m W fs f i)) = false := by rw [hstep, decide_eq_true hki]; simp
      refine EvC.k2D mixed ?_ (h1 := by simp only [go_sem, hfc, hgc, hit, hkt, hFl, hWn, hTn, hTc, hd] <;> rfl) (k1 := by simp; try omega) (c1 := .ca p1) (h2 := by simp only [go_sem, hfc, hgc, hit, hkt, hFl, hWn, hTn, hTc, hd] <;> rfl) (k2 := by simp; try omega) (c2 := .cg p2) (h3 := by simp only [go_sem, hfc, hgc, hit, hkt, hFl, hWn, hTn, hTc, hd] <;> rfl) (k3 := by simp; try omega)
      refine EvC.ct ?_
      refine EvC.b ?_
      refine EvC.b ?_ (hok := by exact inI64_of (by omega) (by omega))
      exact ⟨[(0, 0)], k + 1, rfl, (by rw [hstep]; simp only [go_sem, Int.natCast_add, Int.natCast_one, hWn, hFn, hTn, hTc] <;> rfl), hkl, by omega⟩
     ·have hd : decide ((k : Int) < i) = false := decide_eq_false (by omega)
      have hstep : (List.range (k + 1)).any (badR m W fs f i) = a := by rw [hstep, decide_eq_false hki]; simp
      refine EvC.k2D mixed ?_ (h1 := by simp only [go_sem, hfc, hgc, hit, hkt, hFl, hWn, hTn, hTc, hd] <;> rfl) (k1 := by simp; try omega) (c1 := .ca p1) (h2 := by simp only [go_sem, hfc, hgc, hit, hkt, hFl, hWn, hTn, hTc, hd] <;> rfl) (k2 := by simp; try omega) (c2 := .cg p2) (h3 := by simp only [go_sem, hfc, hgc, hit, hkt, hFl, hWn, hTn, hTc, hd] <;> rfl) (k3 := by simp; try omega)
      refine EvC.cs ?_
      refine EvC.b ?_ (hok := by exact inI64_of (by omega) (by omega))
      exact ⟨[(0, 0)], k + 1, rfl, (by rw [hstep]; simp only [go_sem, Int.natCast_add, Int.natCast_one, hWn, hFn, hTn, hTc] <;> rfl), hkl, by omega⟩
end Go.Avl
