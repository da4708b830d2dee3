/-
  Lemmas.
-/
import Derived.Test.YtmmcendgdcmlkaaDoorPart8
set_option linter.unusedSimpArgs false
set_option linter.unusedVariables false
set_option linter.unnecessarySimpa false
set_option linter.deprecated false
namespace Go.Avl
open Go Go.Proofs.Tryd
set_option maxRecDepth 10000
def stepsW (W : List RW) : Nat := (W.map fun w => w.2.1.length).sum
def aheadB : List RW → Bool
 | [] => true
 | [_] => true
 | a :: b :: l => decide (cmpL a.2.1 b.2.1 < 0) && aheadB (b :: l)
def errW (n : Int) : List RW → Int
 | [] => 0
 | w :: W => if wordErr n w.2.1 ≠ 0 then wordErr n w.2.1 else errW n W
def looseE (n : Int) (W : List RW) : Int := if 16 < n ∨ 4096 < (W.length : Int) then 3 else if n < 1 then 1 else errW n W
def triesE (n : Int) (W : List RW) : Int := if looseE n W ≠ 0 then looseE n W else if aheadB W = false then 1 else if 65536 < (stepsW W : Int) then 3 else 0
def readyE (m : Mach) (W : List RW) : Int := if checkM m ≠ 0 then checkM m else triesE m.ins W
theorem rw_get {W : List RW} {i : Nat} {w : RW} (h : W[i]? = some w) : (W.map rwC)[i]? = some [.sl w.1 (w.2.1.map intC) w.2.2] := by rw [List.getElem?_map, h]; rfl
theorem loose_is (wn : Bool) (W : List RW) (wc : Cp) (n : Int) (hW : ∀ w ∈ W, w.2.1.length < 1000000) (hWl : W.length < 1000000) :
  PureIs prog 108 [.sl wn (W.map rwC) wc, .sc (.int .i64 n)] (.sc (.int .i64 (looseE n W))) := by
 have hWn := norefs_rw W
 have hl : (W.map rwC).length = W.length := List.length_map _
 refine PureIs.of1 2 [4, 6, 7, 14, 16, 17, 18, 19, 20, 27] func108 ntmps108 results108 fun _ => ?_
 refine EvC.a ?_
 refine EvC.seq ?_
 by_cases c1 : 16 < n
 ·rw [show looseE n W = 3 by unfold looseE; rw [if_pos (.inl c1)]]
  refine EvC.g ?_ (h := by simp only [go_sem, decide_eq_true c1, hl] <;> rfl)
  refine EvC.ct ?_
  refine EvC.a ?_
  refine EvC.rz ?_
  simp only [go_sem]
 by_cases c2 : 4096 < (W.length : Int)
 ·rw [show looseE n W = 3 by unfold looseE; rw [if_pos (.inr c2)]]
  refine EvC.g ?_ (h := by simp only [go_sem, decide_eq_false c1, decide_eq_true c2, hl] <;> rfl)
  refine EvC.ct ?_
  refine EvC.a ?_
  refine EvC.rz ?_
  simp only [go_sem]
 refine EvC.g ?_ (h := by simp only [go_sem, decide_eq_false c1, decide_eq_false c2, hl] <;> rfl)
 refine EvC.cs ?_
 refine EvC.seq ?_
 refine EvC.a ?_
 by_cases c3 : n < 1
 ·rw [show looseE n W = 1 by unfold looseE; rw [if_neg (fun h => h.elim c1 c2), if_pos c3]]
  refine EvC.ct ?_ (by simp only [go_sem, decide_eq_true c3] <;> rfl)
  refine EvC.a ?_
  refine EvC.rz ?_
  simp only [go_sem]
 rw [show looseE n W = errW n W by unfold looseE; rw [if_neg (fun h => h.elim c1 c2), if_neg c3]]
 refine EvC.cs ?_ (by simp only [go_sem, decide_eq_false c3] <;> rfl)
 refine EvC.seq ?_
 refine EvC.a ?_ (by simp only [go_sem, hl] <;> rfl)
 refine EvC.block ?_
 refine EvC.loopS (σ := Nat) (fun i => ⟨[(1, .sc (.int .i64 n)), (17, .sl wn (W.map rwC) wc), (18, .sc (.int .i64 W.length)), (19, .sc (.int .i64 i))], [], [], 0⟩) (fun i => W.length - i) (fun i => i ≤ W.length ∧ errW n W = errW n (W.drop i)) [1, 17, 18, 19] 0 ?_ ?_
 ·exact ⟨[], 0, rfl, (by simp only [go_sem, Int.natCast_zero] <;> rfl), Nat.zero_le _, rfl⟩
 rintro i ⟨i1, i2⟩
 refine EvC.a ?_
 refine EvC.seq ?_
 refine EvC.cond (by simp only [go_sem] <;> rfl) (fun hc => ?_) (fun hc => ?_)
 rotate_left
 ·refine EvC.exit ?_
  have hi : ¬ i < W.length := by simpa using hc
  rw [List.drop_of_length_le (by omega), errW] at i2
  rw [i2]
  refine EvC.a ?_
  refine EvC.rz ?_
  simp only [go_sem]
 have hil : i < W.length := by simpa using hc
 clear hc
 have hge := List.getElem?_eq_getElem hil
 have hwm := List.getElem_mem hil
 have hdr : W.drop i = W[i] :: W.drop (i + 1) := List.drop_eq_getElem_cons hil
 generalize W[i] = w at hge hwm hdr
 have hwg := rw_get hge
 have hit : (i : Int).toNat = i := Int.toNat_natCast i
 rw [hdr, errW] at i2
 refine EvC.skip ?_
 refine EvC.seq ?_
 refine EvC.block ?_
 refine EvC.a ?_ (by simp only [go_sem, hwg, hit, hl] <;> rfl) (by simp; try omega)
 refine EvC.k1 ?_ (c1 := .ca (wordCheck_is w.1 w.2.1 w.2.2 n (hW w hwm)))
 refine EvC.a ?_
 by_cases he : wordErr n w.2.1 = 0
 ·rw [if_neg (fun h => h he)] at i2
  refine EvC.cs ?_ (by simp only [go_sem, decide_eq_true he] <;> rfl)
  refine EvC.b ?_ (hok := by exact inI64_of (by omega) (by omega))
  exact ⟨[], i + 1, rfl, (by simp only [go_sem, Int.natCast_add, Int.natCast_one] <;> rfl), ⟨hil, i2⟩, by omega⟩
 ·rw [if_pos he] at i2
  refine EvC.ct ?_ (by simp only [go_sem, decide_eq_false he] <;> rfl)
  rw [i2]
  refine EvC.a ?_
  refine EvC.rz ?_
  simp only [go_sem]
theorem aheadB_drop {W : List RW} {i : Nat} (h : i + 1 < W.length) : aheadB (W.drop i) = (decide (cmpL (W[i]'(by omega)).2.1 (W[i + 1]).2.1 < 0) && aheadB (W.drop (i + 1))) := by
 rw [List.drop_eq_getElem_cons (show i < W.length by omega), List.drop_eq_getElem_cons h, aheadB]
theorem ahead_is (wn : Bool) (W : List RW) (wc : Cp) (hW : ∀ w ∈ W, w.2.1.length < 1000000) (hWl : W.length < 1000000) :
  PureIs prog 109 [.sl wn (W.map rwC) wc] (.sc (.bool (aheadB W))) := by
 have hWn := norefs_rw W
 have hl : (W.map rwC).length = W.length := List.length_map _
 refine PureIs.of1 1 [2, 3, 7, 20] func109 ntmps109 results109 fun _ => ?_
 refine EvC.a ?_
 refine EvC.seq ?_
 refine EvC.a ?_
 refine EvC.block ?_
 refine EvC.loopS (σ := Nat) (fun i => ⟨[(0, .sl wn (W.map rwC) wc), (3, .sc (.int .i64 ((i + 1 : Nat) : Int)))], [], [], 0⟩) (fun i => W.length - i) (fun i => (i < W.length ∨ i = 0) ∧ aheadB W = aheadB (W.drop i)) [0, 3] 0 ?_ ?_
 ·exact ⟨[], 0, rfl, (by simp only [go_sem, show ((0 + 1 : Nat) : Int) = 1 from rfl] <;> rfl), .inr rfl, rfl⟩
 rintro i ⟨i1, i2⟩
 obtain ⟨iZ, hiZ⟩ : ∃ z : Int, z = ((i + 1 : Nat) : Int) := ⟨_, rfl⟩
 rw [← hiZ]
 refine EvC.seq ?_
 refine EvC.a ?_ (by simp only [go_sem, hl] <;> rfl)
 by_cases hil : i + 1 < W.length
 rotate_left
 ·refine EvC.cf ?_ (by simp only [go_sem, decide_eq_false (show ¬ iZ < (W.length : Int) by omega)] <;> rfl)
  refine EvC.exit ?_
  have : aheadB (W.drop i) = true := by
   have hd : (W.drop i).length ≤ 1 := by rw [List.length_drop]; omega
   match W.drop i, hd with
   | [], _ => rfl
   | [_], _ => rfl
  rw [i2, this]
  refine EvC.a ?_
  refine EvC.rz ?_
  simp only [go_sem]
 rw [aheadB_drop hil] at i2
 have hga := List.getElem?_eq_getElem (show i < W.length by omega)
 have hgb := List.getElem?_eq_getElem hil
 have ham := hW _ (List.getElem_mem (show i < W.length by omega))
 generalize W[i]'(by omega) = a at hga i2 ham
 generalize W[i + 1] = b at hgb i2
 have hag := rw_get hga
 have hbg := rw_get hgb
 have h1 : (iZ - 1).toNat = i := by omega
 have h2 : iZ.toNat = i + 1 := by omega
 have hI : inI64 (iZ - 1) = true := inI64_of (by omega) (by omega)
 have hb : 1 ≤ iZ ∧ i < W.length ∧ 0 ≤ iZ := by omega
 have q := wCompare_is a.1 a.2.1 a.2.2 b.1 b.2.1 b.2.2 ham
 refine EvC.cr ?_ (by simp only [go_sem, decide_eq_true (show iZ < (W.length : Int) by omega)] <;> rfl)
 refine EvC.seq ?_
 refine EvC.block ?_
 refine EvC.k1D mixed ?_ (h1 := by simp only [go_sem, hag, hbg, h1, h2, hl] <;> rfl) (k1 := by simp [hI, hb, hil]; try omega) (c1 := .ca q) (h2 := by simp only [go_sem, hWn] <;> rfl)
 by_cases hc : cmpL a.2.1 b.2.1 < 0
 ·rw [decide_eq_true hc, Bool.true_and] at i2
  refine EvC.cs ?_ (by simp only [go_sem, decide_eq_false (show ¬ 0 ≤ cmpL a.2.1 b.2.1 by omega)] <;> rfl)
  refine EvC.b ?_ (hok := by exact inI64_of (by omega) (by omega))
  exact ⟨[], i + 1, rfl, (by rw [show ((i + 1 + 1 : Nat) : Int) = iZ + 1 by omega]; simp only [go_sem] <;> rfl), ⟨.inl hil, i2⟩, by omega⟩
 ·rw [decide_eq_false hc, Bool.false_and] at i2
  refine EvC.ct ?_ (by simp only [go_sem, decide_eq_true (show 0 ≤ cmpL a.2.1 b.2.1 by omega)] <;> rfl)
  rw [i2]
  refine EvC.a ?_
  refine EvC.rz ?_
  simp only [go_sem]
theorem steps_is (wn : Bool) (W : List RW) (wc : Cp) (hW : ∀ w ∈ W, w.2.1.length < 1000000) (hWl : W.length < 1000000) :
  PureIs prog 110 [.sl wn (W.map rwC) wc] (.sc (.int .i64 (stepsW W))) := by
 have hl : (W.map rwC).length = W.length := List.length_map _
 refine PureIs.of1 1 [2, 4, 5, 6, 7, 8] func110 ntmps110 results110 fun _ => ?_
 refine EvC.a ?_
 refine EvC.seq ?_
 refine EvC.a ?_ (by simp only [go_sem, hl] <;> rfl)
 refine EvC.block ?_
 refine EvC.loopS (σ := Nat × Nat) (fun g => ⟨[(2, .sc (.int .i64 g.2)), (5, .sl wn (W.map rwC) wc), (6, .sc (.int .i64 W.length)), (7, .sc (.int .i64 g.1))], [], [], 0⟩) (fun g => W.length - g.1) (fun g => g.1 ≤ W.length ∧ stepsW W = g.2 + stepsW (W.drop g.1) ∧ g.2 ≤ g.1 * 1000000) [2, 5, 6, 7] 0 ?_ ?_
 ·exact ⟨[], (0, 0), rfl, (by simp only [go_sem, Int.natCast_zero] <;> rfl), Nat.zero_le _, by simp only [Nat.zero_add]; rfl, Nat.le_refl _⟩
 rintro ⟨i, s⟩ ⟨i1, i2, i3⟩
 simp only at i1 i2 i3 ⊢
 refine EvC.a ?_
 refine EvC.seq ?_
 refine EvC.cond (by simp only [go_sem] <;> rfl) (fun hc => ?_) (fun hc => ?_)
 rotate_left
 ·refine EvC.exit ?_
  have hi : ¬ i < W.length := by simpa using hc
  rw [List.drop_of_length_le (by omega), show stepsW [] = 0 from rfl, Nat.add_zero] at i2
  rw [i2]
  refine EvC.a ?_
  refine EvC.rz ?_
  simp only [go_sem]
 have hil : i < W.length := by simpa using hc
 clear hc
 have hge := List.getElem?_eq_getElem hil
 have hwm := hW _ (List.getElem_mem hil)
 have hdr : W.drop i = W[i] :: W.drop (i + 1) := List.drop_eq_getElem_cons hil
 generalize W[i] = w at hge hwm hdr
 have hwg := rw_get hge
 have hit : (i : Int).toNat = i := Int.toNat_natCast i
 have i4 : stepsW W = (s + w.2.1.length) + stepsW (W.drop (i + 1)) := by rw [i2, hdr]; simp only [stepsW, List.map_cons, List.sum_cons]; omega
 have hI : inI64 ((s : Int) + w.2.1.length) = true := inI64_of (by omega) (by omega)
 refine EvC.skip ?_
 refine EvC.seq ?_
 refine EvC.block ?_
 refine EvC.a ?_ (by simp only [go_sem, hwg, hit, hl] <;> rfl) (by simp; try omega)
 refine EvC.b ?_ (by simp only [go_sem, List.length_map] <;> rfl) (by simp [hI])
 refine EvC.b ?_ (hok := by exact inI64_of (by omega) (by omega))
 exact ⟨[], (i + 1, s + w.2.1.length), rfl, (by simp only [go_sem, Int.natCast_add, Int.natCast_one] <;> rfl), ⟨hil, i4, by simp only; omega⟩, by simp only; omega⟩
theorem tries_is (wn : Bool) (W : List RW) (wc : Cp) (n : Int) (hW : ∀ w ∈ W, w.2.1.length < 1000000) (hWl : W.length < 1000000) :
  PureIs prog 88 [.sl wn (W.map rwC) wc, .sc (.int .i64 n)] (.sc (.int .i64 (triesE n W))) := by
 have hWn := norefs_rw W
 refine PureIs.of1 2 [4, 5, 10, 14, 17] func88 ntmps88 results88 fun _ => ?_
 refine EvC.a ?_
 refine EvC.seq ?_
 refine EvC.k1 ?_ (c1 := .ca (loose_is wn W wc n hW hWl)) (h2 := by simp only [go_sem, hWn] <;> rfl)
 refine EvC.a ?_
 by_cases h1 : looseE n W = 0
 rotate_left
 ·rw [show triesE n W = looseE n W by unfold triesE; rw [if_pos h1]]
  refine EvC.ct ?_ (by simp only [go_sem, decide_eq_false h1] <;> rfl)
  refine EvC.a ?_
  refine EvC.rz ?_
  simp only [go_sem]
 refine EvC.cs ?_ (by simp only [go_sem, decide_eq_true h1] <;> rfl)
 refine EvC.seq ?_
 refine EvC.k1 ?_ (c1 := .ca (ahead_is wn W wc hW hWl)) (h2 := by simp only [go_sem, hWn] <;> rfl)
 cases h2 : aheadB W with
 | false =>
   rw [show triesE n W = 1 by unfold triesE; rw [if_neg (fun h => h h1), if_pos h2]]
   refine EvC.ct ?_ (by simp only [go_sem, h2] <;> rfl)
   refine EvC.a ?_
   refine EvC.rz ?_
   simp only [go_sem]
 | true =>
   refine EvC.cs ?_ (by simp only [go_sem, h2] <;> rfl)
   refine EvC.seq ?_
   refine EvC.k1 ?_ (c1 := .ca (steps_is wn W wc hW hWl)) (h2 := by simp only [go_sem, hWn] <;> rfl)
   by_cases h3 : 65536 < (stepsW W : Int)
   ·rw [show triesE n W = 3 by unfold triesE; rw [if_neg (fun h => h h1), if_neg (by rw [h2]; simp), if_pos h3]]
    refine EvC.ct ?_ (by simp only [go_sem, decide_eq_true h3] <;> rfl)
    refine EvC.a ?_
    refine EvC.rz ?_
    simp only [go_sem]
   rw [show triesE n W = 0 by unfold triesE; rw [if_neg (fun h => h h1), if_neg (by rw [h2]; simp), if_neg h3]]
   refine EvC.cs ?_ (by simp only [go_sem, decide_eq_false h3] <;> rfl)
   refine EvC.a ?_
   refine EvC.rz ?_
   simp only [go_sem]
theorem ready60_is (m : Mach) (hm : ∀ r ∈ m.rows, r.2.length < 1000000) (wn : Bool) (W : List RW) (wc : Cp) (hW : ∀ w ∈ W, w.2.1.length < 1000000) (hWl : W.length < 1000000) :
  PureIs prog 60 [.ag m.cells, .sl wn (W.map rwC) wc] (.sc (.int .i64 (readyE m W))) := by
 have hWn := norefs_rw W
 refine PureIs.of1 3 [4, 5, 9] func60 ntmps60 results60 fun _ => ?_
 refine EvC.a ?_ (by simp only [go_sem, Mach.cells] <;> rfl)
 refine EvC.z 0 ?_
 refine EvC.seq ?_
 refine EvC.k1 ?_ (h1 := by simp only [go_sem, Mach.cells] <;> rfl) (c1 := .ca (check_is m hm))
 refine EvC.a ?_
 by_cases h1 : checkM m = 0
 rotate_left
 ·rw [show readyE m W = checkM m by unfold readyE; rw [if_pos h1]]
  refine EvC.ct ?_ (by simp only [go_sem, decide_eq_false h1] <;> rfl)
  refine EvC.a ?_
  refine EvC.rz ?_
  simp only [go_sem]
 rw [show readyE m W = triesE m.ins W by unfold readyE; rw [if_neg (fun h => h h1)]]
 refine EvC.cs ?_ (by simp only [go_sem, decide_eq_true h1] <;> rfl)
 refine EvC.k1 ?_ (c1 := .ca (tries_is wn W wc m.ins hW hWl)) (h2 := by simp only [go_sem, hWn] <;> rfl)
 refine EvC.rz ?_
 simp only [go_sem]
theorem errW_zero {n : Int} : ∀ {W : List RW}, errW n W = 0 → ∀ w ∈ W, wordErr n w.2.1 = 0
 | [], _, _, h => by cases h
 | v :: W, h, w, hw => by
   rw [errW] at h
   split at h
   ·rename_i h1; exact absurd h h1
   ·rename_i h1
    rcases List.mem_cons.1 hw with rfl | hw
    ·exact Classical.not_not.1 h1
    ·exact errW_zero h w hw
theorem readyE_ok {m : Mach} {W : List RW} (h : readyE m W = 0) : checkM m = 0 ∧ W.length ≤ 4096 ∧ ∀ w ∈ W, wordErr m.ins w.2.1 = 0 := by
 unfold readyE at h
 split at h
 ·rename_i h1; exact absurd h h1
 rename_i h1
 unfold triesE at h
 split at h
 ·rename_i h2; exact absurd h h2
 rename_i h2
 have h2 := Classical.not_not.1 h2
 unfold looseE at h2
 split at h2
 ·cases h2
 rename_i h3
 split at h2
 ·cases h2
 exact ⟨Classical.not_not.1 h1, by omega, errW_zero h2⟩
def killW (m : Mach) (W : List RW) (f : FA) : List Int := killL m (mutF m f) W 0
def subE (m : Mach) (W : List RW) (f g : FA) : Int := if readyE m W ≠ 0 then readyE m W else if checkF m f ≠ 0 then checkF m f else checkF m g
def subV (m : Mach) (W : List RW) (f g : FA) : Bool := decide ((0 : Int) < (killW m W f).length) && subB (killW m W f) (killW m W g)
def subsumesA (m : Mach) (W : List RW) (f g : FA) : AV :=
 if subE m W f g ≠ 0 then .tu [.sc (.bool false), .sc (.int .i64 (subE m W f g))] else .tu [.sc (.bool (subV m W f g)), .sc (.int .i64 0)]
set_option maxHeartbeats 4000000 in
theorem subsumes_is (m : Mach) (hm : ∀ r ∈ m.rows, r.2.length < 1000000) (hnn : NoNil m) (wn : Bool) (W : List RW) (wc : Cp) (hW : ∀ w ∈ W, w.2.1.length < 1000000) (hWl : W.length < 1000000) (f g : FA) :
  PureIs prog 38 [.ag m.cells, .sl wn (W.map rwC) wc, .ag f.cells, .ag g.cells] (subsumesA m W f g) := by
 have hWn := norefs_rw W
 have q0 := ready60_is m hm wn W wc hW hWl
 unfold subsumesA
 generalize hE : subE m W f g = E
 have hE := hE.symm
 unfold subE at hE
 have hfc : f.cells = [.sc (.int .i64 f.kind), .sc (.int .i64 f.state), .sc (.int .i64 f.input), .sc (.int .i64 f.to), .sc (.int .i64 f.at'), .sc (.int .i64 f.out)] := rfl
 have hgc : g.cells = [.sc (.int .i64 g.kind), .sc (.int .i64 g.state), .sc (.int .i64 g.input), .sc (.int .i64 g.to), .sc (.int .i64 g.at'), .sc (.int .i64 g.out)] := rfl
 by_cases h0 : readyE m W = 0
 rotate_left
 ·rw [if_pos h0] at hE
  rw [hE, if_pos h0, hfc, hgc]
  refine PureIs.of1 5 [6, 7, 8, 9, 10, 11, 12, 13, 18, 28, 38] func38 ntmps38 results38 fun _ => ?_
  refine EvC.a ?_ (by simp only [go_sem, Mach.cells] <;> rfl)
  refine EvC.z 0 ?_
  refine EvC.z 1 ?_
  refine EvC.z 2 ?_
  refine EvC.seq ?_
  refine EvC.k1 ?_ (h1 := by simp only [go_sem, Mach.cells] <;> rfl) (c1 := .ca q0) (h2 := by simp only [go_sem, hWn] <;> rfl)
  refine EvC.a ?_
  refine EvC.ct ?_ (by simp only [go_sem, decide_eq_false h0] <;> rfl)
  refine EvC.a ?_
  refine EvC.rz ?_
  simp only [go_sem]
 rw [if_neg (fun h => h h0)] at hE
 obtain ⟨hc0, _, hWe⟩ := readyE_ok h0
 have hv := Valid.of hc0
 have q1 := killers_is hv hnn wn W wc ⟨hWe, hW, hWl⟩ f
 have q2 := killers_is hv hnn wn W wc ⟨hWe, hW, hWl⟩ g
 unfold killersA at q1 q2
 have hl1 := killL_len m (mutF m f) W 0
 have hl2 := killL_len m (mutF m g) W 0
 rw [hfc] at q1 ⊢
 rw [hgc] at q2 ⊢
 rw [h0] at q0
 refine PureIs.of1 5 [6, 7, 8, 9, 10, 11, 12, 13, 18, 28, 38] func38 ntmps38 results38 fun _ => ?_
 refine EvC.a ?_ (by simp only [go_sem, Mach.cells] <;> rfl)
 refine EvC.z 0 ?_
 refine EvC.z 1 ?_
 refine EvC.z 2 ?_
 refine EvC.seq ?_
 refine EvC.k1 ?_ (h1 := by simp only [go_sem, Mach.cells] <;> rfl) (c1 := .ca q0) (h2 := by simp only [go_sem, hWn] <;> rfl)
 refine EvC.a ?_
 refine EvC.cs ?_
 by_cases h1 : checkF m f = 0
 rotate_left
 ·rw [if_pos h1] at hE q1
  rw [hE, if_pos h1]
  refine EvC.k1 ?_ (h1 := by simp only [go_sem, Mach.cells] <;> rfl) (c1 := .ca q1) (h2 := by simp only [go_sem, hWn] <;> rfl)
  refine EvC.seq ?_
  refine EvC.a ?_
  refine EvC.ct ?_ (by simp only [go_sem, decide_eq_false h1] <;> rfl)
  refine EvC.a ?_
  refine EvC.rz ?_
  simp only [go_sem]
 rw [if_neg (fun h => h h1)] at hE q1
 obtain ⟨K1, hK1⟩ : ∃ K, K = killL m (mutF m f) W 0 := ⟨_, rfl⟩
 rw [← hK1] at q1 hl1
 have hn1 := norefs_intC K1
 refine EvC.k1 ?_ (h1 := by simp only [go_sem, Mach.cells] <;> rfl) (c1 := .ca q1) (h2 := by simp only [go_sem, hn1] <;> rfl)
 refine EvC.z 18 ?_
 refine EvC.seq ?_
 refine EvC.a ?_
 refine EvC.cs ?_
 by_cases h2 : checkF m g = 0
 rotate_left
 ·rw [if_pos h2] at q2
  rw [hE, if_pos h2]
  refine EvC.k1 ?_ (h1 := by simp only [go_sem, Mach.cells] <;> rfl) (c1 := .ca q2) (h2 := by simp only [go_sem, hWn] <;> rfl)
  refine EvC.seq ?_
  refine EvC.a ?_
  refine EvC.ct ?_ (by simp only [go_sem, decide_eq_false h2] <;> rfl)
  refine EvC.a ?_
  refine EvC.rz ?_
  simp only [go_sem]
 rw [h2] at hE
 rw [if_neg (fun h => h h2)] at q2
 obtain ⟨K2, hK2⟩ : ∃ K, K = killL m (mutF m g) W 0 := ⟨_, rfl⟩
 rw [← hK2] at q2 hl2
 have hn2 := norefs_intC K2
 rw [hE, if_neg (show ¬ (0 : Int) ≠ 0 from fun h => h rfl), subV, killW, killW, ← hK1, ← hK2]
 refine EvC.k1 ?_ (h1 := by simp only [go_sem, Mach.cells] <;> rfl) (c1 := .ca q2) (h2 := by simp only [go_sem, hn2] <;> rfl)
 refine EvC.z 30 ?_
 refine EvC.seq ?_
 refine EvC.a ?_
 refine EvC.cs ?_
 have hkl : (K1.map intC).length = K1.length := List.length_map _
 by_cases hp : (0 : Int) < K1.length
 ·rw [decide_eq_true hp]
  have q3 := within63_is K1.isEmpty K1 .unk K2.isEmpty K2 .unk (by omega) (by omega)
  refine EvC.k1 ?_ (h1 := by simp only [go_sem, hkl, decide_eq_true hp] <;> rfl) (c1 := .cg q3) (h2 := by simp only [go_sem, hkl, decide_eq_true hp, hn1, hn2] <;> rfl)
  refine EvC.rz ?_
  simp only [go_sem]
 ·rw [decide_eq_false hp]
  apply EvC.s1
  ·apply Tr.run
   ·simp only [go_sem, hkl, decide_eq_false hp] <;> rfl
   ·simp
   apply Tr.cons
   ·exact .skipv (.sc (.bool false)) rfl rfl (by simp only [go_sem] <;> rfl) (by simp only [go_sem] <;> rfl)
   apply Tr.done
   ·simp only [go_sem, hkl, decide_eq_false hp, hn1, hn2] <;> rfl
   ·simp
  refine EvC.rz ?_
  simp only [go_sem]
def badB (S : List (List Int)) (i k : Nat) : Bool :=
 !decide (k = i) && (decide ((0 : Int) < (S.getD k []).length) && (subB (S.getD k []) (S.getD i []) && (decide (k < i) || !subB (S.getD i []) (S.getD k []))))
def keepB (S : List (List Int)) (i : Nat) : Bool := !decide ((S.getD i []).length = 0) && !((List.range S.length).any (badB S i))
def leastL (S : List (List Int)) : List Int := ((List.range S.length).filter (keepB S)).map fun i : Nat => (i : Int)
def leastE (m : Mach) (W : List RW) (fs : List FA) : Int := if readyE m W ≠ 0 then readyE m W else mutErr m fs
def leastA (m : Mach) (W : List RW) (fs : List FA) : AV :=
 if leastE m W fs ≠ 0 then .tu [.sl true [] .unk, .sc (.int .i64 (leastE m W fs))] else .tu [.sl (leastL (fs.map (killW m W))).isEmpty ((leastL (fs.map (killW m W))).map intC) .full, .sc (.int .i64 0)]
def setC (S : List Int) : List AV := [.sl S.isEmpty (S.map intC) .unk]
theorem norefs_sets (l : List (List Int)) : (l.map setC).all AV.norefs = true := by simp [List.all_eq_true, setC, AV.norefs, AV.noref]
def leastTo (S : List (List Int)) (i : Nat) : List Int := ((List.range i).filter (keepB S)).map fun i : Nat => (i : Int)
theorem leastTo_succ (S : List (List Int)) (i : Nat) : leastTo S (i + 1) = leastTo S i ++ if keepB S i = true then [(i : Int)] else [] := by
 unfold leastTo
 rw [List.range_succ, List.filter_append, List.map_append]
 congr 1
 by_cases h : keepB S i = true
 ·rw [if_pos h, List.filter_cons_of_pos h]; rfl
 ·rw [if_neg h, List.filter_cons_of_neg h]; rfl
theorem leastTo_len (S : List (List Int)) (i : Nat) : (leastTo S i).length ≤ i := by
 unfold leastTo
 rw [List.length_map]
 have := List.length_filter_le (keepB S) (List.range i)
 rw [List.length_range] at this
 exact this
set_option maxHeartbeats 8000000 in
theorem least_is (m : Mach) (hm : ∀ r ∈ m.rows, r.2.length < 1000000) (hnn : NoNil m) (wn : Bool) (W : List RW) (wc : Cp) (hW : ∀ w ∈ W, w.2.1.length < 1000000) (hWl : W.length < 1000000) (fn : Bool) (fs : List FA) (fc : Cp) (hfl : fs.length < 1000000) :
  PureIs prog 26 [.ag m.cells, .sl wn (W.map rwC) wc, .sl fn (fs.map FA.cells) fc] (leastA m W fs) := by
 have hWn := norefs_rw W
 have q0 := ready60_is m hm wn W wc hW hWl
 have q1 := check61_is m hm fn fs fc hfl
 have hFn := fas_norefs2 fs
 unfold leastA
 generalize hE : leastE m W fs = E
 have hE := hE.symm
 unfold leastE at hE
 refine PureIs.of1 4 [6, 7, 8, 9, 10, 12, 13, 15, 16, 17, 18, 19, 20, 25, 31, 33, 34, 35, 36, 51, 52, 53, 54, 61, 62, 63, 64, 65, 95] func26 ntmps26 results26 fun _ => ?_
 refine EvC.a ?_ (by simp only [go_sem, Mach.cells] <;> rfl)
 refine EvC.z 0 ?_
 refine EvC.scope ?_
 refine EvC.seq ?_
 refine EvC.k1 ?_ (h1 := by simp only [go_sem, Mach.cells] <;> rfl) (c1 := .ca q0) (h2 := by simp only [go_sem, hWn] <;> rfl)
 refine EvC.a ?_
 by_cases h0 : readyE m W = 0
 rotate_left
 ·rw [if_pos h0] at hE
  rw [hE, if_pos h0]
  refine EvC.ct ?_ (by simp only [go_sem, decide_eq_false h0] <;> rfl)
  refine EvC.a ?_
  refine EvC.rz ?_
  simp only [go_sem]
 rw [if_neg (fun h => h h0)] at hE
 refine EvC.cs ?_ (by simp only [go_sem, decide_eq_true h0] <;> rfl)
 refine EvC.seq ?_
 refine EvC.k1 ?_ (h1 := by simp only [go_sem, Mach.cells] <;> rfl) (c1 := .ca q1) (h2 := by simp only [go_sem, hFn] <;> rfl)
 refine EvC.a ?_
 by_cases h1 : mutErr m fs = 0
 rotate_left
 ·rw [hE, if_pos h1]
  refine EvC.ct ?_ (by simp only [go_sem, decide_eq_false h1] <;> rfl)
  refine EvC.a ?_
  refine EvC.rz ?_
  simp only [go_sem]
 rw [h1] at hE
 rw [hE, if_neg (show ¬ (0 : Int) ≠ 0 from fun h => h rfl)]
 refine EvC.cs ?_ (by simp only [go_sem, decide_eq_true h1] <;> rfl)
 obtain ⟨hc0, _, hWe⟩ := readyE_ok h0
 have hv := Valid.of hc0
 obtain ⟨_, hf2, hf3⟩ := mutErr_ok h1
 have hfz := errFs_zero hf3
 have qk := fun f => killers_is hv hnn wn W wc ⟨hWe, hW, hWl⟩ f
 have hkl := fun f => killL_len m (mutF m f) W 0
 refine EvC.a ?_
 refine EvC.seq ?_
 refine EvC.a ?_ (by simp only [go_sem, List.length_map] <;> rfl)
 refine EvC.block ?_
 obtain ⟨N, hN⟩ : ∃ N, N = fs.length := ⟨_, rfl⟩
 obtain ⟨S, hS⟩ : ∃ S, S = fs.map (killW m W) := ⟨_, rfl⟩
 have hSl : S.length = N := by rw [hS, List.length_map, hN]
 have hSb : ∀ s ∈ S, s.length < 1000000 := fun s hs => by
  rw [hS] at hs
  obtain ⟨f, _, rfl⟩ := List.mem_map.1 hs
  have := hkl f
  unfold killW; omega
 rw [← hN] at hf2 ⊢
 rw [← hS]
 refine EvC.loopS (σ := Nat) (fun i => ⟨[(1, .sl wn (W.map rwC) wc), (3, .ia m.cells), (10, .tl 0 i (i == 0)), (33, .sl fn (fs.map FA.cells) fc), (34, .sc (.int .i64 N)), (35, .sc (.int .i64 i))], [], [(0, .arr 1 ((S.take i).map setC) true)], 1⟩) (fun i => N - i) (fun i => i ≤ N) [1, 3, 10, 33, 34, 35] 1 ?_ ?_
 ·exact ⟨[(15, 0)], 0, rfl, (by simp only [go_sem, Int.natCast_zero, List.take_zero, List.map_nil, Mach.cells] <;> rfl), Nat.zero_le _⟩
 intro i hi
 have hLn := norefs_sets (S.take i)
 have hLl : ((S.take i).map setC).length = i := by rw [List.length_map, List.length_take]; omega
 refine EvC.a ?_
 refine EvC.seq ?_
 refine EvC.cond (by simp only [go_sem] <;> rfl) (fun hc => ?_) (fun hc => ?_)
 rotate_left
 ·refine EvC.exit ?_
  obtain rfl : i = N := by have : ¬ i < N := (by simpa using hc); omega
  clear hc
  rw [List.take_of_length_le (by omega)] at hLn hLl ⊢
  have hSg : ∀ (k : Nat), k < i → (S.map setC)[k]? = some [.sl (S.getD k []).isEmpty ((S.getD k []).map intC) .unk] := fun k hk => by
   rw [List.getElem?_map, List.getElem?_eq_getElem (by omega), List.getD_eq_getElem?_getD, List.getElem?_eq_getElem (by omega)]; rfl
  have hSb2 : ∀ k, k < i → (S.getD k []).length < 1000000 := fun k hk => hSb _ (by
   rw [List.getD_eq_getElem?_getD, List.getElem?_eq_getElem (by omega)]; exact List.getElem_mem _)
  generalize S.map setC = SC at hLn hLl hSg ⊢
  refine EvC.frz 0 (by simp only [go_sem, hLn, hLl] <;> rfl) ?_
  refine EvC.a ?_
  refine EvC.a ?_
  refine EvC.seq ?_
  refine EvC.label ?_
  refine EvC.seq ?_
  refine EvC.a ?_ (by simp only [go_sem, hLl] <;> rfl)
  refine EvC.block ?_
  obtain ⟨N, hNi⟩ : ∃ N, N = i := ⟨_, rfl⟩
  rw [← hNi] at hLl hSg hSb2 hf2 hSl ⊢
  clear hi
  refine EvC.loopS (σ := Nat) (fun i => ⟨[(10, .sl (N == 0) SC .unk), (15, .fn 63 []), (16, .tl 0 (leastTo S i).length (leastTo S i).isEmpty), (51, .sl (N == 0) SC .unk), (52, .sc (.int .i64 N)), (53, .sc (.int .i64 i))], [], [(0, .arr 1 ((leastTo S i).map intC) true)], 1⟩) (fun i => N - i) (fun i => i ≤ N) [10, 15, 16, 51, 52, 53] 1 ?_ ?_
  ·exact ⟨[(3, 0)], 0, rfl, (by (simp only [go_sem, Int.natCast_zero, show leastTo S 0 = [] from rfl, List.map_nil, List.length_nil, List.isEmpty_nil]) <;> rfl), Nat.zero_le _⟩
  intro i hi
  have hOn := norefs_intC (leastTo S i)
  have hOl : ((leastTo S i).map intC).length = (leastTo S i).length := List.length_map _
  have hOb := leastTo_len S i
  refine EvC.a ?_
  refine EvC.seq ?_
  refine EvC.cond (by simp only [go_sem] <;> rfl) (fun hc => ?_) (fun hc => ?_)
  rotate_left
  ·refine EvC.exit ?_
   obtain rfl : i = N := by have : ¬ i < N := (by simpa using hc); omega
   clear hc
   have hLe : leastL S = leastTo S i := by rw [leastL, leastTo, hSl]
   rw [hLe]
   have h1 : (((leastTo S i).map intC).all fun y => decide (y.length = 1)) = true := by simp [List.all_eq_true, intC]
   generalize (leastTo S i).map intC = L at hOn hOl h1 ⊢
   refine EvC.frz 0 (by simp only [go_sem, hOn, hOl] <;> rfl) ?_
   refine EvC.k1 ?_ (h1 := by simp only [go_sem, hOl] <;> rfl) (c1 := .ca (clipI_is _ L .unk h1))
   refine EvC.rz ?_
   simp only [go_sem]
  have hil : i < N := by simpa using hc
  clear hc
  have hgi := hSg i hil
  have hbi := hSb2 i hil
  have hit : (i : Int).toNat = i := Int.toNat_natCast i
  have hsu := leastTo_succ S i
  have hOl2 := leastTo_len S (i + 1)
  obtain ⟨Ti, hTi⟩ : ∃ T, T = S.getD i [] := ⟨_, rfl⟩
  rw [← hTi] at hgi hbi
  refine EvC.skip ?_
  refine EvC.seq ?_
  refine EvC.block ?_
  refine EvC.a ?_ (by simp only [go_sem, hgi, hit, hLl] <;> rfl) (by simp; try omega)
  refine EvC.z 5 ?_
  have hTl : (Ti.map intC).length = Ti.length := List.length_map _
  have hTn := norefs_intC Ti
  have hI1 : inI64 ((i : Int) + 1) = true := inI64_of (by omega) (by omega)
  have hno : keepB S i = false → leastTo S (i + 1) = leastTo S i := fun h => by rw [hsu, h]; simp
  refine EvC.seq ?_
  refine EvC.a ?_ (by simp only [go_sem, hTl] <;> rfl)
  by_cases hz : Ti.length = 0
  ·refine EvC.ct ?_ (by simp only [go_sem, decide_eq_true (show (Ti.length : Int) = 0 by omega)] <;> rfl)
   refine EvC.exit ?_
   have hk : keepB S i = false := by unfold keepB; rw [← hTi, decide_eq_true hz]; rfl
   refine EvC.b ?_ (hok := by simp [hI1])
   exact ⟨[(0, 0)], i + 1, rfl, (by rw [hno hk]; simp only [go_sem, hOn, Int.natCast_add, Int.natCast_one] <;> rfl), hil, by omega⟩
  refine EvC.cs ?_ (by simp only [go_sem, decide_eq_false (show ¬ (Ti.length : Int) = 0 by omega)] <;> rfl)
  refine EvC.seq ?_
  refine EvC.a ?_ (by simp only [go_sem, hLl] <;> rfl)
  refine EvC.block ?_
  refine EvC.loopS (σ := Nat) (fun k => ⟨[(10, .sl (N == 0) SC .unk), (15, .fn 63 []), (16, .tl 0 (leastTo S i).length (leastTo S i).isEmpty), (17, .sc (.int .i64 i)), (18, .ia [.sl Ti.isEmpty (Ti.map intC) .unk]), (51, .sl (N == 0) SC .unk), (52, .sc (.int .i64 N)), (53, .sc (.int .i64 i)), (62, .sl (N == 0) SC .unk), (63, .sc (.int .i64 N)), (64, .sc (.int .i64 k))], [], [(0, .arr 1 ((leastTo S i).map intC) true)], 1⟩) (fun k => N - k) (fun k => k ≤ N ∧ ∀ j, j < k → badB S i j = false) [10, 15, 16, 17, 18, 51, 52, 53, 62, 63, 64] 1 ?_ ?_
  ·exact ⟨[(0, 0)], 0, rfl, (by simp only [go_sem, hOn, Int.natCast_zero] <;> rfl), Nat.zero_le _, fun j h => absurd h (Nat.not_lt_zero _)⟩
  rintro k ⟨k1, k2⟩
  refine EvC.a ?_
  refine EvC.seq ?_
  refine EvC.cond (by simp only [go_sem] <;> rfl) (fun hc => ?_) (fun hc => ?_)
  rotate_left
  ·refine EvC.exit ?_
   obtain rfl : k = N := by have : ¬ k < N := (by simpa using hc); omega
   clear hc
   have hk : keepB S i = true := by
    unfold keepB
    rw [← hTi, decide_eq_false hz]
    simp only [Bool.not_false, Bool.true_and, Bool.not_eq_true']
    rw [List.any_eq_false]
    intro j hj
    rw [List.mem_range, hSl] at hj
    rw [k2 j hj]; simp
   rw [hk, if_pos rfl] at hsu
   have hs : (leastTo S i).map intC ++ [[.sc (.int .i64 i)]] = (leastTo S (i + 1)).map intC := by rw [hsu, List.map_append]; rfl
   have hl2 : (leastTo S i).length + 1 = (leastTo S (i + 1)).length := by rw [hsu]; simp
   have hn2 : (leastTo S (i + 1)).isEmpty = false := by rw [hsu]; simp
   have hr2 : room (leastTo S (i + 1)).length 8 = true := by simp only [room_eq, decide_eq_true_eq]; omega
   have hOn2 := norefs_intC (leastTo S (i + 1))
   have hOl3 : ((leastTo S (i + 1)).map intC).length = (leastTo S (i + 1)).length := List.length_map _
   obtain ⟨U, hU⟩ : ∃ U, U = (leastTo S (i + 1)).map intC := ⟨_, rfl⟩
   rw [← hU] at hs hOn2 hOl3
   refine EvC.b ?_ (by simp only [go_sem, hs, hl2, hOl] <;> rfl) (by simp [hr2])
   refine EvC.b ?_ (hok := by simp [hI1])
   exact ⟨[(0, 0)], i + 1, rfl, (by rw [hn2, ← hU]; simp only [go_sem, hOn2, hOl3, Int.natCast_add, Int.natCast_one] <;> rfl), hil, by omega⟩
  have hkl2 : k < N := by simpa using hc
  clear hc
  have hgk := hSg k hkl2
  have hbk := hSb2 k hkl2
  have hkt : (k : Int).toNat = k := Int.toNat_natCast k
  have hI2 : inI64 ((k : Int) + 1) = true := inI64_of (by omega) (by omega)
  obtain ⟨Tk, hTk⟩ : ∃ T, T = S.getD k [] := ⟨_, rfl⟩
  rw [← hTk] at hgk hbk
  have hTkl : (Tk.map intC).length = Tk.length := List.length_map _
  have hTkn := norefs_intC Tk
  have hbad : badB S i k = (!decide (k = i) && (decide ((0 : Int) < Tk.length) && (subB Tk Ti && (decide (k < i) || !subB Ti Tk)))) := by unfold badB; rw [← hTi, ← hTk]
  have hnext : badB S i k = false → ∀ j, j < k + 1 → badB S i j = false := fun h j hj => by
   by_cases e : j = k
   ·rw [e]; exact h
   ·exact k2 j (by omega)
  have hkeep : badB S i k = true → keepB S i = false := fun h => by
   unfold keepB
   have : (List.range S.length).any (badB S i) = true := List.any_eq_true.2 ⟨k, List.mem_range.2 (by omega), h⟩
   rw [this]; simp
  refine EvC.skip ?_
  refine EvC.seq ?_
  refine EvC.block ?_
  refine EvC.a ?_ (by simp only [go_sem, hgk, hkt, hLl] <;> rfl) (by simp; try omega)
  refine EvC.z 5 ?_
  have qa := within63_is Tk.isEmpty Tk .unk Ti.isEmpty Ti .unk hbk hbi
  have qb := within63_is Ti.isEmpty Ti .unk Tk.isEmpty Tk .unk hbi hbk
  by_cases e1 : k = i
  ·have hb : badB S i k = false := by rw [hbad, decide_eq_true e1]; rfl
   have d1 : decide ((k : Int) = i) = true := decide_eq_true (by omega)
   apply EvC.s1
   ·apply Tr.run
    ·simp only [go_sem, d1, hTkl] <;> rfl
    ·simp
    apply Tr.cons
    ·exact .skipv (.sc (.bool false)) rfl rfl (by simp only [go_sem] <;> rfl) (by simp only [go_sem] <;> rfl)
    apply Tr.run
    ·simp only [go_sem, d1, hTkl] <;> rfl
    ·simp
    apply Tr.cons
    ·exact .skipv (.sc (.bool false)) rfl rfl (by simp only [go_sem] <;> rfl) (by simp only [go_sem] <;> rfl)
    apply Tr.done
    ·simp only [go_sem, d1, hTkl] <;> rfl
    ·simp
   refine EvC.cs ?_
   refine EvC.b ?_ (hok := by simp [hI2])
   exact ⟨[(0, 0)], k + 1, rfl, (by simp only [go_sem, hOn, Int.natCast_add, Int.natCast_one] <;> rfl), ⟨hkl2, hnext hb⟩, by omega⟩
  have d1 : decide ((k : Int) = i) = false := decide_eq_false (by omega)
  by_cases e2 : Tk.length = 0
  ·have hb : badB S i k = false := by rw [hbad, decide_eq_false (show ¬ (0 : Int) < Tk.length by omega)]; simp
   have d2 : decide ((0 : Int) < Tk.length) = false := decide_eq_false (by omega)
   apply EvC.s1
   ·apply Tr.run
    ·simp only [go_sem, d1, d2, hTkl] <;> rfl
    ·simp
    apply Tr.cons
    ·exact .skipv (.sc (.bool false)) rfl rfl (by simp only [go_sem] <;> rfl) (by simp only [go_sem] <;> rfl)
    apply Tr.run
    ·simp only [go_sem, d1, d2, hTkl] <;> rfl
    ·simp
    apply Tr.cons
    ·exact .skipv (.sc (.bool false)) rfl rfl (by simp only [go_sem] <;> rfl) (by simp only [go_sem] <;> rfl)
    apply Tr.done
    ·simp only [go_sem, d1, d2, hTkl] <;> rfl
    ·simp
   refine EvC.cs ?_
   refine EvC.b ?_ (hok := by simp [hI2])
   exact ⟨[(0, 0)], k + 1, rfl, (by simp only [go_sem, hOn, Int.natCast_add, Int.natCast_one] <;> rfl), ⟨hkl2, hnext hb⟩, by omega⟩
  have d2 : decide ((0 : Int) < Tk.length) = true := decide_eq_true (by omega)
  rw [decide_eq_false e1, d2] at hbad
  by_cases e3 : subB Tk Ti = true
  rotate_left
  ·have e3' : subB Tk Ti = false := by simpa using e3
   have hb : badB S i k = false := by rw [hbad, e3']; rfl
   rw [e3'] at qa
   apply EvC.s1
   ·apply Tr.run
    ·simp only [go_sem, d1, d2, hTkl] <;> rfl
    ·simp
    apply Tr.cons
    ·exact .cg (qa)
    apply Tr.run
    ·simp only [go_sem, d1, d2, hTkl] <;> rfl
    ·simp
    apply Tr.cons
    ·exact .skipv (.sc (.bool false)) rfl rfl (by simp only [go_sem] <;> rfl) (by simp only [go_sem] <;> rfl)
    apply Tr.done
    ·simp only [go_sem, d1, d2, hTkl, hTkn, hTn] <;> rfl
    ·simp
   refine EvC.cs ?_
   refine EvC.b ?_ (hok := by simp [hI2])
   exact ⟨[(0, 0)], k + 1, rfl, (by simp only [go_sem, hOn, Int.natCast_add, Int.natCast_one] <;> rfl), ⟨hkl2, hnext hb⟩, by omega⟩
  rw [e3] at qa hbad
  by_cases e4 : k < i
  ·have hb : badB S i k = true := by rw [hbad, decide_eq_true e4]; rfl
   have d3 : decide ((k : Int) < i) = true := decide_eq_true (by omega)
   apply EvC.s1
   ·apply Tr.run
    ·simp only [go_sem, d1, d2, d3, hTkl] <;> rfl
    ·simp
    apply Tr.cons
    ·exact .cg (qa)
    apply Tr.run
    ·simp only [go_sem, d1, d2, d3, hTkl] <;> rfl
    ·simp
    apply Tr.cons
    ·exact .skipv (.sc (.bool false)) rfl rfl (by simp only [go_sem] <;> rfl) (by simp only [go_sem] <;> rfl)
    apply Tr.done
    ·simp only [go_sem, d1, d2, d3, hTkl, hTkn, hTn] <;> rfl
    ·simp
   refine EvC.ct ?_
   refine EvC.exit ?_
   refine EvC.b ?_ (hok := by simp [hI1])
   exact ⟨[(0, 0)], i + 1, rfl, (by rw [hno (hkeep hb)]; simp only [go_sem, hOn, Int.natCast_add, Int.natCast_one] <;> rfl), hil, by omega⟩
  have d3 : decide ((k : Int) < i) = false := decide_eq_false (by omega)
  rw [decide_eq_false e4] at hbad
  by_cases e5 : subB Ti Tk = true
  ·have hb : badB S i k = false := by rw [hbad, e5]; rfl
   rw [e5] at qb
   refine EvC.k2 ?_ (h1 := by simp only [go_sem, d1, d2, d3, hTkl] <;> rfl) (c1 := .cg qa) (h2 := by simp only [go_sem, d1, d2, d3, hTkl] <;> rfl) (c2 := .cg qb) (h3 := by simp only [go_sem, d1, d2, d3, hTkl, hTkn, hTn] <;> rfl)
   refine EvC.cs ?_
   refine EvC.b ?_ (hok := by simp [hI2])
   exact ⟨[(0, 0)], k + 1, rfl, (by simp only [go_sem, hOn, Int.natCast_add, Int.natCast_one] <;> rfl), ⟨hkl2, hnext hb⟩, by omega⟩
  have e5' : subB Ti Tk = false := by simpa using e5
  have hb : badB S i k = true := by rw [hbad, e5']; rfl
  rw [e5'] at qb
  refine EvC.k2 ?_ (h1 := by simp only [go_sem, d1, d2, d3, hTkl] <;> rfl) (c1 := .cg qa) (h2 := by simp only [go_sem, d1, d2, d3, hTkl] <;> rfl) (c2 := .cg qb) (h3 := by simp only [go_sem, d1, d2, d3, hTkl, hTkn, hTn] <;> rfl)
  refine EvC.ct ?_
  refine EvC.exit ?_
  refine EvC.b ?_ (hok := by simp [hI1])
  exact ⟨[(0, 0)], i + 1, rfl, (by rw [hno (hkeep hb)]; simp only [go_sem, hOn, Int.natCast_add, Int.natCast_one] <;> rfl), hil, by omega⟩
 have hil : i < N := by simpa using hc
 clear hc
 have hge : fs[i]? = some (fs[i]'(by omega)) := List.getElem?_eq_getElem (by omega)
 have hfz2 := hfz _ (List.getElem_mem (show i < fs.length by omega))
 have htk : S.take (i + 1) = S.take i ++ [killW m W (fs[i]'(by omega))] := by
  rw [List.take_succ_eq_append_getElem (by omega)]; simp [hS]
 generalize fs[i]'(by omega) = f at hge hfz2 htk
 have hfg : (fs.map FA.cells)[i]? = some f.cells := by rw [List.getElem?_map, hge]; rfl
 have hit : (i : Int).toNat = i := Int.toNat_natCast i
 have q2 := qk f
 unfold killersA at q2
 rw [if_neg (fun h => h hfz2)] at q2
 have hK := hkl f
 rw [show killL m (mutF m f) W 0 = killW m W f from rfl] at q2 hK
 generalize killW m W f = K at q2 htk hK
 have hKn := norefs_intC K
 rw [FA.cells] at hfg q2
 have hfcl : (fs.map FA.cells).length = N := by rw [List.length_map, hN]
 refine EvC.skip ?_
 refine EvC.seq ?_
 refine EvC.block ?_
 refine EvC.a ?_ (by simp only [go_sem, hfg, hit, hfcl] <;> rfl) (by simp; try omega)
 refine EvC.z 4 ?_
 refine EvC.k1 ?_ (h1 := by simp only [go_sem, Mach.cells] <;> rfl) (c1 := .ca q2) (h2 := by simp only [go_sem, hWn, hKn] <;> rfl)
 refine EvC.z 13 ?_
 have hs : (S.take i).map setC ++ [[.sl K.isEmpty (K.map intC) .unk]] = (S.take (i + 1)).map setC := by rw [htk, List.map_append]; rfl
 have hLn2 := norefs_sets (S.take (i + 1))
 have hr2 : room (i + 1) 24 = true := by simp only [room_eq, decide_eq_true_eq]; omega
 have hLl2 : ((S.take (i + 1)).map setC).length = i + 1 := by rw [List.length_map, List.length_take]; omega
 have hne : (i + 1 == 0) = false := rfl
 obtain ⟨L2, hL2⟩ : ∃ L, L = (S.take (i + 1)).map setC := ⟨_, rfl⟩
 rw [← hL2] at hs hLn2 hLl2
 refine EvC.b ?_ (by simp only [go_sem, hs, hLl] <;> rfl) (by simp [hr2])
 refine EvC.b ?_ (hok := by exact inI64_of (by omega) (by omega))
 exact ⟨[(0, 0)], i + 1, rfl, (by rw [← hL2]; simp only [go_sem, Mach.cells, hLn2, hLl2, hne, Int.natCast_add, Int.natCast_one] <;> rfl), hil, by omega⟩
theorem rows_get {a b : Mach} (h : a.rows.map (·.2) = b.rows.map (·.2)) {i : Nat} {r : Row} (hr : a.rows[i]? = some r) : ∃ n, b.rows[i]? = some (n, r.2) := by
 have h2 := congrArg (fun l => l[i]?) h
 simp only [List.getElem?_map, hr, Option.map_some] at h2
 cases hb : b.rows[i]? with
 | none => rw [hb] at h2; cases h2
 | some q => rw [hb] at h2; simp only [Option.map_some, Option.some.injEq] at h2; exact ⟨q.1, by rw [h2]⟩
theorem sameM_is {a b : Mach} (h1 : a.ins = b.ins) (h2 : a.outs = b.outs) (h3 : a.rows.map (·.2) = b.rows.map (·.2)) (hl : a.rows.length < 1000000) (hr : ∀ r ∈ a.rows, r.2.length < 1000000) : PureIs prog 16 [.ag a.cells, .ag b.cells] (.sc (.bool true)) := by
 have hl2 : b.rows.length = a.rows.length := by have := congrArg List.length h3; simpa using this.symm
 refine PureIs.of1 7 [27, 32, 47, 55, 74] func16 ntmps16 results16 fun _ => ?_
 refine EvC.a ?_ (by simp only [go_sem, Mach.cells] <;> rfl)
 refine EvC.z 0 ?_
 refine EvC.z 1 ?_
 refine EvC.seq ?_
 refine EvC.g ?_ (h := by simp only [go_sem, h1, h2, hl2] <;> rfl)
 refine EvC.cs ?_
 refine EvC.seq ?_
 refine EvC.a ?_
 refine EvC.block ?_
 refine EvC.loopS (σ := Nat) (fun i => ⟨[(2, .ia a.cells), (3, .ia b.cells), (5, .sc (.int .i64 i))], [], [], 0⟩) (fun i => a.rows.length - i) (fun i => i ≤ a.rows.length) [2, 3, 5] 0 ?_ ?_
 ·exact ⟨[], 0, rfl, (by simp only [go_sem, Mach.cells, h1, h2] <;> rfl), Nat.zero_le _⟩
 intro i hi
 refine EvC.seq ?_
 refine EvC.a ?_ (by simp only [go_sem, Mach.cells] <;> rfl)
 refine EvC.cond (by simp only [go_sem] <;> rfl) (fun hc => ?_) (fun hc => ?_)
 rotate_left
 ·refine EvC.exit ?_
  refine EvC.a ?_
  refine EvC.rz ?_
  simp only [go_sem]
 have hi : i < a.rows.length := by simpa using hc
 have he : a.rows[i]? = some a.rows[i] := List.getElem?_eq_getElem hi
 have hm := List.getElem_mem hi
 generalize a.rows[i] = r at he hm
 obtain ⟨n, hb⟩ := rows_get h3 he
 obtain ⟨na, es⟩ := r
 have hes := hr _ hm
 simp only at hb hes
 refine EvC.skip ?_
 refine EvC.seq ?_
 refine EvC.block ?_
 refine EvC.seq ?_
 refine EvC.d mixed ?_ (h := by simp only [go_sem, he, hb, rowC, Mach.cells] <;> rfl)
 refine EvC.cs ?_
 refine EvC.a ?_
 refine EvC.block ?_
 refine EvC.loopS (σ := Nat) (fun k => ⟨[(2, .ia a.cells), (3, .ia b.cells), (5, .sc (.int .i64 i)), (6, .sc (.int .i64 k))], [], [], 0⟩) (fun k => es.length - k) (fun k => k ≤ es.length) [2, 3, 5, 6] 0 ?_ ?_
 ·exact ⟨[], 0, rfl, (by simp only [go_sem, Mach.cells, h1, h2] <;> rfl), Nat.zero_le _⟩
 intro k hk
 refine EvC.seq ?_
 refine EvC.a ?_ (by simp only [go_sem, he, rowC, Mach.cells] <;> rfl)
 refine EvC.cond (by simp only [go_sem] <;> rfl) (fun hc => ?_) (fun hc => ?_)
 rotate_left
 ·refine EvC.exit ?_
  refine EvC.b ?_ (hok := by exact inI64_of (by omega) (by omega))
  exact ⟨[], i + 1, rfl, (by simp only [go_sem, Mach.cells] <;> rfl), by omega, by omega⟩
 have hk : k < es.length := by simpa using hc
 have hek : es[k]? = some es[k] := List.getElem?_eq_getElem hk
 generalize es[k] = e at hek
 refine EvC.skip ?_
 refine EvC.seq ?_
 refine EvC.block ?_
 refine EvC.d mixed ?_ (h := by simp only [go_sem, he, hb, rowC, Mach.cells, hek, edgeC] <;> rfl)
 refine EvC.cs ?_
 refine EvC.b ?_ (hok := by exact inI64_of (by omega) (by omega))
 exact ⟨[], k + 1, rfl, (by simp only [go_sem, Mach.cells] <;> rfl), by omega, by omega⟩
theorem intsEq_is (na nb : Bool) (a : List Int) (cb : Cp) (hl : a.length < 1000000) : PureIs prog 21 [.sl na (a.map intC) .full, .sl nb (a.map intC) cb] (.sc (.bool true)) := by
 have q := same37_is false false [(na, a, .full)] [(nb, a, cb)] .full .full (by simp) (by simpa using hl)
 rw [show sameW [(na, a, Cp.full)] [(nb, a, cb)] = true by simp [sameW]] at q
 simp only [List.map_cons, List.map_nil, rwC] at q
 have hn := norefs_intC a
 have hll : (a.map intC).length = a.length := List.length_map _
 generalize a.map intC = L at q hn hll ⊢
 refine PureIs.of1 2 [4] func21 ntmps21 results21 fun _ => ?_
 refine EvC.a ?_
 refine EvC.k1 ?_ (c1 := .ca q) (h2 := by simp only [go_sem, hn, hll] <;> rfl)
 refine EvC.rz ?_
 simp only [go_sem]
theorem pairsEq_is (na nb : Bool) (a : List (FA × FA)) (cb : Cp) (hl : a.length < 1000000) : PureIs prog 13 [.sl na (a.map prC) .full, .sl nb (a.map prC) cb] (.sc (.bool true)) := by
 have hn := pairs_norefs a
 have hll : (a.map prC).length = a.length := List.length_map _
 refine PureIs.of1 2 [4, 5, 17, 21, 32] func13 ntmps13 results13 fun _ => ?_
 refine EvC.a ?_
 refine EvC.seq ?_
 refine EvC.g ?_ (h := by simp only [go_sem, hll] <;> rfl)
 refine EvC.cs ?_
 refine EvC.seq ?_
 refine EvC.a ?_
 refine EvC.block ?_
 refine EvC.loopS (σ := Nat) (fun i => ⟨[(0, .sl na (a.map prC) .full), (1, .sl nb (a.map prC) cb), (5, .sc (.int .i64 i))], [], [], 0⟩) (fun i => a.length - i) (fun i => i ≤ a.length) [0, 1, 5] 0 ?_ ?_
 ·exact ⟨[], 0, rfl, (by simp only [go_sem, Int.natCast_zero] <;> rfl), Nat.zero_le _⟩
 intro i hi
 refine EvC.seq ?_
 refine EvC.a ?_ (by simp only [go_sem, hll] <;> rfl)
 refine EvC.cond (by simp only [go_sem] <;> rfl) (fun hc => ?_) (fun hc => ?_)
 rotate_left
 ·refine EvC.exit ?_
  refine EvC.a ?_
  refine EvC.rz ?_
  simp only [go_sem]
 have hil : i < a.length := by simpa using hc
 clear hc
 have he : a[i]? = some (a[i]'hil) := List.getElem?_eq_getElem hil
 generalize a[i]'hil = p at he
 have hpc : (a.map prC)[i]? = some (prC p) := by rw [List.getElem?_map, he]; rfl
 obtain ⟨f, g⟩ := p
 unfold prC at hpc
 rw [List.getElem?_map, he, Option.map_some] at hpc
 clear hpc
 have hpc : (a.map prC)[i]? = some [.sc (.int .i64 f.kind), .sc (.int .i64 f.state), .sc (.int .i64 f.input), .sc (.int .i64 f.to), .sc (.int .i64 f.at'), .sc (.int .i64 f.out), .sc (.int .i64 g.kind), .sc (.int .i64 g.state), .sc (.int .i64 g.input), .sc (.int .i64 g.to), .sc (.int .i64 g.at'), .sc (.int .i64 g.out)] := by rw [List.getElem?_map, he]; rfl
 have hit : (i : Int).toNat = i := Int.toNat_natCast i
 refine EvC.skip ?_
 refine EvC.seq ?_
 refine EvC.block ?_
 refine EvC.d mixed ?_ (h := by simp only [go_sem, hpc, hit, hll] <;> rfl) (hok := by simp; try omega)
 refine EvC.cs ?_
 refine EvC.b ?_ (hok := by exact inI64_of (by omega) (by omega))
 exact ⟨[], i + 1, rfl, (by simp only [go_sem, Int.natCast_add, Int.natCast_one] <;> rfl), hil, by omega⟩
set_option maxRecDepth 100000
def exM : Mach := ⟨1, 2, false, [(false, [(1, 0)]), (false, [(0, 1)])]⟩
def exW : Mach := ⟨1, 2, false, [(false, [(1, 1)]), (false, [(0, 0)])]⟩
def xa : FA := ⟨0, 0, 0, 0, 0, 1⟩
def xb : FA := ⟨0, 1, 0, 0, 0, 0⟩
def xc : FA := ⟨1, 0, 0, 0, 0, 0⟩
def xd : FA := ⟨3, 0, 0, 1, 0, 0⟩
def xu : FA := ⟨2, 0, 0, 0, 0, 0⟩
def xv : FA := ⟨2, 1, 0, 0, 0, 0⟩
def xWs : List RW := [(false, [0], .unk), (false, [0, 0], .unk)]
def errB (e : Int) : AV := .tu [.ag [.sc (.int .i64 0), .sc (.int .i64 0), .sl true [] .zer], .sc (.int .i64 e)]
theorem ex_both1 : bothA exM (xa, xb) = .tu [.ag (mutF (mutF exM xa) xb).cells, .sc (.int .i64 0)] := by kernel_rfl
theorem ex_both1m : mutF (mutF exM xa) xb = exW := by kernel_rfl
theorem ex_both2 : bothA exM (xb, xa) = errB 1 := by kernel_rfl
theorem ex_both3 : bothA exM (xa, xc) = errB 1 := by kernel_rfl
theorem ex_srt : srtE (alF exM [0, 2]) = [xa, xu, xb, xv] := by kernel_rfl
theorem ex_all : allR exM [0, 2] 65536 = 0 := by kernel_rfl
theorem ex_check : checkM exM = 0 := by kernel_rfl
theorem ex_prs : prs [xa, xu, xb, xv] = [(xa, xb), (xa, xv), (xu, xb), (xu, xv)] := by kernel_rfl
theorem ex_pairsE (n : Int) (h0 : 0 ≤ n) (h1 : n ≤ 65536) : pairsE exM [0, 2] n = if n < 4 then 13 else 0 := by
 unfold pairsE
 rw [if_neg (by rw [ex_check]; simp), if_neg (by
  rintro (h | h | ⟨k, hk, h⟩)
  ·omega
  ·omega
  ·simp at hk; omega), if_neg (by rw [ex_all]; simp), ex_srt, ex_prs]
 rfl
theorem ex_pairs1 : pairsA exM [0, 2] 4 = .tu [.sl false ([(xa, xb), (xa, xv), (xu, xb), (xu, xv)].map prC) .full, .sc (.int .i64 0)] := by
 rw [pairsA, ex_pairsE 4 (by omega) (by omega), if_neg (by simp), ex_srt, ex_prs]; rfl
theorem ex_pairs2 : pairsA exM [0, 2] 3 = .tu [.sl true [] .unk, .sc (.int .i64 13)] := by
 rw [pairsA, ex_pairsE 3 (by omega) (by omega), if_pos (by omega), if_pos (by simp)]
theorem ex_eqs : equalsA exM [xa, xb, xc, xd] = .tu [.sl false ([false, false, false, true].map boolC) .full, .sc (.int .i64 0)] := by kernel_rfl
theorem ex_dist : distinctA exM [xa, xb, xc, xd, ⟨3, 1, 0, 0, 0, 0⟩] = .tu [.sl false ([0, 1, 1, 3, 3].map intC) .full, .sc (.int .i64 0)] := by kernel_rfl
theorem ex_least : leastA exM xWs [xa, xb, xc, xd] = .tu [.sl false ([1].map intC) .full, .sc (.int .i64 0)] := by kernel_rfl
theorem ex_sub1 : subsumesA exM xWs xa xb = .tu [.sc (.bool false), .sc (.int .i64 0)] := by kernel_rfl
theorem ex_sub2 : subsumesA exM xWs xb xa = .tu [.sc (.bool true), .sc (.int .i64 0)] := by kernel_rfl
theorem ex_sub3 : subsumesA exM xWs xb xc = .tu [.sc (.bool true), .sc (.int .i64 0)] := by kernel_rfl
theorem ex_sub4 : subsumesA exM xWs xd xa = .tu [.sc (.bool false), .sc (.int .i64 0)] := by kernel_rfl
set_option maxRecDepth 10000
abbrev fA (a b c d e f : Int) : List AV := [.sc (.int .i64 a), .sc (.int .i64 b), .sc (.int .i64 c), .sc (.int .i64 d), .sc (.int .i64 e), .sc (.int .i64 f)]
abbrev pA (a b c d e f a' b' c' d' e' f' : Int) : List AV := [.sc (.int .i64 a), .sc (.int .i64 b), .sc (.int .i64 c), .sc (.int .i64 d), .sc (.int .i64 e), .sc (.int .i64 f), .sc (.int .i64 a'), .sc (.int .i64 b'), .sc (.int .i64 c'), .sc (.int .i64 d'), .sc (.int .i64 e'), .sc (.int .i64 f')]
abbrev iA (a : Int) : List AV := [.sc (.int .i64 a)]
abbrev eA (a b : Int) : List AV := [.sc (.int .i64 a), .sc (.int .i64 b)]
abbrev exC : List AV := [.sc (.int .i64 1), .sc (.int .i64 2), .sl false [[.sl false [eA 1 0] .full], [.sl false [eA 0 1] .full]] .full]
abbrev wsC : AV := .sl false [[.sl false [iA 0] .full], [.sl false [iA 0, iA 0] .full]] .full
abbrev noC : List AV := [.sc (.int .i64 0), .sc (.int .i64 0), .sl true [] .zer]
theorem ex_rows : ∀ r ∈ exM.rows, r.2.length < 1000000 := by decide
theorem ex_noNil : NoNil exM := fun r hr h => by
 simp only [exM, List.mem_cons, List.not_mem_nil, or_false] at hr
 rcases hr with rfl | rfl <;> cases h
theorem ex_ws : ∀ w ∈ xWs, w.2.1.length < 1000000 := by decide
theorem ex_both1_is : PureIs prog 14 [.ag exC, .ag (pA 0 0 0 0 0 1 0 1 0 0 0 0)] (.tu [.ag [.sc (.int .i64 1), .sc (.int .i64 2), .sl false [[.sl false [eA 1 1] .unk], [.sl false [eA 0 0] .unk]] .unk], .sc (.int .i64 0)]) := by
 have q := pairBoth_is exM ex_rows ex_noNil (xa, xb)
 rw [ex_both1, ex_both1m] at q
 exact .weak q
theorem ex_both2_is : PureIs prog 14 [.ag exC, .ag (pA 0 1 0 0 0 0 0 0 0 0 0 1)] (.tu [.ag noC, .sc (.int .i64 1)]) := by
 have q := pairBoth_is exM ex_rows ex_noNil (xb, xa)
 rw [ex_both2] at q
 exact .weak q
theorem ex_both3_is : PureIs prog 14 [.ag exC, .ag (pA 0 0 0 0 0 1 1 0 0 0 0 0)] (.tu [.ag noC, .sc (.int .i64 1)]) := by
 have q := pairBoth_is exM ex_rows ex_noNil (xa, xc)
 rw [ex_both3] at q
 exact .weak q
abbrev exP : List (List AV) := [pA 0 0 0 0 0 1 0 1 0 0 0 0, pA 0 0 0 0 0 1 2 1 0 0 0 0, pA 2 0 0 0 0 0 0 1 0 0 0 0, pA 2 0 0 0 0 0 2 1 0 0 0 0]
theorem ex_pairs1_is : PureIs prog 11 [.ag exC, .sl false [iA 0, iA 2] .full, .sc (.int .i64 4)] (.tu [.sl false exP .full, .sc (.int .i64 0)]) := by
 have q := pairs_is exM ex_rows false [0, 2] .unk (by decide) 4
 rw [ex_pairs1] at q
 exact .weak q
theorem ex_pairs2_is : PureIs prog 11 [.ag exC, .sl false [iA 0, iA 2] .full, .sc (.int .i64 3)] (.tu [.sl true [] .unk, .sc (.int .i64 13)]) := by
 have q := pairs_is exM ex_rows false [0, 2] .unk (by decide) 3
 rw [ex_pairs2] at q
 exact .weak q
theorem ex_same_is : PureIs prog 16 [.ag [.sc (.int .i64 1), .sc (.int .i64 2), .sl false [[.sl false [eA 1 1] .unk], [.sl false [eA 0 0] .unk]] .unk], .ag [.sc (.int .i64 1), .sc (.int .i64 2), .sl false [[.sl false [eA 1 1] .full], [.sl false [eA 0 0] .full]] .full]] (.sc (.bool true)) := by
 have q := sameM_is (a := exW) (b := exW) rfl rfl rfl (by decide) (by decide)
 exact .weak q
theorem ex_pairsEq_is : PureIs prog 13 [.sl false exP .full, .sl false exP .full] (.sc (.bool true)) := by
 exact pairsEq_is false false [(xa, xb), (xa, xv), (xu, xb), (xu, xv)] .full (by decide)
abbrev exL : List (List AV) := [fA 0 0 0 0 0 1, fA 0 1 0 0 0 0, fA 1 0 0 0 0 0, fA 3 0 0 1 0 0]
theorem ex_eqs_is : PureIs prog 19 [.ag exC, .sl false exL .full] (.tu [.sl false [[.sc (.bool false)], [.sc (.bool false)], [.sc (.bool false)], [.sc (.bool true)]] .full, .sc (.int .i64 0)]) := by
 have q := equals19_is exM ex_rows ex_noNil false [xa, xb, xc, xd] .unk (by decide)
 rw [ex_eqs] at q
 exact .weak q
theorem ex_dist_is (c : Cp) : PureIs prog 20 [.ag exC, .sl false (exL ++ [fA 3 1 0 0 0 0]) c] (.tu [.sl false [iA 0, iA 1, iA 1, iA 3, iA 3] .full, .sc (.int .i64 0)]) := by
 have q := distinct_is exM ex_rows ex_noNil false [xa, xb, xc, xd, ⟨3, 1, 0, 0, 0, 0⟩] .unk (by decide)
 rw [ex_dist] at q
 exact .weak q
theorem ex_least_is : PureIs prog 26 [.ag exC, wsC, .sl false exL .full] (.tu [.sl false [iA 1] .full, .sc (.int .i64 0)]) := by
 have q := least_is exM ex_rows ex_noNil false xWs .unk ex_ws (by decide) false [xa, xb, xc, xd] .unk (by decide)
 rw [ex_least] at q
 exact .weak q
theorem ex_sub1_is : PureIs prog 38 [.ag exC, wsC, .ag (fA 0 0 0 0 0 1), .ag (fA 0 1 0 0 0 0)] (.tu [.sc (.bool false), .sc (.int .i64 0)]) := by
 have q := subsumes_is exM ex_rows ex_noNil false xWs .unk ex_ws (by decide) xa xb
 rw [ex_sub1] at q
 exact .weak q
theorem ex_sub2_is : PureIs prog 38 [.ag exC, wsC, .ag (fA 0 1 0 0 0 0), .ag (fA 0 0 0 0 0 1)] (.tu [.sc (.bool true), .sc (.int .i64 0)]) := by
 have q := subsumes_is exM ex_rows ex_noNil false xWs .unk ex_ws (by decide) xb xa
 rw [ex_sub2] at q
 exact .weak q
theorem ex_sub3_is : PureIs prog 38 [.ag exC, wsC, .ag (fA 0 1 0 0 0 0), .ag (fA 1 0 0 0 0 0)] (.tu [.sc (.bool true), .sc (.int .i64 0)]) := by
 have q := subsumes_is exM ex_rows ex_noNil false xWs .unk ex_ws (by decide) xb xc
 rw [ex_sub3] at q
 exact .weak q
theorem ex_sub4_is : PureIs prog 38 [.ag exC, wsC, .ag (fA 3 0 0 1 0 0), .ag (fA 0 0 0 0 0 1)] (.tu [.sc (.bool false), .sc (.int .i64 0)]) := by
 have q := subsumes_is exM ex_rows ex_noNil false xWs .unk ex_ws (by decide) xd xa
 rw [ex_sub4] at q
 exact .weak q
set_option maxHeartbeats 4000000 in
theorem lives_is : PureIs prog 12 [] (.sc (.bool true)) := by
 refine PureIs.of1 8 [9, 11, 12, 13, 15, 16, 17, 18, 19, 20, 21, 22, 23, 24, 25, 26, 27, 123, 201] func12 ntmps12 results12 fun _ => ?_
 refine EvC.a ?_
 refine EvC.a ?_
 refine EvC.z 7 ?_
 refine EvC.a ?_
 refine EvC.z 10 ?_
 refine EvC.a ?_
 refine EvC.z 13 ?_
 refine EvC.a ?_
 refine EvC.z 16 ?_
 refine EvC.a ?_
 refine EvC.z 19 ?_
 refine EvC.k1 ?_ (c1 := .ca ex_both1_is)
 refine EvC.z 29 ?_
 refine EvC.k1 ?_ (c1 := .ca ex_both2_is)
 refine EvC.k1 ?_ (c1 := .ca ex_both3_is)
 refine EvC.k1 ?_ (c1 := .ca ex_pairs1_is)
 refine EvC.k1 ?_ (c1 := .ca ex_pairs2_is)
 refine EvC.a ?_
 refine EvC.z 76 ?_
 refine EvC.a ?_
 refine EvC.z 79 ?_
 refine EvC.a ?_
 refine EvC.z 82 ?_
 refine EvC.seq ?_
 refine EvC.k2 ?_ (c1 := .cg ex_same_is) (c2 := .cg ex_pairsEq_is)
 refine EvC.cs ?_
 refine EvC.a ?_
 refine EvC.a ?_
 refine EvC.k1 ?_ (c1 := .ca ex_eqs_is)
 have hr5 : room 5 48 = true := by simp only [room_eq, decide_eq_true_eq]; omega
 refine EvC.k1D mixed ?_ (k1 := by simp [hr5]) (c1 := .ca (ex_dist_is _))
 refine EvC.k1 ?_ (c1 := .ca ex_least_is)
 refine EvC.seq ?_
 refine EvC.k2 ?_ (c1 := .cg (intsEq_is false false [0, 1, 1, 3, 3] .full (by decide))) (c2 := .cg (intsEq_is false false [1] .full (by decide)))
 refine EvC.cs ?_
 refine EvC.k1 ?_ (c1 := .ca ex_sub1_is)
 refine EvC.k1 ?_ (c1 := .ca ex_sub2_is)
 refine EvC.k1 ?_ (c1 := .ca ex_sub3_is)
 refine EvC.k1 ?_ (c1 := .ca ex_sub4_is)
 refine EvC.g ?_
 refine EvC.rz ?_
 simp only [go_sem]
theorem Valid.check {m : Mach} (h : Valid m) : checkM m = 0 := by
 have h1 := h.ins
 have h2 := h.outs
 have h3 := h.rows
 unfold checkM
 rw [if_neg (by omega), if_neg (by omega), if_pos]
 rw [List.all_eq_true]
 intro r hr
 obtain ⟨k1, k2⟩ := h.row r hr
 simp only [rowOk, Bool.and_eq_true, decide_eq_true_eq, Bool.not_eq_true', List.any_eq_false]
 exact ⟨k1, fun e he => by simpa using k2 e he⟩
theorem LM.small {x : LM} (h : x.Ok) : x.mach.rows.length ≤ 6 ∧ x.mach.ins ≤ 3 := by
 obtain ⟨b1, b2, b3, b4, b5, b6, -, -⟩ := LM.bounds h
 rw [show x.mach.rows.length = x.n by simp [LM.mach]]
 exact ⟨b2, by show (x.i : Int) ≤ 3; omega⟩
def rowsP (m : Mach) : List (List (Int × Int)) := m.rows.map (·.2)
def getP (P : List (List (Int × Int))) (s i : Nat) : Int × Int := (P[s]?.getD [])[i]?.getD (-1, -1)
def putP (P : List (List (Int × Int))) (s i : Nat) (e : Int × Int) : List (List (Int × Int)) := P.set s ((P[s]?.getD []).set i e)
theorem stepM_P (m : Mach) (s a : Int) : stepM m s a = getP (rowsP m) s.toNat a.toNat := by
 unfold stepM getP rowsP
 rw [List.getElem?_map]
theorem rowAt_P (m : Mach) (s : Int) : rowAt m s = (rowsP m)[s.toNat]?.getD [] := by
 unfold rowAt rowsP
 rw [List.getElem?_map]
theorem putR_P (m : Mach) (s i : Int) (e : Int × Int) : (putR m s i e).map (·.2) = putP (rowsP m) s.toNat i.toNat e := by
 unfold putR putP copyR
 rw [List.map_set, rowAt_P, List.map_map]; rfl
theorem getP_put {P : List (List (Int × Int))} {s i s' i' : Nat} {e : Int × Int} (h : s ≠ s' ∨ i ≠ i') : getP (putP P s i e) s' i' = getP P s' i' := by
 unfold getP putP
 by_cases hs : s = s'
 ·subst hs
  have hi : i ≠ i' := h.resolve_left fun h => h rfl
  by_cases hl : s < P.length
  ·rw [List.getElem?_set_self hl]
   simp only [Option.getD_some]
   rw [List.getElem?_set_ne hi]
  ·rw [List.set_eq_of_length_le (by omega)]
 ·rw [List.getElem?_set_ne hs]
theorem putP_comm {P : List (List (Int × Int))} {s i s' i' : Nat} {e e' : Int × Int} (h : s ≠ s' ∨ i ≠ i') : putP (putP P s i e) s' i' e' = putP (putP P s' i' e') s i e := by
 unfold putP
 by_cases hs : s = s'
 ·subst hs
  have hi : i ≠ i' := h.resolve_left fun h => h rfl
  by_cases hl : s < P.length
  ·rw [List.getElem?_set_self hl, List.getElem?_set_self hl]
   simp only [Option.getD_some]
   rw [List.set_set, List.set_set, List.set_comm _ _ hi]
  ·have hx : ∀ r, P.set s r = P := fun r => List.set_eq_of_length_le (by omega)
   simp only [hx]
 ·rw [List.getElem?_set_ne hs, List.getElem?_set_ne (fun h => hs h.symm), List.set_comm _ _ hs]
def edgeF (m : Mach) (f : FA) : Int × Int := if f.kind = 0 then ((stepM m f.state f.input).1, f.out) else if f.kind = 1 then (f.to, (stepM m f.state f.input).2) else (-1, -1)
theorem mutP (m : Mach) {f : FA} (h : 0 ≤ f.kind ∧ f.kind < 3) : rowsP (mutF m f) = putP (rowsP m) f.state.toNat f.input.toNat (edgeF m f) := by
 show (mutRows m f).map (·.2) = _
 unfold mutRows edgeF
 obtain h0 | h0 | h0 : f.kind = 0 ∨ f.kind = 1 ∨ f.kind = 2 := by omega
 ·rw [if_pos h0, if_pos h0, putR_P]
 ·rw [if_neg (by omega), if_pos h0, if_neg (by omega), if_pos h0, putR_P]
 ·rw [if_neg (by omega), if_neg (by omega), if_pos h0, if_neg (by omega), if_neg (by omega), putR_P]
theorem mutF_rows (m : Mach) {f : FA} (h : 0 ≤ f.kind ∧ f.kind < 3) : (mutF m f).rows.length = m.rows.length := by
 have := congrArg List.length (mutP m h)
 unfold rowsP putP at this
 rw [List.length_map, List.length_set, List.length_map] at this
 exact this
structure PairOk (m : Mach) (f g : FA) : Prop where
 okf : faultB m f = true
 okg : faultB m g = true
 fk : f.kind < 3
 gk : g.kind < 3
 lt : ltE f g = true
theorem faultB_place {m : Mach} {f : FA} (h : faultB m f = true) : (0 ≤ f.kind ∧ f.kind ≤ 4) ∧ (0 ≤ f.state ∧ f.state < m.rows.length) ∧ 0 ≤ f.input ∧ f.input < m.ins := by
 unfold faultB at h
 simp only [Bool.and_eq_true] at h
 obtain ⟨h1, h2, _⟩ := h
 obtain ⟨a, b, _⟩ := definedB_iff.1 h2
 have := plainB_kind h1
 exact ⟨by omega, a, b⟩
theorem PairOk.ne {m : Mach} {f g : FA} (h : PairOk m f g) : f.state.toNat ≠ g.state.toNat ∨ f.input.toNat ≠ g.input.toNat := by
 have h1 := faultB_place h.okf
 have h2 := faultB_place h.okg
 have h3 := ltE_iff.1 h.lt
 omega
theorem PairOk.ne' {m : Mach} {f g : FA} (h : PairOk m f g) : g.state.toNat ≠ f.state.toNat ∨ g.input.toNat ≠ f.input.toNat := by
 have := h.ne; omega
theorem step_mut {m : Mach} {f : FA} (h : 0 ≤ f.kind ∧ f.kind < 3) {s i : Int} (hn : f.state.toNat ≠ s.toNat ∨ f.input.toNat ≠ i.toNat) : stepM (mutF m f) s i = stepM m s i := by
 rw [stepM_P, mutP m h, getP_put hn, stepM_P]
theorem fault_mut {m : Mach} {f g : FA} (h : 0 ≤ f.kind ∧ f.kind < 3) (hg : 0 ≤ g.kind ∧ g.kind < 3) (hn : f.state.toNat ≠ g.state.toNat ∨ f.input.toNat ≠ g.input.toNat) : faultB (mutF m f) g = faultB m g := by
 have e1 : definedB (mutF m f) g.state g.input = definedB m g.state g.input := by
  unfold definedB
  rw [step_mut h hn, mutF_rows m h]; rfl
 have e2 : kindB (mutF m f) g = kindB m g := by
  unfold kindB
  rw [step_mut h hn, mutF_rows m h]
  obtain h0 | h0 | h0 : g.kind = 0 ∨ g.kind = 1 ∨ g.kind = 2 := by omega
  ·rw [if_pos h0, if_pos h0]; rfl
  ·rw [if_neg (by omega), if_pos h0, if_neg (by omega), if_pos h0]
  ·rw [if_neg (by omega), if_neg (by omega), if_pos h0, if_neg (by omega), if_neg (by omega), if_pos h0]
 unfold faultB
 rw [e1, e2]
theorem checkF_ok {m : Mach} {f : FA} (h : faultB m f = true) (hk : f.kind < 3) : checkF m f = 0 := by
 unfold checkF
 rw [if_pos h, if_neg (by omega)]
theorem PairOk.check {m : Mach} {f g : FA} (h : PairOk m f g) : checkF m f = 0 ∧ checkF m g = 0 ∧ checkF (mutF m f) g = 0 ∧ faultB (mutF m f) g = true ∧ faultB (mutF m g) f = true := by
 have hf := faultB_place h.okf
 have hg := faultB_place h.okg
 have fk := h.fk
 have gk := h.gk
 have h1 : faultB (mutF m f) g = true := by rw [fault_mut (by omega) (by omega) h.ne]; exact h.okg
 have h2 : faultB (mutF m g) f = true := by rw [fault_mut (by omega) (by omega) h.ne']; exact h.okf
 exact ⟨checkF_ok h.okf fk, checkF_ok h.okg gk, checkF_ok h1 gk, h1, h2⟩
theorem PairOk.same {m : Mach} {f g : FA} (h : PairOk m f g) : (mutF (mutF m f) g).rows.map (·.2) = (mutF (mutF m g) f).rows.map (·.2) := by
 have hf := faultB_place h.okf
 have hg := faultB_place h.okg
 have fk := h.fk
 have gk := h.gk
 show rowsP _ = rowsP _
 rw [mutP _ (by omega), mutP _ (by omega), mutP _ (by omega), mutP _ (by omega), putP_comm h.ne]
 have e1 : edgeF (mutF m f) g = edgeF m g := by unfold edgeF; rw [step_mut (by omega) h.ne]
 have e2 : edgeF (mutF m g) f = edgeF m f := by unfold edgeF; rw [step_mut (by omega) h.ne']
 rw [e1, e2]
theorem edgeI_zero {f g : FA} : edgeI f g = 0 ↔ f.state = g.state ∧ f.input = g.input := by
 simp only [edgeI, orR, cmpJ]
 by_cases h1 : f.state < g.state
 ·simp [h1]; omega
 by_cases h2 : g.state < f.state
 ·simp [h1, h2, show ¬ f.state = g.state by omega]
 by_cases h3 : f.input < g.input
 ·simp [h1, h2, h3]; omega
 by_cases h4 : g.input < f.input
 ·simp [h1, h2, h3, h4]; omega
 ·simp [h1, h2, h3, h4]; omega
theorem bothR_zero {a b : Mach} (ha : Valid a) (hb : Valid b) (hab : a.ins = b.ins) : bothR a b = 0 := by
 unfold bothR
 simp [ha.check, hb.check, hab]
theorem eqM_none {a b : Mach} (ha : Valid a) (hb : Valid b) (hab : a.ins = b.ins) : eqM a b = (diffO a b).isNone := by simp only [eqM, equalR, bothR_zero ha hb hab]; simp
theorem eqM_iff {a b : Mach} (ha : Valid a) (hb : Valid b) (hab : a.ins = b.ins) : eqM a b = true ↔ ∀ v, WOk a.ins.toNat v → runR a 0 v = runR b 0 v := by
 rw [eqM_none ha hb hab]
 rcases diff_least ha hb hab with ⟨h1, h2⟩ | ⟨h1, _, h2⟩
 ·constructor
  ·intro h
   cases hd : diffO a b <;> simp [hd] at h h1
  ·intro h
   exact absurd (h _ h2.1) h2.2.1
 ·rw [h1]
  exact ⟨fun _ => h2, fun _ => rfl⟩
structure MutsOk (m : Mach) (fs : List FA) : Prop where
 v : Valid m
 r : m.rows.length < 64
 b : ∀ f ∈ fs, faultB m f = true
 n : fs.length ≤ 256
theorem MutsOk.check {m : Mach} {fs : List FA} (h : MutsOk m fs) {f : FA} (hf : f ∈ fs) : checkF m f = 0 := by
 have := h.r
 unfold checkF
 rw [if_pos (h.b f hf), if_neg (by omega)]
theorem MutsOk.mv {m : Mach} {fs : List FA} (h : MutsOk m fs) {f : FA} (hf : f ∈ fs) : Valid (mutF m f) := mutF_valid h.v (h.check hf)
theorem errFs_ok {m : Mach} : ∀ {fs : List FA}, (∀ f ∈ fs, checkF m f = 0) → errFs m fs = 0
 | [], _ => rfl
 | f :: fs, h => by
   rw [errFs, if_pos (h f List.mem_cons_self)]
   exact errFs_ok fun g hg => h g (List.mem_cons_of_mem _ hg)
theorem MutsOk.eq {m : Mach} {fs : List FA} (h : MutsOk m fs) {f g : FA} (hf : f ∈ fs) (hg : g ∈ fs) : eqM (mutF m f) (mutF m g) = true ↔ ∀ v, WOk m.ins.toNat v → runR (mutF m f) 0 v = runR (mutF m g) 0 v := eqM_iff (h.mv hf) (h.mv hg) rfl
def eqF (m : Mach) (f g : FA) : Bool := (diffO (mutF m f) (mutF m g)).isNone
theorem MutsOk.eqF {m : Mach} {fs : List FA} (h : MutsOk m fs) {f g : FA} (hf : f ∈ fs) (hg : g ∈ fs) : Avl.eqF m f g = eqM (mutF m f) (mutF m g) := (eqM_none (h.mv hf) (h.mv hg) rfl).symm
theorem MutsOk.refl {m : Mach} {fs : List FA} (h : MutsOk m fs) {f : FA} (hf : f ∈ fs) : Avl.eqF m f f = true := by
 rw [h.eqF hf hf, h.eq hf hf]; exact fun _ _ => rfl
def SrtW (W : List RW) : Prop := W.Pairwise fun x y => cmpL x.2.1 y.2.1 < 0
theorem SrtW.lt {W : List RW} (h : SrtW W) {i j : Nat} (hij : i < j) (hj : j < W.length) : cmpL (W[i]'(by omega)).2.1 W[j].2.1 < 0 := List.pairwise_iff_getElem.1 h i j (by omega) hj hij
@[go_sem] theorem norefs_wb (l : List (Bool × List Int)) : (l.map wbR).all AV.norefs = true := by simp [List.all_eq_true, wbR, AV.norefs, AV.noref]
structure LW where
 inp : Int
 wn : Bool
 ws : List (Bool × List Int)
 wc : Cp
def LW.cells (x : LW) : List AV := [.sc (.int .u8 x.inp), .sl x.wn (x.ws.map wbR) x.wc]
structure LW.Ok (x : LW) : Prop where
 i : 0 ≤ x.inp ∧ x.inp < 256
 a : ∀ y ∈ x.ws, ∀ e ∈ y.2, 0 ≤ e ∧ e < 256
structure WsOk (n : Int) (W : List RW) : Prop where
 s : SrtW W
 l : W.length ≤ 40
 w : ∀ w ∈ W, w.2.1.length ≤ 12 ∧ ∀ a ∈ w.2.1, 0 ≤ a ∧ a < n
theorem aheadB_srt : ∀ {W : List RW}, SrtW W → aheadB W = true
 | [], _ => rfl
 | [_], _ => rfl
 | a :: b :: l, h => by
   obtain ⟨h1, h2⟩ := List.pairwise_cons.1 h
   rw [aheadB, decide_eq_true (h1 b List.mem_cons_self), aheadB_srt h2]; rfl
theorem stepsW_le {K : Nat} : ∀ {W : List RW}, (∀ w ∈ W, w.2.1.length ≤ K) → stepsW W ≤ K * W.length
 | [], _ => Nat.zero_le _
 | w :: W, h => by
   have h1 := h w List.mem_cons_self
   have h2 := stepsW_le (W := W) fun x hx => h x (List.mem_cons_of_mem _ hx)
   simp only [stepsW, List.map_cons, List.sum_cons, List.length_cons] at h2 ⊢
   rw [Nat.mul_add]; omega
theorem wordErr_ok {n : Int} {w : List Int} (hn : 1 ≤ n ∧ n ≤ 16) (hl : w.length ≤ 256) (ha : ∀ a ∈ w, 0 ≤ a ∧ a < n) : wordErr n w = 0 := by
 unfold wordErr
 rw [if_neg (by omega), if_neg]
 rintro (h | h)
 ·omega
 ·rw [List.any_eq_true] at h
  obtain ⟨a, h1, h2⟩ := h
  have := ha a h1
  simp only [Bool.or_eq_true, decide_eq_true_eq] at h2
  omega
theorem errW_ok {n : Int} : ∀ {W : List RW}, (∀ w ∈ W, wordErr n w.2.1 = 0) → errW n W = 0
 | [], _ => rfl
 | w :: W, h => by
   rw [errW, if_neg (by rw [h w List.mem_cons_self]; simp)]
   exact errW_ok fun x hx => h x (List.mem_cons_of_mem _ hx)
theorem WsOk.ready {m : Mach} (hv : Valid m) {W : List RW} (h : WsOk m.ins W) : readyE m W = 0 := by
 have hi := hv.ins
 have h1 := h.l
 have h2 := stepsW_le (K := 12) fun w hw => (h.w w hw).1
 have h3 : errW m.ins W = 0 := errW_ok fun w hw => wordErr_ok (by omega) (by have := (h.w w hw).1; omega) (h.w w hw).2
 unfold readyE
 rw [if_neg (by rw [hv.check]; simp)]
 have h4 : looseE m.ins W = 0 := by
  unfold looseE
  rw [if_neg (by omega), if_neg (by omega), h3]
 unfold triesE
 rw [if_neg (by rw [h4]; simp), if_neg (by rw [aheadB_srt h.s]; simp), if_neg (by omega)]
theorem killL_mem {m t : Mach} {k : Int} : ∀ {W : List RW} {s : Nat}, k ∈ killL m t W s ↔ ∃ i, ∃ h : i < W.length, k = ((s + i : Nat) : Int) ∧ runR m 0 W[i].2.1 ≠ runR t 0 W[i].2.1
 | [], s => by simp [killL]
 | w :: W, s => by
   have ih := killL_mem (m := m) (t := t) (k := k) (W := W) (s := s + 1)
   have hr : (∃ i, ∃ h : i < W.length, k = ((s + 1 + i : Nat) : Int) ∧ runR m 0 W[i].2.1 ≠ runR t 0 W[i].2.1) ↔ ∃ i, ∃ h : i + 1 < (w :: W).length, k = ((s + (i + 1) : Nat) : Int) ∧ runR m 0 ((w :: W)[i + 1]'h).2.1 ≠ runR t 0 ((w :: W)[i + 1]'h).2.1 := by
    constructor
    ·rintro ⟨i, h, e, d⟩; exact ⟨i, by simpa using h, by omega, d⟩
    ·rintro ⟨i, h, e, d⟩; exact ⟨i, by simpa using h, by omega, d⟩
   rw [hr] at ih
   rw [killL]
   constructor
   ·intro h
    split at h
    ·obtain ⟨i, h1, h2⟩ := ih.1 h
     exact ⟨i + 1, h1, h2⟩
    ·rename_i hd
     rcases List.mem_cons.1 h with h | h
     ·exact ⟨0, by simp, by omega, hd⟩
     ·obtain ⟨i, h1, h2⟩ := ih.1 h
      exact ⟨i + 1, h1, h2⟩
   ·rintro ⟨i, h1, h2, h3⟩
    cases i with
    | zero =>
      have h3 : runR m 0 w.2.1 ≠ runR t 0 w.2.1 := h3
      rw [if_neg h3]
      exact List.mem_cons.2 (.inl (by omega))
    | succ i =>
      have := ih.2 ⟨i, h1, h2, h3⟩
      split
      ·exact this
      ·exact List.mem_cons_of_mem _ this
theorem subB_iff {a b : List Int} : subB a b = true ↔ ∀ x ∈ a, x ∈ b := by
 unfold subB
 simp
theorem norefs_mrows (l : List Row) : (l.map rowC).all AV.norefs = true := by
 rw [List.all_eq_true]
 intro c hc
 obtain ⟨r, _, rfl⟩ := List.mem_map.1 hc
 exact rowC_norefs r
set_option maxRecDepth 100000
def prsN : List FA → Nat
 | [] => 0
 | f :: l => (l.filter fun g => !decide (edgeI f g = 0)).length + prsN l
theorem prs_len : ∀ L : List FA, (prs L).length = prsN L
 | [] => rfl
 | f :: l => by rw [prs, List.length_append, prs_len l, prsOf, List.length_map]; rfl
theorem prsN_ge (c : Nat) : ∀ (k : Nat) (L : List FA), (∀ s i, (L.filter (atE s i)).length ≤ c) → k * (L.length - k - c) ≤ prsN L
 | 0, L, _ => by rw [Nat.zero_mul]; exact Nat.zero_le _
 | k + 1, [], _ => by simp
 | k + 1, f :: l, h => by
   have hl : ∀ s i, (l.filter (atE s i)).length ≤ c := fun s i => by
    have := h s i
    rw [List.filter_cons] at this
    split at this
    ·simp only [List.length_cons] at this; omega
    ·exact this
   have ih := prsN_ge c k l hl
   have h1 := h f.state f.input
   rw [List.filter_cons_of_pos (atE_iff.2 ⟨rfl, rfl⟩), List.length_cons] at h1
   have h2 : (l.filter (atE f.state f.input)).length + (l.filter fun g => !decide (edgeI f g = 0)).length = l.length := by
    have e : (fun g => !decide (edgeI f g = 0)) = fun g => !(atE f.state f.input g) := by
     funext g
     congr 1
     rw [Bool.eq_iff_iff, decide_eq_true_eq, edgeI_zero, atE_iff]
     constructor <;> rintro ⟨a, b⟩ <;> exact ⟨a.symm, b.symm⟩
    rw [e]
    clear ih h1 h hl e
    induction l with
    | nil => rfl
    | cons x l ih =>
      rw [List.filter_cons, List.filter_cons]
      cases atE f.state f.input x
      ·simp only [Bool.not_false, if_true, List.length_cons, Bool.false_eq_true, if_false]; omega
      ·simp only [Bool.not_true, if_true, List.length_cons, Bool.false_eq_true, if_false]; omega
   rw [prsN, List.length_cons, Nat.add_mul, Nat.one_mul, show l.length + 1 - (k + 1) - c = l.length - k - c by omega]
   omega
theorem ofT_at {k s i e : Int} : ∀ {n : Nat}, ∀ f ∈ ofT k s i e n, f.state = s ∧ f.input = i
 | 0, f, h => by cases h
 | n + 1, f, h => by
   rw [ofT] at h
   rcases List.mem_append.1 h with h | h
   ·exact ofT_at f h
   ·split at h
    ·rw [List.mem_singleton] at h; subst h; exact ⟨rfl, rfl⟩
    ·cases h
theorem ofT_len1 {s i e : Int} : ∀ (n : Nat), (ofT 1 s i e n).length = if 0 ≤ e ∧ e < n then n - 1 else n
 | 0 => by rw [if_neg (by omega)]; rfl
 | n + 1 => by
   rw [ofT, List.length_append, ofT_len1 n]
   by_cases h : (n : Int) = e
   ·subst h; simp; omega
   ·simp [h]
    split <;> split <;> omega
theorem ofF1_len {m : Mach} {s i : Int} (h : definedB m s i = true) (hv : Valid m) : (ofF m 1 s i).length = m.rows.length - 1 := by
 obtain ⟨r, _, _, h3⟩ := step_in hv h
 unfold ofF
 rw [if_neg (by omega), if_pos (by omega), ofT_len1, if_pos h3]
theorem ofF2_len (m : Mach) (s i : Int) : (ofF m 2 s i).length = 1 := by
 unfold ofF
 rw [if_neg (by omega), if_neg (by omega), if_pos rfl]; rfl
theorem ofF_at {m : Mach} {k s i : Int} (hk : k = 1 ∨ k = 2) : ∀ f ∈ ofF m k s i, f.state = s ∧ f.input = i := fun f h => by
 unfold ofF at h
 rw [if_neg (by omega)] at h
 split at h
 ·exact ofT_at f h
 ·split at h
  ·rw [List.mem_singleton] at h; subst h; exact ⟨rfl, rfl⟩
  ·omega
theorem egI_mem {m : Mach} {s : Int} : ∀ {n : Nat} {p : Int × Int}, p ∈ egI m s n → p.1 = s ∧ p.2 < n
 | 0, p, h => by cases h
 | n + 1, p, h => by
   rw [egI] at h
   rcases List.mem_append.1 h with h | h
   ·have := egI_mem h; omega
   ·split at h
    ·rw [List.mem_singleton] at h; subst h; exact ⟨rfl, by simp only; omega⟩
    ·cases h
theorem egI_nodup (m : Mach) (s : Int) : ∀ n, (egI m s n).Nodup
 | 0 => List.nodup_nil
 | n + 1 => by
   rw [egI]
   refine List.nodup_append.2 ⟨egI_nodup m s n, ?_, fun a ha b hb => ?_⟩
   ·split
    ·exact List.nodup_cons.2 ⟨by simp, List.nodup_nil⟩
    ·exact List.nodup_nil
   ·split at hb
    ·rw [List.mem_singleton] at hb
     have := (egI_mem ha).2
     intro e
     rw [e, hb] at this
     simp only at this; omega
    ·cases hb
theorem egS_mem {m : Mach} : ∀ {n : Nat} {p : Int × Int}, p ∈ egS m n → p.1 < n
 | 0, p, h => by cases h
 | n + 1, p, h => by
   rw [egS] at h
   rcases List.mem_append.1 h with h | h
   ·have := egS_mem h; omega
   ·have := (egI_mem h).1; omega
theorem egS_nodup (m : Mach) : ∀ n, (egS m n).Nodup
 | 0 => List.nodup_nil
 | n + 1 => by
   rw [egS]
   refine List.nodup_append.2 ⟨egS_nodup m n, egI_nodup m _ _, fun a ha b hb e => ?_⟩
   have h1 := egS_mem ha
   have h2 := (egI_mem hb).1
   rw [e] at h1; omega
theorem alE_fil {m : Mach} {k : Int} {c : Nat} (hk : k = 1 ∨ k = 2) (s i : Int) : ∀ ps : List (Int × Int), ps.Nodup → (∀ p ∈ ps, (ofF m k p.1 p.2).length ≤ c) → ((alE m k ps).filter (atE s i)).length ≤ (if (s, i) ∈ ps then c else 0)
 | [], _, _ => by simp [alE]
 | p :: ps, hn, hc => by
   obtain ⟨h1, h2⟩ := List.nodup_cons.1 hn
   have ih := alE_fil hk s i ps h2 fun q hq => hc q (List.mem_cons_of_mem _ hq)
   have hp := hc p List.mem_cons_self
   have h3 : alE m k (p :: ps) = ofF m k p.1 p.2 ++ alE m k ps := by simp [alE]
   rw [h3, List.filter_append, List.length_append]
   by_cases he : p = (s, i)
   ·subst he
    rw [if_neg h1] at ih
    rw [if_pos List.mem_cons_self]
    have := List.length_filter_le (atE s i) (ofF m k s i)
    simp only at hp ⊢
    omega
   ·have e : (ofF m k p.1 p.2).filter (atE s i) = [] := by
      rw [List.filter_eq_nil_iff]
      intro f hf ha
      rw [atE_iff] at ha
      have := ofF_at hk f hf
      exact he (Prod.ext (by rw [← this.1]; exact ha.1) (by rw [← this.2]; exact ha.2))
    rw [e, List.length_nil, Nat.zero_add]
    by_cases hm : (s, i) ∈ ps
    ·rw [if_pos hm] at ih
     rw [if_pos (List.mem_cons_of_mem _ hm)]; exact ih
    ·rw [if_neg hm] at ih
     omega
theorem alE_len1 {m : Mach} {k : Int} {c : Nat} : ∀ ps : List (Int × Int), (∀ p ∈ ps, (ofF m k p.1 p.2).length = c) → (alE m k ps).length = c * ps.length
 | [], _ => by simp [alE]
 | p :: ps, h => by
   have ih := alE_len1 (m := m) (k := k) ps fun q hq => h q (List.mem_cons_of_mem _ hq)
   have h3 : alE m k (p :: ps) = ofF m k p.1 p.2 ++ alE m k ps := by simp [alE]
   rw [h3, List.length_append, ih, h p List.mem_cons_self, List.length_cons, Nat.mul_add]; omega
def grM : Mach := ⟨16, 2, false, (List.range 64).map fun s => (false, (List.range 16).map fun i => ((((s + i) % 64 : Nat) : Int), ((i % 2 : Nat) : Int)))⟩
theorem gr_check : checkM grM = 0 := by kernel_rfl
theorem gr_valid : Valid grM := Valid.of gr_check
theorem gr_rows : grM.rows.length = 64 := by simp [grM]
theorem gr_edges : (egL grM).length = 1024 := by kernel_rfl
theorem gr_len2 : (alE grM 2 (egL grM)).length = 1024 := by
 rw [alE_len1 (c := 1) _ fun p _ => ofF2_len grM p.1 p.2, gr_edges]
theorem gr_len1 : (alE grM 1 (egL grM)).length = 64512 := by
 rw [alE_len1 (c := 63) _ fun p hp => by rw [ofF1_len (egS_def grM _ p hp) gr_valid, gr_rows], gr_edges]
theorem gr_two : (alF grM [2]) = alE grM 2 (egL grM) := by simp [alF]
theorem gr_both : (alF grM [1, 2]) = alE grM 1 (egL grM) ++ alE grM 2 (egL grM) := by simp [alF]
theorem gr_fil2 (s i : Int) : ((alE grM 2 (egL grM)).filter (atE s i)).length ≤ 1 := by
 have := alE_fil (m := grM) (k := 2) (c := 1) (.inr rfl) s i (egL grM) (egS_nodup grM _) fun p _ => Nat.le_of_eq (ofF2_len grM p.1 p.2)
 split at this <;> omega
theorem gr_fil1 (s i : Int) : ((alE grM 1 (egL grM)).filter (atE s i)).length ≤ 63 := by
 have := alE_fil (m := grM) (k := 1) (c := 63) (.inl rfl) s i (egL grM) (egS_nodup grM _) fun p hp => by rw [ofF1_len (egS_def grM _ p hp) gr_valid, gr_rows]; exact Nat.le_refl _
 split at this <;> omega
theorem gr_many2 : 65536 < (prs (srtE (alF grM [2]))).length := by
 rw [prs_len]
 have := prsN_ge 1 100 (srtE (alF grM [2])) fun s i => by rw [srtE_fil, gr_two]; exact gr_fil2 s i
 rw [srtE_len, gr_two, gr_len2] at this
 rw [gr_two]; omega
theorem gr_many1 : 65536 < (prs (srtE (alF grM [1, 2]))).length := by
 rw [prs_len]
 have := prsN_ge 64 2 (srtE (alF grM [1, 2])) fun s i => by
  rw [srtE_fil, gr_both, List.filter_append, List.length_append]
  have := gr_fil1 s i
  have := gr_fil2 s i
  omega
 rw [srtE_len, gr_both, List.length_append, gr_len1, gr_len2] at this
 rw [gr_both]; omega
theorem gr_pairs (ks : List Int) (h : ks = [2] ∨ ks = [1, 2]) : pairsA grM ks 65536 = .tu [.sl true [] .unk, .sc (.int .i64 13)] := by
 have hk : kLast ks (-1) = some 2 := by rcases h with rfl | rfl <;> decide
 have hg : ks.getLast? = some 2 := by rcases h with rfl | rfl <;> rfl
 have hl : (alF grM ks).length ≤ 65536 := by
  rcases h with rfl | rfl
  ·rw [gr_two, gr_len2]; omega
  ·rw [gr_both, List.length_append, gr_len1, gr_len2]; omega
 have hm : 65536 < (prs (srtE (alF grM ks))).length := by
  rcases h with rfl | rfl
  ·exact gr_many2
  ·exact gr_many1
 have hr : readyR grM ks 65536 = 0 := by
  unfold readyR
  rw [if_neg (by rw [gr_check]; simp), hk]
  simp only
  rw [if_neg (by decide), if_neg (by omega)]
 have ha : allR grM ks 65536 = 0 := by
  unfold allR
  rw [if_neg (by rw [hr]; simp), if_neg (by omega)]
 have hE : pairsE grM ks 65536 = 13 := by
  unfold pairsE
  rw [if_neg (by rw [gr_check]; simp), if_neg, if_neg (by rw [ha]; simp), if_pos (by omega)]
  rintro (h | h | ⟨k, h1, h2⟩)
  ·omega
  ·omega
  ·rw [hg] at h1
   obtain rfl := Option.some.inj h1
   omega
 unfold pairsA
 rw [hE, if_pos (by omega)]
def fwM : Mach := ⟨1, 2, false, (List.range 64).map fun s => (false, [((((s + 1) % 64 : Nat) : Int), 0)])⟩
theorem fw_check : checkM fwM = 0 := by kernel_rfl
theorem fw_valid : Valid fwM := Valid.of fw_check
theorem fw_rows : fwM.rows.length = 64 := by simp [fwM]
theorem fw_many : prsN (srtE (alF fwM [0, 2])) = 8064 := by kernel_rfl
theorem fw_all : allR fwM [0, 2] 65536 = 0 := by kernel_rfl
theorem fw_pairsE (n : Int) (h0 : 0 ≤ n) (h1 : n ≤ 65536) : pairsE fwM [0, 2] n = if n < 8064 then 13 else 0 := by
 unfold pairsE
 rw [if_neg (by rw [fw_check]; simp), if_neg, if_neg (by rw [fw_all]; simp), prs_len, fw_many]
 ·rfl
 ·rintro (h | h | ⟨k, hk, h⟩)
  ·omega
  ·omega
  ·simp at hk; omega
def fwP : List (FA × FA) := prs (srtE (alF fwM [0, 2]))
theorem fw_len : fwP.length = 8064 := by rw [fwP, prs_len, fw_many]
theorem fw_pairs1 : pairsA fwM [0, 2] 8064 = .tu [.sl false (fwP.map prC) .full, .sc (.int .i64 0)] := by
 rw [pairsA, fw_pairsE 8064 (by omega) (by omega), if_neg (by simp)]
 have : (prs (srtE (alF fwM [0, 2]))).isEmpty = false := by
  have h := fw_len
  rw [fwP] at h
  cases hp : prs (srtE (alF fwM [0, 2])) with
  | nil => rw [hp] at h; cases h
  | cons a l => rfl
 rw [this]; rfl
theorem fw_pairs2 : pairsA fwM [0, 2] 8063 = .tu [.sl true [] .unk, .sc (.int .i64 13)] := by
 rw [pairsA, fw_pairsE 8063 (by omega) (by omega), if_pos (by omega), if_pos (by simp)]
theorem fw_extra : mutErr fwM [⟨3, 0, 0, 0, 0, 0⟩] = 3 := by kernel_rfl
theorem fw_great {fs : List FA} (h : 256 < fs.length) : mutErr fwM fs = 3 := by
 unfold mutErr
 rw [if_neg (by rw [fw_check]; simp), if_pos (by omega)]
def zW (j : Nat) : RW := (false, List.replicate (j + 1) 0, .unk)
def zWs : List RW := (List.range 64).map zW
def fS (s : Nat) : FA := ⟨0, s, 0, 0, 0, 1⟩
def fSs : List FA := (List.range 64).map fS
theorem zWs_get {j : Nat} (h : j < 64) : zWs[j]? = some (zW j) := by rw [zWs, List.getElem?_map, List.getElem?_range h]; rfl
theorem fSs_get {j : Nat} (h : j < 64) : fSs[j]? = some (fS j) := by rw [fSs, List.getElem?_map, List.getElem?_range h]; rfl
theorem fw_step {s : Nat} (h : s < 64) : stepM fwM s 0 = ((((s + 1) % 64 : Nat) : Int), 0) := by
 unfold stepM
 rw [Int.toNat_natCast, show fwM.rows[s]? = some (false, [((((s + 1) % 64 : Nat) : Int), 0)]) by
  rw [fwM, List.getElem?_map, List.getElem?_range h]; rfl]
 rfl
theorem fw_fault {s : Nat} (h : s < 64) : faultB fwM (fS s) = true := by
 have h1 := fw_step h
 have h2 := fw_rows
 have hd : definedB fwM s 0 = true := by
  rw [definedB_iff]
  rw [h1]
  exact ⟨⟨by omega, by omega⟩, ⟨by omega, by decide⟩, by simp only; omega⟩
 unfold faultB plainB kindB fS
 simp only [if_true, hd, h1]
 rfl
theorem fS_kind {s : Nat} : 0 ≤ (fS s).kind ∧ (fS s).kind < 3 := ⟨Int.le_refl 0, by simp [fS]⟩
theorem fw_same {s t : Nat} (hs : s < 64) (ht : t < 64) : stepM (mutF fwM (fS s)) t 0 = ((((t + 1) % 64 : Nat) : Int), if t = s then 1 else 0) := by
 by_cases h : s = t
 ·subst h
  rw [if_pos rfl, stepM_P, mutP fwM (f := fS s) fS_kind]
  have e : edgeF fwM (fS s) = ((((s + 1) % 64 : Nat) : Int), 1) := by
   unfold edgeF fS
   simp only [if_true, fw_step hs]
  rw [e]
  have hr : (rowsP fwM)[s]? = some [((((s + 1) % 64 : Nat) : Int), 0)] := by
   rw [rowsP, fwM, List.map_map, List.getElem?_map, List.getElem?_range hs]; rfl
  unfold getP putP
  simp only [fS, Int.toNat_natCast]
  rw [List.getElem?_set_self (by rw [rowsP, List.length_map, fw_rows]; exact hs), hr]
  rfl
 ·rw [if_neg (fun e => h e.symm), step_mut (f := fS s) fS_kind (.inl (by simp only [fS]; omega)), fw_step ht]
theorem stepR_M {m : Mach} {s a : Int} (h : 0 ≤ s) : stepR m s a = stepM m s a := by
 unfold stepR
 rw [if_neg (by omega)]; rfl
theorem fw_run : ∀ (n s : Nat), s < 64 → runR fwM s (List.replicate n 0) = List.replicate n 0
 | 0, s, _ => rfl
 | n + 1, s, h => by
   rw [List.replicate_succ, runR, stepR_M (by omega), fw_step h, fw_run n _ (Nat.mod_lt _ (by omega))]
theorem fw_mut {s : Nat} (hs : s < 64) : ∀ (n t : Nat), t ≤ s → (runR (mutF fwM (fS s)) t (List.replicate n 0) = List.replicate n 0 ↔ n ≤ s - t)
 | 0, t, _ => by simp [runR]
 | n + 1, t, h => by
   rw [List.replicate_succ, runR, stepR_M (by omega), fw_same hs (by omega)]
   by_cases e : t = s
   ·rw [if_pos e, List.cons.injEq]
    constructor
    ·rintro ⟨h1, _⟩; simp at h1
    ·intro h1; omega
   ·rw [if_neg e, show (t + 1) % 64 = t + 1 by omega, List.cons.injEq, fw_mut hs n (t + 1) (by omega)]
    constructor
    ·rintro ⟨_, h1⟩; omega
    ·intro h1; exact ⟨rfl, by omega⟩
theorem fw_kill {s : Nat} (hs : s < 64) {x : Int} : x ∈ killW fwM zWs (fS s) ↔ ∃ j : Nat, s ≤ j ∧ j < 64 ∧ x = (j : Int) := by
 have hz : zWs.length = 64 := by simp [zWs]
 unfold killW
 rw [killL_mem]
 have key : ∀ j (h : j < zWs.length), runR fwM 0 zWs[j].2.1 ≠ runR (mutF fwM (fS s)) 0 zWs[j].2.1 ↔ s ≤ j := fun j h => by
  have e : zWs[j] = zW j := by
   have := zWs_get (j := j) (by omega)
   rw [List.getElem?_eq_getElem h] at this
   exact Option.some.inj this
  rw [e]
  simp only [zW]
  have h1 := fw_run (j + 1) 0 (by omega)
  have h2 := fw_mut hs (j + 1) 0 (Nat.zero_le _)
  simp only [Int.natCast_zero] at h1 h2
  rw [h1]
  constructor
  ·intro hne
   rcases Nat.lt_or_ge j s with h3 | h3
   ·exact absurd (h2.2 (by omega)).symm hne
   ·exact h3
  ·intro hle hne
   have := h2.1 hne.symm
   omega
 constructor
 ·rintro ⟨j, h, e, hd⟩
  exact ⟨j, (key j h).1 hd, by omega, by omega⟩
 ·rintro ⟨j, h1, h2, e⟩
  exact ⟨j, by omega, by omega, (key j (by omega)).2 h1⟩
theorem fw_sub {s t : Nat} (hs : s < 64) (ht : t < 64) : subB (killW fwM zWs (fS s)) (killW fwM zWs (fS t)) = decide (t ≤ s) := by
 rw [Bool.eq_iff_iff, subB_iff, decide_eq_true_eq]
 constructor
 ·intro h
  obtain ⟨j, h1, h2, e⟩ := (fw_kill ht).1 (h (s : Int) ((fw_kill hs).2 ⟨s, Nat.le_refl _, hs, rfl⟩))
  omega
 ·intro h x hx
  obtain ⟨j, h1, h2, e⟩ := (fw_kill hs).1 hx
  exact (fw_kill ht).2 ⟨j, by omega, h2, e⟩
theorem fw_pos {s : Nat} (hs : s < 64) : 0 < (killW fwM zWs (fS s)).length := List.length_pos_of_mem ((fw_kill hs).2 ⟨s, Nat.le_refl _, hs, rfl⟩)
theorem fw_least : leastL (fSs.map (killW fwM zWs)) = [63] := by
 have hl : (fSs.map (killW fwM zWs)).length = 64 := by simp [fSs]
 have hg : ∀ i, i < 64 → (fSs.map (killW fwM zWs)).getD i [] = killW fwM zWs (fS i) := fun i h => by
  rw [List.getD_eq_getElem?_getD, List.getElem?_map, fSs_get h]; rfl
 have hb : ∀ i k, i < 64 → k < 64 → badB (fSs.map (killW fwM zWs)) i k = decide (i < k) := fun i k hi hk => by
  unfold badB
  rw [hg i hi, hg k hk, fw_sub hk hi, fw_sub hi hk, decide_eq_true (show (0 : Int) < (killW fwM zWs (fS k)).length by have := fw_pos hk; omega)]
  rw [Bool.eq_iff_iff]
  simp only [Bool.and_eq_true, Bool.or_eq_true, Bool.not_eq_true', decide_eq_true_eq, decide_eq_false_iff_not, Bool.true_and]
  omega
 have hk : ∀ i, i < 64 → keepB (fSs.map (killW fwM zWs)) i = decide (i = 63) := fun i hi => by
  unfold keepB
  rw [hg i hi, decide_eq_false (show ¬ (killW fwM zWs (fS i)).length = 0 by have := fw_pos hi; omega), hl]
  rw [Bool.eq_iff_iff]
  simp only [Bool.not_false, Bool.true_and, Bool.not_eq_true', List.any_eq_false, List.mem_range, decide_eq_true_eq]
  constructor
  ·intro h
   rcases Nat.lt_or_ge i 63 with h1 | h1
   ·have := h 63 (by omega)
    rw [hb i 63 hi (by omega), decide_eq_true (by omega)] at this
    exact absurd rfl this
   ·omega
  ·intro h k hk2
   rw [hb i k hi hk2, decide_eq_false (by omega)]; simp
 unfold leastL
 rw [hl, List.filter_congr (q := fun i => decide (i = 63)) fun i hi => hk i (List.mem_range.1 hi)]
 rfl
theorem fw_mutErr : mutErr fwM fSs = 0 := by
 unfold mutErr
 rw [if_neg (by rw [fw_check]; simp), if_neg (by simp [fSs])]
 refine errFs_ok fun f hf => ?_
 obtain ⟨s, hs, rfl⟩ := List.mem_map.1 hf
 exact checkF_ok (fw_fault (List.mem_range.1 hs)) fS_kind.2
theorem fw_ready : readyE fwM zWs = 0 := by kernel_rfl
theorem fw_leastA : leastA fwM zWs fSs = .tu [.sl false ([63].map intC) .full, .sc (.int .i64 0)] := by
 unfold leastA
 rw [if_neg (by unfold leastE; rw [fw_ready, fw_mutErr]; simp), fw_least]; rfl
theorem fw_subA {s t : Nat} (hs : s < 64) (ht : t < 64) : subsumesA fwM zWs (fS s) (fS t) = .tu [.sc (.bool (decide (t ≤ s))), .sc (.int .i64 0)] := by
 unfold subsumesA
 have he : subE fwM zWs (fS s) (fS t) = 0 := by
  unfold subE
  rw [if_neg (by rw [fw_ready]; simp), checkF_ok (fw_fault hs) fS_kind.2, checkF_ok (fw_fault ht) fS_kind.2]; rfl
 rw [if_neg (by rw [he]; simp), subV, fw_sub hs ht, decide_eq_true (show (0 : Int) < (killW fwM zWs (fS s)).length by have := fw_pos hs; omega), Bool.true_and]
set_option maxRecDepth 10000
def grE (s i : Nat) : Int × Int := (((s : Int) + i) % 64, (i : Int) % 2)
def grR (s : Nat) : Row := (false, (List.range 16).map (grE s))
theorem gr_is : grM.rows = (List.range 64).map grR := by
 unfold grM grR
 simp only
 refine List.map_congr_left fun s _ => ?_
 congr 1
def grZ (s k : Nat) : List (List AV) := (List.range 16).map fun i => if i < k then edgeC (grE s i) else [.sc (.int .i64 0), .sc (.int .i64 0)]
theorem grZ_len (s k : Nat) : (grZ s k).length = 16 := by simp [grZ]
theorem grZ_zero (s : Nat) : List.replicate 16 [.sc (.int .i64 0), .sc (.int .i64 0)] = grZ s 0 := by
 unfold grZ; simp [List.range_succ]
theorem grZ_get {s k : Nat} (h : k < 16) : (grZ s k)[k]? = some [.sc (.int .i64 0), .sc (.int .i64 0)] := by
 unfold grZ
 rw [List.getElem?_map, List.getElem?_range h]; simp
theorem grZ_at {s k i : Nat} (h : i < (grZ s k).length) : (grZ s k)[i] = if i < k then edgeC (grE s i) else [.sc (.int .i64 0), .sc (.int .i64 0)] := by
 simp [grZ]
theorem grZ_set {s k : Nat} (h : k < 16) : (grZ s k).set k [.sc (.int .i64 (((s : Int) + k) % 64)), .sc (.int .i64 ((k : Int) % 2))] = grZ s (k + 1) := by
 apply List.ext_getElem
 ·simp [grZ]
 intro i h1 h2
 rw [List.getElem_set, grZ_at, grZ_at]
 by_cases e : k = i
 ·subst e; rw [if_pos rfl, if_pos (by omega)]; rfl
 ·rw [if_neg e]
  by_cases h3 : i < k
  ·rw [if_pos h3, if_pos (by omega)]
  ·rw [if_neg h3, if_neg (by omega)]
theorem grZ_end (s : Nat) : grZ s 16 = (grR s).2.map edgeC := by
 unfold grZ grR
 simp only [List.map_map]
 refine List.map_congr_left fun i hi => ?_
 rw [if_pos (List.mem_range.1 hi)]; rfl
theorem grZ_norefs (s k : Nat) : (grZ s k).all AV.norefs = true := by
 unfold grZ
 rw [List.all_eq_true]
 intro c hc
 obtain ⟨i, _, rfl⟩ := List.mem_map.1 hc
 split <;> rfl
def grRs (s : Nat) : List (List AV) := ((List.range s).map grR).map rowC
theorem grRs_len (s : Nat) : (grRs s).length = s := by simp [grRs]
theorem grRs_succ (s : Nat) : grRs s ++ [[.sl false ((grR s).2.map edgeC) .unk]] = grRs (s + 1) := by
 unfold grRs; rw [List.range_succ, List.map_append, List.map_append]; rfl
theorem grRs_norefs (s : Nat) : (grRs s).all AV.norefs = true := norefs_mrows _
theorem gr_cells : grM.cells = [.sc (.int .i64 16), .sc (.int .i64 2), .sl false (grRs 64) .unk] := by
 rw [Mach.cells, gr_is]; rfl
theorem gr_weak {f : FuncId} {xs : List AV} {r : AV} (h : PureIs prog f (.ag grM.cells :: xs.map AV.unk) r) : PureIs prog f (.ag [.sc (.int .i64 16), .sc (.int .i64 2), .sl false (grRs 64) .unk] :: xs) r := .weak (by
 rw [List.map_cons]
 have e : AV.unk (.ag [.sc (.int .i64 16), .sc (.int .i64 2), .sl false (grRs 64) .unk]) = .ag grM.cells := by
  rw [gr_cells]
  simp only [AV.unk, AV.unks, show AV.unkss (grRs 64) = grRs 64 from unkss_rows _]
 rw [e]; exact h)
theorem gr_pairs1_is : PureIs prog 11 [.ag [.sc (.int .i64 16), .sc (.int .i64 2), .sl false (grRs 64) .unk], .sl false [[.sc (.int .i64 2)]] .full, .sc (.int .i64 65536)] (.tu [.sl true [] .unk, .sc (.int .i64 13)]) := by
 have q := pairs_is grM gr_valid.small false [2] .unk (by decide) 65536
 rw [gr_pairs [2] (.inl rfl)] at q
 exact gr_weak q
theorem gr_pairs2_is : PureIs prog 11 [.ag [.sc (.int .i64 16), .sc (.int .i64 2), .sl false (grRs 64) .unk], .sl false [[.sc (.int .i64 1)], [.sc (.int .i64 2)]] .full, .sc (.int .i64 65536)] (.tu [.sl true [] .unk, .sc (.int .i64 13)]) := by
 have q := pairs_is grM gr_valid.small false [1, 2] .unk (by decide) 65536
 rw [gr_pairs [1, 2] (.inr rfl)] at q
 exact gr_weak q
def fwC (s : Nat) : List AV := [.sl false [[.sc (.int .i64 (((s : Int) + 1) % 64)), .sc (.int .i64 0)]] .full]
def fwRs (s : Nat) : List (List AV) := (List.range s).map fwC
theorem fwRs_len (s : Nat) : (fwRs s).length = s := by simp [fwRs]
theorem fwRs_succ (s : Nat) : fwRs s ++ [[.sl false [[.sc (.int .i64 (((s : Int) + 1) % 64)), .sc (.int .i64 0)]] .full]] = fwRs (s + 1) := by
 unfold fwRs; rw [List.range_succ, List.map_append]; rfl
theorem fwRs_norefs (s : Nat) : (fwRs s).all AV.norefs = true := by simp [fwRs, List.all_eq_true, fwC, AV.norefs, AV.noref]
theorem fwRs_unk (k : Nat) : AV.unkss (fwRs k) = ((List.range k).map fun s => ((false, [((((s + 1) % 64 : Nat) : Int), 0)]) : Row)).map rowC := by
 unfold fwRs
 induction List.range k with
 | nil => rfl
 | cons s l ih =>
   simp only [List.map_cons]
   rw [← ih]; rfl
theorem fw_weak {f : FuncId} {xs : List AV} {r : AV} (h : PureIs prog f (.ag fwM.cells :: xs.map AV.unk) r) : PureIs prog f (.ag [.sc (.int .i64 1), .sc (.int .i64 2), .sl false (fwRs 64) .unk] :: xs) r := .weak (by
 rw [List.map_cons]
 have e : AV.unk (.ag [.sc (.int .i64 1), .sc (.int .i64 2), .sl false (fwRs 64) .unk]) = .ag fwM.cells := by
  simp only [AV.unk, AV.unks, fwRs_unk]; rfl
 rw [e]; exact h)
theorem fw_noNil : NoNil fwM := fun r hr h => by
 simp only [fwM, List.mem_map] at hr
 obtain ⟨s, _, rfl⟩ := hr
 cases h
abbrev fwA : AV := .ag [.sc (.int .i64 1), .sc (.int .i64 2), .sl false (fwRs 64) .unk]
abbrev k02 : AV := .sl false [[.sc (.int .i64 0)], [.sc (.int .i64 2)]] .full
theorem fw_pairs1_is : PureIs prog 11 [fwA, k02, .sc (.int .i64 8064)] (.tu [.sl false (fwP.map prC) .full, .sc (.int .i64 0)]) := by
 have q := pairs_is fwM fw_valid.small false [0, 2] .unk (by decide) 8064
 rw [fw_pairs1] at q
 exact fw_weak q
theorem fw_pairs2_is : PureIs prog 11 [fwA, k02, .sc (.int .i64 8063)] (.tu [.sl true [] .unk, .sc (.int .i64 13)]) := by
 have q := pairs_is fwM fw_valid.small false [0, 2] .unk (by decide) 8063
 rw [fw_pairs2] at q
 exact fw_weak q
theorem fw_eq1_is : PureIs prog 19 [fwA, .sl false [fA 3 0 0 0 0 0] .full] (.tu [.sl true [] .unk, .sc (.int .i64 3)]) := by
 have q := equals19_is fwM fw_valid.small fw_noNil false [⟨3, 0, 0, 0, 0, 0⟩] .unk (by decide)
 rw [equalsA, fw_extra, if_pos (by simp)] at q
 exact fw_weak q
def zFs : List FA := List.replicate 257 ⟨0, 0, 0, 0, 0, 0⟩
def zFc : List (List AV) := zFs.map FA.cells
theorem fw_eq2_is (c : Cp) : PureIs prog 19 [fwA, .sl false zFc c] (.tu [.sl true [] .unk, .sc (.int .i64 3)]) := by
 have hu : AV.unkss zFc = zFc := unkss_map FA.cells (fun _ => rfl) zFs
 have q := equals19_is fwM fw_valid.small fw_noNil false zFs .unk (by simp [zFs])
 rw [equalsA, fw_great (by simp [zFs]), if_pos (by simp)] at q
 refine fw_weak ?_
 simp only [List.map_cons, List.map_nil, AV.unk, hu]
 exact q
theorem PureIs.frBad {P : Program} {f : FuncId} {args : List AV} {v : Value} {c : Cp} (h : PureIs P f args (.tu [.sl true [] c, .sc v])) : PureFr P f args (.tu [.sl true [] c, .sc v]) :=
 ⟨h.1, fun F w vals hF hi => (h.2 F w vals hF hi).mono fun _ w' ⟨u, F', he, hv, g⟩ => by
  have hu : Imm (fun b o => F' b o ∧ w.heap.size ≤ b) w' u (.tu [.sl true [] c, .sc v]) := by
   cases hv with
   | tu vs cs hl hvs =>
     refine .tu vs _ hl fun i h1 h2 => ?_
     have := hvs i h1 h2
     match i, h2 with
     | 0, _ =>
       have this : Imm F' w' vs[0] (.sl true [] c) := this
       show Imm _ _ vs[0] (.sl true [] c)
       generalize vs[0] = z at this
       cases this with
       | nil _ hc => exact .nil _ hc
     | 1, _ =>
       have this : Imm F' w' vs[1] (.sc v) := this
       show Imm _ _ vs[1] (.sc v)
       generalize vs[1] = z at this
       cases this with
       | sc _ => exact .sc _
  exact ⟨u, fun b o => F' b o ∧ w.heap.size ≤ b, he, hu, fun b o h => ⟨h.2, g.inF b o h.1⟩,
   ⟨g.size, g.old, fun b o h => .inl h, fun b o h => h.elim .inl fun h => .inr h.2, fun b o h => h.elim (fun h => Nat.lt_of_lt_of_le (hF.1 b o h) g.size) fun h => g.inF b o h.1, g.kept⟩⟩⟩
theorem zF_make : List.replicate 257 (fA 0 0 0 0 0 0) = zFc := by
 unfold zFc zFs
 rw [List.map_replicate]; rfl
theorem zF_len : zFc.length = 257 := by simp [zFc, zFs]
def zc (s : Nat) : List (List AV) := (List.replicate (s + 1) (0 : Int)).map intC
theorem zc_make (s : Nat) : List.replicate (s + 1) [.sc (.int .i64 0)] = zc s := by unfold zc; rw [List.map_replicate]; rfl
theorem zc_len (s : Nat) : (zc s).length = s + 1 := by simp [zc]
theorem zc_norefs (s : Nat) : (zc s).all AV.norefs = true := norefs_intC _
def zL (s : Nat) : List (List AV) := ((List.range s).map zW).map rwC
theorem zL_len (s : Nat) : (zL s).length = s := by simp [zL]
theorem zL_succ (s : Nat) : zL s ++ [[.sl false (zc s) .unk]] = zL (s + 1) := by
 unfold zL; rw [List.range_succ, List.map_append, List.map_append]; rfl
theorem zL_norefs (s : Nat) : (zL s).all AV.norefs = true := norefs_rw _
def fL (s : Nat) : List (List AV) := ((List.range s).map fS).map FA.cells
theorem fL_len (s : Nat) : (fL s).length = s := by simp [fL]
theorem fL_succ (s : Nat) : fL s ++ [[.sc (.int .i64 0), .sc (.int .i64 s), .sc (.int .i64 0), .sc (.int .i64 0), .sc (.int .i64 0), .sc (.int .i64 1)]] = fL (s + 1) := by
 unfold fL; rw [List.range_succ, List.map_append, List.map_append]; rfl
theorem fL_norefs (s : Nat) : (fL s).all AV.norefs = true := norefs_faL _
theorem fL_get {s : Nat} (h : s < 64) : (fL 64)[s]? = some [.sc (.int .i64 0), .sc (.int .i64 s), .sc (.int .i64 0), .sc (.int .i64 0), .sc (.int .i64 0), .sc (.int .i64 1)] := by
 have := fSs_get h
 rw [show fL 64 = fSs.map FA.cells from rfl, List.getElem?_map, this]; rfl
theorem zW_small : ∀ w ∈ zWs, w.2.1.length < 1000000 := fun w hw => by
 obtain ⟨j, hj, rfl⟩ := List.mem_map.1 hw
 have := List.mem_range.1 hj
 simp only [zW, List.length_replicate]; omega
theorem zL_unk (s : Nat) : AV.unkss (zL s) = zL s := by
 unfold zL
 rw [List.map_map]
 refine unkss_map (rwC ∘ zW) (fun j => ?_) _
 have h : AV.unkss (zc j) = zc j := unkss_map intC (fun _ => rfl) _
 show AV.unks [.sl false (zc j) .unk] = [.sl false (zc j) .unk]
 simp only [AV.unks, AV.unk, h]
theorem fw_least_is : PureIs prog 26 [fwA, .sl false (zL 64) .unk, .sl false (fL 64) .unk] (.tu [.sl false [iA 63] .full, .sc (.int .i64 0)]) := by
 have q := least_is fwM fw_valid.small fw_noNil false zWs .unk zW_small (by simp [zWs]) false fSs .unk (by simp [fSs])
 rw [fw_leastA] at q
 refine fw_weak ?_
 have h1 := zL_unk 64
 have h2 : AV.unkss (fL 64) = fL 64 := unkss_map FA.cells (fun _ => rfl) fSs
 simp only [List.map_cons, List.map_nil, AV.unk, h1, h2]
 exact q
theorem fw_sub_is {s t : Nat} (hs : s < 64) (ht : t < 64) : PureIs prog 38 [fwA, .sl false (zL 64) .unk, .ag (fA 0 s 0 0 0 1), .ag (fA 0 t 0 0 0 1)] (.tu [.sc (.bool (decide (t ≤ s))), .sc (.int .i64 0)]) := by
 have q := subsumes_is fwM fw_valid.small fw_noNil false zWs .unk zW_small (by simp [zWs]) (fS s) (fS t)
 rw [fw_subA hs ht] at q
 refine fw_weak ?_
 simp only [List.map_cons, List.map_nil, AV.unk, zL_unk 64]
 exact q
set_option maxHeartbeats 8000000 in
theorem ordersKnown_is : PureIs prog 7 [] (.sc (.bool true)) := by
 have q9 := lives_is
 have g1 := gr_pairs1_is
 have g2 := gr_pairs2_is
 refine PureIs.of1 5 [6, 8, 9, 10, 11, 12, 14, 16, 18, 19, 20, 21, 22, 23, 24, 27, 32, 65, 129, 131] func7 ntmps7 results7 fun _ => ?_
 refine EvC.a ?_
 refine EvC.a ?_
 refine EvC.seq ?_
 refine EvC.a ?_
 refine EvC.ownC 2 2 1 (by simp only [go_sem] <;> rfl) ?_
 refine EvC.thaw 5 (by simp only [go_sem] <;> rfl) ?_
 refine EvC.block ?_
 refine EvC.loopS (σ := Nat) (fun s => ⟨[(1, .rf 0 0), (2, .sc (.int .i64 s))], [], [(1, .arr 1 (grRs s) false), (0, .cells [.sc (.int .i64 16), .sc (.int .i64 2), .tl 1 s (decide (s = 0))])], 2⟩) (fun s => 64 - s) (fun s => s ≤ 64) [1, 2] 2 ?_ ?_
 ·exact ⟨[(5, 1), (2, 0)], 0, rfl, (by rw [show grRs 0 = [] from rfl]; simp only [go_sem, Int.natCast_zero] <;> rfl), Nat.zero_le _⟩
 intro s hs
 have hRn := grRs_norefs s
 have hRl := grRs_len s
 refine EvC.seq ?_
 refine EvC.a ?_
 by_cases hsl : s < 64
 rotate_left
 ·refine EvC.cf ?_ (by simp only [go_sem, decide_eq_false (show ¬ (s : Int) < 64 by omega)] <;> rfl)
  refine EvC.exit ?_
  obtain rfl : s = 64 := by omega
  refine EvC.frzD 1 (by simp only [go_sem, hRn, hRl, decide_eq_false (show ¬ 64 = 0 by decide)] <;> rfl) ?_
  refine EvC.z 0 ?_ (by simp only [go_sem, hRn, hRl] <;> rfl)
  generalize grRs 64 = GR at hRn hRl g1 g2
  refine EvC.k1 ?_ (h1 := by simp only [go_sem, hRn] <;> rfl) (c1 := .ca g1) (h2 := by simp only [go_sem, hRn] <;> rfl)
  refine EvC.k1 ?_ (h1 := by simp only [go_sem, hRn] <;> rfl) (c1 := .ca g2) (h2 := by simp only [go_sem, hRn] <;> rfl)
  refine EvC.a ?_ (by simp only [go_sem, hRn] <;> rfl)
  refine EvC.seq ?_
  refine EvC.a ?_ (by simp only [go_sem, hRn] <;> rfl)
  refine EvC.ownC 21 2 1 (by simp only [go_sem] <;> rfl) ?_
  refine EvC.thaw 24 (by simp only [go_sem] <;> rfl) ?_
  refine EvC.block ?_
  refine EvC.loopS (σ := Nat) (fun i => ⟨[(6, .sc (.int .i64 13)), (8, .sc (.int .i64 13)), (9, .rf 0 0), (10, .sc (.int .i64 i))], [], [(1, .arr 1 (fwRs i) false), (0, .cells [.sc (.int .i64 1), .sc (.int .i64 2), .tl 1 i (decide (i = 0))])], 2⟩) (fun i => 64 - i) (fun i => i ≤ 64) [6, 8, 9, 10] 2 ?_ ?_
  ·exact ⟨[(24, 1), (21, 0)], 0, rfl, (by rw [show fwRs 0 = [] from rfl]; simp only [go_sem, Int.natCast_zero] <;> rfl), Nat.zero_le _⟩
  intro i hi
  have hFn := fwRs_norefs i
  have hFl := fwRs_len i
  refine EvC.seq ?_
  refine EvC.a ?_
  by_cases hil : i < 64
  ·refine EvC.cr ?_ (by simp only [go_sem, decide_eq_true (show (i : Int) < 64 by omega)] <;> rfl)
   refine EvC.seq ?_
   refine EvC.block ?_
   have hsn := fwRs_succ i
   have hr : room (i + 1) 24 = true := by simp only [room_eq, decide_eq_true_eq]; omega
   have h1 : inI64 ((i : Int) + 1) = true := inI64_of (by omega) (by omega)
   have h2 : inI64 (((i : Int) + 1) % 64) = true := inI64_of (by omega) (by omega)
   have hS1 := fwRs_norefs (i + 1)
   have hS2 := fwRs_len (i + 1)
   refine EvC.b ?_ (by simp only [go_sem, hFl, hsn, hS2] <;> rfl) (by simp [hr, h1, h2]; omega)
   refine EvC.b ?_ (by simp only [go_sem, hS2] <;> rfl) (by exact inI64_of (by omega) (by omega))
   exact ⟨[(1, 1), (0, 0)], i + 1, rfl, (by simp only [go_sem, hS1, hS2, decide_eq_false (show ¬ i + 1 = 0 by omega), Int.natCast_add, Int.natCast_one] <;> rfl), hil, by omega⟩
  refine EvC.cf ?_ (by simp only [go_sem, decide_eq_false (show ¬ (i : Int) < 64 by omega)] <;> rfl)
  refine EvC.exit ?_
  obtain rfl : i = 64 := by omega
  refine EvC.frzD 1 (by simp only [go_sem, hFn, hFl, decide_eq_false (show ¬ 64 = 0 by decide)] <;> rfl) ?_
  refine EvC.z 0 ?_ (by simp only [go_sem, hFn, hFl] <;> rfl)
  have g3 := fw_pairs1_is
  have g4 := fw_pairs2_is
  have g5 := fw_eq1_is
  have g6 := fw_eq2_is
  have hPn := pairs_norefs fwP
  have hPl : (fwP.map prC).length = 8064 := by rw [List.length_map, fw_len]
  generalize fwP.map prC = P at g3 hPn hPl
  refine EvC.k1 ?_ (h1 := by simp only [go_sem, hFn] <;> rfl) (c1 := .ca g3) (h2 := by simp only [go_sem, hFn, hPn] <;> rfl) (k2 := by simp [hPn])
  refine EvC.k1 ?_ (h1 := by simp only [go_sem, hFn] <;> rfl) (c1 := .ca g4) (h2 := by simp only [go_sem, hFn, hPn] <;> rfl)
  refine EvC.k1 ?_ (h1 := by simp only [go_sem, hFn] <;> rfl) (c1 := .ca g5) (h2 := by simp only [go_sem, hFn, hPn] <;> rfl)
  have hz := zF_make
  have hzl := zF_len
  have hzn : zFc.all AV.norefs = true := norefs_faL zFs
  have hr257 : room 257 48 = true := by simp only [room_eq, decide_eq_true_eq]; omega
  apply EvC.seq
  apply EvC.drwA mixed
  ·apply Tr.run
   ·simp only [go_sem, hz, hFn] <;> rfl
   ·simp [hr257]
   apply Tr.cons
   ·exact .callD (xs := [fwA, .sl false zFc .unk]) 20 rfl rfl (by simp only [go_sem] <;> rfl) (by simp only [go_sem] <;> rfl) (by simp only [go_sem, hzl, hzn, hFn, hFl] <;> rfl) (by simp only [go_sem, hzl, hzn, hFn, hFl] <;> rfl) (by simp only [go_sem] <;> rfl) (PureIs.frBad (g6 .unk))
   apply Tr.done
   ·simp only [go_sem] <;> rfl
   ·simp
  ·kernel_rfl
  refine EvC.seq ?_
  refine EvC.g ?_ (h := by simp only [go_sem, hPl, hPn] <;> rfl)
  refine EvC.cs ?_
  clear g3 g4 g5 g6 hz hzl hzn
  refine EvC.a ?_
  refine EvC.a ?_
  refine EvC.thaw 64 (by simp only [go_sem] <;> rfl) ?_
  refine EvC.thaw 65 (by simp only [go_sem] <;> rfl) ?_
  refine EvC.seq ?_
  refine EvC.a ?_
  refine EvC.block ?_
  refine EvC.loopS (σ := Nat) (fun s => ⟨[(9, .ia [.sc (.int .i64 1), .sc (.int .i64 2), .sl false (fwRs 64) .unk]), (19, .tl 0 s (decide (s = 0))), (20, .tl 1 s (decide (s = 0))), (21, .sc (.int .i64 s))], [], [(1, .arr 1 (zL s) false), (0, .arr 6 (fL s) false)], 2⟩) (fun s => 64 - s) (fun s => s ≤ 64) [9, 19, 20, 21] 2 ?_ ?_
  ·exact ⟨[(65, 1), (64, 0)], 0, rfl, (by rw [show zL 0 = [] from rfl, show fL 0 = [] from rfl]; simp only [go_sem, Int.natCast_zero, hFn, hFl] <;> rfl), Nat.zero_le _⟩
  intro s hs
  have hZn := zL_norefs s
  have hZl := zL_len s
  have hLn := fL_norefs s
  have hLl := fL_len s
  refine EvC.seq ?_
  refine EvC.a ?_ (by simp only [go_sem, hFn] <;> rfl)
  by_cases hsl : s < 64
  ·refine EvC.cr ?_ (by simp only [go_sem, decide_eq_true (show (s : Int) < 64 by omega)] <;> rfl)
   have e1 := fL_succ s
   have e2 := zL_succ s
   have e3 := zc_make s
   have e4 := zc_len s
   have e5 := zc_norefs s
   have hZ1 := zL_norefs (s + 1)
   have hZ2 := zL_len (s + 1)
   have hL1 := fL_norefs (s + 1)
   have hL2 := fL_len (s + 1)
   have r1 : room (s + 1) 48 = true := by simp only [room_eq, decide_eq_true_eq]; omega
   have r2 : room (s + 1) 24 = true := by simp only [room_eq, decide_eq_true_eq]; omega
   have r3 : room (s + 1) 8 = true := by simp only [room_eq, decide_eq_true_eq]; omega
   have i1 : inI64 ((s : Int) + 1) = true := inI64_of (by omega) (by omega)
   have t1 : ((s : Int) + 1).toNat = s + 1 := by omega
   refine EvC.seq ?_
   refine EvC.block ?_
   refine EvC.a ?_ (by simp only [go_sem, hLl, e1, hL2, hFn] <;> rfl) (by simp [r1])
   refine EvC.rt 4 (by simp only [go_sem, t1, e3, hFn] <;> rfl) ?_ ?_
   ·simp [i1, t1, r3]; try omega
   refine XR.frz 13 (by simp only [go_sem, e4, e5] <;> rfl) ?_
   simp only [List.drop_succ_cons, List.drop_zero]
   refine XR.done (by simp only [go_sem, e2, hZl, hZ2, e5] <;> rfl) (by simp [r2]) ?_
   refine EvC.b ?_ (by simp only [go_sem, hL2, hZ2] <;> rfl) (by exact inI64_of (by omega) (by omega))
   have dz : decide (s + 1 = 0) = false := decide_eq_false (by omega)
   exact ⟨[(1, 1), (0, 0)], s + 1, rfl, (by rw [dz]; simp only [go_sem, hZ1, hZ2, hL1, hL2, hFn, Int.natCast_add, Int.natCast_one] <;> rfl), hsl, by omega⟩
  refine EvC.cf ?_ (by simp only [go_sem, decide_eq_false (show ¬ (s : Int) < 64 by omega)] <;> rfl)
  refine EvC.exit ?_
  obtain rfl : s = 64 := by omega
  rw [decide_eq_false (show ¬ 64 = 0 by decide)]
  refine EvC.frz 0 (by simp only [go_sem, hLn, hLl] <;> rfl) ?_
  refine EvC.frz 1 (by simp only [go_sem, hZn, hZl] <;> rfl) ?_
  have k1 := fw_least_is
  have k2 := fw_sub_is (s := 63) (t := 0) (by omega) (by omega)
  have k3 := fw_sub_is (s := 0) (t := 63) (by omega) (by omega)
  have n1 := fL_get (s := 0) (by omega)
  have n2 := fL_get (s := 63) (by omega)
  simp only [Int.natCast_zero, show ((63 : Nat) : Int) = 63 from rfl] at k2 k3 n1 n2
  unfold fwA at k1 k2 k3
  generalize zL 64 = ZC at k1 k2 k3 hZn hZl
  generalize fL 64 = LC at k1 n1 n2 hLn hLl
  generalize fwRs 64 = FC at k1 k2 k3 hFn
  refine EvC.k1 ?_ (h1 := by simp only [go_sem, hFn, hZn, hLn] <;> rfl) (c1 := .ca k1) (h2 := by simp only [go_sem, hFn, hZn, hLn] <;> rfl)
  rw [show decide (0 ≤ 63) = true from rfl] at k2
  rw [show decide (63 ≤ 0) = false from rfl] at k3
  have k4 := intsEq_is false false [63] .full (by decide)
  simp only [List.map_cons, List.map_nil, intC] at k4
  refine EvC.k1D mixed ?_ (h1 := by simp only [go_sem, hFn, hZn, hLn, n1, n2, hLl] <;> rfl) (k1 := by simp; try omega) (c1 := .ca k2) (h2 := by simp only [go_sem, hFn, hZn, hLn] <;> rfl)
  refine EvC.k1D mixed ?_ (h1 := by simp only [go_sem, hFn, hZn, hLn, n1, n2, hLl] <;> rfl) (k1 := by simp; try omega) (c1 := .ca k3) (h2 := by simp only [go_sem, hFn, hZn, hLn] <;> rfl)
  refine EvC.k2 ?_ (c1 := .cg k4) (c2 := .cg q9)
  refine EvC.rz ?_
  simp only [go_sem]
 refine EvC.cr ?_ (by simp only [go_sem, decide_eq_true (show (s : Int) < 64 by omega)] <;> rfl)
 refine EvC.seq ?_
 refine EvC.block ?_
 have hz := grZ_zero s
 have hr16 : room 16 16 = true := by simp only [room_eq, decide_eq_true_eq]; omega
 refine EvC.a ?_ (by simp only [go_sem, hz] <;> rfl) (by simp [hr16])
 refine EvC.seq ?_
 refine EvC.a ?_
 refine EvC.block ?_
 refine EvC.loopS (σ := Nat) (fun k => ⟨[(1, .rf 0 0), (2, .sc (.int .i64 s)), (3, .tl 2 16 false), (4, .sc (.int .i64 k))], [], [(2, .arr 2 (grZ s k) false), (1, .arr 1 (grRs s) false), (0, .cells [.sc (.int .i64 16), .sc (.int .i64 2), .tl 1 s (decide (s = 0))])], 3⟩) (fun k => 16 - k) (fun k => k ≤ 16) [1, 2, 3, 4] 3 ?_ ?_
 ·have h1 := grZ_len s 0
  have h2 := grZ_norefs s 0
  exact ⟨[(4, 2), (1, 1), (0, 0)], 0, rfl, (by simp only [go_sem, Int.natCast_zero, hRn, hRl, h1, h2] <;> rfl), Nat.zero_le _⟩
 intro k hk
 have hZn := grZ_norefs s k
 have hZl := grZ_len s k
 refine EvC.seq ?_
 refine EvC.a ?_
 by_cases hkl : k < 16
 rotate_left
 ·refine EvC.cf ?_ (by simp only [go_sem, decide_eq_false (show ¬ (k : Int) < 16 by omega)] <;> rfl)
  refine EvC.exit ?_
  obtain rfl : k = 16 := by omega
  have hZe := grZ_end s
  have hsn := grRs_succ s
  rw [hZe] at hZn hZl ⊢
  have hS1 := grRs_norefs (s + 1)
  have hS2 := grRs_len (s + 1)
  have hr2 : room (s + 1) 24 = true := by simp only [room_eq, decide_eq_true_eq]; omega
  refine EvC.frz 2 (by simp only [go_sem, hZn, hZl] <;> rfl) ?_
  refine EvC.b ?_ (by simp only [go_sem, hsn, hRl, hS2, hZn] <;> rfl) (by simp [hr2])
  refine EvC.b ?_ (by simp only [go_sem, hS2] <;> rfl) (by exact inI64_of (by omega) (by omega))
  exact ⟨[(1, 1), (0, 0)], s + 1, rfl, (by simp only [go_sem, hS1, hS2, decide_eq_false (show ¬ s + 1 = 0 by omega), Int.natCast_add, Int.natCast_one] <;> rfl), hsl, by omega⟩
 refine EvC.cr ?_ (by simp only [go_sem, decide_eq_true (show (k : Int) < 16 by omega)] <;> rfl)
 refine EvC.seq ?_
 refine EvC.block ?_
 have hg := grZ_get (s := s) hkl
 have hst := grZ_set (s := s) hkl
 have hZ2 := grZ_norefs s (k + 1)
 have hZ3 := grZ_len s (k + 1)
 have hkt : (k : Int).toNat = k := Int.toNat_natCast k
 obtain ⟨a, ha⟩ : ∃ a : Int, a = (s : Int) + k := ⟨_, rfl⟩
 rw [← ha] at hst
 have i1 : inI64 a = true := inI64_of (by omega) (by omega)
 have i2 : inI64 (a % 64) = true := inI64_of (by omega) (by omega)
 have i3 : inI64 ((k : Int) % 2) = true := inI64_of (by omega) (by omega)
 refine EvC.b ?_ (by simp only [go_sem, ← ha, hg, hkt, hst, hZl] <;> rfl) (by simp [← ha, i1, i2, i3, hkl]; try omega)
 refine EvC.b ?_ (hok := by exact inI64_of (by omega) (by omega))
 exact ⟨[(2, 2), (1, 1), (0, 0)], k + 1, rfl, (by simp only [go_sem, hRn, hRl, hZ2, hZ3, Int.natCast_add, Int.natCast_one] <;> rfl), hkl, by omega⟩
end Go.Avl
