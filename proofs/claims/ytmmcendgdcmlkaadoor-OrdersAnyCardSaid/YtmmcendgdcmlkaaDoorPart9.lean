/-
  Lemmas.
  How machines and the arguments of the law OrdersAny read.
-/
import Derived.Test.YtmmcendgdcmlkaaDoorPart8
set_option linter.unusedSimpArgs false
set_option linter.unusedVariables false
set_option linter.unnecessarySimpa false
set_option linter.deprecated false
namespace Go.Avl
open Go Go.Proofs.Tryd
set_option maxRecDepth 10000
theorem errW_zero {n : Int} : ∀ {W : List RW}, errW n W = 0 → ∀ w ∈ W, wordErr n w.2.1 = 0
 | [], _, _, h => by cases h
 | v :: W, h, w, hw => by
   rw [errW] at h
   split at h
   ·rename_i h1; exact absurd h h1
   ·rename_i h1
    rcases List.mem_cons.1 hw with rfl | hw
    ·exact Classical.not_not.1 h1
    ·exact errW_zero h w hw
theorem readyE_ok {m : Mach} {W : List RW} (h : readyE m W = 0) : checkM m = 0 ∧ W.length ≤ 4096 ∧ ∀ w ∈ W, wordErr m.ins w.2.1 = 0 := by
 unfold readyE at h
 split at h
 ·rename_i h1; exact absurd h h1
 rename_i h1
 unfold triesE at h
 split at h
 ·rename_i h2; exact absurd h h2
 rename_i h2
 have h2 := Classical.not_not.1 h2
 unfold looseE at h2
 split at h2
 ·cases h2
 rename_i h3
 split at h2
 ·cases h2
 exact ⟨Classical.not_not.1 h1, by omega, errW_zero h2⟩
def killW (m : Mach) (W : List RW) (f : FA) : List Int := killL m (mutF m f) W 0
def subE (m : Mach) (W : List RW) (f g : FA) : Int := if readyE m W ≠ 0 then readyE m W else if checkF m f ≠ 0 then checkF m f else checkF m g
def subV (m : Mach) (W : List RW) (f g : FA) : Bool := decide ((0 : Int) < (killW m W f).length) && subB (killW m W f) (killW m W g)
def subsumesA (m : Mach) (W : List RW) (f g : FA) : AV :=
 if subE m W f g ≠ 0 then .tu [.sc (.bool false), .sc (.int .i64 (subE m W f g))] else .tu [.sc (.bool (subV m W f g)), .sc (.int .i64 0)]
set_option maxHeartbeats 4000000 in
theorem subsumes_is (m : Mach) (hm : ∀ r ∈ m.rows, r.2.length < 1000000) (hnn : NoNil m) (wn : Bool) (W : List RW) (wc : Cp) (hW : ∀ w ∈ W, w.2.1.length < 1000000) (hWl : W.length < 1000000) (f g : FA) :
  PureIs prog 38 [.ag m.cells, .sl wn (W.map rwC) wc, .ag f.cells, .ag g.cells] (subsumesA m W f g) := by
 have hWn := norefs_rw W
 have q0 := ready60_is m hm wn W wc hW hWl
 unfold subsumesA
 generalize hE : subE m W f g = E
 have hE := hE.symm
 unfold subE at hE
 have hfc : f.cells = [.sc (.int .i64 f.kind), .sc (.int .i64 f.state), .sc (.int .i64 f.input), .sc (.int .i64 f.to), .sc (.int .i64 f.at'), .sc (.int .i64 f.out)] := rfl
 have hgc : g.cells = [.sc (.int .i64 g.kind), .sc (.int .i64 g.state), .sc (.int .i64 g.input), .sc (.int .i64 g.to), .sc (.int .i64 g.at'), .sc (.int .i64 g.out)] := rfl
 by_cases h0 : readyE m W = 0
 rotate_left
 ·rw [if_pos h0] at hE
  rw [hE, if_pos h0, hfc, hgc]
  refine PureIs.of1 5 [6, 7, 8, 9, 10, 11, 12, 13, 18, 28, 38] func38 ntmps38 results38 fun _ => ?_
  refine EvC.a ?_ (by simp only [go_sem, Mach.cells] <;> rfl)
  refine EvC.z 0 ?_
  refine EvC.z 1 ?_
  refine EvC.z 2 ?_
  refine EvC.seq ?_
  refine EvC.k1 ?_ (h1 := by simp only [go_sem, Mach.cells] <;> rfl) (c1 := .ca q0) (h2 := by simp only [go_sem, hWn] <;> rfl)
  refine EvC.a ?_
  refine EvC.ct ?_ (by simp only [go_sem, decide_eq_false h0] <;> rfl)
  refine EvC.a ?_
  refine EvC.rz ?_
  simp only [go_sem]
 rw [if_neg (fun h => h h0)] at hE
 obtain ⟨hc0, _, hWe⟩ := readyE_ok h0
 have hv := Valid.of hc0
 have q1 := killers_is hv hnn wn W wc ⟨hWe, hW, hWl⟩ f
 have q2 := killers_is hv hnn wn W wc ⟨hWe, hW, hWl⟩ g
 unfold killersA at q1 q2
 have hl1 := killL_len m (mutF m f) W 0
 have hl2 := killL_len m (mutF m g) W 0
 rw [hfc] at q1 ⊢
 rw [hgc] at q2 ⊢
 rw [h0] at q0
 refine PureIs.of1 5 [6, 7, 8, 9, 10, 11, 12, 13, 18, 28, 38] func38 ntmps38 results38 fun _ => ?_
 refine EvC.a ?_ (by simp only [go_sem, Mach.cells] <;> rfl)
 refine EvC.z 0 ?_
 refine EvC.z 1 ?_
 refine EvC.z 2 ?_
 refine EvC.seq ?_
 refine EvC.k1 ?_ (h1 := by simp only [go_sem, Mach.cells] <;> rfl) (c1 := .ca q0) (h2 := by simp only [go_sem, hWn] <;> rfl)
 refine EvC.a ?_
 refine EvC.cs ?_
 by_cases h1 : checkF m f = 0
 rotate_left
 ·rw [if_pos h1] at hE q1
  rw [hE, if_pos h1]
  refine EvC.k1 ?_ (h1 := by simp only [go_sem, Mach.cells] <;> rfl) (c1 := .ca q1) (h2 := by simp only [go_sem, hWn] <;> rfl)
  refine EvC.seq ?_
  refine EvC.a ?_
  refine EvC.ct ?_ (by simp only [go_sem, decide_eq_false h1] <;> rfl)
  refine EvC.a ?_
  refine EvC.rz ?_
  simp only [go_sem]
 rw [if_neg (fun h => h h1)] at hE q1
 obtain ⟨K1, hK1⟩ : ∃ K, K = killL m (mutF m f) W 0 := ⟨_, rfl⟩
 rw [← hK1] at q1 hl1
 have hn1 := norefs_intC K1
 refine EvC.k1 ?_ (h1 := by simp only [go_sem, Mach.cells] <;> rfl) (c1 := .ca q1) (h2 := by simp only [go_sem, hn1] <;> rfl)
 refine EvC.z 18 ?_
 refine EvC.seq ?_
 refine EvC.a ?_
 refine EvC.cs ?_
 by_cases h2 : checkF m g = 0
 rotate_left
 ·rw [if_pos h2] at q2
  rw [hE, if_pos h2]
  refine EvC.k1 ?_ (h1 := by simp only [go_sem, Mach.cells] <;> rfl) (c1 := .ca q2) (h2 := by simp only [go_sem, hWn] <;> rfl)
  refine EvC.seq ?_
  refine EvC.a ?_
  refine EvC.ct ?_ (by simp only [go_sem, decide_eq_false h2] <;> rfl)
  refine EvC.a ?_
  refine EvC.rz ?_
  simp only [go_sem]
 rw [h2] at hE
 rw [if_neg (fun h => h h2)] at q2
 obtain ⟨K2, hK2⟩ : ∃ K, K = killL m (mutF m g) W 0 := ⟨_, rfl⟩
 rw [← hK2] at q2 hl2
 have hn2 := norefs_intC K2
 rw [hE, if_neg (show ¬ (0 : Int) ≠ 0 from fun h => h rfl), subV, killW, killW, ← hK1, ← hK2]
 refine EvC.k1 ?_ (h1 := by simp only [go_sem, Mach.cells] <;> rfl) (c1 := .ca q2) (h2 := by simp only [go_sem, hn2] <;> rfl)
 refine EvC.z 30 ?_
 refine EvC.seq ?_
 refine EvC.a ?_
 refine EvC.cs ?_
 have hkl : (K1.map intC).length = K1.length := List.length_map _
 by_cases hp : (0 : Int) < K1.length
 ·rw [decide_eq_true hp]
  have q3 := within63_is K1.isEmpty K1 .unk K2.isEmpty K2 .unk (by omega) (by omega)
  refine EvC.k1 ?_ (h1 := by simp only [go_sem, hkl, decide_eq_true hp] <;> rfl) (c1 := .cg q3) (h2 := by simp only [go_sem, hkl, decide_eq_true hp, hn1, hn2] <;> rfl)
  refine EvC.rz ?_
  simp only [go_sem]
 ·rw [decide_eq_false hp]
  apply EvC.s1
  ·apply Tr.run
   ·simp only [go_sem, hkl, decide_eq_false hp] <;> rfl
   ·simp
   apply Tr.cons
   ·exact .skipv (.sc (.bool false)) rfl rfl (by simp only [go_sem] <;> rfl) (by simp only [go_sem] <;> rfl)
   apply Tr.done
   ·simp only [go_sem, hkl, decide_eq_false hp, hn1, hn2] <;> rfl
   ·simp
  refine EvC.rz ?_
  simp only [go_sem]
def badB (S : List (List Int)) (i k : Nat) : Bool :=
 !decide (k = i) && (decide ((0 : Int) < (S.getD k []).length) && (subB (S.getD k []) (S.getD i []) && (decide (k < i) || !subB (S.getD i []) (S.getD k []))))
def keepB (S : List (List Int)) (i : Nat) : Bool := !decide ((S.getD i []).length = 0) && !((List.range S.length).any (badB S i))
def leastL (S : List (List Int)) : List Int := ((List.range S.length).filter (keepB S)).map fun i : Nat => (i : Int)
def leastE (m : Mach) (W : List RW) (fs : List FA) : Int := if readyE m W ≠ 0 then readyE m W else mutErr m fs
def leastA (m : Mach) (W : List RW) (fs : List FA) : AV :=
 if leastE m W fs ≠ 0 then .tu [.sl true [] .unk, .sc (.int .i64 (leastE m W fs))] else .tu [.sl (leastL (fs.map (killW m W))).isEmpty ((leastL (fs.map (killW m W))).map intC) .full, .sc (.int .i64 0)]
def setC (S : List Int) : List AV := [.sl S.isEmpty (S.map intC) .unk]
theorem norefs_sets (l : List (List Int)) : (l.map setC).all AV.norefs = true := by simp [List.all_eq_true, setC, AV.norefs, AV.noref]
def leastTo (S : List (List Int)) (i : Nat) : List Int := ((List.range i).filter (keepB S)).map fun i : Nat => (i : Int)
theorem leastTo_succ (S : List (List Int)) (i : Nat) : leastTo S (i + 1) = leastTo S i ++ if keepB S i = true then [(i : Int)] else [] := by
 unfold leastTo
 rw [List.range_succ, List.filter_append, List.map_append]
 congr 1
 by_cases h : keepB S i = true
 ·rw [if_pos h, List.filter_cons_of_pos h]; rfl
 ·rw [if_neg h, List.filter_cons_of_neg h]; rfl
theorem leastTo_len (S : List (List Int)) (i : Nat) : (leastTo S i).length ≤ i := by
 unfold leastTo
 rw [List.length_map]
 have := List.length_filter_le (keepB S) (List.range i)
 rw [List.length_range] at this
 exact this
set_option maxHeartbeats 8000000 in
theorem least_is (m : Mach) (hm : ∀ r ∈ m.rows, r.2.length < 1000000) (hnn : NoNil m) (wn : Bool) (W : List RW) (wc : Cp) (hW : ∀ w ∈ W, w.2.1.length < 1000000) (hWl : W.length < 1000000) (fn : Bool) (fs : List FA) (fc : Cp) (hfl : fs.length < 1000000) :
  PureIs prog 26 [.ag m.cells, .sl wn (W.map rwC) wc, .sl fn (fs.map FA.cells) fc] (leastA m W fs) := by
 have hWn := norefs_rw W
 have q0 := ready60_is m hm wn W wc hW hWl
 have q1 := check61_is m hm fn fs fc hfl
 have hFn := fas_norefs2 fs
 unfold leastA
 generalize hE : leastE m W fs = E
 have hE := hE.symm
 unfold leastE at hE
 refine PureIs.of1 4 [6, 7, 8, 9, 10, 12, 13, 15, 16, 17, 18, 19, 20, 25, 31, 33, 34, 35, 36, 51, 52, 53, 54, 61, 62, 63, 64, 65, 95] func26 ntmps26 results26 fun _ => ?_
 refine EvC.a ?_ (by simp only [go_sem, Mach.cells] <;> rfl)
 refine EvC.z 0 ?_
 refine EvC.scope ?_
 refine EvC.seq ?_
 refine EvC.k1 ?_ (h1 := by simp only [go_sem, Mach.cells] <;> rfl) (c1 := .ca q0) (h2 := by simp only [go_sem, hWn] <;> rfl)
 refine EvC.a ?_
 by_cases h0 : readyE m W = 0
 rotate_left
 ·rw [if_pos h0] at hE
  rw [hE, if_pos h0]
  refine EvC.ct ?_ (by simp only [go_sem, decide_eq_false h0] <;> rfl)
  refine EvC.a ?_
  refine EvC.rz ?_
  simp only [go_sem]
 rw [if_neg (fun h => h h0)] at hE
 refine EvC.cs ?_ (by simp only [go_sem, decide_eq_true h0] <;> rfl)
 refine EvC.seq ?_
 refine EvC.k1 ?_ (h1 := by simp only [go_sem, Mach.cells] <;> rfl) (c1 := .ca q1) (h2 := by simp only [go_sem, hFn] <;> rfl)
 refine EvC.a ?_
 by_cases h1 : mutErr m fs = 0
 rotate_left
 ·rw [hE, if_pos h1]
  refine EvC.ct ?_ (by simp only [go_sem, decide_eq_false h1] <;> rfl)
  refine EvC.a ?_
  refine EvC.rz ?_
  simp only [go_sem]
 rw [h1] at hE
 rw [hE, if_neg (show ¬ (0 : Int) ≠ 0 from fun h => h rfl)]
 refine EvC.cs ?_ (by simp only [go_sem, decide_eq_true h1] <;> rfl)
 obtain ⟨hc0, _, hWe⟩ := readyE_ok h0
 have hv := Valid.of hc0
 obtain ⟨_, hf2, hf3⟩ := mutErr_ok h1
 have hfz := errFs_zero hf3
 have qk := fun f => killers_is hv hnn wn W wc ⟨hWe, hW, hWl⟩ f
 have hkl := fun f => killL_len m (mutF m f) W 0
 refine EvC.a ?_
 refine EvC.seq ?_
 refine EvC.a ?_ (by simp only [go_sem, List.length_map] <;> rfl)
 refine EvC.block ?_
 obtain ⟨N, hN⟩ : ∃ N, N = fs.length := ⟨_, rfl⟩
 obtain ⟨S, hS⟩ : ∃ S, S = fs.map (killW m W) := ⟨_, rfl⟩
 have hSl : S.length = N := by rw [hS, List.length_map, hN]
 have hSb : ∀ s ∈ S, s.length < 1000000 := fun s hs => by
  rw [hS] at hs
  obtain ⟨f, _, rfl⟩ := List.mem_map.1 hs
  have := hkl f
  unfold killW; omega
 rw [← hN] at hf2 ⊢
 rw [← hS]
 refine EvC.loopS (σ := Nat) (fun i => ⟨[(1, .sl wn (W.map rwC) wc), (3, .ia m.cells), (10, .tl 0 i (i == 0)), (33, .sl fn (fs.map FA.cells) fc), (34, .sc (.int .i64 N)), (35, .sc (.int .i64 i))], [], [(0, .arr 1 ((S.take i).map setC) true)], 1⟩) (fun i => N - i) (fun i => i ≤ N) [1, 3, 10, 33, 34, 35] 1 ?_ ?_
 ·exact ⟨[(15, 0)], 0, rfl, (by simp only [go_sem, Int.natCast_zero, List.take_zero, List.map_nil, Mach.cells] <;> rfl), Nat.zero_le _⟩
 intro i hi
 have hLn := norefs_sets (S.take i)
 have hLl : ((S.take i).map setC).length = i := by rw [List.length_map, List.length_take]; omega
 refine EvC.a ?_
 refine EvC.seq ?_
 refine EvC.cond (by simp only [go_sem] <;> rfl) (fun hc => ?_) (fun hc => ?_)
 rotate_left
 ·refine EvC.exit ?_
  obtain rfl : i = N := by have : ¬ i < N := (by simpa using hc); omega
  clear hc
  rw [List.take_of_length_le (by omega)] at hLn hLl ⊢
  have hSg : ∀ (k : Nat), k < i → (S.map setC)[k]? = some [.sl (S.getD k []).isEmpty ((S.getD k []).map intC) .unk] := fun k hk => by
   rw [List.getElem?_map, List.getElem?_eq_getElem (by omega), List.getD_eq_getElem?_getD, List.getElem?_eq_getElem (by omega)]; rfl
  have hSb2 : ∀ k, k < i → (S.getD k []).length < 1000000 := fun k hk => hSb _ (by
   rw [List.getD_eq_getElem?_getD, List.getElem?_eq_getElem (by omega)]; exact List.getElem_mem _)
  generalize S.map setC = SC at hLn hLl hSg ⊢
  refine EvC.frz 0 (by simp only [go_sem, hLn, hLl] <;> rfl) ?_
  refine EvC.a ?_
  refine EvC.a ?_
  refine EvC.seq ?_
  refine EvC.label ?_
  refine EvC.seq ?_
  refine EvC.a ?_ (by simp only [go_sem, hLl] <;> rfl)
  refine EvC.block ?_
  obtain ⟨N, hNi⟩ : ∃ N, N = i := ⟨_, rfl⟩
  rw [← hNi] at hLl hSg hSb2 hf2 hSl ⊢
  clear hi
  refine EvC.loopS (σ := Nat) (fun i => ⟨[(10, .sl (N == 0) SC .unk), (15, .fn 63 []), (16, .tl 0 (leastTo S i).length (leastTo S i).isEmpty), (51, .sl (N == 0) SC .unk), (52, .sc (.int .i64 N)), (53, .sc (.int .i64 i))], [], [(0, .arr 1 ((leastTo S i).map intC) true)], 1⟩) (fun i => N - i) (fun i => i ≤ N) [10, 15, 16, 51, 52, 53] 1 ?_ ?_
  ·exact ⟨[(3, 0)], 0, rfl, (by (simp only [go_sem, Int.natCast_zero, show leastTo S 0 = [] from rfl, List.map_nil, List.length_nil, List.isEmpty_nil]) <;> rfl), Nat.zero_le _⟩
  intro i hi
  have hOn := norefs_intC (leastTo S i)
  have hOl : ((leastTo S i).map intC).length = (leastTo S i).length := List.length_map _
  have hOb := leastTo_len S i
  refine EvC.a ?_
  refine EvC.seq ?_
  refine EvC.cond (by simp only [go_sem] <;> rfl) (fun hc => ?_) (fun hc => ?_)
  rotate_left
  ·refine EvC.exit ?_
   obtain rfl : i = N := by have : ¬ i < N := (by simpa using hc); omega
   clear hc
   have hLe : leastL S = leastTo S i := by rw [leastL, leastTo, hSl]
   rw [hLe]
   have h1 : (((leastTo S i).map intC).all fun y => decide (y.length = 1)) = true := by simp [List.all_eq_true, intC]
   generalize (leastTo S i).map intC = L at hOn hOl h1 ⊢
   refine EvC.frz 0 (by simp only [go_sem, hOn, hOl] <;> rfl) ?_
   refine EvC.k1 ?_ (h1 := by simp only [go_sem, hOl] <;> rfl) (c1 := .ca (clipI_is _ L .unk h1))
   refine EvC.rz ?_
   simp only [go_sem]
  have hil : i < N := by simpa using hc
  clear hc
  have hgi := hSg i hil
  have hbi := hSb2 i hil
  have hit : (i : Int).toNat = i := Int.toNat_natCast i
  have hsu := leastTo_succ S i
  have hOl2 := leastTo_len S (i + 1)
  obtain ⟨Ti, hTi⟩ : ∃ T, T = S.getD i [] := ⟨_, rfl⟩
  rw [← hTi] at hgi hbi
  refine EvC.skip ?_
  refine EvC.seq ?_
  refine EvC.block ?_
  refine EvC.a ?_ (by simp only [go_sem, hgi, hit, hLl] <;> rfl) (by simp; try omega)
  refine EvC.z 5 ?_
  have hTl : (Ti.map intC).length = Ti.length := List.length_map _
  have hTn := norefs_intC Ti
  have hI1 : inI64 ((i : Int) + 1) = true := inI64_of (by omega) (by omega)
  have hno : keepB S i = false → leastTo S (i + 1) = leastTo S i := fun h => by rw [hsu, h]; simp
  refine EvC.seq ?_
  refine EvC.a ?_ (by simp only [go_sem, hTl] <;> rfl)
  by_cases hz : Ti.length = 0
  ·refine EvC.ct ?_ (by simp only [go_sem, decide_eq_true (show (Ti.length : Int) = 0 by omega)] <;> rfl)
   refine EvC.exit ?_
   have hk : keepB S i = false := by unfold keepB; rw [← hTi, decide_eq_true hz]; rfl
   refine EvC.b ?_ (hok := by simp [hI1])
   exact ⟨[(0, 0)], i + 1, rfl, (by rw [hno hk]; simp only [go_sem, hOn, Int.natCast_add, Int.natCast_one] <;> rfl), hil, by omega⟩
  refine EvC.cs ?_ (by simp only [go_sem, decide_eq_false (show ¬ (Ti.length : Int) = 0 by omega)] <;> rfl)
  refine EvC.seq ?_
  refine EvC.a ?_ (by simp only [go_sem, hLl] <;> rfl)
  refine EvC.block ?_
  refine EvC.loopS (σ := Nat) (fun k => ⟨[(10, .sl (N == 0) SC .unk), (15, .fn 63 []), (16, .tl 0 (leastTo S i).length (leastTo S i).isEmpty), (17, .sc (.int .i64 i)), (18, .ia [.sl Ti.isEmpty (Ti.map intC) .unk]), (51, .sl (N == 0) SC .unk), (52, .sc (.int .i64 N)), (53, .sc (.int .i64 i)), (62, .sl (N == 0) SC .unk), (63, .sc (.int .i64 N)), (64, .sc (.int .i64 k))], [], [(0, .arr 1 ((leastTo S i).map intC) true)], 1⟩) (fun k => N - k) (fun k => k ≤ N ∧ ∀ j, j < k → badB S i j = false) [10, 15, 16, 17, 18, 51, 52, 53, 62, 63, 64] 1 ?_ ?_
  ·exact ⟨[(0, 0)], 0, rfl, (by simp only [go_sem, hOn, Int.natCast_zero] <;> rfl), Nat.zero_le _, fun j h => absurd h (Nat.not_lt_zero _)⟩
  rintro k ⟨k1, k2⟩
  refine EvC.a ?_
  refine EvC.seq ?_
  refine EvC.cond (by simp only [go_sem] <;> rfl) (fun hc => ?_) (fun hc => ?_)
  rotate_left
  ·refine EvC.exit ?_
   obtain rfl : k = N := by have : ¬ k < N := (by simpa using hc); omega
   clear hc
   have hk : keepB S i = true := by
    unfold keepB
    rw [← hTi, decide_eq_false hz]
    simp only [Bool.not_false, Bool.true_and, Bool.not_eq_true']
    rw [List.any_eq_false]
    intro j hj
    rw [List.mem_range, hSl] at hj
    rw [k2 j hj]; simp
   rw [hk, if_pos rfl] at hsu
   have hs : (leastTo S i).map intC ++ [[.sc (.int .i64 i)]] = (leastTo S (i + 1)).map intC := by rw [hsu, List.map_append]; rfl
   have hl2 : (leastTo S i).length + 1 = (leastTo S (i + 1)).length := by rw [hsu]; simp
   have hn2 : (leastTo S (i + 1)).isEmpty = false := by rw [hsu]; simp
   have hr2 : room (leastTo S (i + 1)).length 8 = true := by simp only [room_eq, decide_eq_true_eq]; omega
   have hOn2 := norefs_intC (leastTo S (i + 1))
   have hOl3 : ((leastTo S (i + 1)).map intC).length = (leastTo S (i + 1)).length := List.length_map _
   obtain ⟨U, hU⟩ : ∃ U, U = (leastTo S (i + 1)).map intC := ⟨_, rfl⟩
   rw [← hU] at hs hOn2 hOl3
   refine EvC.b ?_ (by simp only [go_sem, hs, hl2, hOl] <;> rfl) (by simp [hr2])
   refine EvC.b ?_ (hok := by simp [hI1])
   exact ⟨[(0, 0)], i + 1, rfl, (by rw [hn2, ← hU]; simp only [go_sem, hOn2, hOl3, Int.natCast_add, Int.natCast_one] <;> rfl), hil, by omega⟩
  have hkl2 : k < N := by simpa using hc
  clear hc
  have hgk := hSg k hkl2
  have hbk := hSb2 k hkl2
  have hkt : (k : Int).toNat = k := Int.toNat_natCast k
  have hI2 : inI64 ((k : Int) + 1) = true := inI64_of (by omega) (by omega)
  obtain ⟨Tk, hTk⟩ : ∃ T, T = S.getD k [] := ⟨_, rfl⟩
  rw [← hTk] at hgk hbk
  have hTkl : (Tk.map intC).length = Tk.length := List.length_map _
  have hTkn := norefs_intC Tk
  have hbad : badB S i k = (!decide (k = i) && (decide ((0 : Int) < Tk.length) && (subB Tk Ti && (decide (k < i) || !subB Ti Tk)))) := by unfold badB; rw [← hTi, ← hTk]
  have hnext : badB S i k = false → ∀ j, j < k + 1 → badB S i j = false := fun h j hj => by
   by_cases e : j = k
   ·rw [e]; exact h
   ·exact k2 j (by omega)
  have hkeep : badB S i k = true → keepB S i = false := fun h => by
   unfold keepB
   have : (List.range S.length).any (badB S i) = true := List.any_eq_true.2 ⟨k, List.mem_range.2 (by omega), h⟩
   rw [this]; simp
  refine EvC.skip ?_
  refine EvC.seq ?_
  refine EvC.block ?_
  refine EvC.a ?_ (by simp only [go_sem, hgk, hkt, hLl] <;> rfl) (by simp; try omega)
  refine EvC.z 5 ?_
  have qa := within63_is Tk.isEmpty Tk .unk Ti.isEmpty Ti .unk hbk hbi
  have qb := within63_is Ti.isEmpty Ti .unk Tk.isEmpty Tk .unk hbi hbk
  by_cases e1 : k = i
  ·have hb : badB S i k = false := by rw [hbad, decide_eq_true e1]; rfl
   have d1 : decide ((k : Int) = i) = true := decide_eq_true (by omega)
   apply EvC.s1
   ·apply Tr.run
    ·simp only [go_sem, d1, hTkl] <;> rfl
    ·simp
    apply Tr.cons
    ·exact .skipv (.sc (.bool false)) rfl rfl (by simp only [go_sem] <;> rfl) (by simp only [go_sem] <;> rfl)
    apply Tr.run
    ·simp only [go_sem, d1, hTkl] <;> rfl
    ·simp
    apply Tr.cons
    ·exact .skipv (.sc (.bool false)) rfl rfl (by simp only [go_sem] <;> rfl) (by simp only [go_sem] <;> rfl)
    apply Tr.done
    ·simp only [go_sem, d1, hTkl] <;> rfl
    ·simp
   refine EvC.cs ?_
   refine EvC.b ?_ (hok := by simp [hI2])
   exact ⟨[(0, 0)], k + 1, rfl, (by simp only [go_sem, hOn, Int.natCast_add, Int.natCast_one] <;> rfl), ⟨hkl2, hnext hb⟩, by omega⟩
  have d1 : decide ((k : Int) = i) = false := decide_eq_false (by omega)
  by_cases e2 : Tk.length = 0
  ·have hb : badB S i k = false := by rw [hbad, decide_eq_false (show ¬ (0 : Int) < Tk.length by omega)]; simp
   have d2 : decide ((0 : Int) < Tk.length) = false := decide_eq_false (by omega)
   apply EvC.s1
   ·apply Tr.run
    ·simp only [go_sem, d1, d2, hTkl] <;> rfl
    ·simp
    apply Tr.cons
    ·exact .skipv (.sc (.bool false)) rfl rfl (by simp only [go_sem] <;> rfl) (by simp only [go_sem] <;> rfl)
    apply Tr.run
    ·simp only [go_sem, d1, d2, hTkl] <;> rfl
    ·simp
    apply Tr.cons
    ·exact .skipv (.sc (.bool false)) rfl rfl (by simp only [go_sem] <;> rfl) (by simp only [go_sem] <;> rfl)
    apply Tr.done
    ·simp only [go_sem, d1, d2, hTkl] <;> rfl
    ·simp
   refine EvC.cs ?_
   refine EvC.b ?_ (hok := by simp [hI2])
   exact ⟨[(0, 0)], k + 1, rfl, (by simp only [go_sem, hOn, Int.natCast_add, Int.natCast_one] <;> rfl), ⟨hkl2, hnext hb⟩, by omega⟩
  have d2 : decide ((0 : Int) < Tk.length) = true := decide_eq_true (by omega)
  rw [decide_eq_false e1, d2] at hbad
  by_cases e3 : subB Tk Ti = true
  rotate_left
  ·have e3' : subB Tk Ti = false := by simpa using e3
   have hb : badB S i k = false := by rw [hbad, e3']; rfl
   rw [e3'] at qa
   apply EvC.s1
   ·apply Tr.run
    ·simp only [go_sem, d1, d2, hTkl] <;> rfl
    ·simp
    apply Tr.cons
    ·exact .cg (qa)
    apply Tr.run
    ·simp only [go_sem, d1, d2, hTkl] <;> rfl
    ·simp
    apply Tr.cons
    ·exact .skipv (.sc (.bool false)) rfl rfl (by simp only [go_sem] <;> rfl) (by simp only [go_sem] <;> rfl)
    apply Tr.done
    ·simp only [go_sem, d1, d2, hTkl, hTkn, hTn] <;> rfl
    ·simp
   refine EvC.cs ?_
   refine EvC.b ?_ (hok := by simp [hI2])
   exact ⟨[(0, 0)], k + 1, rfl, (by simp only [go_sem, hOn, Int.natCast_add, Int.natCast_one] <;> rfl), ⟨hkl2, hnext hb⟩, by omega⟩
  rw [e3] at qa hbad
  by_cases e4 : k < i
  ·have hb : badB S i k = true := by rw [hbad, decide_eq_true e4]; rfl
   have d3 : decide ((k : Int) < i) = true := decide_eq_true (by omega)
   apply EvC.s1
   ·apply Tr.run
    ·simp only [go_sem, d1, d2, d3, hTkl] <;> rfl
    ·simp
    apply Tr.cons
    ·exact .cg (qa)
    apply Tr.run
    ·simp only [go_sem, d1, d2, d3, hTkl] <;> rfl
    ·simp
    apply Tr.cons
    ·exact .skipv (.sc (.bool false)) rfl rfl (by simp only [go_sem] <;> rfl) (by simp only [go_sem] <;> rfl)
    apply Tr.done
    ·simp only [go_sem, d1, d2, d3, hTkl, hTkn, hTn] <;> rfl
    ·simp
   refine EvC.ct ?_
   refine EvC.exit ?_
   refine EvC.b ?_ (hok := by simp [hI1])
   exact ⟨[(0, 0)], i + 1, rfl, (by rw [hno (hkeep hb)]; simp only [go_sem, hOn, Int.natCast_add, Int.natCast_one] <;> rfl), hil, by omega⟩
  have d3 : decide ((k : Int) < i) = false := decide_eq_false (by omega)
  rw [decide_eq_false e4] at hbad
  by_cases e5 : subB Ti Tk = true
  ·have hb : badB S i k = false := by rw [hbad, e5]; rfl
   rw [e5] at qb
   refine EvC.k2 ?_ (h1 := by simp only [go_sem, d1, d2, d3, hTkl] <;> rfl) (c1 := .cg qa) (h2 := by simp only [go_sem, d1, d2, d3, hTkl] <;> rfl) (c2 := .cg qb) (h3 := by simp only [go_sem, d1, d2, d3, hTkl, hTkn, hTn] <;> rfl)
   refine EvC.cs ?_
   refine EvC.b ?_ (hok := by simp [hI2])
   exact ⟨[(0, 0)], k + 1, rfl, (by simp only [go_sem, hOn, Int.natCast_add, Int.natCast_one] <;> rfl), ⟨hkl2, hnext hb⟩, by omega⟩
  have e5' : subB Ti Tk = false := by simpa using e5
  have hb : badB S i k = true := by rw [hbad, e5']; rfl
  rw [e5'] at qb
  refine EvC.k2 ?_ (h1 := by simp only [go_sem, d1, d2, d3, hTkl] <;> rfl) (c1 := .cg qa) (h2 := by simp only [go_sem, d1, d2, d3, hTkl] <;> rfl) (c2 := .cg qb) (h3 := by simp only [go_sem, d1, d2, d3, hTkl, hTkn, hTn] <;> rfl)
  refine EvC.ct ?_
  refine EvC.exit ?_
  refine EvC.b ?_ (hok := by simp [hI1])
  exact ⟨[(0, 0)], i + 1, rfl, (by rw [hno (hkeep hb)]; simp only [go_sem, hOn, Int.natCast_add, Int.natCast_one] <;> rfl), hil, by omega⟩
 have hil : i < N := by simpa using hc
 clear hc
 have hge : fs[i]? = some (fs[i]'(by omega)) := List.getElem?_eq_getElem (by omega)
 have hfz2 := hfz _ (List.getElem_mem (show i < fs.length by omega))
 have htk : S.take (i + 1) = S.take i ++ [killW m W (fs[i]'(by omega))] := by
  rw [List.take_succ_eq_append_getElem (by omega)]; simp [hS]
 generalize fs[i]'(by omega) = f at hge hfz2 htk
 have hfg : (fs.map FA.cells)[i]? = some f.cells := by rw [List.getElem?_map, hge]; rfl
 have hit : (i : Int).toNat = i := Int.toNat_natCast i
 have q2 := qk f
 unfold killersA at q2
 rw [if_neg (fun h => h hfz2)] at q2
 have hK := hkl f
 rw [show killL m (mutF m f) W 0 = killW m W f from rfl] at q2 hK
 generalize killW m W f = K at q2 htk hK
 have hKn := norefs_intC K
 rw [FA.cells] at hfg q2
 have hfcl : (fs.map FA.cells).length = N := by rw [List.length_map, hN]
 refine EvC.skip ?_
 refine EvC.seq ?_
 refine EvC.block ?_
 refine EvC.a ?_ (by simp only [go_sem, hfg, hit, hfcl] <;> rfl) (by simp; try omega)
 refine EvC.z 4 ?_
 refine EvC.k1 ?_ (h1 := by simp only [go_sem, Mach.cells] <;> rfl) (c1 := .ca q2) (h2 := by simp only [go_sem, hWn, hKn] <;> rfl)
 refine EvC.z 13 ?_
 have hs : (S.take i).map setC ++ [[.sl K.isEmpty (K.map intC) .unk]] = (S.take (i + 1)).map setC := by rw [htk, List.map_append]; rfl
 have hLn2 := norefs_sets (S.take (i + 1))
 have hr2 : room (i + 1) 24 = true := by simp only [room_eq, decide_eq_true_eq]; omega
 have hLl2 : ((S.take (i + 1)).map setC).length = i + 1 := by rw [List.length_map, List.length_take]; omega
 have hne : (i + 1 == 0) = false := rfl
 obtain ⟨L2, hL2⟩ : ∃ L, L = (S.take (i + 1)).map setC := ⟨_, rfl⟩
 rw [← hL2] at hs hLn2 hLl2
 refine EvC.b ?_ (by simp only [go_sem, hs, hLl] <;> rfl) (by simp [hr2])
 refine EvC.b ?_ (hok := by exact inI64_of (by omega) (by omega))
 exact ⟨[(0, 0)], i + 1, rfl, (by rw [← hL2]; simp only [go_sem, Mach.cells, hLn2, hLl2, hne, Int.natCast_add, Int.natCast_one] <;> rfl), hil, by omega⟩
def faultE (m : Mach) (f : FA) : Int := if faultB m f then 0 else 1
theorem refFault_is {m : Mach} (hv : Valid m) (f : FA) : PureIs prog 36 [.ag m.cells, .ag f.cells] (.sc (.int .i64 (faultE m f))) := by
 have q := is40_is hv f
 unfold faultE
 generalize faultB m f = b at q
 rw [FA.cells, Mach.cells] at q
 simp only [FA.cells]
 refine PureIs.of1 5 [8] func36 ntmps36 results36 fun _ => ?_
 refine EvC.a ?_ (by simp only [go_sem, Mach.cells] <;> rfl)
 refine EvC.z 0 ?_
 refine EvC.z 1 ?_
 refine EvC.seq ?_
 refine EvC.k1 ?_ (h1 := by simp only [go_sem, Mach.cells] <;> rfl) (c1 := .ca q)
 cases b
 ·refine EvC.ct ?_
  refine EvC.a ?_
  refine EvC.rz ?_
  simp only [go_sem]
 refine EvC.cs ?_
 refine EvC.a ?_
 refine EvC.rz ?_
 simp only [go_sem]
def isPairB (p : FA × FA) : Bool :=
 decide (p.1.kind < 3) && decide (p.2.kind < 3) && (decide (p.1.state < p.2.state) || decide (p.1.state = p.2.state) && decide (p.1.input < p.2.input))
theorem isPair_is (p : FA × FA) : PureIs prog 37 [.ag (prC p)] (.sc (.bool (isPairB p))) := by
 obtain ⟨f, g⟩ := p
 obtain ⟨k, s, i, t, a, o⟩ := f
 obtain ⟨k2, s2, i2, t2, a2, o2⟩ := g
 unfold isPairB prC
 simp only [FA.cells, List.cons_append, List.nil_append]
 refine PureIs.of1 5 [] func37 ntmps37 results37 fun _ => ?_
 refine EvC.a ?_
 refine EvC.z 0 ?_
 refine EvC.a ?_
 refine EvC.a ?_
 refine EvC.g ?_
 refine EvC.rz ?_
 simp only [go_sem]
 cases decide (k < 3) <;> cases decide (k2 < 3) <;> cases decide (s < s2) <;> cases decide (s = s2) <;> rfl
def listE (m : Mach) (fs : List FA) : Int := if 256 < (fs.length : Int) then 3 else if fs.all (faultB m) then 0 else 1
theorem refList_is {m : Mach} (hv : Valid m) (fn : Bool) (fs : List FA) (fc : Cp) (hfl : fs.length < 1000000) :
  PureIs prog 32 [.ag m.cells, .sl fn (fs.map FA.cells) fc] (.sc (.int .i64 (listE m fs))) := by
 refine PureIs.of1 3 [4, 5, 6, 9, 13, 23] func32 ntmps32 results32 fun _ => ?_
 refine EvC.a ?_ (by simp only [go_sem, Mach.cells] <;> rfl)
 refine EvC.z 0 ?_
 refine EvC.seq ?_
 refine EvC.a ?_ (by simp only [go_sem, List.length_map] <;> rfl)
 by_cases hb : 256 < (fs.length : Int)
 ·refine EvC.ct ?_ (by simp only [go_sem, decide_eq_true hb] <;> rfl)
  have hR : listE m fs = 3 := by unfold listE; rw [if_pos hb]
  rw [hR]
  refine EvC.a ?_
  refine EvC.rz ?_
  simp only [go_sem]
 refine EvC.cf ?_ (by simp only [go_sem, decide_eq_false hb] <;> rfl)
 have hR : listE m fs = if fs.all (faultB m) then 0 else 1 := by unfold listE; rw [if_neg hb]
 obtain ⟨N, hN⟩ : ∃ N, N = fs.length := ⟨_, rfl⟩
 refine EvC.skip ?_
 refine EvC.seq ?_
 refine EvC.a ?_
 refine EvC.block ?_
 refine EvC.loopS (σ := Nat) (fun i => ⟨[(1, .sl fn (fs.map FA.cells) fc), (2, .ia m.cells), (5, .sc (.int .i64 i))], [], [], 0⟩) (fun i => N - i) (fun i => i ≤ N ∧ ∀ f ∈ fs.take i, faultB m f = true) [1, 2, 5] 0 ?_ ?_
 ·exact ⟨[], 0, rfl, (by simp only [go_sem, Mach.cells, Int.natCast_zero] <;> rfl), Nat.zero_le _, by simp⟩
 rintro i ⟨h1, h2⟩
 refine EvC.seq ?_
 refine EvC.a ?_ (by simp only [go_sem, List.length_map, hN.symm] <;> rfl)
 refine EvC.cond (by simp only [go_sem] <;> rfl) (fun hc => ?_) (fun hc => ?_)
 rotate_left
 ·refine EvC.exit ?_
  obtain rfl : i = N := by have : ¬ i < N := (by simpa using hc); omega
  rw [List.take_of_length_le (by omega)] at h2
  rw [hR, if_pos (List.all_eq_true.2 h2)]
  refine EvC.a ?_
  refine EvC.rz ?_
  simp only [go_sem]
 have hil : i < N := by simpa using hc
 clear hc
 have he : fs[i]? = some (fs[i]'(by omega)) := List.getElem?_eq_getElem (by omega)
 have hm2 := List.getElem_mem (show i < fs.length by omega)
 have htk : fs.take (i + 1) = fs.take i ++ [fs[i]'(by omega)] := by
  rw [List.take_succ_eq_append_getElem (by omega)]
 generalize fs[i]'(by omega) = f at he hm2 htk
 have q := refFault_is hv f
 have hfc : (fs.map FA.cells)[i]? = some f.cells := by rw [List.getElem?_map, he]; rfl
 rw [FA.cells] at hfc q
 have hit : (i : Int).toNat = i := Int.toNat_natCast i
 have hll : (fs.map FA.cells).length = N := by rw [List.length_map, hN]
 refine EvC.skip ?_
 refine EvC.seq ?_
 refine EvC.block ?_
 refine EvC.k1D mixed ?_ (h1 := by simp only [go_sem, hfc, hit, hll, Mach.cells] <;> rfl) (k1 := by simp; try omega) (c1 := .ca q)
 refine EvC.a ?_
 by_cases hf : faultB m f = true
 ·have hz : faultE m f = 0 := by unfold faultE; rw [if_pos hf]
  refine EvC.cs ?_ (by simp only [go_sem, hz] <;> rfl)
  refine EvC.b ?_ (hok := by exact inI64_of (by omega) (by omega))
  exact ⟨[], i + 1, rfl, (by simp only [go_sem, Mach.cells, Int.natCast_add, Int.natCast_one] <;> rfl), ⟨hil, fun x hx => by rw [htk] at hx; rcases List.mem_append.1 hx with h | h; exact h2 x h; rw [List.mem_singleton.1 h]; exact hf⟩, by omega⟩
 have hz : faultE m f = 1 := by unfold faultE; rw [if_neg hf]
 refine EvC.ct ?_ (by simp only [go_sem, hz] <;> rfl)
 have hal : fs.all (faultB m) = false := by
  rw [Bool.eq_false_iff]; intro h; exact hf (List.all_eq_true.1 h f hm2)
 rw [hR, hal, if_neg (by simp)]
 refine EvC.a ?_ (by simp only [go_sem, hz] <;> rfl)
 refine EvC.rz ?_
 simp only [go_sem]
theorem rows_get {a b : Mach} (h : a.rows.map (·.2) = b.rows.map (·.2)) {i : Nat} {r : Row} (hr : a.rows[i]? = some r) : ∃ n, b.rows[i]? = some (n, r.2) := by
 have h2 := congrArg (fun l => l[i]?) h
 simp only [List.getElem?_map, hr, Option.map_some] at h2
 cases hb : b.rows[i]? with
 | none => rw [hb] at h2; cases h2
 | some q => rw [hb] at h2; simp only [Option.map_some, Option.some.injEq] at h2; exact ⟨q.1, by rw [h2]⟩
theorem sameM_is {a b : Mach} (h1 : a.ins = b.ins) (h2 : a.outs = b.outs) (h3 : a.rows.map (·.2) = b.rows.map (·.2)) (hl : a.rows.length < 1000000) (hr : ∀ r ∈ a.rows, r.2.length < 1000000) : PureIs prog 16 [.ag a.cells, .ag b.cells] (.sc (.bool true)) := by
 have hl2 : b.rows.length = a.rows.length := by have := congrArg List.length h3; simpa using this.symm
 refine PureIs.of1 7 [27, 32, 47, 55, 74] func16 ntmps16 results16 fun _ => ?_
 refine EvC.a ?_ (by simp only [go_sem, Mach.cells] <;> rfl)
 refine EvC.z 0 ?_
 refine EvC.z 1 ?_
 refine EvC.seq ?_
 refine EvC.g ?_ (h := by simp only [go_sem, h1, h2, hl2] <;> rfl)
 refine EvC.cs ?_
 refine EvC.seq ?_
 refine EvC.a ?_
 refine EvC.block ?_
 refine EvC.loopS (σ := Nat) (fun i => ⟨[(2, .ia a.cells), (3, .ia b.cells), (5, .sc (.int .i64 i))], [], [], 0⟩) (fun i => a.rows.length - i) (fun i => i ≤ a.rows.length) [2, 3, 5] 0 ?_ ?_
 ·exact ⟨[], 0, rfl, (by simp only [go_sem, Mach.cells, h1, h2] <;> rfl), Nat.zero_le _⟩
 intro i hi
 refine EvC.seq ?_
 refine EvC.a ?_ (by simp only [go_sem, Mach.cells] <;> rfl)
 refine EvC.cond (by simp only [go_sem] <;> rfl) (fun hc => ?_) (fun hc => ?_)
 rotate_left
 ·refine EvC.exit ?_
  refine EvC.a ?_
  refine EvC.rz ?_
  simp only [go_sem]
 have hi : i < a.rows.length := by simpa using hc
 have he : a.rows[i]? = some a.rows[i] := List.getElem?_eq_getElem hi
 have hm := List.getElem_mem hi
 generalize a.rows[i] = r at he hm
 obtain ⟨n, hb⟩ := rows_get h3 he
 obtain ⟨na, es⟩ := r
 have hes := hr _ hm
 simp only at hb hes
 refine EvC.skip ?_
 refine EvC.seq ?_
 refine EvC.block ?_
 refine EvC.seq ?_
 refine EvC.d mixed ?_ (h := by simp only [go_sem, he, hb, rowC, Mach.cells] <;> rfl)
 refine EvC.cs ?_
 refine EvC.a ?_
 refine EvC.block ?_
 refine EvC.loopS (σ := Nat) (fun k => ⟨[(2, .ia a.cells), (3, .ia b.cells), (5, .sc (.int .i64 i)), (6, .sc (.int .i64 k))], [], [], 0⟩) (fun k => es.length - k) (fun k => k ≤ es.length) [2, 3, 5, 6] 0 ?_ ?_
 ·exact ⟨[], 0, rfl, (by simp only [go_sem, Mach.cells, h1, h2] <;> rfl), Nat.zero_le _⟩
 intro k hk
 refine EvC.seq ?_
 refine EvC.a ?_ (by simp only [go_sem, he, rowC, Mach.cells] <;> rfl)
 refine EvC.cond (by simp only [go_sem] <;> rfl) (fun hc => ?_) (fun hc => ?_)
 rotate_left
 ·refine EvC.exit ?_
  refine EvC.b ?_ (hok := by exact inI64_of (by omega) (by omega))
  exact ⟨[], i + 1, rfl, (by simp only [go_sem, Mach.cells] <;> rfl), by omega, by omega⟩
 have hk : k < es.length := by simpa using hc
 have hek : es[k]? = some es[k] := List.getElem?_eq_getElem hk
 generalize es[k] = e at hek
 refine EvC.skip ?_
 refine EvC.seq ?_
 refine EvC.block ?_
 refine EvC.d mixed ?_ (h := by simp only [go_sem, he, hb, rowC, Mach.cells, hek, edgeC] <;> rfl)
 refine EvC.cs ?_
 refine EvC.b ?_ (hok := by exact inI64_of (by omega) (by omega))
 exact ⟨[], k + 1, rfl, (by simp only [go_sem, Mach.cells] <;> rfl), by omega, by omega⟩
theorem intsEq_is (na nb : Bool) (a : List Int) (cb : Cp) (hl : a.length < 1000000) : PureIs prog 21 [.sl na (a.map intC) .full, .sl nb (a.map intC) cb] (.sc (.bool true)) := by
 have q := same37_is false false [(na, a, .full)] [(nb, a, cb)] .full .full (by simp) (by simpa using hl)
 rw [show sameW [(na, a, Cp.full)] [(nb, a, cb)] = true by simp [sameW]] at q
 simp only [List.map_cons, List.map_nil, rwC] at q
 have hn := norefs_intC a
 have hll : (a.map intC).length = a.length := List.length_map _
 generalize a.map intC = L at q hn hll ⊢
 refine PureIs.of1 2 [4] func21 ntmps21 results21 fun _ => ?_
 refine EvC.a ?_
 refine EvC.k1 ?_ (c1 := .ca q) (h2 := by simp only [go_sem, hn, hll] <;> rfl)
 refine EvC.rz ?_
 simp only [go_sem]
theorem pairsEq_is (na nb : Bool) (a : List (FA × FA)) (cb : Cp) (hl : a.length < 1000000) : PureIs prog 13 [.sl na (a.map prC) .full, .sl nb (a.map prC) cb] (.sc (.bool true)) := by
 have hn := pairs_norefs a
 have hll : (a.map prC).length = a.length := List.length_map _
 refine PureIs.of1 2 [4, 5, 17, 21, 32] func13 ntmps13 results13 fun _ => ?_
 refine EvC.a ?_
 refine EvC.seq ?_
 refine EvC.g ?_ (h := by simp only [go_sem, hll] <;> rfl)
 refine EvC.cs ?_
 refine EvC.seq ?_
 refine EvC.a ?_
 refine EvC.block ?_
 refine EvC.loopS (σ := Nat) (fun i => ⟨[(0, .sl na (a.map prC) .full), (1, .sl nb (a.map prC) cb), (5, .sc (.int .i64 i))], [], [], 0⟩) (fun i => a.length - i) (fun i => i ≤ a.length) [0, 1, 5] 0 ?_ ?_
 ·exact ⟨[], 0, rfl, (by simp only [go_sem, Int.natCast_zero] <;> rfl), Nat.zero_le _⟩
 intro i hi
 refine EvC.seq ?_
 refine EvC.a ?_ (by simp only [go_sem, hll] <;> rfl)
 refine EvC.cond (by simp only [go_sem] <;> rfl) (fun hc => ?_) (fun hc => ?_)
 rotate_left
 ·refine EvC.exit ?_
  refine EvC.a ?_
  refine EvC.rz ?_
  simp only [go_sem]
 have hil : i < a.length := by simpa using hc
 clear hc
 have he : a[i]? = some (a[i]'hil) := List.getElem?_eq_getElem hil
 generalize a[i]'hil = p at he
 have hpc : (a.map prC)[i]? = some (prC p) := by rw [List.getElem?_map, he]; rfl
 obtain ⟨f, g⟩ := p
 unfold prC at hpc
 rw [List.getElem?_map, he, Option.map_some] at hpc
 clear hpc
 have hpc : (a.map prC)[i]? = some [.sc (.int .i64 f.kind), .sc (.int .i64 f.state), .sc (.int .i64 f.input), .sc (.int .i64 f.to), .sc (.int .i64 f.at'), .sc (.int .i64 f.out), .sc (.int .i64 g.kind), .sc (.int .i64 g.state), .sc (.int .i64 g.input), .sc (.int .i64 g.to), .sc (.int .i64 g.at'), .sc (.int .i64 g.out)] := by rw [List.getElem?_map, he]; rfl
 have hit : (i : Int).toNat = i := Int.toNat_natCast i
 refine EvC.skip ?_
 refine EvC.seq ?_
 refine EvC.block ?_
 refine EvC.d mixed ?_ (h := by simp only [go_sem, hpc, hit, hll] <;> rfl) (hok := by simp; try omega)
 refine EvC.cs ?_
 refine EvC.b ?_ (hok := by exact inI64_of (by omega) (by omega))
 exact ⟨[], i + 1, rfl, (by simp only [go_sem, Int.natCast_add, Int.natCast_one] <;> rfl), hil, by omega⟩
def growsB (ks : List Int) : Bool := ks.any fun k => decide (3 ≤ k)
theorem grows_is (nl : Bool) (ks : List Int) (c : Cp) (hl : ks.length < 1000000) : PureIs prog 35 [.sl nl (ks.map intC) c] (.sc (.bool (growsB ks))) := by
 have hll : (ks.map intC).length = ks.length := List.length_map _
 refine PureIs.of1 1 [2, 3, 7, 14] func35 ntmps35 results35 fun _ => ?_
 refine EvC.a ?_
 refine EvC.seq ?_
 refine EvC.a ?_
 refine EvC.block ?_
 refine EvC.loopS (σ := Nat) (fun i => ⟨[(0, .sl nl (ks.map intC) c), (3, .sc (.int .i64 i))], [], [], 0⟩) (fun i => ks.length - i) (fun i => i ≤ ks.length ∧ ∀ k ∈ ks.take i, ¬ 3 ≤ k) [0, 3] 0 ?_ ?_
 ·exact ⟨[], 0, rfl, (by simp only [go_sem, Int.natCast_zero] <;> rfl), Nat.zero_le _, by simp⟩
 rintro i ⟨h1, h2⟩
 refine EvC.seq ?_
 refine EvC.a ?_ (by simp only [go_sem, hll] <;> rfl)
 refine EvC.cond (by simp only [go_sem] <;> rfl) (fun hc => ?_) (fun hc => ?_)
 rotate_left
 ·refine EvC.exit ?_
  obtain rfl : i = ks.length := by have : ¬ i < ks.length := (by simpa using hc); omega
  rw [List.take_length] at h2
  have hR : growsB ks = false := by unfold growsB; rw [List.any_eq_false]; intro k hk; simpa using h2 k hk
  rw [hR]
  refine EvC.a ?_
  refine EvC.rz ?_
  simp only [go_sem]
 have hil : i < ks.length := by simpa using hc
 clear hc
 have he : ks[i]? = some (ks[i]'hil) := List.getElem?_eq_getElem hil
 have hm := List.getElem_mem hil
 have htk : ks.take (i + 1) = ks.take i ++ [ks[i]'hil] := by rw [List.take_succ_eq_append_getElem hil]
 generalize ks[i]'hil = k at he hm htk
 have hg : (ks.map intC)[i]? = some [.sc (.int .i64 k)] := by rw [List.getElem?_map, he]; rfl
 have hit : (i : Int).toNat = i := Int.toNat_natCast i
 refine EvC.skip ?_
 refine EvC.seq ?_
 refine EvC.block ?_
 by_cases hb : 3 ≤ k
 ·have d1 := decide_eq_true hb
  refine EvC.a ?_ (by simp only [go_sem, hg, hit, hll, d1] <;> rfl) (by simp; try omega)
  refine EvC.ct ?_
  have hR : growsB ks = true := List.any_eq_true.2 ⟨k, hm, d1⟩
  rw [hR]
  refine EvC.a ?_
  refine EvC.rz ?_
  simp only [go_sem]
 have d1 := decide_eq_false hb
 refine EvC.a ?_ (by simp only [go_sem, hg, hit, hll, d1] <;> rfl) (by simp; try omega)
 refine EvC.cs ?_
 refine EvC.b ?_ (hok := by exact inI64_of (by omega) (by omega))
 exact ⟨[], i + 1, rfl, (by simp only [go_sem, Int.natCast_add, Int.natCast_one] <;> rfl), ⟨hil, fun x hx => by rw [htk] at hx; rcases List.mem_append.1 hx with h | h; exact h2 x h; rw [List.mem_singleton.1 h]; exact hb⟩, by omega⟩
def smallE (m : Mach) : Int := if 6 < (m.rows.length : Int) then 1 else if m.rows.any (fun r => decide (4 < (r.2.length : Int))) then 1 else 0
theorem small_is (m : Mach) : PureIs prog 29 [.ag m.cells] (.sc (.int .i64 (smallE m))) := by
 have hll : (m.rows.map rowC).length = m.rows.length := List.length_map _
 refine PureIs.of1 4 [7, 12, 21] func29 ntmps29 results29 fun _ => ?_
 refine EvC.a ?_ (by simp only [go_sem, Mach.cells] <;> rfl)
 refine EvC.z 0 ?_
 refine EvC.seq ?_
 refine EvC.a ?_ (by simp only [go_sem, hll] <;> rfl)
 by_cases h6 : 6 < (m.rows.length : Int)
 ·refine EvC.ct ?_ (by simp only [go_sem, decide_eq_true h6] <;> rfl)
  have hR : smallE m = 1 := by unfold smallE; rw [if_pos h6]
  rw [hR]
  refine EvC.a ?_
  refine EvC.rz ?_
  simp only [go_sem]
 refine EvC.cf ?_ (by simp only [go_sem, decide_eq_false h6] <;> rfl)
 have hR : smallE m = if m.rows.any (fun r => decide (4 < (r.2.length : Int))) then 1 else 0 := by unfold smallE; rw [if_neg h6]
 refine EvC.skip ?_
 refine EvC.seq ?_
 refine EvC.a ?_
 refine EvC.block ?_
 refine EvC.loopS (σ := Nat) (fun i => ⟨[(1, .ia m.cells), (3, .sc (.int .i64 i))], [], [], 0⟩) (fun i => m.rows.length - i) (fun i => i ≤ m.rows.length ∧ ∀ r ∈ m.rows.take i, ¬ 4 < (r.2.length : Int)) [1, 3] 0 ?_ ?_
 ·exact ⟨[], 0, rfl, (by simp only [go_sem, Mach.cells, Int.natCast_zero] <;> rfl), Nat.zero_le _, by simp⟩
 rintro i ⟨h1, h2⟩
 refine EvC.seq ?_
 refine EvC.a ?_ (by simp only [go_sem, Mach.cells, hll] <;> rfl)
 refine EvC.cond (by simp only [go_sem] <;> rfl) (fun hc => ?_) (fun hc => ?_)
 rotate_left
 ·refine EvC.exit ?_
  obtain rfl : i = m.rows.length := by have : ¬ i < m.rows.length := (by simpa using hc); omega
  rw [List.take_length] at h2
  have hA : (m.rows.any fun r => decide (4 < (r.2.length : Int))) = false := by rw [List.any_eq_false]; intro k hk; simpa using h2 k hk
  rw [hR, hA, if_neg (by simp)]
  refine EvC.a ?_
  refine EvC.rz ?_
  simp only [go_sem]
 have hil : i < m.rows.length := by simpa using hc
 clear hc
 have he : m.rows[i]? = some (m.rows[i]'hil) := List.getElem?_eq_getElem hil
 have hm := List.getElem_mem hil
 have htk : m.rows.take (i + 1) = m.rows.take i ++ [m.rows[i]'hil] := by rw [List.take_succ_eq_append_getElem hil]
 generalize m.rows[i]'hil = r at he hm htk
 have hit : (i : Int).toNat = i := Int.toNat_natCast i
 refine EvC.skip ?_
 refine EvC.seq ?_
 refine EvC.block ?_
 by_cases hb : 4 < (r.2.length : Int)
 ·have d1 := decide_eq_true hb
  refine EvC.a ?_ (by simp only [go_sem, he, hit, hll, d1, rowC, Mach.cells, List.length_map] <;> rfl) (by simp; try omega)
  refine EvC.ct ?_
  rw [hR, if_pos (List.any_eq_true.2 ⟨r, hm, d1⟩)]
  refine EvC.a ?_
  refine EvC.rz ?_
  simp only [go_sem]
 have d1 := decide_eq_false hb
 refine EvC.a ?_ (by simp only [go_sem, he, hit, hll, d1, rowC, Mach.cells, List.length_map] <;> rfl) (by simp; try omega)
 refine EvC.cs ?_
 refine EvC.b ?_ (hok := by exact inI64_of (by omega) (by omega))
 exact ⟨[], i + 1, rfl, (by simp only [go_sem, Mach.cells, Int.natCast_add, Int.natCast_one] <;> rfl), ⟨hil, fun x hx => by rw [htk] at hx; rcases List.mem_append.1 hx with h | h; exact h2 x h; rw [List.mem_singleton.1 h]; exact hb⟩, by omega⟩
set_option maxRecDepth 100000
def exM : Mach := ⟨1, 2, false, [(false, [(1, 0)]), (false, [(0, 1)])]⟩
def exW : Mach := ⟨1, 2, false, [(false, [(1, 1)]), (false, [(0, 0)])]⟩
def xa : FA := ⟨0, 0, 0, 0, 0, 1⟩
def xb : FA := ⟨0, 1, 0, 0, 0, 0⟩
def xc : FA := ⟨1, 0, 0, 0, 0, 0⟩
def xd : FA := ⟨3, 0, 0, 1, 0, 0⟩
def xu : FA := ⟨2, 0, 0, 0, 0, 0⟩
def xv : FA := ⟨2, 1, 0, 0, 0, 0⟩
def xWs : List RW := [(false, [0], .unk), (false, [0, 0], .unk)]
def errB (e : Int) : AV := .tu [.ag [.sc (.int .i64 0), .sc (.int .i64 0), .sl true [] .zer], .sc (.int .i64 e)]
theorem ex_both1 : bothA exM (xa, xb) = .tu [.ag (mutF (mutF exM xa) xb).cells, .sc (.int .i64 0)] := by kernel_rfl
theorem ex_both1m : mutF (mutF exM xa) xb = exW := by kernel_rfl
theorem ex_both2 : bothA exM (xb, xa) = errB 1 := by kernel_rfl
theorem ex_both3 : bothA exM (xa, xc) = errB 1 := by kernel_rfl
theorem ex_srt : srtE (alF exM [0, 2]) = [xa, xu, xb, xv] := by kernel_rfl
theorem ex_all : allR exM [0, 2] 65536 = 0 := by kernel_rfl
theorem ex_check : checkM exM = 0 := by kernel_rfl
theorem ex_prs : prs [xa, xu, xb, xv] = [(xa, xb), (xa, xv), (xu, xb), (xu, xv)] := by kernel_rfl
theorem ex_pairsE (n : Int) (h0 : 0 ≤ n) (h1 : n ≤ 65536) : pairsE exM [0, 2] n = if n < 4 then 13 else 0 := by
 unfold pairsE
 rw [if_neg (by rw [ex_check]; simp), if_neg (by
  rintro (h | h | ⟨k, hk, h⟩)
  ·omega
  ·omega
  ·simp at hk; omega), if_neg (by rw [ex_all]; simp), ex_srt, ex_prs]
 rfl
theorem ex_pairs1 : pairsA exM [0, 2] 4 = .tu [.sl false ([(xa, xb), (xa, xv), (xu, xb), (xu, xv)].map prC) .full, .sc (.int .i64 0)] := by
 rw [pairsA, ex_pairsE 4 (by omega) (by omega), if_neg (by simp), ex_srt, ex_prs]; rfl
theorem ex_pairs2 : pairsA exM [0, 2] 3 = .tu [.sl true [] .unk, .sc (.int .i64 13)] := by
 rw [pairsA, ex_pairsE 3 (by omega) (by omega), if_pos (by omega), if_pos (by simp)]
theorem ex_eqs : equalsA exM [xa, xb, xc, xd] = .tu [.sl false ([false, false, false, true].map boolC) .full, .sc (.int .i64 0)] := by kernel_rfl
theorem ex_dist : distinctA exM [xa, xb, xc, xd, ⟨3, 1, 0, 0, 0, 0⟩] = .tu [.sl false ([0, 1, 1, 3, 3].map intC) .full, .sc (.int .i64 0)] := by kernel_rfl
theorem ex_least : leastA exM xWs [xa, xb, xc, xd] = .tu [.sl false ([1].map intC) .full, .sc (.int .i64 0)] := by kernel_rfl
theorem ex_sub1 : subsumesA exM xWs xa xb = .tu [.sc (.bool false), .sc (.int .i64 0)] := by kernel_rfl
theorem ex_sub2 : subsumesA exM xWs xb xa = .tu [.sc (.bool true), .sc (.int .i64 0)] := by kernel_rfl
theorem ex_sub3 : subsumesA exM xWs xb xc = .tu [.sc (.bool true), .sc (.int .i64 0)] := by kernel_rfl
theorem ex_sub4 : subsumesA exM xWs xd xa = .tu [.sc (.bool false), .sc (.int .i64 0)] := by kernel_rfl
set_option maxRecDepth 10000
abbrev fA (a b c d e f : Int) : List AV := [.sc (.int .i64 a), .sc (.int .i64 b), .sc (.int .i64 c), .sc (.int .i64 d), .sc (.int .i64 e), .sc (.int .i64 f)]
abbrev pA (a b c d e f a' b' c' d' e' f' : Int) : List AV := [.sc (.int .i64 a), .sc (.int .i64 b), .sc (.int .i64 c), .sc (.int .i64 d), .sc (.int .i64 e), .sc (.int .i64 f), .sc (.int .i64 a'), .sc (.int .i64 b'), .sc (.int .i64 c'), .sc (.int .i64 d'), .sc (.int .i64 e'), .sc (.int .i64 f')]
abbrev iA (a : Int) : List AV := [.sc (.int .i64 a)]
abbrev eA (a b : Int) : List AV := [.sc (.int .i64 a), .sc (.int .i64 b)]
abbrev exC : List AV := [.sc (.int .i64 1), .sc (.int .i64 2), .sl false [[.sl false [eA 1 0] .full], [.sl false [eA 0 1] .full]] .full]
abbrev wsC : AV := .sl false [[.sl false [iA 0] .full], [.sl false [iA 0, iA 0] .full]] .full
abbrev noC : List AV := [.sc (.int .i64 0), .sc (.int .i64 0), .sl true [] .zer]
theorem ex_rows : ∀ r ∈ exM.rows, r.2.length < 1000000 := by decide
theorem ex_noNil : NoNil exM := fun r hr h => by
 simp only [exM, List.mem_cons, List.not_mem_nil, or_false] at hr
 rcases hr with rfl | rfl <;> cases h
theorem ex_ws : ∀ w ∈ xWs, w.2.1.length < 1000000 := by decide
theorem ex_both1_is : PureIs prog 14 [.ag exC, .ag (pA 0 0 0 0 0 1 0 1 0 0 0 0)] (.tu [.ag [.sc (.int .i64 1), .sc (.int .i64 2), .sl false [[.sl false [eA 1 1] .unk], [.sl false [eA 0 0] .unk]] .unk], .sc (.int .i64 0)]) := by
 have q := pairBoth_is exM ex_rows ex_noNil (xa, xb)
 rw [ex_both1, ex_both1m] at q
 exact .weak q
theorem ex_both2_is : PureIs prog 14 [.ag exC, .ag (pA 0 1 0 0 0 0 0 0 0 0 0 1)] (.tu [.ag noC, .sc (.int .i64 1)]) := by
 have q := pairBoth_is exM ex_rows ex_noNil (xb, xa)
 rw [ex_both2] at q
 exact .weak q
theorem ex_both3_is : PureIs prog 14 [.ag exC, .ag (pA 0 0 0 0 0 1 1 0 0 0 0 0)] (.tu [.ag noC, .sc (.int .i64 1)]) := by
 have q := pairBoth_is exM ex_rows ex_noNil (xa, xc)
 rw [ex_both3] at q
 exact .weak q
abbrev exP : List (List AV) := [pA 0 0 0 0 0 1 0 1 0 0 0 0, pA 0 0 0 0 0 1 2 1 0 0 0 0, pA 2 0 0 0 0 0 0 1 0 0 0 0, pA 2 0 0 0 0 0 2 1 0 0 0 0]
theorem ex_pairs1_is : PureIs prog 11 [.ag exC, .sl false [iA 0, iA 2] .full, .sc (.int .i64 4)] (.tu [.sl false exP .full, .sc (.int .i64 0)]) := by
 have q := pairs_is exM ex_rows false [0, 2] .unk (by decide) 4
 rw [ex_pairs1] at q
 exact .weak q
theorem ex_pairs2_is : PureIs prog 11 [.ag exC, .sl false [iA 0, iA 2] .full, .sc (.int .i64 3)] (.tu [.sl true [] .unk, .sc (.int .i64 13)]) := by
 have q := pairs_is exM ex_rows false [0, 2] .unk (by decide) 3
 rw [ex_pairs2] at q
 exact .weak q
theorem ex_same_is : PureIs prog 16 [.ag [.sc (.int .i64 1), .sc (.int .i64 2), .sl false [[.sl false [eA 1 1] .unk], [.sl false [eA 0 0] .unk]] .unk], .ag [.sc (.int .i64 1), .sc (.int .i64 2), .sl false [[.sl false [eA 1 1] .full], [.sl false [eA 0 0] .full]] .full]] (.sc (.bool true)) := by
 have q := sameM_is (a := exW) (b := exW) rfl rfl rfl (by decide) (by decide)
 exact .weak q
theorem ex_pairsEq_is : PureIs prog 13 [.sl false exP .full, .sl false exP .full] (.sc (.bool true)) := by
 exact pairsEq_is false false [(xa, xb), (xa, xv), (xu, xb), (xu, xv)] .full (by decide)
abbrev exL : List (List AV) := [fA 0 0 0 0 0 1, fA 0 1 0 0 0 0, fA 1 0 0 0 0 0, fA 3 0 0 1 0 0]
theorem ex_eqs_is : PureIs prog 19 [.ag exC, .sl false exL .full] (.tu [.sl false [[.sc (.bool false)], [.sc (.bool false)], [.sc (.bool false)], [.sc (.bool true)]] .full, .sc (.int .i64 0)]) := by
 have q := equals19_is exM ex_rows ex_noNil false [xa, xb, xc, xd] .unk (by decide)
 rw [ex_eqs] at q
 exact .weak q
theorem ex_dist_is (c : Cp) : PureIs prog 20 [.ag exC, .sl false (exL ++ [fA 3 1 0 0 0 0]) c] (.tu [.sl false [iA 0, iA 1, iA 1, iA 3, iA 3] .full, .sc (.int .i64 0)]) := by
 have q := distinct_is exM ex_rows ex_noNil false [xa, xb, xc, xd, ⟨3, 1, 0, 0, 0, 0⟩] .unk (by decide)
 rw [ex_dist] at q
 exact .weak q
theorem ex_least_is : PureIs prog 26 [.ag exC, wsC, .sl false exL .full] (.tu [.sl false [iA 1] .full, .sc (.int .i64 0)]) := by
 have q := least_is exM ex_rows ex_noNil false xWs .unk ex_ws (by decide) false [xa, xb, xc, xd] .unk (by decide)
 rw [ex_least] at q
 exact .weak q
theorem ex_sub1_is : PureIs prog 38 [.ag exC, wsC, .ag (fA 0 0 0 0 0 1), .ag (fA 0 1 0 0 0 0)] (.tu [.sc (.bool false), .sc (.int .i64 0)]) := by
 have q := subsumes_is exM ex_rows ex_noNil false xWs .unk ex_ws (by decide) xa xb
 rw [ex_sub1] at q
 exact .weak q
theorem ex_sub2_is : PureIs prog 38 [.ag exC, wsC, .ag (fA 0 1 0 0 0 0), .ag (fA 0 0 0 0 0 1)] (.tu [.sc (.bool true), .sc (.int .i64 0)]) := by
 have q := subsumes_is exM ex_rows ex_noNil false xWs .unk ex_ws (by decide) xb xa
 rw [ex_sub2] at q
 exact .weak q
theorem ex_sub3_is : PureIs prog 38 [.ag exC, wsC, .ag (fA 0 1 0 0 0 0), .ag (fA 1 0 0 0 0 0)] (.tu [.sc (.bool true), .sc (.int .i64 0)]) := by
 have q := subsumes_is exM ex_rows ex_noNil false xWs .unk ex_ws (by decide) xb xc
 rw [ex_sub3] at q
 exact .weak q
theorem ex_sub4_is : PureIs prog 38 [.ag exC, wsC, .ag (fA 3 0 0 1 0 0), .ag (fA 0 0 0 0 0 1)] (.tu [.sc (.bool false), .sc (.int .i64 0)]) := by
 have q := subsumes_is exM ex_rows ex_noNil false xWs .unk ex_ws (by decide) xd xa
 rw [ex_sub4] at q
 exact .weak q
set_option maxHeartbeats 4000000 in
theorem lives_is : PureIs prog 12 [] (.sc (.bool true)) := by
 refine PureIs.of1 8 [9, 11, 12, 13, 15, 16, 17, 18, 19, 20, 21, 22, 23, 24, 25, 26, 27, 123, 201] func12 ntmps12 results12 fun _ => ?_
 refine EvC.a ?_
 refine EvC.a ?_
 refine EvC.z 7 ?_
 refine EvC.a ?_
 refine EvC.z 10 ?_
 refine EvC.a ?_
 refine EvC.z 13 ?_
 refine EvC.a ?_
 refine EvC.z 16 ?_
 refine EvC.a ?_
 refine EvC.z 19 ?_
 refine EvC.k1 ?_ (c1 := .ca ex_both1_is)
 refine EvC.z 29 ?_
 refine EvC.k1 ?_ (c1 := .ca ex_both2_is)
 refine EvC.k1 ?_ (c1 := .ca ex_both3_is)
 refine EvC.k1 ?_ (c1 := .ca ex_pairs1_is)
 refine EvC.k1 ?_ (c1 := .ca ex_pairs2_is)
 refine EvC.a ?_
 refine EvC.z 76 ?_
 refine EvC.a ?_
 refine EvC.z 79 ?_
 refine EvC.a ?_
 refine EvC.z 82 ?_
 refine EvC.seq ?_
 refine EvC.k2 ?_ (c1 := .cg ex_same_is) (c2 := .cg ex_pairsEq_is)
 refine EvC.cs ?_
 refine EvC.a ?_
 refine EvC.a ?_
 refine EvC.k1 ?_ (c1 := .ca ex_eqs_is)
 have hr5 : room 5 48 = true := by simp only [room_eq, decide_eq_true_eq]; omega
 refine EvC.k1D mixed ?_ (k1 := by simp [hr5]) (c1 := .ca (ex_dist_is _))
 refine EvC.k1 ?_ (c1 := .ca ex_least_is)
 refine EvC.seq ?_
 refine EvC.k2 ?_ (c1 := .cg (intsEq_is false false [0, 1, 1, 3, 3] .full (by decide))) (c2 := .cg (intsEq_is false false [1] .full (by decide)))
 refine EvC.cs ?_
 refine EvC.k1 ?_ (c1 := .ca ex_sub1_is)
 refine EvC.k1 ?_ (c1 := .ca ex_sub2_is)
 refine EvC.k1 ?_ (c1 := .ca ex_sub3_is)
 refine EvC.k1 ?_ (c1 := .ca ex_sub4_is)
 refine EvC.g ?_
 refine EvC.rz ?_
 simp only [go_sem]
theorem Valid.check {m : Mach} (h : Valid m) : checkM m = 0 := by
 have h1 := h.ins
 have h2 := h.outs
 have h3 := h.rows
 unfold checkM
 rw [if_neg (by omega), if_neg (by omega), if_pos]
 rw [List.all_eq_true]
 intro r hr
 obtain ⟨k1, k2⟩ := h.row r hr
 simp only [rowOk, Bool.and_eq_true, decide_eq_true_eq, Bool.not_eq_true', List.any_eq_false]
 exact ⟨k1, fun e he => by simpa using k2 e he⟩
theorem LM.small {x : LM} (h : x.Ok) : x.mach.rows.length ≤ 6 ∧ x.mach.ins ≤ 3 := by
 obtain ⟨b1, b2, b3, b4, b5, b6, -, -⟩ := LM.bounds h
 rw [show x.mach.rows.length = x.n by simp [LM.mach]]
 exact ⟨b2, by show (x.i : Int) ≤ 3; omega⟩
def rowsP (m : Mach) : List (List (Int × Int)) := m.rows.map (·.2)
def getP (P : List (List (Int × Int))) (s i : Nat) : Int × Int := (P[s]?.getD [])[i]?.getD (-1, -1)
def putP (P : List (List (Int × Int))) (s i : Nat) (e : Int × Int) : List (List (Int × Int)) := P.set s ((P[s]?.getD []).set i e)
theorem stepM_P (m : Mach) (s a : Int) : stepM m s a = getP (rowsP m) s.toNat a.toNat := by
 unfold stepM getP rowsP
 rw [List.getElem?_map]
theorem rowAt_P (m : Mach) (s : Int) : rowAt m s = (rowsP m)[s.toNat]?.getD [] := by
 unfold rowAt rowsP
 rw [List.getElem?_map]
theorem putR_P (m : Mach) (s i : Int) (e : Int × Int) : (putR m s i e).map (·.2) = putP (rowsP m) s.toNat i.toNat e := by
 unfold putR putP copyR
 rw [List.map_set, rowAt_P, List.map_map]; rfl
theorem getP_put {P : List (List (Int × Int))} {s i s' i' : Nat} {e : Int × Int} (h : s ≠ s' ∨ i ≠ i') : getP (putP P s i e) s' i' = getP P s' i' := by
 unfold getP putP
 by_cases hs : s = s'
 ·subst hs
  have hi : i ≠ i' := h.resolve_left fun h => h rfl
  by_cases hl : s < P.length
  ·rw [List.getElem?_set_self hl]
   simp only [Option.getD_some]
   rw [List.getElem?_set_ne hi]
  ·rw [List.set_eq_of_length_le (by omega)]
 ·rw [List.getElem?_set_ne hs]
theorem putP_comm {P : List (List (Int × Int))} {s i s' i' : Nat} {e e' : Int × Int} (h : s ≠ s' ∨ i ≠ i') : putP (putP P s i e) s' i' e' = putP (putP P s' i' e') s i e := by
 unfold putP
 by_cases hs : s = s'
 ·subst hs
  have hi : i ≠ i' := h.resolve_left fun h => h rfl
  by_cases hl : s < P.length
  ·rw [List.getElem?_set_self hl, List.getElem?_set_self hl]
   simp only [Option.getD_some]
   rw [List.set_set, List.set_set, List.set_comm _ _ hi]
  ·have hx : ∀ r, P.set s r = P := fun r => List.set_eq_of_length_le (by omega)
   simp only [hx]
 ·rw [List.getElem?_set_ne hs, List.getElem?_set_ne (fun h => hs h.symm), List.set_comm _ _ hs]
def edgeF (m : Mach) (f : FA) : Int × Int := if f.kind = 0 then ((stepM m f.state f.input).1, f.out) else if f.kind = 1 then (f.to, (stepM m f.state f.input).2) else (-1, -1)
theorem mutP (m : Mach) {f : FA} (h : 0 ≤ f.kind ∧ f.kind < 3) : rowsP (mutF m f) = putP (rowsP m) f.state.toNat f.input.toNat (edgeF m f) := by
 show (mutRows m f).map (·.2) = _
 unfold mutRows edgeF
 obtain h0 | h0 | h0 : f.kind = 0 ∨ f.kind = 1 ∨ f.kind = 2 := by omega
 ·rw [if_pos h0, if_pos h0, putR_P]
 ·rw [if_neg (by omega), if_pos h0, if_neg (by omega), if_pos h0, putR_P]
 ·rw [if_neg (by omega), if_neg (by omega), if_pos h0, if_neg (by omega), if_neg (by omega), putR_P]
theorem mutF_rows (m : Mach) {f : FA} (h : 0 ≤ f.kind ∧ f.kind < 3) : (mutF m f).rows.length = m.rows.length := by
 have := congrArg List.length (mutP m h)
 unfold rowsP putP at this
 rw [List.length_map, List.length_set, List.length_map] at this
 exact this
structure PairOk (m : Mach) (f g : FA) : Prop where
 okf : faultB m f = true
 okg : faultB m g = true
 fk : f.kind < 3
 gk : g.kind < 3
 lt : ltE f g = true
theorem faultB_place {m : Mach} {f : FA} (h : faultB m f = true) : (0 ≤ f.kind ∧ f.kind ≤ 4) ∧ (0 ≤ f.state ∧ f.state < m.rows.length) ∧ 0 ≤ f.input ∧ f.input < m.ins := by
 unfold faultB at h
 simp only [Bool.and_eq_true] at h
 obtain ⟨h1, h2, _⟩ := h
 obtain ⟨a, b, _⟩ := definedB_iff.1 h2
 have := plainB_kind h1
 exact ⟨by omega, a, b⟩
theorem PairOk.ne {m : Mach} {f g : FA} (h : PairOk m f g) : f.state.toNat ≠ g.state.toNat ∨ f.input.toNat ≠ g.input.toNat := by
 have h1 := faultB_place h.okf
 have h2 := faultB_place h.okg
 have h3 := ltE_iff.1 h.lt
 omega
theorem PairOk.ne' {m : Mach} {f g : FA} (h : PairOk m f g) : g.state.toNat ≠ f.state.toNat ∨ g.input.toNat ≠ f.input.toNat := by
 have := h.ne; omega
theorem step_mut {m : Mach} {f : FA} (h : 0 ≤ f.kind ∧ f.kind < 3) {s i : Int} (hn : f.state.toNat ≠ s.toNat ∨ f.input.toNat ≠ i.toNat) : stepM (mutF m f) s i = stepM m s i := by
 rw [stepM_P, mutP m h, getP_put hn, stepM_P]
theorem fault_mut {m : Mach} {f g : FA} (h : 0 ≤ f.kind ∧ f.kind < 3) (hg : 0 ≤ g.kind ∧ g.kind < 3) (hn : f.state.toNat ≠ g.state.toNat ∨ f.input.toNat ≠ g.input.toNat) : faultB (mutF m f) g = faultB m g := by
 have e1 : definedB (mutF m f) g.state g.input = definedB m g.state g.input := by
  unfold definedB
  rw [step_mut h hn, mutF_rows m h]; rfl
 have e2 : kindB (mutF m f) g = kindB m g := by
  unfold kindB
  rw [step_mut h hn, mutF_rows m h]
  obtain h0 | h0 | h0 : g.kind = 0 ∨ g.kind = 1 ∨ g.kind = 2 := by omega
  ·rw [if_pos h0, if_pos h0]; rfl
  ·rw [if_neg (by omega), if_pos h0, if_neg (by omega), if_pos h0]
  ·rw [if_neg (by omega), if_neg (by omega), if_pos h0, if_neg (by omega), if_neg (by omega), if_pos h0]
 unfold faultB
 rw [e1, e2]
theorem checkF_ok {m : Mach} {f : FA} (h : faultB m f = true) (hk : f.kind < 3) : checkF m f = 0 := by
 unfold checkF
 rw [if_pos h, if_neg (by omega)]
theorem PairOk.check {m : Mach} {f g : FA} (h : PairOk m f g) : checkF m f = 0 ∧ checkF m g = 0 ∧ checkF (mutF m f) g = 0 ∧ faultB (mutF m f) g = true ∧ faultB (mutF m g) f = true := by
 have hf := faultB_place h.okf
 have hg := faultB_place h.okg
 have fk := h.fk
 have gk := h.gk
 have h1 : faultB (mutF m f) g = true := by rw [fault_mut (by omega) (by omega) h.ne]; exact h.okg
 have h2 : faultB (mutF m g) f = true := by rw [fault_mut (by omega) (by omega) h.ne']; exact h.okf
 exact ⟨checkF_ok h.okf fk, checkF_ok h.okg gk, checkF_ok h1 gk, h1, h2⟩
theorem PairOk.same {m : Mach} {f g : FA} (h : PairOk m f g) : (mutF (mutF m f) g).rows.map (·.2) = (mutF (mutF m g) f).rows.map (·.2) := by
 have hf := faultB_place h.okf
 have hg := faultB_place h.okg
 have fk := h.fk
 have gk := h.gk
 show rowsP _ = rowsP _
 rw [mutP _ (by omega), mutP _ (by omega), mutP _ (by omega), mutP _ (by omega), putP_comm h.ne]
 have e1 : edgeF (mutF m f) g = edgeF m g := by unfold edgeF; rw [step_mut (by omega) h.ne]
 have e2 : edgeF (mutF m g) f = edgeF m f := by unfold edgeF; rw [step_mut (by omega) h.ne']
 rw [e1, e2]
theorem PairOk.both {m : Mach} (hv : Valid m) {f g : FA} (h : PairOk m f g) : bothA m (f, g) = .tu [.ag (mutF (mutF m f) g).cells, .sc (.int .i64 0)] := by
 obtain ⟨c1, c2, c3, _, _⟩ := h.check
 have fk := h.fk
 have gk := h.gk
 have hlt : edgeI f g < 0 := by have := edgeI_lt f g; rw [h.lt] at this; simpa using this
 have e : bothE m (f, g) = 0 := by
  unfold bothE
  rw [if_neg (by rw [hv.check]; simp), if_neg (by simp only [c1]; simp), if_neg (by simp only [c2]; simp), if_neg]
  simp only
  split <;> omega
 unfold bothA
 rw [if_neg (by rw [e]; simp)]
 simp only [applyR]
 rw [if_pos c3]
theorem bothR_zero {a b : Mach} (ha : Valid a) (hb : Valid b) (hab : a.ins = b.ins) : bothR a b = 0 := by
 unfold bothR
 simp [ha.check, hb.check, hab]
theorem eqM_none {a b : Mach} (ha : Valid a) (hb : Valid b) (hab : a.ins = b.ins) : eqM a b = (diffO a b).isNone := by simp only [eqM, equalR, bothR_zero ha hb hab]; simp
theorem eqM_iff {a b : Mach} (ha : Valid a) (hb : Valid b) (hab : a.ins = b.ins) : eqM a b = true ↔ ∀ v, WOk a.ins.toNat v → runR a 0 v = runR b 0 v := by
 rw [eqM_none ha hb hab]
 rcases diff_least ha hb hab with ⟨h1, h2⟩ | ⟨h1, _, h2⟩
 ·constructor
  ·intro h
   cases hd : diffO a b <;> simp [hd] at h h1
  ·intro h
   exact absurd (h _ h2.1) h2.2.1
 ·rw [h1]
  exact ⟨fun _ => h2, fun _ => rfl⟩
structure MutsOk (m : Mach) (fs : List FA) : Prop where
 v : Valid m
 r : m.rows.length < 64
 b : ∀ f ∈ fs, faultB m f = true
 n : fs.length ≤ 256
theorem MutsOk.check {m : Mach} {fs : List FA} (h : MutsOk m fs) {f : FA} (hf : f ∈ fs) : checkF m f = 0 := by
 have := h.r
 unfold checkF
 rw [if_pos (h.b f hf), if_neg (by omega)]
theorem MutsOk.mv {m : Mach} {fs : List FA} (h : MutsOk m fs) {f : FA} (hf : f ∈ fs) : Valid (mutF m f) := mutF_valid h.v (h.check hf)
theorem MutsOk.eq {m : Mach} {fs : List FA} (h : MutsOk m fs) {f g : FA} (hf : f ∈ fs) (hg : g ∈ fs) : eqM (mutF m f) (mutF m g) = true ↔ ∀ v, WOk m.ins.toNat v → runR (mutF m f) 0 v = runR (mutF m g) 0 v := eqM_iff (h.mv hf) (h.mv hg) rfl
def eqF (m : Mach) (f g : FA) : Bool := (diffO (mutF m f) (mutF m g)).isNone
theorem MutsOk.eqF {m : Mach} {fs : List FA} (h : MutsOk m fs) {f g : FA} (hf : f ∈ fs) (hg : g ∈ fs) : Avl.eqF m f g = eqM (mutF m f) (mutF m g) := (eqM_none (h.mv hf) (h.mv hg) rfl).symm
theorem MutsOk.refl {m : Mach} {fs : List FA} (h : MutsOk m fs) {f : FA} (hf : f ∈ fs) : Avl.eqF m f f = true := by
 rw [h.eqF hf hf, h.eq hf hf]; exact fun _ _ => rfl
def SrtW (W : List RW) : Prop := W.Pairwise fun x y => cmpL x.2.1 y.2.1 < 0
theorem SrtW.lt {W : List RW} (h : SrtW W) {i j : Nat} (hij : i < j) (hj : j < W.length) : cmpL (W[i]'(by omega)).2.1 W[j].2.1 < 0 := List.pairwise_iff_getElem.1 h i j (by omega) hj hij
@[go_sem] theorem norefs_wb (l : List (Bool × List Int)) : (l.map wbR).all AV.norefs = true := by simp [List.all_eq_true, wbR, AV.norefs, AV.noref]
structure LW where
 inp : Int
 wn : Bool
 ws : List (Bool × List Int)
 wc : Cp
def LW.cells (x : LW) : List AV := [.sc (.int .u8 x.inp), .sl x.wn (x.ws.map wbR) x.wc]
structure LW.Ok (x : LW) : Prop where
 i : 0 ≤ x.inp ∧ x.inp < 256
 a : ∀ y ∈ x.ws, ∀ e ∈ y.2, 0 ≤ e ∧ e < 256
structure WsOk (n : Int) (W : List RW) : Prop where
 s : SrtW W
 l : W.length ≤ 40
 w : ∀ w ∈ W, w.2.1.length ≤ 12 ∧ ∀ a ∈ w.2.1, 0 ≤ a ∧ a < n
theorem aheadB_srt : ∀ {W : List RW}, SrtW W → aheadB W = true
 | [], _ => rfl
 | [_], _ => rfl
 | a :: b :: l, h => by
   obtain ⟨h1, h2⟩ := List.pairwise_cons.1 h
   rw [aheadB, decide_eq_true (h1 b List.mem_cons_self), aheadB_srt h2]; rfl
theorem stepsW_le {K : Nat} : ∀ {W : List RW}, (∀ w ∈ W, w.2.1.length ≤ K) → stepsW W ≤ K * W.length
 | [], _ => Nat.zero_le _
 | w :: W, h => by
   have h1 := h w List.mem_cons_self
   have h2 := stepsW_le (W := W) fun x hx => h x (List.mem_cons_of_mem _ hx)
   simp only [stepsW, List.map_cons, List.sum_cons, List.length_cons] at h2 ⊢
   rw [Nat.mul_add]; omega
theorem wordErr_ok {n : Int} {w : List Int} (hn : 1 ≤ n ∧ n ≤ 16) (hl : w.length ≤ 256) (ha : ∀ a ∈ w, 0 ≤ a ∧ a < n) : wordErr n w = 0 := by
 unfold wordErr
 rw [if_neg (by omega), if_neg]
 rintro (h | h)
 ·omega
 ·rw [List.any_eq_true] at h
  obtain ⟨a, h1, h2⟩ := h
  have := ha a h1
  simp only [Bool.or_eq_true, decide_eq_true_eq] at h2
  omega
theorem errW_ok {n : Int} : ∀ {W : List RW}, (∀ w ∈ W, wordErr n w.2.1 = 0) → errW n W = 0
 | [], _ => rfl
 | w :: W, h => by
   rw [errW, if_neg (by rw [h w List.mem_cons_self]; simp)]
   exact errW_ok fun x hx => h x (List.mem_cons_of_mem _ hx)
theorem WsOk.ready {m : Mach} (hv : Valid m) {W : List RW} (h : WsOk m.ins W) : readyE m W = 0 := by
 have hi := hv.ins
 have h1 := h.l
 have h2 := stepsW_le (K := 12) fun w hw => (h.w w hw).1
 have h3 : errW m.ins W = 0 := errW_ok fun w hw => wordErr_ok (by omega) (by have := (h.w w hw).1; omega) (h.w w hw).2
 unfold readyE
 rw [if_neg (by rw [hv.check]; simp)]
 have h4 : looseE m.ins W = 0 := by
  unfold looseE
  rw [if_neg (by omega), if_neg (by omega), h3]
 unfold triesE
 rw [if_neg (by rw [h4]; simp), if_neg (by rw [aheadB_srt h.s]; simp), if_neg (by omega)]
def symB (n : Int) (w : List Int) : Bool := w.any fun c => decide (c < 0) || decide (n ≤ c)
theorem word116_is (nl : Bool) (w : List Int) (c : Cp) : PureIs prog 116 [.sl nl (w.map intC) c] (.sc (.int .i64 (if 256 < (w.length : Int) then 3 else 0))) := by
 have hll : (w.map intC).length = w.length := List.length_map _
 refine PureIs.of1 1 [2, 5] func116 ntmps116 results116 fun _ => ?_
 refine EvC.a ?_
 refine EvC.seq ?_
 refine EvC.a ?_ (by simp only [go_sem, hll] <;> rfl)
 by_cases h : 256 < (w.length : Int)
 ·refine EvC.ct ?_ (by simp only [go_sem, decide_eq_true h] <;> rfl)
  rw [if_pos h]
  refine EvC.a ?_
  refine EvC.rz ?_
  simp only [go_sem]
 refine EvC.cs ?_ (by simp only [go_sem, decide_eq_false h] <;> rfl)
 rw [if_neg h]
 refine EvC.a ?_
 refine EvC.rz ?_
 simp only [go_sem]
theorem symbols_is (nl : Bool) (w : List Int) (c : Cp) (n : Int) (hl : w.length < 1000000) : PureIs prog 117 [.sl nl (w.map intC) c, .sc (.int .i64 n)] (.sc (.int .i64 (if symB n w = true then 1 else 0))) := by
 have hll : (w.map intC).length = w.length := List.length_map _
 refine PureIs.of1 2 [4, 5, 9, 24] func117 ntmps117 results117 fun _ => ?_
 refine EvC.a ?_
 refine EvC.seq ?_
 refine EvC.a ?_
 refine EvC.block ?_
 refine EvC.loopS (σ := Nat) (fun i => ⟨[(0, .sl nl (w.map intC) c), (1, .sc (.int .i64 n)), (5, .sc (.int .i64 i))], [], [], 0⟩) (fun i => w.length - i) (fun i => i ≤ w.length ∧ symB n w = symB n (w.drop i)) [0, 1, 5] 0 ?_ ?_
 ·exact ⟨[], 0, rfl, (by simp only [go_sem, Int.natCast_zero] <;> rfl), Nat.zero_le _, rfl⟩
 rintro i ⟨h1, h2⟩
 refine EvC.seq ?_
 refine EvC.a ?_ (by simp only [go_sem, hll] <;> rfl)
 refine EvC.cond (by simp only [go_sem] <;> rfl) (fun hc => ?_) (fun hc => ?_)
 rotate_left
 ·refine EvC.exit ?_
  have hi : ¬ i < w.length := by simpa using hc
  rw [List.drop_of_length_le (by omega)] at h2
  have h3 : symB n w = false := by rw [h2]; rfl
  rw [h3, if_neg (by simp)]
  refine EvC.a ?_
  refine EvC.rz ?_
  simp only [go_sem]
 have hil : i < w.length := by simpa using hc
 clear hc
 have he : w[i]? = some (w[i]'hil) := List.getElem?_eq_getElem hil
 have hd : w.drop i = w[i]'hil :: w.drop (i + 1) := List.drop_eq_getElem_cons hil
 generalize w[i]'hil = a at he hd
 have hg : (w.map intC)[i]? = some [.sc (.int .i64 a)] := by rw [List.getElem?_map, he]; rfl
 have hit : (i : Int).toNat = i := Int.toNat_natCast i
 have hx : symB n (a :: w.drop (i + 1)) = ((decide (a < 0) || decide (n ≤ a)) || symB n (w.drop (i + 1))) := rfl
 rw [hd, hx] at h2
 refine EvC.skip ?_
 refine EvC.seq ?_
 refine EvC.block ?_
 by_cases c1 : a < 0
 ·rw [decide_eq_true c1] at h2
  refine EvC.g ?_ (h := by simp only [go_sem, hg, hit, hll, decide_eq_true c1] <;> rfl) (hok := by simp; try omega)
  refine EvC.ct ?_
  have h3 : symB n w = true := by rw [h2]; simp
  rw [h3, if_pos rfl]
  refine EvC.a ?_
  refine EvC.rz ?_
  simp only [go_sem]
 by_cases c2 : n ≤ a
 ·rw [decide_eq_false c1, decide_eq_true c2] at h2
  refine EvC.g ?_ (h := by simp only [go_sem, hg, hit, hll, decide_eq_false c1, decide_eq_true c2] <;> rfl) (hok := by simp; try omega)
  refine EvC.ct ?_
  have h3 : symB n w = true := by rw [h2]; simp
  rw [h3, if_pos rfl]
  refine EvC.a ?_
  refine EvC.rz ?_
  simp only [go_sem]
 rw [decide_eq_false c1, decide_eq_false c2] at h2
 refine EvC.g ?_ (h := by simp only [go_sem, hg, hit, hll, decide_eq_false c1, decide_eq_false c2] <;> rfl) (hok := by simp; try omega)
 refine EvC.cs ?_
 refine EvC.b ?_ (hok := by exact inI64_of (by omega) (by omega))
 exact ⟨[], i + 1, rfl, (by simp only [go_sem, Int.natCast_add, Int.natCast_one] <;> rfl), ⟨hil, by simpa using h2⟩, by omega⟩
theorem loose95_is (wn : Bool) (W : List RW) (wc : Cp) (n : Int) (hW : ∀ w ∈ W, w.2.1.length < 1000000) (hWl : W.length < 1000000) :
  PureIs prog 95 [.sl wn (W.map rwC) wc, .sc (.int .i64 n)] (.sc (.int .i64 (looseE n W))) := by
 have hWn := norefs_rw W
 have hl : (W.map rwC).length = W.length := List.length_map _
 refine PureIs.of1 2 [4, 5, 6, 7, 14, 16, 20, 29, 38] func95 ntmps95 results95 fun _ => ?_
 refine EvC.a ?_
 refine EvC.seq ?_
 by_cases c1 : 16 < n
 ·rw [show looseE n W = 3 by unfold looseE; rw [if_pos (.inl c1)]]
  refine EvC.g ?_ (h := by simp only [go_sem, decide_eq_true c1, hl] <;> rfl)
  refine EvC.ct ?_
  refine EvC.a ?_
  refine EvC.rz ?_
  simp only [go_sem]
 by_cases c2 : 4096 < (W.length : Int)
 ·rw [show looseE n W = 3 by unfold looseE; rw [if_pos (.inr c2)]]
  refine EvC.g ?_ (h := by simp only [go_sem, decide_eq_false c1, decide_eq_true c2, hl] <;> rfl)
  refine EvC.ct ?_
  refine EvC.a ?_
  refine EvC.rz ?_
  simp only [go_sem]
 refine EvC.g ?_ (h := by simp only [go_sem, decide_eq_false c1, decide_eq_false c2, hl] <;> rfl)
 refine EvC.cs ?_
 refine EvC.seq ?_
 refine EvC.a ?_
 by_cases c3 : n < 1
 ·rw [show looseE n W = 1 by unfold looseE; rw [if_neg (fun h => h.elim c1 c2), if_pos c3]]
  refine EvC.ct ?_ (by simp only [go_sem, decide_eq_true c3] <;> rfl)
  refine EvC.a ?_
  refine EvC.rz ?_
  simp only [go_sem]
 rw [show looseE n W = errW n W by unfold looseE; rw [if_neg (fun h => h.elim c1 c2), if_neg c3]]
 refine EvC.cs ?_ (by simp only [go_sem, decide_eq_false c3] <;> rfl)
 refine EvC.seq ?_
 refine EvC.a ?_ (by simp only [go_sem, hl] <;> rfl)
 refine EvC.block ?_
 refine EvC.loopS (σ := Nat) (fun i => ⟨[(0, .sl wn (W.map rwC) wc), (1, .sc (.int .i64 n)), (5, .sc (.int .i64 i))], [], [], 0⟩) (fun i => W.length - i) (fun i => i ≤ W.length ∧ errW n W = errW n (W.drop i)) [0, 1, 5] 0 ?_ ?_
 ·exact ⟨[], 0, rfl, (by simp only [go_sem, Int.natCast_zero] <;> rfl), Nat.zero_le _, rfl⟩
 rintro i ⟨i1, i2⟩
 refine EvC.seq ?_
 refine EvC.a ?_ (by simp only [go_sem, hl] <;> rfl)
 refine EvC.cond (by simp only [go_sem] <;> rfl) (fun hc => ?_) (fun hc => ?_)
 rotate_left
 ·refine EvC.exit ?_
  have hi : ¬ i < W.length := by simpa using hc
  rw [List.drop_of_length_le (by omega), errW] at i2
  rw [i2]
  refine EvC.a ?_
  refine EvC.rz ?_
  simp only [go_sem]
 have hil : i < W.length := by simpa using hc
 clear hc
 have hge := List.getElem?_eq_getElem hil
 have hwm := List.getElem_mem hil
 have hdr : W.drop i = W[i] :: W.drop (i + 1) := List.drop_eq_getElem_cons hil
 generalize W[i] = w at hge hwm hdr
 have hwg := rw_get hge
 have hit : (i : Int).toNat = i := Int.toNat_natCast i
 rw [hdr, errW] at i2
 have hwe : wordErr n w.2.1 = if 256 < (w.2.1.length : Int) then 3 else if symB n w.2.1 = true then 1 else 0 := by
  unfold wordErr symB
  by_cases k1 : 256 < (w.2.1.length : Int)
  ·rw [if_pos (.inr (by omega)), if_pos k1]
  ·rw [if_neg (fun h => h.elim c1 (by omega)), if_neg k1]
   by_cases k2 : (w.2.1.any fun c => decide (c < 0) || decide (n ≤ c)) = true
   ·rw [if_pos (.inr k2), if_pos k2]
   ·rw [if_neg (fun h => h.elim c3 k2), if_neg k2]
 have q1 := word116_is w.1 w.2.1 w.2.2
 have q2 := symbols_is w.1 w.2.1 w.2.2 n (hW w hwm)
 refine EvC.skip ?_
 refine EvC.seq ?_
 refine EvC.block ?_
 refine EvC.seq ?_
 by_cases k1 : 256 < (w.2.1.length : Int)
 ·rw [if_pos k1] at hwe q1
  rw [hwe, if_pos (by omega)] at i2
  rw [i2]
  refine EvC.k1 ?_ (h1 := by simp only [go_sem, hwg, hit, hl] <;> rfl) (k1 := by simp; try omega) (c1 := .ca q1)
  refine EvC.a ?_
  refine EvC.ct ?_
  refine EvC.a ?_
  refine EvC.rz ?_
  simp only [go_sem]
 rw [if_neg k1] at hwe q1
 refine EvC.k1 ?_ (h1 := by simp only [go_sem, hwg, hit, hl] <;> rfl) (k1 := by simp; try omega) (c1 := .ca q1)
 refine EvC.a ?_
 refine EvC.cs ?_
 by_cases k2 : symB n w.2.1 = true
 ·rw [if_pos k2] at hwe q2
  rw [hwe, if_pos (by omega)] at i2
  rw [i2]
  refine EvC.k1 ?_ (h1 := by simp only [go_sem, hwg, hit, hl] <;> rfl) (k1 := by simp; try omega) (c1 := .ca q2)
  refine EvC.a ?_
  refine EvC.ct ?_
  refine EvC.a ?_
  refine EvC.rz ?_
  simp only [go_sem]
 rw [if_neg k2] at hwe q2
 rw [hwe, if_neg (by omega)] at i2
 refine EvC.k1 ?_ (h1 := by simp only [go_sem, hwg, hit, hl] <;> rfl) (k1 := by simp; try omega) (c1 := .ca q2)
 refine EvC.a ?_
 refine EvC.cs ?_
 refine EvC.b ?_ (hok := by exact inI64_of (by omega) (by omega))
 exact ⟨[], i + 1, rfl, (by simp only [go_sem, Int.natCast_add, Int.natCast_one] <;> rfl), ⟨hil, i2⟩, by omega⟩
theorem steps30_is (wn : Bool) (W : List RW) (wc : Cp) (hW : ∀ w ∈ W, (w.2.1.length : Int) ≤ 140737488355328) (hWl : W.length ≤ 10000) :
  PureIs prog 30 [.sl wn (W.map rwC) wc] (.sc (.int .i64 (stepsW W))) := by
 have hl : (W.map rwC).length = W.length := List.length_map _
 refine PureIs.of1 1 [2, 3, 4, 8] func30 ntmps30 results30 fun _ => ?_
 refine EvC.a ?_
 refine EvC.a ?_
 refine EvC.seq ?_
 refine EvC.a ?_
 refine EvC.block ?_
 refine EvC.loopS (σ := Nat × Nat) (fun g => ⟨[(0, .sl wn (W.map rwC) wc), (3, .sc (.int .i64 g.2)), (4, .sc (.int .i64 g.1))], [], [], 0⟩) (fun g => W.length - g.1) (fun g => g.1 ≤ W.length ∧ stepsW W = g.2 + stepsW (W.drop g.1) ∧ g.2 ≤ g.1 * 140737488355328) [0, 3, 4] 0 ?_ ?_
 ·exact ⟨[], (0, 0), rfl, (by simp only [go_sem, Int.natCast_zero] <;> rfl), Nat.zero_le _, by simp only [Nat.zero_add]; rfl, Nat.le_refl _⟩
 rintro ⟨i, s⟩ ⟨i1, i2, i3⟩
 simp only at i1 i2 i3 ⊢
 refine EvC.seq ?_
 refine EvC.a ?_ (by simp only [go_sem, hl] <;> rfl)
 refine EvC.cond (by simp only [go_sem] <;> rfl) (fun hc => ?_) (fun hc => ?_)
 rotate_left
 ·refine EvC.exit ?_
  have hi : ¬ i < W.length := by simpa using hc
  rw [List.drop_of_length_le (by omega), show stepsW [] = 0 from rfl, Nat.add_zero] at i2
  rw [i2]
  refine EvC.a ?_
  refine EvC.rz ?_
  simp only [go_sem]
 have hil : i < W.length := by simpa using hc
 clear hc
 have hge := List.getElem?_eq_getElem hil
 have hwm := hW _ (List.getElem_mem hil)
 have hdr : W.drop i = W[i] :: W.drop (i + 1) := List.drop_eq_getElem_cons hil
 generalize W[i] = w at hge hwm hdr
 have hwg := rw_get hge
 have hit : (i : Int).toNat = i := Int.toNat_natCast i
 have i4 : stepsW W = (s + w.2.1.length) + stepsW (W.drop (i + 1)) := by rw [i2, hdr]; simp only [stepsW, List.map_cons, List.sum_cons]; omega
 have hI : inI64 ((s : Int) + w.2.1.length) = true := inI64_of (by omega) (by omega)
 refine EvC.skip ?_
 refine EvC.seq ?_
 refine EvC.block ?_
 refine EvC.b ?_ (by simp only [go_sem, hwg, hit, hl, List.length_map] <;> rfl) (by simp [hI]; try omega)
 refine EvC.b ?_ (hok := by exact inI64_of (by omega) (by omega))
 exact ⟨[], (i + 1, s + w.2.1.length), rfl, (by simp only [go_sem, Int.natCast_add, Int.natCast_one] <;> rfl), ⟨hil, i4, by simp only; omega⟩, by simp only; omega⟩
theorem check65_is (wn : Bool) (W : List RW) (wc : Cp) (n : Int) (hW : ∀ w ∈ W, w.2.1.length < 1000000) (hWl : W.length ≤ 10000) :
  PureIs prog 65 [.sl wn (W.map rwC) wc, .sc (.int .i64 n)] (.sc (.int .i64 (triesE n W))) := by
 have hWn := norefs_rw W
 have hl : (W.map rwC).length = W.length := List.length_map _
 have q1 := loose95_is wn W wc n hW (by omega)
 have q2 := steps30_is wn W wc (fun w h => by have := hW w h; omega) hWl
 refine PureIs.of1 2 [4, 5, 6, 11, 16, 29, 32] func65 ntmps65 results65 fun _ => ?_
 refine EvC.a ?_
 refine EvC.seq ?_
 refine EvC.k1 ?_ (c1 := .ca q1)
 refine EvC.a ?_
 by_cases h1 : looseE n W = 0
 rotate_left
 ·rw [show triesE n W = looseE n W by unfold triesE; rw [if_pos h1]]
  refine EvC.ct ?_ (by simp only [go_sem, decide_eq_false h1] <;> rfl)
  refine EvC.a ?_
  refine EvC.rz ?_
  simp only [go_sem]
 refine EvC.cs ?_ (by simp only [go_sem, decide_eq_true h1] <;> rfl)
 refine EvC.seq ?_
 refine EvC.a ?_
 refine EvC.block ?_
 refine EvC.loopS (σ := Nat) (fun i => ⟨[(0, .sl wn (W.map rwC) wc), (6, .sc (.int .i64 ((i + 1 : Nat) : Int)))], [], [], 0⟩) (fun i => W.length - i) (fun i => (i < W.length ∨ i = 0) ∧ aheadB W = aheadB (W.drop i)) [0, 6] 0 ?_ ?_
 ·exact ⟨[], 0, rfl, (by simp only [go_sem, show ((0 + 1 : Nat) : Int) = 1 from rfl] <;> rfl), .inr rfl, rfl⟩
 rintro i ⟨i1, i2⟩
 obtain ⟨iZ, hiZ⟩ : ∃ z : Int, z = ((i + 1 : Nat) : Int) := ⟨_, rfl⟩
 rw [← hiZ]
 refine EvC.seq ?_
 refine EvC.a ?_ (by simp only [go_sem, hl] <;> rfl)
 by_cases hil : i + 1 < W.length
 rotate_left
 ·refine EvC.cf ?_ (by simp only [go_sem, decide_eq_false (show ¬ iZ < (W.length : Int) by omega)] <;> rfl)
  refine EvC.exit ?_
  have : aheadB (W.drop i) = true := by
   have hd : (W.drop i).length ≤ 1 := by rw [List.length_drop]; omega
   match W.drop i, hd with
   | [], _ => rfl
   | [_], _ => rfl
  rw [this] at i2
  refine EvC.seq ?_
  refine EvC.k1 ?_ (c1 := .ca q2)
  by_cases h3 : 65536 < (stepsW W : Int)
  ·rw [show triesE n W = 3 by unfold triesE; rw [if_neg (fun h => h h1), if_neg (by rw [i2]; simp), if_pos h3]]
   refine EvC.ct ?_ (by simp only [go_sem, decide_eq_true h3] <;> rfl)
   refine EvC.a ?_
   refine EvC.rz ?_
   simp only [go_sem]
  rw [show triesE n W = 0 by unfold triesE; rw [if_neg (fun h => h h1), if_neg (by rw [i2]; simp), if_neg h3]]
  refine EvC.cs ?_ (by simp only [go_sem, decide_eq_false h3] <;> rfl)
  refine EvC.a ?_
  refine EvC.rz ?_
  simp only [go_sem]
 rw [aheadB_drop hil] at i2
 have hga := List.getElem?_eq_getElem (show i < W.length by omega)
 have hgb := List.getElem?_eq_getElem hil
 have ham := hW _ (List.getElem_mem (show i < W.length by omega))
 generalize W[i]'(by omega) = a at hga i2 ham
 generalize W[i + 1] = b at hgb i2
 have hag := rw_get hga
 have hbg := rw_get hgb
 have e1 : (iZ - 1).toNat = i := by omega
 have e2 : iZ.toNat = i + 1 := by omega
 have hI : inI64 (iZ - 1) = true := inI64_of (by omega) (by omega)
 have hb : 1 ≤ iZ ∧ i < W.length ∧ 0 ≤ iZ := by omega
 have q := compare65_is a.1 b.1 a.2.1 b.2.1 a.2.2 b.2.2 ham
 refine EvC.cr ?_ (by simp only [go_sem, decide_eq_true (show iZ < (W.length : Int) by omega)] <;> rfl)
 refine EvC.seq ?_
 refine EvC.block ?_
 refine EvC.k1D mixed ?_ (h1 := by simp only [go_sem, hag, hbg, e1, e2, hl] <;> rfl) (k1 := by simp [hI, hb, hil]; try omega) (c1 := .ca q) (h2 := by simp only [go_sem, hWn] <;> rfl)
 by_cases hc : cmpL a.2.1 b.2.1 < 0
 ·rw [decide_eq_true hc, Bool.true_and] at i2
  refine EvC.cs ?_ (by simp only [go_sem, decide_eq_false (show ¬ 0 ≤ cmpL a.2.1 b.2.1 by omega)] <;> rfl)
  refine EvC.b ?_ (hok := by exact inI64_of (by omega) (by omega))
  exact ⟨[], i + 1, rfl, (by rw [show ((i + 1 + 1 : Nat) : Int) = iZ + 1 by omega]; simp only [go_sem] <;> rfl), ⟨.inl hil, i2⟩, by omega⟩
 ·rw [decide_eq_false hc, Bool.false_and] at i2
  refine EvC.ct ?_ (by simp only [go_sem, decide_eq_true (show 0 ≤ cmpL a.2.1 b.2.1 by omega)] <;> rfl)
  rw [show triesE n W = 1 by unfold triesE; rw [if_neg (fun h => h h1), if_pos i2]]
  refine EvC.a ?_
  refine EvC.rz ?_
  simp only [go_sem]
theorem words33_is (m : Mach) (hm : ∀ r ∈ m.rows, r.2.length < 1000000) (wn : Bool) (W : List RW) (wc : Cp) (hW : ∀ w ∈ W, w.2.1.length < 1000000) (hWl : W.length ≤ 10000) :
  PureIs prog 33 [.ag m.cells, .sl wn (W.map rwC) wc] (.sc (.int .i64 (readyE m W))) := by
 have hWn := norefs_rw W
 refine PureIs.of1 3 [4, 5, 9] func33 ntmps33 results33 fun _ => ?_
 refine EvC.a ?_ (by simp only [go_sem, Mach.cells] <;> rfl)
 refine EvC.z 0 ?_
 refine EvC.seq ?_
 refine EvC.k1 ?_ (h1 := by simp only [go_sem, Mach.cells] <;> rfl) (c1 := .ca (refcheck28_is m hm))
 refine EvC.a ?_
 by_cases h1 : checkM m = 0
 rotate_left
 ·rw [show readyE m W = checkM m by unfold readyE; rw [if_pos h1]]
  refine EvC.ct ?_ (by simp only [go_sem, decide_eq_false h1] <;> rfl)
  refine EvC.a ?_
  refine EvC.rz ?_
  simp only [go_sem]
 rw [show readyE m W = triesE m.ins W by unfold readyE; rw [if_neg (fun h => h h1)]]
 refine EvC.cs ?_ (by simp only [go_sem, decide_eq_true h1] <;> rfl)
 refine EvC.k1 ?_ (c1 := .ca (check65_is wn W wc m.ins hW hWl)) (h2 := by simp only [go_sem, hWn] <;> rfl)
 refine EvC.rz ?_
 simp only [go_sem]
def prevK (ks : List Int) : Nat → Int
 | 0 => -1
 | i + 1 => ks.getD i 0
theorem kLast_bad {k b : Int} {ks : List Int} (h : k ≤ b ∨ 4 < k) : kLast (k :: ks) b = none := by rw [kLast, if_pos h]
theorem kLast_good {k b : Int} {ks : List Int} (h : ¬ (k ≤ b ∨ 4 < k)) : kLast (k :: ks) b = kLast ks k := by rw [kLast, if_neg h]
set_option maxHeartbeats 4000000 in
theorem kinds34_is (nl : Bool) (ks : List Int) (c : Cp) (hl : ks.length < 1000000) : PureIs prog 34 [.sl nl (ks.map intC) c] (.sc (.bool (kLast ks (-1)).isSome)) := by
 have hll : (ks.map intC).length = ks.length := List.length_map _
 refine PureIs.of1 1 [2, 3, 7, 37] func34 ntmps34 results34 fun _ => ?_
 refine EvC.a ?_
 refine EvC.seq ?_
 refine EvC.a ?_
 refine EvC.block ?_
 refine EvC.loopS (σ := Nat) (fun i => ⟨[(0, .sl nl (ks.map intC) c), (3, .sc (.int .i64 i))], [], [], 0⟩) (fun i => ks.length - i) (fun i => i ≤ ks.length ∧ kLast ks (-1) = kLast (ks.drop i) (prevK ks i) ∧ -1 ≤ prevK ks i) [0, 3] 0 ?_ ?_
 ·exact ⟨[], 0, rfl, (by simp only [go_sem, Int.natCast_zero] <;> rfl), Nat.zero_le _, rfl, Int.le_refl _⟩
 rintro i ⟨h1, h2, h3⟩
 refine EvC.seq ?_
 refine EvC.a ?_ (by simp only [go_sem, hll] <;> rfl)
 refine EvC.cond (by simp only [go_sem] <;> rfl) (fun hc => ?_) (fun hc => ?_)
 rotate_left
 ·refine EvC.exit ?_
  have hi : ¬ i < ks.length := by simpa using hc
  rw [List.drop_of_length_le (by omega), kLast] at h2
  rw [h2]
  refine EvC.a ?_
  refine EvC.rz ?_
  simp only [go_sem]
 have hil : i < ks.length := by simpa using hc
 clear hc
 have he : ks[i]? = some (ks[i]'hil) := List.getElem?_eq_getElem hil
 have hd : ks.drop i = ks[i]'hil :: ks.drop (i + 1) := List.drop_eq_getElem_cons hil
 have hp : prevK ks (i + 1) = ks[i]'hil := by rw [prevK, List.getD_eq_getElem?_getD, he]; rfl
 have he' : ks[i - 1]? = some (ks[i - 1]'(by omega)) := List.getElem?_eq_getElem (by omega)
 have hp' : 0 < i → prevK ks i = ks[i - 1]'(by omega) := fun h => by
  obtain ⟨j, rfl⟩ : ∃ j, i = j + 1 := ⟨i - 1, by omega⟩
  rw [prevK, List.getD_eq_getElem?_getD, List.getElem?_eq_getElem (show j < ks.length by omega)]; rfl
 generalize ks[i]'hil = k at he hd hp
 generalize ks[i - 1]'(by omega) = k' at he' hp'
 have hjt : ((i : Int) - 1).toNat = i - 1 := by omega
 have hg' : (ks.map intC)[((i : Int) - 1).toNat]? = some [.sc (.int .i64 k')] := by rw [hjt, List.getElem?_map, he']; rfl
 have hI : inI64 ((i : Int) - 1) = true := inI64_of (by omega) (by omega)
 have hg : (ks.map intC)[i]? = some [.sc (.int .i64 k)] := by rw [List.getElem?_map, he]; rfl
 have hit : (i : Int).toNat = i := Int.toNat_natCast i
 rw [hd] at h2
 refine EvC.skip ?_
 refine EvC.seq ?_
 refine EvC.block ?_
 by_cases c1 : k < 0
 ·rw [kLast_bad (.inl (by omega))] at h2
  rw [h2]
  refine EvC.d mixed ?_ (h := by simp only [go_sem, hg, hg', hit, hll, decide_eq_true c1] <;> rfl) (hok := by simp [hI]; try omega)
  refine EvC.ct ?_
  refine EvC.a ?_
  refine EvC.rz ?_
  simp only [go_sem]
  rfl
 by_cases c2 : 4 < k
 ·rw [kLast_bad (.inr c2)] at h2
  rw [h2]
  refine EvC.d mixed ?_ (h := by simp only [go_sem, hg, hg', hit, hll, decide_eq_false c1, decide_eq_true c2] <;> rfl) (hok := by simp [hI]; try omega)
  refine EvC.ct ?_
  refine EvC.a ?_
  refine EvC.rz ?_
  simp only [go_sem]
  rfl
 by_cases c3 : 0 < i
 rotate_left
 ·have hz : prevK ks i = -1 := by
    obtain rfl : i = 0 := by omega
    rfl
  rw [kLast_good (by omega)] at h2
  refine EvC.d mixed ?_ (h := by simp only [go_sem, hg, hg', hit, hll, decide_eq_false c1, decide_eq_false c2, decide_eq_false (show ¬ (0 : Int) < i by omega)] <;> rfl) (hok := by simp [hI]; try omega)
  refine EvC.cs ?_
  refine EvC.b ?_ (hok := by exact inI64_of (by omega) (by omega))
  exact ⟨[], i + 1, rfl, (by simp only [go_sem, Int.natCast_add, Int.natCast_one] <;> rfl), ⟨hil, by rw [h2, hp], by omega⟩, by omega⟩
 have hp' := hp' c3
 have c3' := decide_eq_true (show (0 : Int) < i by omega)
 by_cases c4 : k ≤ k'
 ·rw [kLast_bad (.inl (by omega))] at h2
  rw [h2]
  refine EvC.d mixed ?_ (h := by simp only [go_sem, hg, hg', hit, hll, decide_eq_false c1, decide_eq_false c2, c3', decide_eq_true c4] <;> rfl) (hok := by simp [hI]; try omega)
  refine EvC.ct ?_
  refine EvC.a ?_
  refine EvC.rz ?_
  simp only [go_sem]
  rfl
 rw [kLast_good (by omega)] at h2
 refine EvC.d mixed ?_ (h := by simp only [go_sem, hg, hg', hit, hll, decide_eq_false c1, decide_eq_false c2, c3', decide_eq_false c4] <;> rfl) (hok := by simp [hI]; try omega)
 refine EvC.cs ?_
 refine EvC.b ?_ (hok := by exact inI64_of (by omega) (by omega))
 exact ⟨[], i + 1, rfl, (by simp only [go_sem, Int.natCast_add, Int.natCast_one] <;> rfl), ⟨hil, by rw [h2, hp], by omega⟩, by omega⟩
theorem checkF_few {m : Mach} (h6 : m.rows.length ≤ 6) (f : FA) : checkF m f = faultE m f := by
 unfold checkF faultE
 by_cases h : faultB m f = true
 ·rw [if_pos h, if_pos h, if_neg (by omega)]
 ·rw [if_neg h, if_neg h]
theorem errFs_few {m : Mach} (h6 : m.rows.length ≤ 6) : ∀ l : List FA, errFs m l = if l.all (faultB m) = true then 0 else 1
 | [] => rfl
 | f :: l => by
   rw [errFs, checkF_few h6, List.all_cons, errFs_few h6 l]
   unfold faultE
   cases h : faultB m f <;> simp
theorem norefs_mrows (l : List Row) : (l.map rowC).all AV.norefs = true := by
 rw [List.all_eq_true]
 intro c hc
 obtain ⟨r, _, rfl⟩ := List.mem_map.1 hc
 exact rowC_norefs r
def allE (m : Mach) (l : List FA) : Int := if checkM m ≠ 0 then checkM m else listE m l
theorem mutErr_few {m : Mach} (h6 : m.rows.length ≤ 6) (l : List FA) : mutErr m l = allE m l := by
 unfold mutErr allE listE
 rw [errFs_few h6]
def kindsE (m : Mach) (ks : List Int) (most : Int) : Int :=
 if checkM m ≠ 0 then checkM m else if (kLast ks (-1)).isSome = false ∨ growsB ks = true ∨ most < 0 ∨ 65536 < most then 1 else 0
theorem kLast_end : ∀ {ks : List Int} {l b : Int}, kLast ks b = some l → (ks = [] ∧ l = b) ∨ ks.getLast? = some l
 | [], l, b, h => by cases h; exact .inl ⟨rfl, rfl⟩
 | k :: ks, l, b, h => by
   rw [kLast] at h
   split at h
   ·cases h
   ·rcases kLast_end h with ⟨rfl, rfl⟩ | h
    ·exact .inr rfl
    ·exact .inr (by rw [List.getLast?_cons, h]; rfl)
theorem pairsE_any {m : Mach} (h6 : m.rows.length ≤ 6) (ks : List Int) (most : Int) : (kindsE m ks most ≠ 0 → pairsE m ks most = kindsE m ks most) ∧ (kindsE m ks most = 0 → pairsE m ks most = 0 ∨ pairsE m ks most = 13) := by
 by_cases hc : checkM m = 0
 rotate_left
 ·have e1 : kindsE m ks most = checkM m := by unfold kindsE; rw [if_pos hc]
  have e2 : pairsE m ks most = checkM m := by unfold pairsE; rw [if_pos hc]
  rw [e1, e2]
  exact ⟨fun _ => rfl, fun h => absurd h hc⟩
 have e1 : kindsE m ks most = if (kLast ks (-1)).isSome = false ∨ growsB ks = true ∨ most < 0 ∨ 65536 < most then 1 else 0 := by unfold kindsE; rw [if_neg (fun h => h hc)]
 have e2 : pairsE m ks most = if most < 0 ∨ 65536 < most ∨ (∃ k, ks.getLast? = some k ∧ 2 < k) then 1 else if allR m ks 65536 ≠ 0 then allR m ks 65536 else if most < (prs (srtE (alF m ks))).length then 13 else 0 := by
  unfold pairsE; rw [if_neg (fun h => h hc)]
 by_cases hm : most < 0 ∨ 65536 < most
 ·rw [e1, e2, if_pos (by omega), if_pos (by omega)]
  exact ⟨fun _ => rfl, fun h => by omega⟩
 cases hk : kLast ks (-1) with
 | none =>
   have hr0 : readyR m ks 65536 = 1 := by
    unfold readyR
    rw [if_neg (fun h => h hc), hk]
   have hr : allR m ks 65536 = 1 := by
    unfold allR
    rw [hr0, if_pos (by omega)]
   rw [e1, e2, hk, if_pos (.inl rfl), hr]
   refine ⟨fun _ => ?_, fun h => by omega⟩
   split
   ·rfl
   ·simp
 | some l =>
   have hin := (kLast_in hk).2
   rw [hk] at e1
   by_cases hg : growsB ks = true
   ·rw [e1, e2, if_pos (.inr (.inl hg)), if_pos]
    ·exact ⟨fun _ => rfl, fun h => by omega⟩
    ·unfold growsB at hg
     rw [List.any_eq_true] at hg
     obtain ⟨k, k1, k2⟩ := hg
     have := (hin k k1).2.2
     rcases kLast_end hk with ⟨rfl, _⟩ | h
     ·cases k1
     ·exact .inr (.inr ⟨l, h, by simp at k2; omega⟩)
   ·have hl2 : l ≤ 2 := by
      rcases kLast_end hk with ⟨rfl, h⟩ | h
      ·omega
      ·have hm2 := List.mem_of_getLast? h
       unfold growsB at hg
       rw [List.any_eq_true] at hg
       have : ¬ 3 ≤ l := fun h3 => hg ⟨l, hm2, by simpa using h3⟩
       omega
    rw [e1, e2, if_neg, if_neg]
    ·refine ⟨fun h => absurd rfl h, fun _ => ?_⟩
     have hr : allR m ks 65536 = if (65536 : Int) < (alF m ks).length then 13 else 0 := by
      have : readyR m ks 65536 = 0 := by
       unfold readyR
       rw [if_neg (fun h => h hc), hk]
       simp only
       rw [if_neg (by decide), if_neg (by omega)]
      unfold allR
      rw [if_neg (fun h => h this)]
     rw [hr]
     by_cases h1 : (65536 : Int) < (alF m ks).length
     ·rw [if_pos h1, if_pos (by omega)]; exact .inr rfl
     ·rw [if_neg h1, if_neg (by omega)]
      split
      ·exact .inr rfl
      ·exact .inl rfl
    ·rintro (h | h | ⟨k, h1, h2⟩)
     ·omega
     ·omega
     ·rcases kLast_end hk with ⟨rfl, _⟩ | h
      ·cases h1
      ·rw [h] at h1
       obtain rfl := Option.some.inj h1
       omega
    ·rintro (h | h | h | h)
     ·cases h
     ·exact hg h
     ·omega
     ·omega
def ResL (r : AV) (e : Int) : Prop := ∃ n A c, r = .tu [.sl n A c, .sc (.int .i64 e)] ∧ A.all AV.norefs = true ∧ A.length < 1000000 ∧ (e ≠ 0 → A = [])
theorem equals_res {m : Mach} {l : List FA} (hl : l.length < 1000000) : ResL (equalsA m l) (mutErr m l) := by
 unfold equalsA
 split
 ·exact ⟨_, _, _, rfl, rfl, by simp, fun _ => rfl⟩
 ·rename_i h
  exact ⟨_, _, _, by rw [Classical.not_not.1 h], norefs_bools _, by simpa [equalsL] using hl, fun h2 => absurd h2 h⟩
theorem distinct_res {m : Mach} {l : List FA} (hl : l.length < 1000000) : ResL (distinctA m l) (mutErr m l) := by
 unfold distinctA
 split
 ·exact ⟨_, _, _, rfl, rfl, by simp, fun _ => rfl⟩
 ·rename_i h
  exact ⟨_, _, _, by rw [Classical.not_not.1 h], norefs_intC _, by simpa [distL] using hl, fun h2 => absurd h2 h⟩
theorem leastL_len (S : List (List Int)) : (leastL S).length ≤ S.length := by
 unfold leastL
 rw [List.length_map]
 have := List.length_filter_le (keepB S) (List.range S.length)
 rw [List.length_range] at this; exact this
theorem least_res {m : Mach} {W : List RW} {l : List FA} (hl : l.length < 1000000) : ResL (leastA m W l) (leastE m W l) := by
 unfold leastA
 split
 ·exact ⟨_, _, _, rfl, rfl, by simp, fun _ => rfl⟩
 ·rename_i h
  exact ⟨_, _, _, by rw [Classical.not_not.1 h], norefs_intC _, by have := leastL_len (l.map (killW m W)); rw [List.length_map] at this; rw [List.length_map]; omega, fun h2 => absurd h2 h⟩
theorem pairs_res {m : Mach} {ks : List Int} {most : Int} : ResL (pairsA m ks most) (pairsE m ks most) := by
 unfold pairsA
 split
 ·exact ⟨_, _, _, rfl, rfl, by simp, fun _ => rfl⟩
 ·rename_i h
  have h0 := Classical.not_not.1 h
  refine ⟨_, _, _, by rw [h0], pairs_norefs _, ?_, fun h2 => absurd h2 h⟩
  rw [List.length_map]
  have h0' := h0
  unfold pairsE at h0'
  split at h0'
  ·rename_i h1; exact absurd h0' h1
  ·split at h0'
   ·cases h0'
   ·rename_i h2
    split at h0'
    ·rename_i h1; exact absurd h0' h1
    ·split at h0'
     ·cases h0'
     ·omega
def one2 (m : Mach) (f g : FA) : Int := if faultE m f ≠ 0 then faultE m f else faultE m g
def oneE (m : Mach) (f g : FA) : Int := if checkM m ≠ 0 then checkM m else one2 m f g
def both2 (m : Mach) (f g : FA) : Int := if oneE m f g ≠ 0 then oneE m f g else if isPairB (f, g) = true then 0 else 1
theorem faultE_zero {m : Mach} {f : FA} : faultE m f = 0 ↔ faultB m f = true := by
 unfold faultE
 cases faultB m f <;> simp
theorem both_pair {m : Mach} {f g : FA} (hf : faultB m f = true) (hg : faultB m g = true) : (2 < (if f.kind ≤ g.kind then g.kind else f.kind) ∨ 0 ≤ edgeI f g) ↔ ¬ isPairB (f, g) = true := by
 have h1 := (faultB_place hf).1
 have h2 := (faultB_place hg).1
 have hlt : (0 ≤ edgeI f g) ↔ ¬ ltE f g = true := by
  rw [← edgeI_lt, decide_eq_true_eq]; omega
 rw [hlt, ltE_iff]
 unfold isPairB
 simp only [Bool.and_eq_true, Bool.or_eq_true, decide_eq_true_eq]
 split <;> omega
theorem bothE_few {m : Mach} (h6 : m.rows.length ≤ 6) (f g : FA) : bothE m (f, g) = both2 m f g := by
 unfold bothE both2 oneE one2
 simp only [checkF_few h6]
 by_cases hc : checkM m = 0
 rotate_left
 ·simp [hc]
 by_cases hf : faultE m f = 0
 rotate_left
 ·simp [hc, hf]
 by_cases hg : faultE m g = 0
 rotate_left
 ·simp [hc, hf, hg]
 have key := both_pair (faultE_zero.1 hf) (faultE_zero.1 hg)
 simp only [hc, hf, hg, ne_eq, not_true_eq_false, if_false]
 by_cases hp : isPairB (f, g) = true
 ·rw [if_pos hp, if_neg (fun h => key.1 h hp)]
 ·rw [if_neg hp, if_pos (key.2 hp)]
theorem both_res {m : Mach} (h6 : m.rows.length ≤ 6) (f g : FA) : ∃ i o n R c, bothA m (f, g) = .tu [.ag [.sc (.int .i64 i), .sc (.int .i64 o), .sl n R c], .sc (.int .i64 (both2 m f g))] ∧ R.all AV.norefs = true ∧ R.length < 1000000 ∧ (both2 m f g ≠ 0 → R = []) := by
 have he := bothE_few h6 f g
 by_cases h : both2 m f g = 0
 rotate_left
 ·unfold bothA
  rw [he, if_pos h]
  exact ⟨_, _, _, _, _, rfl, rfl, by simp, fun _ => rfl⟩
 have h0 := h
 unfold both2 oneE one2 at h0
 by_cases hc : checkM m = 0
 rotate_left
 ·simp [hc] at h0
 by_cases hf : faultE m f = 0
 rotate_left
 ·simp [hc, hf] at h0
 by_cases hg : faultE m g = 0
 rotate_left
 ·simp [hc, hf, hg] at h0
 simp only [hc, hf, hg, ne_eq, not_true_eq_false, if_false] at h0
 have hp : isPairB (f, g) = true := by
  cases hp : isPairB (f, g)
  ·rw [hp] at h0; cases h0
  ·rfl
 have hpo : PairOk m f g := by
  refine ⟨faultE_zero.1 hf, faultE_zero.1 hg, ?_, ?_, ltE_iff.2 ?_⟩ <;>
  ·unfold isPairB at hp
   simp only [Bool.and_eq_true, Bool.or_eq_true, decide_eq_true_eq] at hp
   omega
 have hv := Valid.of hc
 obtain ⟨c1, c2, c3, _, _⟩ := hpo.check
 have hv2 := mutF_valid (mutF_valid hv c1) c3
 rw [hpo.both hv, h]
 exact ⟨_, _, _, _, _, rfl, norefs_mrows _, by rw [List.length_map]; have := hv2.rows; omega, fun h => absurd rfl h⟩
theorem sub_few {m : Mach} (h6 : m.rows.length ≤ 6) (W : List RW) (f g : FA) : subE m W f g = if readyE m W ≠ 0 then readyE m W else one2 m f g := by
 unfold subE one2
 simp only [checkF_few h6]
theorem sub_res {m : Mach} (W : List RW) (f g : FA) : ∃ b, subsumesA m W f g = .tu [.sc (.bool b), .sc (.int .i64 (subE m W f g))] ∧ (subE m W f g ≠ 0 → b = false) := by
 unfold subsumesA
 split
 ·exact ⟨_, rfl, fun _ => rfl⟩
 ·rename_i h
  exact ⟨_, by rw [Classical.not_not.1 h], fun h2 => absurd h2 h⟩
theorem ready_check {m : Mach} {W : List RW} (h : readyE m W = 0) : checkM m = 0 := (readyE_ok h).1
theorem small_few {m : Mach} (h : smallE m = 0) : m.rows.length ≤ 6 ∧ ∀ r ∈ m.rows, r.2.length ≤ 4 := by
 unfold smallE at h
 split at h
 ·cases h
 ·split at h
  ·cases h
  ·rename_i h1 h2
   refine ⟨by omega, fun r hr => ?_⟩
   rcases Nat.lt_or_ge 4 r.2.length with h3 | h3
   ·exact absurd (List.any_eq_true.2 ⟨r, hr, decide_eq_true (by omega)⟩) h2
   ·exact h3
theorem steps_each {W : List RW} {w : RW} (h : w ∈ W) : w.2.1.length ≤ stepsW W := by
 induction W with
 | nil => cases h
 | cons x W ih =>
   simp only [stepsW, List.map_cons, List.sum_cons] at ih ⊢
   rcases List.mem_cons.1 h with rfl | h
   ·omega
   ·have := ih h; omega
set_option maxHeartbeats 8000000 in
theorem ordersAny_is (m : Mach) (hnn : NoNil m) (wn ln kn : Bool) (W : List RW) (L : List FA) (ks : List Int) (most : Int) (hWl : (W.length : Int) ≤ 140737488355328) (hWw : ∀ w ∈ W, (w.2.1.length : Int) ≤ 140737488355328) (hLl : (L.length : Int) ≤ 140737488355328) (hkl : (ks.length : Int) ≤ 140737488355328) :
  PureIs prog 6 [.ag m.cells, .ag [.sl wn (W.map rwC) .unk, .sl ln (L.map FA.cells) .unk, .sl kn (ks.map intC) .unk, .sc (.int .i64 most)]] (.sc (.bool true)) := by
 have hWn := norefs_rw W
 have hWc : (W.map rwC).length = W.length := List.length_map _
 have hLn := norefs_faL L
 have hLc : (L.map FA.cells).length = L.length := List.length_map _
 have hkn := norefs_intC ks
 have hkc : (ks.map intC).length = ks.length := List.length_map _
 have qs := small_is m
 rw [Mach.cells] at qs
 refine PureIs.of1 25 [51, 56, 68, 94, 97, 166, 185, 188, 192, 199, 219, 222] func6 ntmps6 results6 fun _ => ?_
 refine EvC.a ?_ (by simp only [go_sem, Mach.cells] <;> rfl)
 refine EvC.z 0 ?_
 refine EvC.z 1 ?_
 refine EvC.seq ?_
 by_cases c1 : smallE m = 0
 rotate_left
 ·apply EvC.s1
  ·apply Tr.run
   ·simp only [go_sem, hWc, decide_eq_false c1] <;> rfl
   ·simp
   apply Tr.cons
   ·exact .ca (qs)
   apply Tr.run
   ·simp only [go_sem, hWc, decide_eq_false c1] <;> rfl
   ·simp
   apply Tr.cons
   ·exact .skipv (.sc (.int .i64 0)) rfl rfl (by simp only [go_sem] <;> rfl) (by simp only [go_sem] <;> rfl)
   apply Tr.done
   ·simp only [go_sem, hLc, hkc, decide_eq_false c1] <;> rfl
   ·simp
  refine EvC.ct ?_
  refine EvC.a ?_
  refine EvC.rz ?_
  simp only [go_sem]
 obtain ⟨h6, h4⟩ := small_few c1
 rw [c1] at qs
 by_cases c2 : 60 < (W.length : Int)
 ·apply EvC.s1
  ·apply Tr.run
   ·simp only [go_sem, hWc, decide_eq_true c2] <;> rfl
   ·simp
   apply Tr.cons
   ·exact .ca (qs)
   apply Tr.run
   ·simp only [go_sem, hWc, decide_eq_true c2] <;> rfl
   ·simp
   apply Tr.cons
   ·exact .skipv (.sc (.int .i64 0)) rfl rfl (by simp only [go_sem] <;> rfl) (by simp only [go_sem] <;> rfl)
   apply Tr.done
   ·simp only [go_sem, hLc, hkc, decide_eq_true c2] <;> rfl
   ·simp
  refine EvC.ct ?_
  refine EvC.a ?_
  refine EvC.rz ?_
  simp only [go_sem]
 have qt := steps30_is wn W .unk hWw (by omega)
 by_cases c3 : 600 < (stepsW W : Int)
 ·refine EvC.k2 ?_ (h1 := by simp only [go_sem, hWc, decide_eq_false c2] <;> rfl) (c1 := .ca qs) (h2 := by simp only [go_sem, hWc, decide_eq_false c2] <;> rfl) (c2 := .cg qt) (h3 := by simp only [go_sem, hLc, hkc, decide_eq_true c3] <;> rfl)
  refine EvC.ct ?_
  refine EvC.a ?_
  refine EvC.rz ?_
  simp only [go_sem]
 by_cases c4 : 300 < (L.length : Int)
 ·refine EvC.k2 ?_ (h1 := by simp only [go_sem, hWc, decide_eq_false c2] <;> rfl) (c1 := .ca qs) (h2 := by simp only [go_sem, hWc, decide_eq_false c2] <;> rfl) (c2 := .cg qt) (h3 := by simp only [go_sem, hLc, hkc, decide_eq_false c3, decide_eq_true c4] <;> rfl)
  refine EvC.ct ?_
  refine EvC.a ?_
  refine EvC.rz ?_
  simp only [go_sem]
 by_cases c5 : 20 < (ks.length : Int)
 ·refine EvC.k2 ?_ (h1 := by simp only [go_sem, hWc, decide_eq_false c2] <;> rfl) (c1 := .ca qs) (h2 := by simp only [go_sem, hWc, decide_eq_false c2] <;> rfl) (c2 := .cg qt) (h3 := by simp only [go_sem, hLc, hkc, decide_eq_false c3, decide_eq_false c4, decide_eq_true c5] <;> rfl)
  refine EvC.ct ?_
  refine EvC.a ?_
  refine EvC.rz ?_
  simp only [go_sem]
 refine EvC.k2 ?_ (h1 := by simp only [go_sem, hWc, decide_eq_false c2] <;> rfl) (c1 := .ca qs) (h2 := by simp only [go_sem, hWc, decide_eq_false c2] <;> rfl) (c2 := .cg qt) (h3 := by simp only [go_sem, hLc, hkc, decide_eq_false c3, decide_eq_false c4, decide_eq_false c5] <;> rfl)
 refine EvC.cs ?_
 clear qs qt
 have hm : ∀ r ∈ m.rows, r.2.length < 1000000 := fun r hr => by have := h4 r hr; omega
 have hWs : ∀ w ∈ W, w.2.1.length < 1000000 := fun w hw => by have := steps_each hw; omega
 refine EvC.a ?_
 obtain ⟨l, hl⟩ : ∃ l, l = if (L.length : Int) ≤ 256 then L.take 12 else L := ⟨_, rfl⟩
 have hll : l.length ≤ 300 := by
  rw [hl]
  split
  ·rw [List.length_take]; omega
  ·omega
 refine EvC.mergeS (α := Unit) (fun _ => ⟨[(2, .ia [.sc (.int .i64 m.ins), .sc (.int .i64 m.outs), .sl m.nl (m.rows.map rowC) .unk]), (3, .ia [.sl wn (W.map rwC) .unk, .sl ln (L.map FA.cells) .unk, .sl kn (ks.map intC) .unk, .sc (.int .i64 most)]), (5, .sl ln (l.map FA.cells) .unk)], [], [], 0⟩) (fun _ => True) [2, 3, 5] 0 ?_ ?_
 ·by_cases h256 : (L.length : Int) ≤ 256
  ·rw [if_pos h256] at hl
   obtain ⟨k, hk⟩ : ∃ k, k = min 12 L.length := ⟨_, rfl⟩
   have hkL : k ≤ L.length := by omega
   have hmin : (if (L.length : Int) ≤ 12 then (L.length : Int) else 12) = (k : Int) := by split <;> omega
   have hkt : (k : Int).toNat = k := Int.toNat_natCast k
   have htk : (L.map FA.cells).take k = l.map FA.cells := by
    rw [hl, ← List.map_take, hk]
    congr 1
    rw [List.take_eq_take_iff]; omega
   refine EvC.a ?_ (by simp only [go_sem, hLc, decide_eq_true h256] <;> rfl)
   refine EvC.ct ?_
   refine EvC.b ?_ (by simp only [go_sem, hLc, hmin, hkt, htk] <;> rfl) (by simp [hmin]; exact ⟨fun _ _ => rfl, by omega⟩)
   exact ⟨rfl, [], (), rfl, (by simp only [go_sem, hLn, hWn, hkn] <;> rfl), trivial⟩
  ·rw [if_neg h256] at hl
   subst hl
   refine EvC.a ?_ (by simp only [go_sem, hLc, decide_eq_false h256] <;> rfl)
   refine EvC.cs ?_
   exact ⟨rfl, [], (), rfl, (by simp only [go_sem, hLn, hWn, hkn] <;> rfl), trivial⟩
 rintro ⟨⟩ -
 clear hl
 have hln := norefs_faL l
 have hlc : (l.map FA.cells).length = l.length := List.length_map _
 have qc := refcheck28_is m hm
 rw [Mach.cells] at qc
 refine EvC.k1 ?_ (c1 := .ca qc)
 refine EvC.a ?_
 refine EvC.a ?_
 refine EvC.a ?_
 refine EvC.mergeS (α := Unit) (fun _ => ⟨[(2, .ia [.sc (.int .i64 m.ins), .sc (.int .i64 m.outs), .sl m.nl (m.rows.map rowC) .unk]), (3, .ia [.sl wn (W.map rwC) .unk, .sl ln (L.map FA.cells) .unk, .sl kn (ks.map intC) .unk, .sc (.int .i64 most)]), (5, .sl ln (l.map FA.cells) .unk), (6, .sc (.int .i64 (checkM m))), (7, .sc (.int .i64 (allE m l))), (8, .sc (.int .i64 (readyE m W))), (9, .sc (.int .i64 (kindsE m ks most)))], [], [], 0⟩) (fun _ => True) [2, 3, 5, 6, 7, 8, 9] 0 ?_ ?_
 ·by_cases hc : checkM m = 0
  rotate_left
  ·have e1 : allE m l = checkM m := by unfold allE; rw [if_pos hc]
   have e2 : readyE m W = checkM m := by unfold readyE; rw [if_pos hc]
   have e3 : kindsE m ks most = checkM m := by unfold kindsE; rw [if_pos hc]
   rw [e1, e2, e3]
   refine EvC.a ?_ (by simp only [go_sem, decide_eq_false hc] <;> rfl)
   refine EvC.cs ?_
   exact ⟨rfl, [], (), rfl, (by simp only [go_sem, hLn, hWn, hkn, hln] <;> rfl), trivial⟩
  have hv := Valid.of hc
  have q1 := refList_is hv ln l .unk (by omega)
  have q2 := words33_is m hm wn W .unk hWs (by omega)
  have q3 := kinds34_is kn ks .unk (by omega)
  have q4 := grows_is kn ks .unk (by omega)
  rw [Mach.cells] at q1 q2
  have e1 : allE m l = listE m l := by unfold allE; rw [if_neg (fun h => h hc)]
  have e3 : kindsE m ks most = if (kLast ks (-1)).isSome = false ∨ growsB ks = true ∨ most < 0 ∨ 65536 < most then 1 else 0 := by unfold kindsE; rw [if_neg (fun h => h hc)]
  rw [e1]
  refine EvC.a ?_ (by simp only [go_sem, decide_eq_true hc] <;> rfl)
  refine EvC.ct ?_
  refine EvC.k1 ?_ (h1 := by simp only [go_sem, hln, hWn, hLn, hkn] <;> rfl) (c1 := .ca q1)
  refine EvC.k1 ?_ (h1 := by simp only [go_sem, hln, hWn, hLn, hkn] <;> rfl) (c1 := .ca q2)
  have hz : (0 : Int) = checkM m := hc.symm
  cases k1 : (kLast ks (-1)).isSome with
  | false =>
    rw [k1] at q3
    rw [show kindsE m ks most = 1 by rw [e3, if_pos (.inl k1)]]
    apply EvC.s1
    ·apply Tr.run
     ·simp only [go_sem, hkn] <;> rfl
     ·simp
     apply Tr.cons
     ·exact .ca (q3)
     apply Tr.run
     ·simp only [go_sem, hkn] <;> rfl
     ·simp
     apply Tr.cons
     ·exact .skipv (.sc (.bool false)) rfl rfl (by simp only [go_sem] <;> rfl) (by simp only [go_sem] <;> rfl)
     apply Tr.done
     ·simp only [go_sem, hkn, hln, hWn, hLn] <;> rfl
     ·simp
    refine EvC.ct ?_
    refine EvC.b ?_ (by simp only [go_sem, hkn, hln, hWn, hLn] <;> rfl)
    exact ⟨rfl, [], (), rfl, (by simp only [go_sem, hLn, hWn, hkn, hln] <;> rfl), trivial⟩
  | true =>
    rw [k1] at q3
    cases k2 : growsB ks with
    | true =>
      rw [k2] at q4
      rw [show kindsE m ks most = 1 by rw [e3, if_pos (.inr (.inl k2))]]
      refine EvC.k2 ?_ (h1 := by simp only [go_sem, hkn] <;> rfl) (c1 := .ca q3) (h2 := by simp only [go_sem, hkn] <;> rfl) (c2 := .cg q4) (h3 := by simp only [go_sem, hkn, hln, hWn, hLn] <;> rfl)
      refine EvC.ct ?_
      refine EvC.b ?_ (by simp only [go_sem, hkn, hln, hWn, hLn] <;> rfl)
      exact ⟨rfl, [], (), rfl, (by simp only [go_sem, hLn, hWn, hkn, hln] <;> rfl), trivial⟩
    | false =>
      rw [k2] at q4
      by_cases k3 : most < 0
      ·rw [show kindsE m ks most = 1 by rw [e3, if_pos (.inr (.inr (.inl k3)))]]
       refine EvC.k2 ?_ (h1 := by simp only [go_sem, hkn] <;> rfl) (c1 := .ca q3) (h2 := by simp only [go_sem, hkn] <;> rfl) (c2 := .cg q4) (h3 := by simp only [go_sem, hkn, hln, hWn, hLn, decide_eq_true k3] <;> rfl)
       refine EvC.ct ?_
       refine EvC.b ?_ (by simp only [go_sem, hkn, hln, hWn, hLn] <;> rfl)
       exact ⟨rfl, [], (), rfl, (by simp only [go_sem, hLn, hWn, hkn, hln] <;> rfl), trivial⟩
      by_cases k4 : 65536 < most
      ·rw [show kindsE m ks most = 1 by rw [e3, if_pos (.inr (.inr (.inr k4)))]]
       refine EvC.k2 ?_ (h1 := by simp only [go_sem, hkn] <;> rfl) (c1 := .ca q3) (h2 := by simp only [go_sem, hkn] <;> rfl) (c2 := .cg q4) (h3 := by simp only [go_sem, hkn, hln, hWn, hLn, decide_eq_false k3, decide_eq_true k4] <;> rfl)
       refine EvC.ct ?_
       refine EvC.b ?_ (by simp only [go_sem, hkn, hln, hWn, hLn] <;> rfl)
       exact ⟨rfl, [], (), rfl, (by simp only [go_sem, hLn, hWn, hkn, hln] <;> rfl), trivial⟩
      rw [show kindsE m ks most = checkM m by rw [e3, if_neg (by rw [k1, k2]; simp; omega), hc]]
      refine EvC.k2 ?_ (h1 := by simp only [go_sem, hkn] <;> rfl) (c1 := .ca q3) (h2 := by simp only [go_sem, hkn] <;> rfl) (c2 := .cg q4) (h3 := by simp only [go_sem, hkn, hln, hWn, hLn, decide_eq_false k3, decide_eq_false k4] <;> rfl)
      refine EvC.cs ?_
      exact ⟨rfl, [], (), rfl, (by simp only [go_sem, hLn, hWn, hkn, hln] <;> rfl), trivial⟩
 rintro ⟨⟩ -
 obtain ⟨lE, hlE⟩ : ∃ e, e = if readyE m W = 0 then allE m l else readyE m W := ⟨_, rfl⟩
 refine EvC.a ?_
 refine EvC.mergeS (α := Unit) (fun _ => ⟨[(2, .ia [.sc (.int .i64 m.ins), .sc (.int .i64 m.outs), .sl m.nl (m.rows.map rowC) .unk]), (3, .ia [.sl wn (W.map rwC) .unk, .sl ln (L.map FA.cells) .unk, .sl kn (ks.map intC) .unk, .sc (.int .i64 most)]), (5, .sl ln (l.map FA.cells) .unk), (6, .sc (.int .i64 (checkM m))), (7, .sc (.int .i64 (allE m l))), (8, .sc (.int .i64 (readyE m W))), (9, .sc (.int .i64 (kindsE m ks most))), (10, .sc (.int .i64 lE))], [], [], 0⟩) (fun _ => True) [2, 3, 5, 6, 7, 8, 9, 10] 0 ?_ ?_
 ·by_cases h : readyE m W = 0
  ·rw [if_pos h] at hlE
   rw [hlE]
   refine EvC.a ?_ (by simp only [go_sem, decide_eq_true h] <;> rfl)
   refine EvC.ct ?_
   refine EvC.b ?_
   exact ⟨rfl, [], (), rfl, (by simp only [go_sem, hLn, hWn, hkn, hln] <;> rfl), trivial⟩
  ·rw [if_neg h] at hlE
   rw [hlE]
   refine EvC.a ?_ (by simp only [go_sem, decide_eq_false h] <;> rfl)
   refine EvC.cs ?_
   exact ⟨rfl, [], (), rfl, (by simp only [go_sem, hLn, hWn, hkn, hln] <;> rfl), trivial⟩
 rintro ⟨⟩ -
 have p1 := equals19_is m hm hnn ln l .unk (by omega)
 have p2 := distinct_is m hm hnn ln l .unk (by omega)
 have p3 := least_is m hm hnn wn W .unk hWs (by omega) ln l .unk (by omega)
 have p4 := pairs_is m hm kn ks .unk (by omega) most
 obtain ⟨na, A, ca, r1, A1, A2, A3⟩ := equals_res (m := m) (l := l) (by omega)
 obtain ⟨nb, B, cb, r2, B1, B2, B3⟩ := distinct_res (m := m) (l := l) (by omega)
 obtain ⟨nc, C, cc, r3, C1, C2, C3⟩ := least_res (m := m) (W := W) (l := l) (by omega)
 obtain ⟨nd, D, cd, r4, D1, D2, D3⟩ := pairs_res (m := m) (ks := ks) (most := most)
 have elE : leastE m W l = lE := by
  rw [hlE, leastE, mutErr_few h6]
  by_cases h : readyE m W = 0
  ·rw [if_neg (fun e => e h), if_pos h]
  ·rw [if_pos h, if_neg h]
 rw [mutErr_few h6] at r1 r2 A3 B3
 rw [elE] at r3 C3
 rw [r1] at p1
 rw [r2] at p2
 rw [r3] at p3
 rw [r4] at p4
 obtain ⟨K1, K2⟩ := pairsE_any h6 ks most
 rw [Mach.cells] at p1 p2 p3 p4
 clear r1 r2 r3 r4
 generalize hpE : pairsE m ks most = pE at p4 D3 K1 K2
 generalize hkE : kindsE m ks most = kE at K1 K2
 generalize haE : allE m l = aE at p1 p2 A3 B3 hlE
 refine EvC.k1 ?_ (h1 := by simp only [go_sem, hln, hWn, hLn, hkn, A1] <;> rfl) (c1 := .ca p1) (h2 := by simp only [go_sem, A1, hln, hWn, hLn, hkn] <;> rfl) (k2 := by simp [A1])
 refine EvC.k1 ?_ (h1 := by simp only [go_sem, hln, hWn, hLn, hkn, A1, B1] <;> rfl) (c1 := .ca p2) (h2 := by simp only [go_sem, A1, B1, hln, hWn, hLn, hkn] <;> rfl) (k2 := by simp [B1])
 refine EvC.k1 ?_ (h1 := by simp only [go_sem, hln, hWn, hLn, hkn, A1, B1, C1] <;> rfl) (c1 := .ca p3) (h2 := by simp only [go_sem, A1, B1, C1, hln, hWn, hLn, hkn] <;> rfl) (k2 := by simp [C1])
 refine EvC.k1 ?_ (h1 := by simp only [go_sem, hln, hWn, hLn, hkn, A1, B1, C1, D1] <;> rfl) (c1 := .ca p4) (h2 := by simp only [go_sem, A1, B1, C1, D1, hln, hWn, hLn, hkn] <;> rfl) (k2 := by simp [D1])
 refine EvC.seq ?_
 have ra : decide (aE = aE) = true := decide_eq_true rfl
 have rl : decide (lE = lE) = true := decide_eq_true rfl
 refine EvC.mergeS (α := Unit) (fun _ => ⟨[(2, .ia [.sc (.int .i64 m.ins), .sc (.int .i64 m.outs), .sl m.nl (m.rows.map rowC) .unk]), (3, .ia [.sl wn (W.map rwC) .unk, .sl ln (L.map FA.cells) .unk, .sl kn (ks.map intC) .unk, .sc (.int .i64 most)]), (5, .sl ln (l.map FA.cells) .unk), (6, .sc (.int .i64 (checkM m))), (7, .sc (.int .i64 aE)), (8, .sc (.int .i64 (readyE m W))), (10, .sc (.int .i64 lE)), (11, .sl na A ca), (13, .sl nb B cb), (15, .sl nc C cc), (166, .sc (.bool false))], [], [], 0⟩) (fun _ => True) [2, 3, 5, 6, 7, 8, 10, 11, 13, 15, 166] 0 ?_ ?_
 ·by_cases hk : kE = 0
  ·rcases K2 hk with hp | hp
   ·refine EvC.gL ?_ (h := by simp only [go_sem, ra, rl, decide_eq_true hk, decide_eq_true hp, A1, B1, C1, D1] <;> rfl)
    exact ⟨rfl, [], (), rfl, (by simp only [go_sem, hLn, hWn, hkn, hln, A1, B1, C1] <;> rfl), trivial⟩
   ·have hp0 : ¬ pE = 0 := by omega
    refine EvC.gL ?_ (h := by simp only [go_sem, ra, rl, decide_eq_true hk, decide_eq_false hp0, decide_eq_true hp, A1, B1, C1, D1] <;> rfl)
    exact ⟨rfl, [], (), rfl, (by simp only [go_sem, hLn, hWn, hkn, hln, A1, B1, C1] <;> rfl), trivial⟩
  ·have hp := K1 hk
   have hD := D3 (by omega)
   subst hD
   refine EvC.gL ?_ (h := by simp only [go_sem, ra, rl, decide_eq_false hk, decide_eq_true hp, A1, B1, C1, List.length_nil, Int.natCast_zero] <;> rfl)
   exact ⟨rfl, [], (), rfl, (by simp only [go_sem, hLn, hWn, hkn, hln, A1, B1, C1] <;> rfl), trivial⟩
 rintro ⟨⟩ -
 refine EvC.cs ?_
 refine EvC.seq ?_
 refine EvC.mergeS (α := Unit) (fun _ => ⟨[(2, .ia [.sc (.int .i64 m.ins), .sc (.int .i64 m.outs), .sl m.nl (m.rows.map rowC) .unk]), (3, .ia [.sl wn (W.map rwC) .unk, .sl ln (L.map FA.cells) .unk, .sl kn (ks.map intC) .unk, .sc (.int .i64 most)]), (5, .sl ln (l.map FA.cells) .unk), (6, .sc (.int .i64 (checkM m))), (7, .sc (.int .i64 aE)), (8, .sc (.int .i64 (readyE m W))), (185, .sc (.bool false))], [], [], 0⟩) (fun _ => True) [2, 3, 5, 6, 7, 8, 185] 0 ?_ ?_
 ·have hI0 : inI64 0 = true := inI64_of (by omega) (by omega)
  by_cases ha : aE = 0
  ·by_cases hb : lE = 0
   ·refine EvC.gL ?_ (h := by simp only [go_sem, decide_eq_true ha, decide_eq_true hb, A1, B1, C1, hln, hWn, hLn, hkn] <;> rfl) (hok := by simp; try omega)
    exact ⟨rfl, [], (), rfl, (by simp only [go_sem, hLn, hWn, hkn, hln] <;> rfl), trivial⟩
   ·have hC := C3 hb
    subst hC
    refine EvC.gL ?_ (h := by simp only [go_sem, decide_eq_true ha, decide_eq_false hb, A1, B1, List.length_nil, Int.natCast_zero, hln, hWn, hLn, hkn] <;> rfl) (hok := by simp; try omega)
    exact ⟨rfl, [], (), rfl, (by simp only [go_sem, hLn, hWn, hkn, hln] <;> rfl), trivial⟩
  ·have hA := A3 ha
   have hB := B3 ha
   subst hA hB
   by_cases hb : lE = 0
   ·refine EvC.gL ?_ (h := by simp only [go_sem, decide_eq_false ha, decide_eq_true hb, C1, List.length_nil, Int.natCast_zero, hln, hWn, hLn, hkn] <;> rfl) (hok := by simp [hI0]; try omega)
    exact ⟨rfl, [], (), rfl, (by simp only [go_sem, hLn, hWn, hkn, hln] <;> rfl), trivial⟩
   ·have hC := C3 hb
    subst hC
    refine EvC.gL ?_ (h := by simp only [go_sem, decide_eq_false ha, decide_eq_false hb, List.length_nil, Int.natCast_zero, hln, hWn, hLn, hkn] <;> rfl) (hok := by simp [hI0]; try omega)
    exact ⟨rfl, [], (), rfl, (by simp only [go_sem, hLn, hWn, hkn, hln] <;> rfl), trivial⟩
 rintro ⟨⟩ -
 refine EvC.cs ?_
 refine EvC.seq ?_
 refine EvC.a ?_ (by simp only [go_sem, hlc] <;> rfl)
 by_cases h2 : (l.length : Int) < 2
 ·refine EvC.ct ?_ (by simp only [go_sem, decide_eq_true h2] <;> rfl)
  refine EvC.k1 ?_ (h1 := by simp only [go_sem, hLn, hWn, hkn, hln] <;> rfl) (c1 := .ca lives_is)
  refine EvC.rz ?_
  simp only [go_sem]
 refine EvC.cs ?_ (by simp only [go_sem, decide_eq_false h2] <;> rfl)
 have ef : l[0]? = some (l[0]'(by omega)) := List.getElem?_eq_getElem (by omega)
 have eg : l[1]? = some (l[1]'(by omega)) := List.getElem?_eq_getElem (by omega)
 generalize l[0]'(by omega) = f at ef
 generalize l[1]'(by omega) = g at eg
 have hfc : (l.map FA.cells)[0]? = some [.sc (.int .i64 f.kind), .sc (.int .i64 f.state), .sc (.int .i64 f.input), .sc (.int .i64 f.to), .sc (.int .i64 f.at'), .sc (.int .i64 f.out)] := by rw [List.getElem?_map, ef]; rfl
 have hgc : (l.map FA.cells)[1]? = some [.sc (.int .i64 g.kind), .sc (.int .i64 g.state), .sc (.int .i64 g.input), .sc (.int .i64 g.to), .sc (.int .i64 g.at'), .sc (.int .i64 g.out)] := by rw [List.getElem?_map, eg]; rfl
 clear ef eg
 obtain ⟨o1, ho1⟩ : ∃ e, e = if checkM m = 0 then faultE m f else checkM m := ⟨_, rfl⟩
 obtain ⟨o2, ho2⟩ : ∃ e, e = if o1 = 0 then faultE m g else o1 := ⟨_, rfl⟩
 have hov : o1 = 0 → checkM m = 0 := fun h => by
  rw [ho1] at h
  split at h
  ·assumption
  ·exact h
 have ho : o2 = oneE m f g := by
  rw [ho2, ho1]
  unfold oneE one2
  by_cases h : checkM m = 0
  ·by_cases h' : faultE m f = 0
   ·simp [h, h']
   ·simp [h, h']
  ·simp [h]
 refine EvC.a ?_
 refine EvC.mergeS (α := Unit) (fun _ => ⟨[(2, .ia [.sc (.int .i64 m.ins), .sc (.int .i64 m.outs), .sl m.nl (m.rows.map rowC) .unk]), (3, .ia [.sl wn (W.map rwC) .unk, .sl ln (L.map FA.cells) .unk, .sl kn (ks.map intC) .unk, .sc (.int .i64 most)]), (5, .sl ln (l.map FA.cells) .unk), (8, .sc (.int .i64 (readyE m W))), (19, .sc (.int .i64 o1))], [], [], 0⟩) (fun _ => True) [2, 3, 5, 8, 19] 0 ?_ ?_
 ·by_cases h : checkM m = 0
  ·rw [if_pos h] at ho1
   have q := refFault_is (Valid.of h) f
   rw [← ho1] at q
   simp only [FA.cells, Mach.cells] at q
   refine EvC.a ?_ (by simp only [go_sem, decide_eq_true h] <;> rfl)
   refine EvC.ct ?_
   refine EvC.k1LD mixed ?_ (h1 := by simp only [go_sem, hfc, hlc] <;> rfl) (k1 := by simp; try omega) (c1 := .ca q)
   exact ⟨rfl, [], (), rfl, (by simp only [go_sem, hLn, hWn, hkn, hln] <;> rfl), trivial⟩
  ·rw [if_neg h] at ho1
   rw [ho1]
   refine EvC.a ?_ (by simp only [go_sem, decide_eq_false h] <;> rfl)
   refine EvC.cs ?_
   exact ⟨rfl, [], (), rfl, (by simp only [go_sem, hLn, hWn, hkn, hln] <;> rfl), trivial⟩
 rintro ⟨⟩ -
 refine EvC.mergeS (α := Unit) (fun _ => ⟨[(2, .ia [.sc (.int .i64 m.ins), .sc (.int .i64 m.outs), .sl m.nl (m.rows.map rowC) .unk]), (3, .ia [.sl wn (W.map rwC) .unk, .sl ln (L.map FA.cells) .unk, .sl kn (ks.map intC) .unk, .sc (.int .i64 most)]), (5, .sl ln (l.map FA.cells) .unk), (8, .sc (.int .i64 (readyE m W))), (19, .sc (.int .i64 o2))], [], [], 0⟩) (fun _ => True) [2, 3, 5, 8, 19] 0 ?_ ?_
 ·by_cases h : o1 = 0
  ·rw [if_pos h] at ho2
   have q := refFault_is (Valid.of (hov h)) g
   rw [← ho2] at q
   simp only [FA.cells, Mach.cells] at q
   refine EvC.a ?_ (by simp only [go_sem, decide_eq_true h] <;> rfl)
   refine EvC.ct ?_
   refine EvC.k1LD mixed ?_ (h1 := by simp only [go_sem, hgc, hlc] <;> rfl) (k1 := by simp; try omega) (c1 := .ca q)
   exact ⟨rfl, [], (), rfl, (by simp only [go_sem, hLn, hWn, hkn, hln] <;> rfl), trivial⟩
  ·rw [if_neg h] at ho2
   rw [ho2]
   refine EvC.a ?_ (by simp only [go_sem, decide_eq_false h] <;> rfl)
   refine EvC.cs ?_
   exact ⟨rfl, [], (), rfl, (by simp only [go_sem, hLn, hWn, hkn, hln] <;> rfl), trivial⟩
 rintro ⟨⟩ -
 refine EvC.a ?_
 refine EvC.d mixed ?_ (h := by simp only [go_sem, hfc, hgc, hlc] <;> rfl) (hok := by simp; try omega)
 refine EvC.z 9 ?_
 obtain ⟨bE, hbE⟩ : ∃ e, e = both2 m f g := ⟨_, rfl⟩
 obtain ⟨sE, hsE⟩ : ∃ e, e = if readyE m W = 0 then o2 else readyE m W := ⟨_, rfl⟩
 have hsub : subE m W f g = sE := by
  rw [sub_few h6, hsE, ho]
  by_cases h : readyE m W = 0
  ·have hc := ready_check h
   unfold oneE
   simp [h, hc]
  ·simp [h]
 have qp := isPair_is (f, g)
 unfold prC at qp
 simp only [FA.cells, List.cons_append, List.nil_append] at qp
 refine EvC.mergeS (α := Unit) (fun _ => ⟨[(2, .ia [.sc (.int .i64 m.ins), .sc (.int .i64 m.outs), .sl m.nl (m.rows.map rowC) .unk]), (3, .ia [.sl wn (W.map rwC) .unk, .sl ln (L.map FA.cells) .unk, .sl kn (ks.map intC) .unk, .sc (.int .i64 most)]), (5, .sl ln (l.map FA.cells) .unk), (8, .sc (.int .i64 (readyE m W))), (19, .sc (.int .i64 o2)), (20, .sc (.int .i64 bE)), (21, .ia [.sc (.int .i64 f.kind), .sc (.int .i64 f.state), .sc (.int .i64 f.input), .sc (.int .i64 f.to), .sc (.int .i64 f.at'), .sc (.int .i64 f.out), .sc (.int .i64 g.kind), .sc (.int .i64 g.state), .sc (.int .i64 g.input), .sc (.int .i64 g.to), .sc (.int .i64 g.at'), .sc (.int .i64 g.out)])], [], [], 0⟩) (fun _ => True) [2, 3, 5, 8, 19, 20, 21] 0 ?_ ?_
 ·unfold both2 at hbE
  rw [← ho] at hbE
  by_cases h : o2 = 0
  ·rw [if_neg (fun e => e h)] at hbE
   cases hp : isPairB (f, g) with
   | true =>
     rw [hp] at qp
     rw [hp, if_pos rfl, ← h] at hbE
     rw [hbE]
     refine EvC.k1 ?_ (h1 := by simp only [go_sem, decide_eq_true h] <;> rfl) (c1 := .cg qp)
     refine EvC.cs ?_
     exact ⟨rfl, [], (), rfl, (by simp only [go_sem, hLn, hWn, hkn, hln] <;> rfl), trivial⟩
   | false =>
     rw [hp] at qp
     rw [hp, if_neg (by simp)] at hbE
     rw [hbE]
     refine EvC.k1 ?_ (h1 := by simp only [go_sem, decide_eq_true h] <;> rfl) (c1 := .cg qp)
     refine EvC.ct ?_
     refine EvC.b ?_
     exact ⟨rfl, [], (), rfl, (by simp only [go_sem, hLn, hWn, hkn, hln] <;> rfl), trivial⟩
  ·rw [if_pos h] at hbE
   rw [hbE]
   apply EvC.s1
   ·apply Tr.run
    ·simp only [go_sem, decide_eq_false h] <;> rfl
    ·simp
    apply Tr.cons
    ·exact .skipv (.sc (.bool true)) rfl rfl (by simp only [go_sem] <;> rfl) (by simp only [go_sem] <;> rfl)
    apply Tr.done
    ·simp only [go_sem] <;> rfl
    ·simp
   refine EvC.cs ?_
   exact ⟨rfl, [], (), rfl, (by simp only [go_sem, hLn, hWn, hkn, hln] <;> rfl), trivial⟩
 rintro ⟨⟩ -
 refine EvC.a ?_
 refine EvC.mergeS (α := Unit) (fun _ => ⟨[(2, .ia [.sc (.int .i64 m.ins), .sc (.int .i64 m.outs), .sl m.nl (m.rows.map rowC) .unk]), (3, .ia [.sl wn (W.map rwC) .unk, .sl ln (L.map FA.cells) .unk, .sl kn (ks.map intC) .unk, .sc (.int .i64 most)]), (5, .sl ln (l.map FA.cells) .unk), (20, .sc (.int .i64 bE)), (21, .ia [.sc (.int .i64 f.kind), .sc (.int .i64 f.state), .sc (.int .i64 f.input), .sc (.int .i64 f.to), .sc (.int .i64 f.at'), .sc (.int .i64 f.out), .sc (.int .i64 g.kind), .sc (.int .i64 g.state), .sc (.int .i64 g.input), .sc (.int .i64 g.to), .sc (.int .i64 g.at'), .sc (.int .i64 g.out)]), (22, .sc (.int .i64 sE))], [], [], 0⟩) (fun _ => True) [2, 3, 5, 20, 21, 22] 0 ?_ ?_
 ·by_cases h : readyE m W = 0
  ·rw [if_pos h] at hsE
   rw [hsE]
   refine EvC.a ?_ (by simp only [go_sem, decide_eq_true h] <;> rfl)
   refine EvC.ct ?_
   refine EvC.b ?_
   exact ⟨rfl, [], (), rfl, (by simp only [go_sem, hLn, hWn, hkn, hln] <;> rfl), trivial⟩
  ·rw [if_neg h] at hsE
   rw [hsE]
   refine EvC.a ?_ (by simp only [go_sem, decide_eq_false h] <;> rfl)
   refine EvC.cs ?_
   exact ⟨rfl, [], (), rfl, (by simp only [go_sem, hLn, hWn, hkn, hln] <;> rfl), trivial⟩
 rintro ⟨⟩ -
 have qb := pairBoth_is m hm hnn (f, g)
 have qu := subsumes_is m hm hnn wn W .unk hWs (by omega) f g
 obtain ⟨i, o, nr, R, cR, r1, R1, R2, R3⟩ := both_res h6 f g
 obtain ⟨sv, r2, sv0⟩ := sub_res (m := m) W f g
 rw [r1] at qb
 rw [hsub] at r2 sv0
 rw [r2] at qu
 rw [← hbE] at qb R3
 simp only [prC, FA.cells, Mach.cells, List.cons_append, List.nil_append] at qb qu
 clear hsub ho ho2 ho1 hsE hbE
 refine EvC.k1 ?_ (h1 := by simp only [go_sem, R1] <;> rfl) (c1 := .ca qb) (h2 := by simp only [go_sem, R1, hln, hWn, hLn, hkn] <;> rfl) (k2 := by simp [R1])
 refine EvC.z 6 ?_ (by simp only [go_sem, R1] <;> rfl)
 refine EvC.k1D mixed ?_ (h1 := by simp only [go_sem, hfc, hgc, hlc, R1, hWn] <;> rfl) (k1 := by simp; try omega) (c1 := .ca qu) (h2 := by simp only [go_sem, R1] <;> rfl)
 have rb : decide (bE = bE) = true := decide_eq_true rfl
 have rs : decide (sE = sE) = true := decide_eq_true rfl
 by_cases hb : bE = 0
 ·by_cases hs : sE = 0
  ·refine EvC.k1 ?_ (h1 := by simp only [go_sem, rb, rs, decide_eq_true hb, decide_eq_true hs, R1, hln, hWn] <;> rfl) (c1 := .cg lives_is)
   refine EvC.rz ?_
   simp only [go_sem]
  ·have h0 := sv0 hs
   subst h0
   refine EvC.k1 ?_ (h1 := by simp only [go_sem, rb, rs, decide_eq_true hb, decide_eq_false hs, R1, hln, hWn] <;> rfl) (c1 := .cg lives_is)
   refine EvC.rz ?_
   simp only [go_sem]
 ·have hR := R3 hb
  subst hR
  by_cases hs : sE = 0
  ·refine EvC.k1 ?_ (h1 := by simp only [go_sem, rb, rs, decide_eq_false hb, decide_eq_true hs, R1, hln, hWn, List.length_nil, Int.natCast_zero] <;> rfl) (c1 := .cg lives_is)
   refine EvC.rz ?_
   simp only [go_sem]
  ·have h0 := sv0 hs
   subst h0
   refine EvC.k1 ?_ (h1 := by simp only [go_sem, rb, rs, decide_eq_false hb, decide_eq_false hs, R1, hln, hWn, List.length_nil, Int.natCast_zero] <;> rfl) (c1 := .cg lives_is)
   refine EvC.rz ?_
   simp only [go_sem]
end Go.Avl
namespace Go.Proofs.YtmmcendgdcmlkaaDoor
open Go Go.Avl Go.Proofs Go.ChangeShapes Go.RowKit
section
variable {H : Type} {enc : TypeId × Value → H} {w : World}
theorem rd_edge : Reads enc Tryd.prog w 85 edgeC (fun _ => True) := by
 have := (Reads.struct (enc := enc) (w := w) (tot := 2) Tryd.underlying85 (by kernel_rfl) (.cons (sz := 1) rfl (by kernel_rfl) rfl rd_i64 (.cons (sz := 1) rfl (by kernel_rfl) rfl rd_i64 .nil)))
 exact this.mono fun a _ => ⟨(a.1, a.2.1), trivial, rfl⟩
theorem rd_row : Reads enc Tryd.prog w 83 rowC (fun r => r.1 = true → r.2 = []) :=
 (Reads.slice (by kernel_rfl) rd_edge (fun a => by rw [show Program.cellsOf Tryd.prog 85 = 2 by kernel_rfl]; rfl) (by rw [show Program.cellsOf Tryd.prog 85 = 2 by kernel_rfl]; exact Nat.succ_pos _)).mono fun a h => ⟨a, h.2.1, rfl⟩
theorem rd_rows : Reads enc Tryd.prog w 27 (fun x : Bool × List Row => [.sl x.1 (x.2.map rowC) .unk]) (fun x => ∀ r ∈ x.2, r.1 = true → r.2 = []) :=
 (Reads.slice (by kernel_rfl) rd_row (fun a => by rw [show Program.cellsOf Tryd.prog 83 = 1 by kernel_rfl]; rfl) (by rw [show Program.cellsOf Tryd.prog 83 = 1 by kernel_rfl]; exact Nat.succ_pos _)).mono fun a h => ⟨a, h.1, rfl⟩
theorem rd_mach : Reads enc Tryd.prog w 29 Mach.cells NoNil := by
 have := (Reads.struct (enc := enc) (w := w) (tot := 3) Tryd.underlying29 (by kernel_rfl) (.cons (sz := 1) rfl (by kernel_rfl) rfl rd_i64 (.cons (sz := 1) rfl (by kernel_rfl) rfl rd_i64 (.cons (sz := 1) rfl (by kernel_rfl) rfl rd_rows .nil))))
 exact this.mono fun a h => ⟨⟨a.1, a.2.1, a.2.2.1.1, a.2.2.1.2⟩, h.2.2.1, rfl⟩
theorem rd_fault : Reads enc Tryd.prog w 41 FA.cells (fun _ => True) := by
 have := (Reads.struct (enc := enc) (w := w) (tot := 6) Tryd.underlying41 (by kernel_rfl) (.cons (sz := 1) rfl (by kernel_rfl) rfl rd_i64 (.cons (sz := 1) rfl (by kernel_rfl) rfl rd_i64 (.cons (sz := 1) rfl (by kernel_rfl) rfl rd_i64 (.cons (sz := 1) rfl (by kernel_rfl) rfl rd_i64 (.cons (sz := 1) rfl (by kernel_rfl) rfl rd_i64 (.cons (sz := 1) rfl (by kernel_rfl) rfl rd_i64 .nil)))))))
 exact this.mono fun a _ => ⟨⟨a.1, a.2.1, a.2.2.1, a.2.2.2.1, a.2.2.2.2.1, a.2.2.2.2.2.1⟩, trivial, rfl⟩
theorem rd_faults : Reads enc Tryd.prog w 50 (fun x : Bool × List FA => [.sl x.1 (x.2.map FA.cells) .unk]) (fun x => (x.2.length : Int) ≤ 140737488355328) :=
 (Reads.slice (by kernel_rfl) rd_fault (fun a => by rw [show Program.cellsOf Tryd.prog 41 = 6 by kernel_rfl]; rfl) (by rw [show Program.cellsOf Tryd.prog 41 = 6 by kernel_rfl]; exact Nat.succ_pos _)).mono fun a h => ⟨a, len_of (b := Program.bytesOf Tryd.prog 41) (by decide +kernel) h.2.2, rfl⟩
theorem rd_word : Reads enc Tryd.prog w 31 rwC (fun x => (x.2.1.length : Int) ≤ 140737488355328) := rd_ints.mono fun a h => ⟨(a.1, a.2, .unk), h.1, rfl⟩
theorem rd_words : Reads enc Tryd.prog w 64 (fun x : Bool × List RW => [.sl x.1 (x.2.map rwC) .unk]) (fun x => (∀ r ∈ x.2, (r.2.1.length : Int) ≤ 140737488355328) ∧ (x.2.length : Int) ≤ 140737488355328) :=
 (Reads.slice (by kernel_rfl) rd_word (fun a => by rw [show Program.cellsOf Tryd.prog 31 = 1 by kernel_rfl]; rfl) (by rw [show Program.cellsOf Tryd.prog 31 = 1 by kernel_rfl]; exact Nat.succ_pos _)).mono fun a h => ⟨a, ⟨h.1, len_of (b := Program.bytesOf Tryd.prog 31) (by decide +kernel) h.2.2⟩, rfl⟩
structure AnyA where
 W : Bool × List RW
 L : Bool × List FA
 k : Bool × List Int
 a : Int
def AnyA.cells (x : AnyA) : List AV := [.sl x.W.1 (x.W.2.map rwC) .unk, .sl x.L.1 (x.L.2.map FA.cells) .unk, .sl x.k.1 (x.k.2.map intC) .unk, .sc (.int .i64 x.a)]
structure AnyA.Ok (x : AnyA) : Prop where
 w : ∀ r ∈ x.W.2, (r.2.1.length : Int) ≤ 140737488355328
 W : (x.W.2.length : Int) ≤ 140737488355328
 L : (x.L.2.length : Int) ≤ 140737488355328
 k : (x.k.2.length : Int) ≤ 140737488355328
theorem rd_A : Reads enc Tryd.prog w 72 AnyA.cells AnyA.Ok := by
 have := (Reads.struct (enc := enc) (w := w) (tot := 4) Tryd.underlying72 (by kernel_rfl) (.cons (sz := 1) rfl (by kernel_rfl) rfl rd_words (.cons (sz := 1) rfl (by kernel_rfl) rfl rd_faults (.cons (sz := 1) rfl (by kernel_rfl) rfl rd_ints (.cons (sz := 1) rfl (by kernel_rfl) rfl rd_i64 .nil)))))
 exact this.mono fun a h => ⟨⟨a.1, a.2.1, a.2.2.1, a.2.2.2.1⟩, ⟨h.1.1, h.1.2, h.2.1, h.2.2.1.1⟩, rfl⟩
end
end Go.Proofs.YtmmcendgdcmlkaaDoor
