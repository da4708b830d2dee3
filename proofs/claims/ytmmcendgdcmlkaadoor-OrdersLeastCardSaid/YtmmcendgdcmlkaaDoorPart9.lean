/-
  Lemmas.
-/
import Derived.Test.YtmmcendgdcmlkaaDoorPart8
set_option linter.unusedSimpArgs false
set_option linter.unusedVariables false
set_option linter.unnecessarySimpa false
set_option linter.deprecated false
namespace Go.Avl
open Go Go.Proofs.Tryd
set_option maxRecDepth 10000
theorem check46_bad {m : Mach} (hm : ∀ r ∈ m.rows, r.2.length < 1000000) (hc0 : checkM m ≠ 0) (f : FA) : PureIs prog 46 [.ag m.cells, .ag f.cells] (.sc (.int .i64 (checkM m))) := by
 have q0 := check_is m hm
 rw [FA.cells]
 refine PureIs.of1 8 [11, 24, 74, 117, 126] func46 ntmps46 results46 fun _ => ?_
 refine EvC.a ?_ (by simp only [go_sem, Mach.cells] <;> rfl)
 refine EvC.z 0 ?_
 refine EvC.z 1 ?_
 refine EvC.seq ?_
 refine EvC.k1 ?_ (h1 := by simp only [go_sem, Mach.cells] <;> rfl) (c1 := .ca q0)
 refine EvC.a ?_
 refine EvC.ct ?_ (by simp only [go_sem, decide_eq_false hc0] <;> rfl)
 refine EvC.a ?_
 refine EvC.rz ?_
 simp only [go_sem]
theorem check46_is {m : Mach} (hm : ∀ r ∈ m.rows, r.2.length < 1000000) (f : FA) : PureIs prog 46 [.ag m.cells, .ag f.cells] (.sc (.int .i64 (if checkM m ≠ 0 then checkM m else checkF m f))) := by
 by_cases h : checkM m = 0
 ·rw [if_neg (fun e => e h)]; exact check78_is (Valid.of h) h f
 ·rw [if_pos h]; exact check46_bad hm h f
theorem check61_is (m : Mach) (hm : ∀ r ∈ m.rows, r.2.length < 1000000) (fn : Bool) (fs : List FA) (fc : Cp) (hfl : fs.length < 1000000) :
  PureIs prog 61 [.ag m.cells, .sl fn (fs.map FA.cells) fc] (.sc (.int .i64 (mutErr m fs))) := by
 refine PureIs.of1 3 [4, 5, 7, 8, 12, 16, 17, 18, 19, 20, 27] func61 ntmps61 results61 fun _ => ?_
 refine EvC.a ?_ (by simp only [go_sem, Mach.cells] <;> rfl)
 refine EvC.z 0 ?_
 refine EvC.seq ?_
 refine EvC.k1 ?_ (h1 := by simp only [go_sem, Mach.cells] <;> rfl) (c1 := .ca (check_is m hm))
 refine EvC.a ?_
 by_cases h0 : checkM m = 0
 rotate_left
 ·refine EvC.ct ?_ (by simp only [go_sem, decide_eq_false h0] <;> rfl)
  have hR : mutErr m fs = checkM m := by unfold mutErr; rw [if_pos h0]
  rw [hR]
  refine EvC.a ?_
  refine EvC.rz ?_
  simp only [go_sem]
 have hv := Valid.of h0
 refine EvC.cs ?_ (by simp only [go_sem, decide_eq_true h0] <;> rfl)
 refine EvC.seq ?_
 refine EvC.a ?_ (by simp only [go_sem, List.length_map] <;> rfl)
 by_cases hb : 256 < (fs.length : Int)
 ·refine EvC.ct ?_ (by simp only [go_sem, decide_eq_true hb] <;> rfl)
  have hR : mutErr m fs = 3 := by unfold mutErr; rw [if_neg (fun h => h h0), if_pos hb]
  rw [hR]
  refine EvC.a ?_
  refine EvC.rz ?_
  simp only [go_sem]
 refine EvC.cf ?_ (by simp only [go_sem, decide_eq_false hb] <;> rfl)
 have hR : mutErr m fs = errFs m fs := by unfold mutErr; rw [if_neg (fun h => h h0), if_neg hb]
 rw [hR]
 refine EvC.skip ?_
 refine EvC.seq ?_
 refine EvC.a ?_ (by simp only [go_sem, List.length_map] <;> rfl)
 refine EvC.block ?_
 refine EvC.loopS (σ := Nat) (fun k => ⟨[(2, .ia [.sc (.int .i64 m.ins), .sc (.int .i64 m.outs), .sl m.nl (m.rows.map rowC) .unk]), (17, .sl fn (fs.map FA.cells) fc), (18, .sc (.int .i64 fs.length)), (19, .sc (.int .i64 k))], [], [], 0⟩) (fun k => fs.length - k) (fun k => k ≤ fs.length ∧ errFs m fs = errFs m (fs.drop k)) [2, 17, 18, 19] 0 ?_ ?_
 ·exact ⟨[], 0, rfl, (by simp only [go_sem, Int.natCast_zero] <;> rfl), Nat.zero_le _, rfl⟩
 rintro k ⟨hk1, hinv⟩
 refine EvC.a ?_
 refine EvC.seq ?_
 refine EvC.cond (by simp only [go_sem] <;> rfl) (fun hc => ?_) (fun hc => ?_)
 rotate_left
 ·refine EvC.exit ?_
  obtain rfl : fs.length = k := by have : ¬ k < fs.length := by simpa using hc
                                   omega
  rw [List.drop_length] at hinv
  rw [hinv, errFs]
  refine EvC.a ?_
  refine EvC.rz ?_
  simp only [go_sem]
 have hkl : k < fs.length := by simpa using hc
 clear hc
 have he : fs[k]? = some (fs[k]'hkl) := List.getElem?_eq_getElem hkl
 have hdr : fs.drop k = fs[k]'hkl :: fs.drop (k + 1) := List.drop_eq_getElem_cons hkl
 generalize fs[k]'hkl = f at he hdr
 rw [hdr, errFs] at hinv
 have hin : (k : Int).toNat = k := Int.toNat_natCast k
 have q := check78_is hv h0 f
 rw [FA.cells] at q
 refine EvC.skip ?_
 refine EvC.seq ?_
 refine EvC.block ?_
 refine EvC.a ?_ (by simp only [go_sem, he, hin, FA.cells, List.length_map] <;> rfl)
 refine EvC.k1 ?_ (h1 := by simp only [go_sem, Mach.cells] <;> rfl) (c1 := .ca q)
 refine EvC.a ?_
 by_cases h1 : checkF m f = 0
 ·rw [if_pos h1] at hinv
  refine EvC.cs ?_ (by simp only [go_sem, decide_eq_true h1] <;> rfl)
  refine EvC.b ?_ (hok := by exact inI64_of (by omega) (by omega))
  exact ⟨[], k + 1, rfl, (by simp only [go_sem, Int.natCast_add, Int.natCast_one] <;> rfl), ⟨hkl, hinv⟩, by omega⟩
 ·rw [if_neg h1] at hinv
  refine EvC.ct ?_ (by simp only [go_sem, decide_eq_false h1] <;> rfl)
  rw [hinv]
  refine EvC.a ?_
  refine EvC.rz ?_
  simp only [go_sem]
theorem mutants49_is (m : Mach) (hm : ∀ r ∈ m.rows, r.2.length < 1000000) (hnn : NoNil m) (fn : Bool) (fs : List FA) (fc : Cp) (hfl : fs.length < 1000000) :
  PureIs prog 49 [.ag m.cells, .sl fn (fs.map FA.cells) fc] (mutsA m fs) := by
 refine PureIs.of1 3 [4, 5, 6, 7, 9, 10, 11, 16, 18, 19, 20, 21, 31] func49 ntmps49 results49 fun _ => ?_
 refine EvC.a ?_ (by simp only [go_sem, Mach.cells] <;> rfl)
 refine EvC.z 0 ?_
 refine EvC.seq ?_
 refine EvC.k1 ?_ (h1 := by simp only [go_sem, Mach.cells] <;> rfl) (c1 := .ca (check61_is m hm fn fs fc hfl))
 refine EvC.a ?_
 unfold mutsA
 by_cases hE : mutErr m fs = 0
 rotate_left
 ·refine EvC.ct ?_ (by simp only [go_sem, decide_eq_false hE] <;> rfl)
  rw [if_neg hE]
  refine EvC.a ?_
  refine EvC.rz ?_
  simp only [go_sem]
 rw [if_pos hE]
 obtain ⟨h0, hb, hinv0⟩ := mutErr_ok hE
 have hv := Valid.of h0
 have hz := errFs_zero hinv0
 refine EvC.cs ?_ (by simp only [go_sem, decide_eq_true hE] <;> rfl)
 refine EvC.a ?_
 refine EvC.seq ?_
 refine EvC.a ?_ (by simp only [go_sem, List.length_map] <;> rfl)
 refine EvC.block ?_
 refine EvC.loopS (σ := Nat) (fun k => ⟨[(2, .ia [.sc (.int .i64 m.ins), .sc (.int .i64 m.outs), .sl m.nl (m.rows.map rowC) .unk]), (7, .tl 0 k (k == 0)), (18, .sl fn (fs.map FA.cells) fc), (19, .sc (.int .i64 fs.length)), (20, .sc (.int .i64 k))], [], [(0, .arr 3 (mutC m fs k) true)], 1⟩) (fun k => fs.length - k) (fun k => k ≤ fs.length) [2, 7, 18, 19, 20] 1 ?_ ?_
 ·refine ⟨[(9, 0)], 0, rfl, (by simp only [go_sem, Int.natCast_zero, mutC, List.take_zero, List.map_nil] <;> rfl), Nat.zero_le _⟩
 rintro k hk1
 have hml := mutC_len (m := m) hk1
 refine EvC.a ?_
 refine EvC.seq ?_
 refine EvC.cond (by simp only [go_sem] <;> rfl) (fun hc => ?_) (fun hc => ?_)
 rotate_left
 ·
  refine EvC.exit ?_
  obtain rfl : fs.length = k := by have : ¬ k < fs.length := by simpa using hc
                                   omega
  have hmc : (fs.map (mutF m)).map Mach.cells = mutC m fs fs.length := by rw [mutC, List.take_length]
  rw [hmc]
  have hn := norefs_mutC m fs fs.length
  have hie : (fs.length == 0) = fs.isEmpty := by cases fs <;> rfl
  rw [hie]
  generalize mutC m fs fs.length = L at hml hn
  refine EvC.frz 0 (by simp only [go_sem, hn, hml] <;> rfl) ?_
  refine EvC.a ?_ (by simp only [go_sem, hml] <;> rfl)
  refine EvC.ret ⟨.inl rfl, _, (by simp only [go_sem, hml] <;> rfl), ?_, by simp [AV.noref, AV.norefs, hn]⟩
  simp only [go_sem, hml]
 have hkl : k < fs.length := by simpa using hc
 clear hc
 have he : fs[k]? = some (fs[k]'hkl) := List.getElem?_eq_getElem hkl
 have hfz := hz _ (List.getElem_mem hkl)
 generalize fs[k]'hkl = f at he hfz
 have hin : (k : Int).toNat = k := Int.toNat_natCast k
 have q := apply71_is hv h0 hnn f
 have hs := mutC_succ (m := m) he
 have hml2 := mutC_len (m := m) (k := k + 1) hkl
 have hr2 : room (k + 1) 40 = true := by simp only [room_eq, decide_eq_true_eq]; omega
 refine EvC.skip ?_
 refine EvC.seq ?_
 refine EvC.block ?_
 refine EvC.a ?_ (by simp only [go_sem, he, hin, FA.cells, List.length_map] <;> rfl)
 unfold applyR at q
 generalize mutF m f = mf at q hs
 have hmr : AV.norefs mf.cells = true := norefs_mcells mf
 simp only [Mach.cells] at q hs hmr
 rw [if_pos hfz] at q
 refine EvC.k1 ?_ (h1 := by simp only [go_sem, Mach.cells, FA.cells] <;> rfl) (c1 := .ca q)
 refine EvC.seq ?_
 refine EvC.a ?_
 refine EvC.cs ?_
 refine EvC.b ?_ (by simp only [go_sem, hml, hr2, hs] <;> rfl)
 refine EvC.b ?_ (hok := by exact inI64_of (by omega) (by omega))
 exact ⟨[(0, 0)], k + 1, rfl, (by simp only [go_sem, Int.natCast_add, Int.natCast_one, hml2] <;> rfl), hkl, by omega⟩
def bothE (m : Mach) (p : FA × FA) : Int :=
 if checkM m ≠ 0 then checkM m else if checkF m p.1 ≠ 0 then checkF m p.1 else if checkF m p.2 ≠ 0 then checkF m p.2 else if 2 < (if p.1.kind ≤ p.2.kind then p.2.kind else p.1.kind) ∨ 0 ≤ edgeI p.1 p.2 then 1 else 0
def bothA (m : Mach) (p : FA × FA) : AV :=
 if bothE m p ≠ 0 then .tu [.ag [.sc (.int .i64 0), .sc (.int .i64 0), .sl true [] .zer], .sc (.int .i64 (bothE m p))] else applyR (mutF m p.1) p.2
set_option maxHeartbeats 4000000 in
theorem pairBoth_is (m : Mach) (hm : ∀ r ∈ m.rows, r.2.length < 1000000) (hnn : NoNil m) (p : FA × FA) : PureIs prog 14 [.ag m.cells, .ag (prC p)] (bothA m p) := by
 obtain ⟨f, g⟩ := p
 rw [prC]
 have q1 := check46_is hm f
 have q2 := check46_is hm g
 have q3 := edge_is f g
 unfold bothA
 simp only
 generalize hE : bothE m (f, g) = E
 have hE := hE.symm
 unfold bothE at hE
 simp only at hE
 rw [FA.cells] at q1 q2
 rw [FA.cells, FA.cells] at q3
 simp only [FA.cells, List.cons_append, List.nil_append]
 refine PureIs.of1 6 [7, 8, 9, 10, 15, 16, 17, 18, 25, 44, 54] func14 ntmps14 results14 fun _ => ?_
 refine EvC.a ?_ (by simp only [go_sem, Mach.cells] <;> rfl)
 refine EvC.z 0 ?_
 refine EvC.z 1 ?_
 refine EvC.seq ?_
 refine EvC.a ?_
 refine EvC.frz 8 (by simp only [go_sem] <;> rfl) ?_
 refine EvC.block ?_
 obtain ⟨e1, he1⟩ : ∃ e, e = if checkM m ≠ 0 then checkM m else checkF m f := ⟨_, rfl⟩
 obtain ⟨e2, he2⟩ : ∃ e, e = if checkM m ≠ 0 then checkM m else checkF m g := ⟨_, rfl⟩
 rw [← he1] at q1
 rw [← he2] at q2
 have hEE : E = if e1 ≠ 0 then e1 else if e2 ≠ 0 then e2 else if 2 < (if f.kind ≤ g.kind then g.kind else f.kind) ∨ 0 ≤ edgeI f g then 1 else 0 := by
  rw [hE, he1, he2]
  by_cases h : checkM m = 0
  ·simp [h]
  ·simp [h]
 refine EvC.loopS (σ := Nat) (fun i => ⟨[(2, .ia m.cells), (3, .ia [.sc (.int .i64 f.kind), .sc (.int .i64 f.state), .sc (.int .i64 f.input), .sc (.int .i64 f.to), .sc (.int .i64 f.at'), .sc (.int .i64 f.out), .sc (.int .i64 g.kind), .sc (.int .i64 g.state), .sc (.int .i64 g.input), .sc (.int .i64 g.to), .sc (.int .i64 g.at'), .sc (.int .i64 g.out)]), (4, .rf 0 0), (15, .sl false [[.sc (.int .i64 f.kind), .sc (.int .i64 f.state), .sc (.int .i64 f.input), .sc (.int .i64 f.to), .sc (.int .i64 f.at'), .sc (.int .i64 f.out)], [.sc (.int .i64 g.kind), .sc (.int .i64 g.state), .sc (.int .i64 g.input), .sc (.int .i64 g.to), .sc (.int .i64 g.at'), .sc (.int .i64 g.out)]] .unk), (16, .sc (.int .i64 2)), (17, .sc (.int .i64 i))], [], [(0, .cells [.sc (.int .i64 0), .sc (.int .i64 0), .sl true [] .zer])], 1⟩) (fun i => 2 - i) (fun i => i ≤ 2 ∧ (1 ≤ i → e1 = 0) ∧ (2 ≤ i → e2 = 0)) [2, 3, 4, 15, 16, 17] 1 ?_ ?_
 ·exact ⟨[(2, 0)], 0, rfl, (by simp only [go_sem, Int.natCast_zero, Mach.cells] <;> rfl), by omega, by omega, by omega⟩
 rintro i ⟨i1, i2, i3⟩
 refine EvC.a ?_
 refine EvC.seq ?_
 rcases (show i = 0 ∨ i = 1 ∨ i = 2 by omega) with rfl | rfl | rfl
 ·refine EvC.cr ?_ (by simp only [go_sem, Int.natCast_zero] <;> rfl)
  refine EvC.seq ?_
  refine EvC.block ?_
  refine EvC.a ?_ (by simp only [go_sem, Int.natCast_zero, List.getElem?_cons_zero, Int.toNat_zero] <;> rfl)
  refine EvC.z 4 ?_
  refine EvC.k1 ?_ (h1 := by simp only [go_sem, Mach.cells] <;> rfl) (c1 := .ca q1)
  refine EvC.a ?_
  by_cases h : e1 = 0
  ·refine EvC.cs ?_ (by simp only [go_sem, decide_eq_true h] <;> rfl)
   refine EvC.b ?_ (hok := by exact inI64_of (by omega) (by omega))
   exact ⟨[(0, 0)], 1, rfl, (by simp only [go_sem, Int.natCast_one, Mach.cells] <;> rfl), ⟨by omega, fun _ => h, by omega⟩, by omega⟩
  ·refine EvC.ct ?_ (by simp only [go_sem, decide_eq_false h] <;> rfl)
   rw [if_pos h] at hEE
   rw [hEE, if_pos h]
   refine EvC.a ?_
   refine EvC.rz ?_
   simp only [go_sem]
 ·refine EvC.cr ?_ (by simp only [go_sem, Int.natCast_one] <;> rfl)
  refine EvC.seq ?_
  refine EvC.block ?_
  refine EvC.a ?_ (by simp only [go_sem, Int.natCast_one, show (1 : Int).toNat = 1 from rfl] <;> rfl)
  refine EvC.z 4 ?_
  refine EvC.k1 ?_ (h1 := by simp only [go_sem, Mach.cells] <;> rfl) (c1 := .ca q2)
  refine EvC.a ?_
  have h1 := i2 (Nat.le_refl _)
  by_cases h : e2 = 0
  ·refine EvC.cs ?_ (by simp only [go_sem, decide_eq_true h] <;> rfl)
   refine EvC.b ?_ (hok := by exact inI64_of (by omega) (by omega))
   exact ⟨[(0, 0)], 2, rfl, (by simp only [go_sem, show ((2 : Nat) : Int) = 2 from rfl, Mach.cells] <;> rfl), ⟨by omega, fun _ => h1, fun _ => h⟩, by omega⟩
  ·refine EvC.ct ?_ (by simp only [go_sem, decide_eq_false h] <;> rfl)
   rw [if_neg (fun e => e h1), if_pos h] at hEE
   rw [hEE, if_pos h]
   refine EvC.a ?_
   refine EvC.rz ?_
   simp only [go_sem]
 have h1 := i2 (by omega)
 have h2 := i3 (Nat.le_refl _)
 rw [if_neg (fun e => e h1), if_neg (fun e => e h2)] at hEE
 have h0 : checkM m = 0 := by
  by_cases h : checkM m = 0
  ·exact h
  ·rw [if_pos h] at he1; exact absurd (he1.symm.trans h1) h
 have hf : checkF m f = 0 := by rw [if_neg (fun e => e h0)] at he1; exact he1.symm.trans h1
 have hv := Valid.of h0
 refine EvC.cf ?_ (by simp only [go_sem, show ((2 : Nat) : Int) = 2 from rfl] <;> rfl)
 refine EvC.exit ?_
 refine EvC.seq ?_
 by_cases hk : 2 < (if f.kind ≤ g.kind then g.kind else f.kind)
 ·rw [if_pos (.inl hk)] at hEE
  rw [hEE, if_pos (show (1 : Int) ≠ 0 by decide)]
  have hkd := decide_eq_true hk
  apply EvC.s1
  ·apply Tr.run
   ·simp only [go_sem, hkd] <;> rfl
   ·simp
   apply Tr.cons
   ·exact .skipv (.sc (.int .i64 0)) rfl rfl (by simp only [go_sem] <;> rfl) (by simp only [go_sem] <;> rfl)
   apply Tr.done
   ·simp only [go_sem, hkd] <;> rfl
   ·simp
  refine EvC.ct ?_
  refine EvC.a ?_
  refine EvC.rz ?_
  simp only [go_sem]
 have hkd := decide_eq_false hk
 refine EvC.k1 ?_ (h1 := by simp only [go_sem, hkd] <;> rfl) (c1 := .cg q3) (h2 := by simp only [go_sem, hkd] <;> rfl)
 by_cases he : 0 ≤ edgeI f g
 ·rw [if_pos (.inr he)] at hEE
  rw [hEE, if_pos (show (1 : Int) ≠ 0 by decide)]
  refine EvC.ct ?_ (by simp only [go_sem, decide_eq_true he] <;> rfl)
  refine EvC.a ?_
  refine EvC.rz ?_
  simp only [go_sem]
 rw [if_neg (fun h => h.elim hk he)] at hEE
 rw [hEE, if_neg (show ¬ (0 : Int) ≠ 0 from fun h => h rfl)]
 refine EvC.cs ?_ (by simp only [go_sem, decide_eq_false he] <;> rfl)
 have q4 := apply71_is hv h0 hnn f
 unfold applyR at q4
 rw [if_pos hf] at q4
 have hv2 := mutF_valid hv hf
 have q5 := apply71_is hv2 (checkM_of hv2) (mutF_noNil m f) g
 obtain ⟨mf, hmf⟩ : ∃ mf, mf = mutF m f := ⟨_, rfl⟩
 rw [← hmf] at q4 q5 ⊢
 rw [FA.cells] at q4 q5
 have hmr : AV.norefs mf.cells = true := norefs_mcells mf
 simp only [Mach.cells] at q4 q5 hmr
 refine EvC.k1 ?_ (h1 := by simp only [go_sem, Mach.cells] <;> rfl) (c1 := .ca q4)
 refine EvC.z 25 ?_
 refine EvC.seq ?_
 refine EvC.a ?_
 refine EvC.cs ?_
 by_cases h5 : checkF mf g = 0
 ·rw [applyR, if_pos h5] at q5 ⊢
  generalize mutF mf g = mg at q5 ⊢
  simp only [Mach.cells] at q5 ⊢
  refine EvC.k1 ?_ (c1 := .ca q5)
  refine EvC.rz ?_
  simp only [go_sem]
 ·rw [applyR, if_neg h5] at q5 ⊢
  refine EvC.k1 ?_ (c1 := .ca q5)
  refine EvC.rz ?_
  simp only [go_sem]
def eqM (a b : Mach) : Bool := (equalR a b).1
def atM (X : List Mach) (i : Int) : Mach := X.getD i.toNat ⟨0, 0, true, []⟩
def findIdxM (p : Mach → Bool) : List Mach → Int → Int
 | [], _ => -1
 | e :: es, i => if p e = true then i else findIdxM p es (i + 1)
def fstM (p : Mach → Bool) : List Mach → Nat
 | [] => 0
 | e :: es => if p e = true then 0 else fstM p es + 1
theorem fstM_le (p : Mach → Bool) : ∀ es : List Mach, fstM p es ≤ es.length
 | [] => Nat.le_refl _
 | e :: es => by
   have := fstM_le p es
   rw [fstM, List.length_cons]
   split <;> omega
theorem findIdxM_fst (p : Mach → Bool) : ∀ (es : List Mach) (i : Int), findIdxM p es i = if fstM p es < es.length then i + fstM p es else -1
 | [], i => by simp [findIdxM, fstM]
 | e :: es, i => by
   rw [findIdxM, fstM]
   split
   ·simp
   ·rw [findIdxM_fst p es, List.length_cons]
    by_cases h : fstM p es < es.length
    ·rw [if_pos h, if_pos (by omega)]; omega
    ·rw [if_neg h, if_neg (by omega)]
theorem indexM_is (nl : Bool) (xs : List Mach) (c : Cp) (f : FuncId) (cs : List AV) (hcs : AV.norefs cs = true) (p : Mach → Bool) (hp : ∀ e ∈ xs, PureIs prog f (.ag (Mach.cells e) :: cs) (.sc (.bool (p e)))) (hl : xs.length < 1000000) :
  PureIs prog 52 [.sl nl (xs.map Mach.cells) c, .fn f cs] (.sc (.int .i64 (findIdxM p xs 0))) := by
 refine PureIs.of1 2 [4, 5, 7, 8, 9, 16] func52 ntmps52 results52 fun _ => ?_
 refine EvC.a ?_
 refine EvC.seq ?_
 refine EvC.a ?_ (by simp only [go_sem, List.length_map] <;> rfl)
 refine EvC.block ?_
 refine EvC.loopS (σ := Nat) (fun i => ⟨[(0, .sl nl (xs.map Mach.cells) c), (1, .fn f cs), (7, .sc (.int .i64 xs.length)), (8, .sc (.int .i64 i))], [], [], 0⟩) (fun i => xs.length - i) (fun i => i ≤ xs.length ∧ findIdxM p xs 0 = findIdxM p (xs.drop i) i) [0, 1, 7, 8] 0 ?_ ?_
 ·refine ⟨[], 0, rfl, (by simp only [go_sem, hcs, Int.natCast_zero] <;> rfl), Nat.zero_le _, by simp⟩
 rintro i ⟨h1, h2⟩
 refine EvC.a ?_
 refine EvC.seq ?_
 refine EvC.cond (by simp only [go_sem] <;> rfl) (fun hc => ?_) (fun hc => ?_)
 rotate_left
 ·refine EvC.exit ?_
  have hi : ¬ i < xs.length := by simpa using hc
  refine EvC.a ?_
  refine EvC.rz ?_
  simp only [go_sem]
  rw [h2, List.drop_of_length_le (by omega)]; rfl
 have hi : i < xs.length := by simpa using hc
 have he : xs[i]? = some xs[i] := List.getElem?_eq_getElem hi
 have hd : xs.drop i = xs[i] :: xs.drop (i + 1) := List.drop_eq_getElem_cons hi
 have hm : xs[i] ∈ xs := List.getElem_mem hi
 generalize xs[i] = e at he hd hm
 refine EvC.skip ?_
 refine EvC.seq ?_
 refine EvC.block ?_
 refine EvC.a ?_
 have hq := hp e hm
 apply EvC.s1
 ·apply Tr.run
  ·simp only [go_sem, he, Mach.cells, List.length_map] <;> rfl
  ·simp; try omega
  apply Tr.cons
  ·exact .call rfl rfl (by simp only [go_sem] <;> rfl) (by simp only [go_sem] <;> rfl) (by simp only [go_sem] <;> rfl) (by simp only [go_sem, hcs] <;> rfl) (by simp only [go_sem] <;> rfl) (hq)
  apply Tr.done
  ·simp only [go_sem] <;> rfl
  ·simp
 refine EvC.cond (by simp only [go_sem] <;> rfl) (fun hc => ?_) (fun hc => ?_)
 ·refine EvC.a ?_
  refine EvC.rz ?_
  simp only [go_sem]
  rw [h2, hd, findIdxM, if_pos hc]
 refine EvC.skip ?_
 refine EvC.b ?_ (hok := by exact inI64_of (by omega) (by omega))
 refine ⟨[], i + 1, rfl, (by simp only [go_sem, hcs, Int.natCast_add, Int.natCast_one] <;> rfl), ⟨by omega, ?_⟩, by omega⟩
 rw [h2, hd, findIdxM, if_neg (by simp [hc])]; rfl
theorem clipB_is (nl : Bool) (es : List (List AV)) (c : Cp) (h : (es.all fun y => decide (y.length = 1)) = true) : PureIs prog 51 [.sl nl es c] (.sl nl es .full) := by
 refine PureIs.of1 3 [] func51 ntmps51 results51 fun _ => ?_
 refine EvC.seq (EvC.rg (by simp only [go_sem] <;> rfl) rfl ?_)
 refine EvC.a ?_ (hok := by simp [h])
 refine EvC.ret ⟨.inl rfl, _, (by simp only [go_sem] <;> rfl), rfl, rfl⟩
def rowsSm (m : Mach) : Prop := ∀ r ∈ m.rows, r.2.length < 1000000
def equalsL (m : Mach) (X : List Mach) : List Bool := X.map (eqM m)
def equalsA (m : Mach) (fs : List FA) : AV :=
 if mutErr m fs ≠ 0 then .tu [.sl true [] .unk, .sc (.int .i64 (mutErr m fs))] else .tu [.sl fs.isEmpty ((equalsL m (fs.map (mutF m))).map boolC) .full, .sc (.int .i64 0)]
theorem norefs_bools (l : List Bool) : (l.map boolC).all AV.norefs = true := by
 rw [List.all_eq_true]
 intro c hc
 obtain ⟨f, _, rfl⟩ := List.mem_map.1 hc
 rfl
theorem bool_one (l : List Bool) : ((l.map boolC).all fun y => decide (y.length = 1)) = true := by simp [List.all_eq_true, boolC]
theorem muts_sm {m : Mach} {fs : List FA} (h : mutErr m fs = 0) : ∀ x ∈ fs.map (mutF m), Valid x ∧ x.ins = m.ins := fun x hx => by
 obtain ⟨h0, _, h2⟩ := mutErr_ok h
 obtain ⟨f, hf, rfl⟩ := List.mem_map.1 hx
 exact ⟨mutF_valid (Valid.of h0) (errFs_zero h2 f hf), rfl⟩
theorem valid_sm {m : Mach} (hv : Valid m) : rowsSm m := fun r hr => by have := (hv.row r hr).1; have := hv.ins; omega
set_option maxHeartbeats 4000000 in
theorem equals19_is (m : Mach) (hm : ∀ r ∈ m.rows, r.2.length < 1000000) (hnn : NoNil m) (fn : Bool) (fs : List FA) (fc : Cp) (hfl : fs.length < 1000000) :
  PureIs prog 19 [.ag m.cells, .sl fn (fs.map FA.cells) fc] (equalsA m fs) := by
 refine PureIs.of1 3 [4, 5, 6, 7, 8, 10, 11, 20, 22, 23, 24, 25] func19 ntmps19 results19 fun _ => ?_
 have q := mutants49_is m hm hnn fn fs fc hfl
 unfold mutsA at q
 unfold equalsA
 refine EvC.a ?_ (by simp only [go_sem, Mach.cells] <;> rfl)
 refine EvC.z 0 ?_
 by_cases hE : mutErr m fs = 0
 rotate_left
 ·rw [if_neg hE] at q
  rw [if_pos hE]
  refine EvC.k1 ?_ (h1 := by simp only [go_sem, Mach.cells] <;> rfl) (c1 := .ca q)
  refine EvC.seq ?_
  refine EvC.a ?_
  refine EvC.ct ?_ (by simp only [go_sem, decide_eq_false hE] <;> rfl)
  refine EvC.a ?_
  refine EvC.rz ?_
  simp only [go_sem]
 rw [if_pos hE] at q
 rw [if_neg (show ¬ mutErr m fs ≠ 0 from fun h => h hE)]
 have hX := muts_sm hE
 have hXl : (fs.map (mutF m)).length = fs.length := List.length_map _
 generalize fs.map (mutF m) = X at q hX hXl ⊢
 have hXn := norefs_machs X
 have hfl2 := (mutErr_ok hE).2.1
 refine EvC.k1 ?_ (h1 := by simp only [go_sem, Mach.cells] <;> rfl) (c1 := .ca q) (h2 := by simp only [go_sem, hXn] <;> rfl)
 refine EvC.seq ?_
 refine EvC.a ?_
 refine EvC.cs ?_
 refine EvC.a ?_
 refine EvC.seq ?_
 refine EvC.a ?_ (by simp only [go_sem, List.length_map, hXl] <;> rfl)
 refine EvC.block ?_
 obtain ⟨N, hN⟩ : ∃ N, N = fs.length := ⟨_, rfl⟩
 have hfe : fs.isEmpty = (N == 0) := by rw [hN]; cases fs <;> rfl
 rw [← hN] at hXl hfl2 ⊢
 refine EvC.loopS (σ := Nat) (fun i => ⟨[(2, .ia m.cells), (8, .tl 0 i (i == 0)), (22, .sl fs.isEmpty (X.map Mach.cells) .unk), (23, .sc (.int .i64 N)), (24, .sc (.int .i64 i))], [], [(0, .arr 1 (((equalsL m X).take i).map boolC) true)], 1⟩) (fun i => N - i) (fun i => i ≤ N) [2, 8, 22, 23, 24] 1 ?_ ?_
 ·exact ⟨[(13, 0)], 0, rfl, (by simp only [go_sem, Int.natCast_zero, List.take_zero, List.map_nil, Mach.cells] <;> rfl), Nat.zero_le _⟩
 intro i hi
 have hel : (equalsL m X).length = N := by rw [equalsL, List.length_map, hXl]
 have hLn := norefs_bools ((equalsL m X).take i)
 have hLl : (((equalsL m X).take i).map boolC).length = i := by rw [List.length_map, List.length_take]; omega
 refine EvC.a ?_
 refine EvC.seq ?_
 refine EvC.cond (by simp only [go_sem] <;> rfl) (fun hc => ?_) (fun hc => ?_)
 rotate_left
 ·refine EvC.exit ?_
  obtain rfl : i = N := by have : ¬ i < N := (by simpa using hc); omega
  rw [List.take_of_length_le (by omega)] at hLn hLl ⊢
  have h1 := bool_one (equalsL m X)
  generalize (equalsL m X).map boolC = L at hLn hLl h1 ⊢
  refine EvC.frz 0 (by simp only [go_sem, hLn, hLl] <;> rfl) ?_
  refine EvC.k1 ?_ (h1 := by simp only [go_sem, hLl] <;> rfl) (c1 := .ca (clipB_is (i == 0) L .unk h1))
  refine EvC.rz ?_
  simp only [go_sem]
  rw [hfe]
 have hil : i < N := by simpa using hc
 clear hc
 have hge : X[i]? = some (X[i]'(by omega)) := List.getElem?_eq_getElem (by omega)
 have hxm := hX _ (List.getElem_mem (show i < X.length by omega))
 have htk : (equalsL m X).take (i + 1) = (equalsL m X).take i ++ [eqM m (X[i]'(by omega))] := by
  rw [List.take_succ_eq_append_getElem (by omega)]; simp [equalsL]
 generalize X[i]'(by omega) = x at hge hxm htk
 have hxg : (X.map Mach.cells)[i]? = some x.cells := by rw [List.getElem?_map, hge]; rfl
 have q2 := equals_equal_is m x hm (valid_sm hxm.1)
 have hit : (i : Int).toNat = i := Int.toNat_natCast i
 rw [show (equalR m x).1 = eqM m x from rfl] at q2
 simp only [Mach.cells] at q2 hxg
 refine EvC.skip ?_
 refine EvC.seq ?_
 refine EvC.block ?_
 refine EvC.a ?_ (by simp only [go_sem, hxg, hit, List.length_map, hXl] <;> rfl)
 refine EvC.z 4 ?_
 refine EvC.k1 ?_ (h1 := by simp only [go_sem, Mach.cells] <;> rfl) (c1 := .ca q2)
 have hs : ((equalsL m X).take i).map boolC ++ [[.sc (.bool (eqM m x))]] = ((equalsL m X).take (i + 1)).map boolC := by rw [htk, List.map_append]; rfl
 have hLn2 := norefs_bools ((equalsL m X).take (i + 1))
 have hr2 : room (i + 1) 1 = true := by simp only [room_eq, decide_eq_true_eq]; omega
 have hLl2 : (((equalsL m X).take (i + 1)).map boolC).length = i + 1 := by rw [List.length_map, List.length_take]; omega
 have hne : (i + 1 == 0) = false := rfl
 obtain ⟨L2, hL2⟩ : ∃ L, L = ((equalsL m X).take (i + 1)).map boolC := ⟨_, rfl⟩
 rw [← hL2] at hs hLn2 hLl2
 refine EvC.b ?_ (by simp only [go_sem, hs, hLl] <;> rfl) (by simp [hr2])
 refine EvC.b ?_ (hok := by exact inI64_of (by omega) (by omega))
 exact ⟨[(0, 0)], i + 1, rfl, (by rw [← hL2]; simp only [go_sem, Mach.cells, hLn2, hLl2, hne, Int.natCast_add, Int.natCast_one] <;> rfl), hil, by omega⟩
theorem norefs_intC (l : List Int) : (l.map intC).all AV.norefs = true := by simp [List.all_eq_true, intC, AV.norefs, AV.noref]
def distF (X : List Mach) (i : Nat) : Int := (fstM (fun x => eqM x (atM X i)) (X.take i) : Nat)
def distL (X : List Mach) : List Int := (List.range X.length).map (distF X)
def distinctA (m : Mach) (fs : List FA) : AV :=
 if mutErr m fs ≠ 0 then .tu [.sl true [] .unk, .sc (.int .i64 (mutErr m fs))] else .tu [.sl fs.isEmpty ((distL (fs.map (mutF m))).map intC) .full, .sc (.int .i64 0)]
theorem dist53_is (a b : Mach) (ha : rowsSm a) (hb : rowsSm b) : PureIs prog 53 [.ag a.cells, .ia b.cells] (.sc (.bool (eqM a b))) := by
 have q := equals_equal_is a b ha hb
 rw [show (equalR a b).1 = eqM a b from rfl] at q
 simp only [Mach.cells] at q ⊢
 refine PureIs.of1 5 [] func53 ntmps53 results53 fun _ => ?_
 refine EvC.a ?_
 refine EvC.z 0 ?_
 refine EvC.k1 ?_ (c1 := .ca q)
 refine EvC.a ?_
 refine EvC.rz ?_
 simp only [go_sem]
set_option maxHeartbeats 4000000 in
theorem distinct_is (m : Mach) (hm : ∀ r ∈ m.rows, r.2.length < 1000000) (hnn : NoNil m) (fn : Bool) (fs : List FA) (fc : Cp) (hfl : fs.length < 1000000) :
  PureIs prog 20 [.ag m.cells, .sl fn (fs.map FA.cells) fc] (distinctA m fs) := by
 refine PureIs.of1 3 [4, 5, 6, 7, 8, 9, 10, 11, 19, 21, 22, 23, 24, 34] func20 ntmps20 results20 fun _ => ?_
 have q := mutants49_is m hm hnn fn fs fc hfl
 unfold mutsA at q
 unfold distinctA
 refine EvC.a ?_ (by simp only [go_sem, Mach.cells] <;> rfl)
 refine EvC.z 0 ?_
 by_cases hE : mutErr m fs = 0
 rotate_left
 ·rw [if_neg hE] at q
  rw [if_pos hE]
  refine EvC.k1 ?_ (h1 := by simp only [go_sem, Mach.cells] <;> rfl) (c1 := .ca q)
  refine EvC.seq ?_
  refine EvC.a ?_
  refine EvC.ct ?_ (by simp only [go_sem, decide_eq_false hE] <;> rfl)
  refine EvC.a ?_
  refine EvC.rz ?_
  simp only [go_sem]
 rw [if_pos hE] at q
 rw [if_neg (show ¬ mutErr m fs ≠ 0 from fun h => h hE)]
 have hX := muts_sm hE
 have hXl : (fs.map (mutF m)).length = fs.length := List.length_map _
 generalize fs.map (mutF m) = X at q hX hXl ⊢
 have hXn := norefs_machs X
 have hfl2 := (mutErr_ok hE).2.1
 refine EvC.k1 ?_ (h1 := by simp only [go_sem, Mach.cells] <;> rfl) (c1 := .ca q) (h2 := by simp only [go_sem, hXn] <;> rfl)
 refine EvC.seq ?_
 refine EvC.a ?_
 refine EvC.cs ?_
 refine EvC.a ?_
 refine EvC.seq ?_
 refine EvC.a ?_ (by simp only [go_sem, List.length_map, hXl] <;> rfl)
 refine EvC.block ?_
 obtain ⟨N, hN⟩ : ∃ N, N = fs.length := ⟨_, rfl⟩
 have hfe : fs.isEmpty = (N == 0) := by rw [hN]; cases fs <;> rfl
 rw [← hN] at hXl hfl2 ⊢
 have hel : (distL X).length = N := by rw [distL, List.length_map, List.length_range, hXl]
 refine EvC.loopS (σ := Nat) (fun i => ⟨[(6, .sl fs.isEmpty (X.map Mach.cells) .unk), (8, .tl 0 i (i == 0)), (21, .sl fs.isEmpty (X.map Mach.cells) .unk), (22, .sc (.int .i64 N)), (23, .sc (.int .i64 i))], [], [(0, .arr 1 (((distL X).take i).map intC) true)], 1⟩) (fun i => N - i) (fun i => i ≤ N) [6, 8, 21, 22, 23] 1 ?_ ?_
 ·exact ⟨[(13, 0)], 0, rfl, (by simp only [go_sem, Int.natCast_zero, List.take_zero, List.map_nil] <;> rfl), Nat.zero_le _⟩
 intro i hi
 have hLn := norefs_intC ((distL X).take i)
 have hLl : (((distL X).take i).map intC).length = i := by rw [List.length_map, List.length_take]; omega
 refine EvC.a ?_
 refine EvC.seq ?_
 refine EvC.cond (by simp only [go_sem] <;> rfl) (fun hc => ?_) (fun hc => ?_)
 rotate_left
 ·refine EvC.exit ?_
  obtain rfl : i = N := by have : ¬ i < N := (by simpa using hc); omega
  rw [List.take_of_length_le (by omega)] at hLn hLl ⊢
  have h1 : (((distL X).map intC).all fun y => decide (y.length = 1)) = true := by simp [List.all_eq_true, intC]
  generalize (distL X).map intC = L at hLn hLl h1 ⊢
  refine EvC.frz 0 (by simp only [go_sem, hLn, hLl] <;> rfl) ?_
  refine EvC.k1 ?_ (h1 := by simp only [go_sem, hLl] <;> rfl) (c1 := .ca (clipI_is (i == 0) L .unk h1))
  refine EvC.rz ?_
  simp only [go_sem]
  rw [hfe]
 have hil : i < N := by simpa using hc
 clear hc
 have hge : X[i]? = some (X[i]'(by omega)) := List.getElem?_eq_getElem (by omega)
 have hxm := hX _ (List.getElem_mem (show i < X.length by omega))
 have hat : atM X i = X[i]'(by omega) := by rw [atM, Int.toNat_natCast, List.getD_eq_getElem?_getD, hge]; rfl
 have htk : (distL X).take (i + 1) = (distL X).take i ++ [distF X i] := by
  rw [List.take_succ_eq_append_getElem (by omega)]; simp [distL]
 rw [distF, hat] at htk
 generalize X[i]'(by omega) = x at hge hxm htk
 have hxg : (X.map Mach.cells)[i]? = some x.cells := by rw [List.getElem?_map, hge]; rfl
 have hit : (i : Int).toNat = i := Int.toNat_natCast i
 have hle := fstM_le (fun y => eqM y x) (X.take i)
 have hti : (X.take i).length = i := by rw [List.length_take]; omega
 rw [hti] at hle
 have q2 := indexM_is fs.isEmpty (X.take i) .unk 53 [.ia x.cells] (by simp [AV.norefs, AV.noref]) (fun y => eqM y x) (fun y hy => dist53_is y x (valid_sm (hX y (List.mem_of_mem_take hy)).1) (valid_sm hxm.1)) (by omega)
 rw [findIdxM_fst, hti, List.map_take, Int.zero_add] at q2
 obtain ⟨d, hd⟩ : ∃ d, d = fstM (fun y => eqM y x) (X.take i) := ⟨_, rfl⟩
 rw [← hd] at q2 htk hle
 have hxc : x.cells = [.sc (.int .i64 x.ins), .sc (.int .i64 x.outs), .sl x.nl (x.rows.map rowC) .unk] := rfl
 rw [hxc] at hxg q2
 refine EvC.skip ?_
 refine EvC.seq ?_
 refine EvC.block ?_
 refine EvC.a ?_ (by simp only [go_sem, hxg, hit, List.length_map, hXl] <;> rfl)
 refine EvC.z 5 ?_
 have hlm : (X.map Mach.cells).length = N := by rw [List.length_map, hXl]
 have hm3 : ∀ y ∈ X, (Mach.cells y).length = 3 := fun _ _ => rfl
 refine EvC.k1 ?_ (h1 := by simp only [go_sem, hit, hlm] <;> rfl) (k1 := by simp; exact ⟨hm3, by omega⟩) (c1 := .ca q2) (h2 := by simp only [go_sem, hXn] <;> rfl)
 have hs : ((distL X).take i).map intC ++ [[.sc (.int .i64 d)]] = ((distL X).take (i + 1)).map intC := by rw [htk, List.map_append]; rfl
 have hLn2 := norefs_intC ((distL X).take (i + 1))
 have hr2 : room (i + 1) 8 = true := by simp only [room_eq, decide_eq_true_eq]; omega
 have hLl2 : (((distL X).take (i + 1)).map intC).length = i + 1 := by rw [List.length_map, List.length_take]; omega
 have hne : (i + 1 == 0) = false := rfl
 obtain ⟨L2, hL2⟩ : ∃ L, L = ((distL X).take (i + 1)).map intC := ⟨_, rfl⟩
 rw [← hL2] at hs hLn2 hLl2
 refine EvC.seq ?_
 by_cases hdi : d < i
 ·rw [if_pos hdi]
  refine EvC.a ?_
  refine EvC.cs ?_ (by simp only [go_sem, decide_eq_false (show ¬ (d : Int) < 0 by omega)] <;> rfl)
  refine EvC.b ?_ (by simp only [go_sem, hs, hLl] <;> rfl) (by simp [hr2])
  refine EvC.b ?_ (hok := by exact inI64_of (by omega) (by omega))
  exact ⟨[(0, 0)], i + 1, rfl, (by rw [← hL2]; simp only [go_sem, hLn2, hLl2, hne, Int.natCast_add, Int.natCast_one] <;> rfl), hil, by omega⟩
 ·obtain rfl : d = i := by omega
  rw [if_neg hdi]
  refine EvC.a ?_
  refine EvC.ct ?_
  refine EvC.b ?_
  refine EvC.b ?_ (by simp only [go_sem, hs, hLl] <;> rfl) (by simp [hr2])
  refine EvC.b ?_ (hok := by exact inI64_of (by omega) (by omega))
  exact ⟨[(0, 0)], d + 1, rfl, (by rw [← hL2]; simp only [go_sem, hLn2, hLl2, hne, Int.natCast_add, Int.natCast_one] <;> rfl), hil, by omega⟩
def idxI (x : Int) : List Int → Int → Int
 | [], _ => -1
 | e :: es, i => if x = e then i else idxI x es (i + 1)
theorem idxI_any (x : Int) : ∀ (es : List Int) (i : Int), 0 ≤ i → decide (0 ≤ idxI x es i) = es.contains x
 | [], i, _ => by simp [idxI]
 | e :: es, i, h => by
   unfold idxI
   split
   ·rename_i hp; simp [hp, h]
   ·rename_i hp
    rw [idxI_any x es (i + 1) (by omega)]
    simp [hp]
theorem indexI_is (nl : Bool) (xs : List Int) (c : Cp) (x : Int) (hl : xs.length < 1000000) :
  PureIs prog 127 [.sl nl (xs.map intC) c, .sc (.int .i64 x)] (.sc (.int .i64 (idxI x xs 0))) := by
 refine PureIs.of1 2 [4, 5, 7, 8, 9, 16] func127 ntmps127 results127 fun _ => ?_
 refine EvC.a ?_
 refine EvC.seq ?_
 refine EvC.a ?_ (by simp only [go_sem, List.length_map] <;> rfl)
 refine EvC.block ?_
 refine EvC.loopS (σ := Nat) (fun i => ⟨[(0, .sl nl (xs.map intC) c), (1, .sc (.int .i64 x)), (7, .sc (.int .i64 xs.length)), (8, .sc (.int .i64 i))], [], [], 0⟩) (fun i => xs.length - i) (fun i => i ≤ xs.length ∧ idxI x xs 0 = idxI x (xs.drop i) i) [0, 1, 7, 8] 0 ?_ ?_
 ·refine ⟨[], 0, rfl, (by simp only [go_sem, Int.natCast_zero] <;> rfl), Nat.zero_le _, by simp⟩
 rintro i ⟨h1, h2⟩
 refine EvC.a ?_
 refine EvC.seq ?_
 refine EvC.cond (by simp only [go_sem] <;> rfl) (fun hc => ?_) (fun hc => ?_)
 rotate_left
 ·refine EvC.exit ?_
  have hi : ¬ i < xs.length := by simpa using hc
  refine EvC.a ?_
  refine EvC.rz ?_
  simp only [go_sem]
  rw [h2, List.drop_of_length_le (by omega)]; rfl
 have hi : i < xs.length := by simpa using hc
 clear hc
 have he : xs[i]? = some xs[i] := List.getElem?_eq_getElem hi
 have hd : xs.drop i = xs[i] :: xs.drop (i + 1) := List.drop_eq_getElem_cons hi
 generalize xs[i] = e at he hd
 have hg : (xs.map intC)[i]? = some [.sc (.int .i64 e)] := by rw [List.getElem?_map, he]; rfl
 have hit : (i : Int).toNat = i := Int.toNat_natCast i
 rw [hd, idxI] at h2
 refine EvC.skip ?_
 refine EvC.seq ?_
 refine EvC.block ?_
 refine EvC.a ?_
 refine EvC.a ?_ (by simp only [go_sem, hg, hit, List.length_map] <;> rfl) (by simp; try omega)
 by_cases hxe : x = e
 ·rw [if_pos hxe] at h2
  refine EvC.ct ?_ (by simp only [go_sem, decide_eq_true hxe] <;> rfl)
  rw [h2]
  refine EvC.a ?_
  refine EvC.rz ?_
  simp only [go_sem]
 ·rw [if_neg hxe] at h2
  refine EvC.cs ?_ (by simp only [go_sem, decide_eq_false hxe] <;> rfl)
  refine EvC.b ?_ (hok := by exact inI64_of (by omega) (by omega))
  exact ⟨[], i + 1, rfl, (by simp only [go_sem, Int.natCast_add, Int.natCast_one] <;> rfl), ⟨by omega, h2⟩, by omega⟩
theorem containsI_is (nl : Bool) (xs : List Int) (c : Cp) (x : Int) (hl : xs.length < 1000000) :
  PureIs prog 115 [.sl nl (xs.map intC) c, .sc (.int .i64 x)] (.sc (.bool (xs.contains x))) := by
 refine PureIs.of1 2 [4] func115 ntmps115 results115 fun _ => ?_
 refine EvC.a ?_
 refine EvC.k1 ?_ (c1 := .ca (indexI_is nl xs c x hl))
 refine EvC.rz ?_
 simp only [go_sem]
 rw [idxI_any x xs 0 (Int.le_refl _)]
theorem has93_is (nl : Bool) (xs : List Int) (c : Cp) (x : Int) (hl : xs.length < 1000000) :
  PureIs prog 93 [.ag [.sl nl (xs.map intC) c], .sc (.int .i64 x)] (.sc (.bool (xs.contains x))) := by
 refine PureIs.of1 3 [4] func93 ntmps93 results93 fun _ => ?_
 refine EvC.a ?_
 refine EvC.z 0 ?_
 refine EvC.k1 ?_ (c1 := .ca (containsI_is nl xs c x hl))
 refine EvC.rz ?_
 simp only [go_sem]
theorem within92_is (nl : Bool) (xs : List Int) (c : Cp) (x : Int) (hl : xs.length < 1000000) :
  PureIs prog 92 [.sc (.int .i64 x), .ia [.sl nl (xs.map intC) c]] (.sc (.bool (!xs.contains x))) := by
 refine PureIs.of1 2 [3] func92 ntmps92 results92 fun _ => ?_
 refine EvC.a ?_
 refine EvC.k1 ?_ (c1 := .ca (has93_is nl xs c x hl))
 refine EvC.rz ?_
 simp only [go_sem]
def subB (a b : List Int) : Bool := !(a.any fun x => !b.contains x)
theorem within63_is (na : Bool) (a : List Int) (ca : Cp) (nb : Bool) (b : List Int) (cb : Cp) (ha : a.length < 1000000) (hb : b.length < 1000000) :
  PureIs prog 63 [.ag [.sl na (a.map intC) ca], .ag [.sl nb (b.map intC) cb]] (.sc (.bool (subB a b))) := by
 have hbn := norefs_intC b
 have q := containsInt_is na a ca 92 [.ia [.sl nb (b.map intC) cb]] (by simp [AV.norefs, AV.noref]) (fun x => !b.contains x) (fun x _ => within92_is nb b cb x hb) ha
 refine PureIs.of1 5 [] func63 ntmps63 results63 fun _ => ?_
 refine EvC.a ?_
 refine EvC.z 0 ?_
 refine EvC.z 1 ?_
 refine EvC.k1 ?_ (c1 := .ca q)
 refine EvC.rz ?_
 simp only [go_sem]
 rfl
def killL (m t : Mach) : List RW → Nat → List Int
 | [], _ => []
 | w :: ws, i => if runR m 0 w.2.1 = runR t 0 w.2.1 then killL m t ws (i + 1) else (i : Int) :: killL m t ws (i + 1)
theorem killL_len (m t : Mach) : ∀ (ws : List RW) (i : Nat), (killL m t ws i).length ≤ ws.length
 | [], _ => Nat.le_refl _
 | w :: ws, i => by
   have := killL_len m t ws (i + 1)
   rw [killL]
   split <;> simp only [List.length_cons] <;> omega
def killersA (m : Mach) (W : List RW) (f : FA) : AV :=
 if checkF m f ≠ 0 then .tu [.ag [.sl true [] .zer], .sc (.int .i64 (checkF m f))]
 else .tu [.ag [.sl (killL m (mutF m f) W 0).isEmpty ((killL m (mutF m f) W 0).map intC) .unk], .sc (.int .i64 0)]
structure WordsOk (m : Mach) (W : List RW) : Prop where
 e : ∀ w ∈ W, wordErr m.ins w.2.1 = 0
 l : ∀ w ∈ W, w.2.1.length < 1000000
 n : W.length < 1000000
set_option maxHeartbeats 4000000 in
theorem killers_is {m : Mach} (hv : Valid m) (hnn : NoNil m) (wn : Bool) (W : List RW) (wc : Cp) (hW : WordsOk m W) (f : FA) :
  PureIs prog 62 [.ag m.cells, .sl wn (W.map rwC) wc, .ag f.cells] (killersA m W f) := by
 have q := apply71_is hv (checkM_of hv) hnn f
 unfold applyR at q
 unfold killersA
 have hWn := norefs_rw W
 have hfc : f.cells = [.sc (.int .i64 f.kind), .sc (.int .i64 f.state), .sc (.int .i64 f.input), .sc (.int .i64 f.to), .sc (.int .i64 f.at'), .sc (.int .i64 f.out)] := rfl
 rw [hfc] at q ⊢
 refine PureIs.of1 4 [5, 6, 7, 8, 9, 10, 11, 13, 22, 25, 26, 27, 28, 47] func62 ntmps62 results62 fun _ => ?_
 refine EvC.a ?_ (by simp only [go_sem, Mach.cells] <;> rfl)
 refine EvC.z 0 ?_
 refine EvC.z 1 ?_
 by_cases h0 : checkF m f = 0
 rotate_left
 ·rw [if_neg h0] at q
  rw [if_pos h0]
  refine EvC.k1 ?_ (h1 := by simp only [go_sem, Mach.cells] <;> rfl) (c1 := .ca q)
  refine EvC.seq ?_
  refine EvC.a ?_
  refine EvC.ct ?_ (by simp only [go_sem, decide_eq_false h0] <;> rfl)
  refine EvC.a ?_
  refine EvC.rz ?_
  simp only [go_sem]
 rw [if_pos h0] at q
 rw [if_neg (show ¬ checkF m f ≠ 0 from fun h => h h0)]
 have hvt := mutF_valid hv h0
 have hti : (mutF m f).ins = m.ins := rfl
 obtain ⟨t, ht⟩ : ∃ t, t = mutF m f := ⟨_, rfl⟩
 rw [← ht] at q hvt hti ⊢
 have htc : t.cells = [.sc (.int .i64 t.ins), .sc (.int .i64 t.outs), .sl t.nl (t.rows.map rowC) .unk] := rfl
 rw [htc] at q
 refine EvC.k1 ?_ (h1 := by simp only [go_sem, Mach.cells] <;> rfl) (c1 := .ca q)
 refine EvC.z 10 ?_
 refine EvC.seq ?_
 refine EvC.a ?_
 refine EvC.cs ?_
 refine EvC.seq ?_
 refine EvC.a ?_ (by simp only [go_sem, List.length_map] <;> rfl)
 refine EvC.block ?_
 refine EvC.gcTo ⟨[(3, .ia m.cells), (6, .rf 0 0), (8, .ia t.cells), (25, .sl wn (W.map rwC) wc), (26, .sc (.int .i64 W.length)), (27, .sc (.int .i64 0))], [], [(0, .cells [.sl true [] .zer])], 1⟩ [3, 6, 8, 25, 26, 27] [(2, 0)] rfl (by simp only [go_sem, Mach.cells] <;> rfl) ?_
 refine EvC.ownC 0 0 1 (by simp only [go_sem] <;> rfl) ?_
 have hWe := hW.e
 have hWl := hW.l
 have hWn2 := hW.n
 refine EvC.loopS (σ := Nat × List Int) (fun g => ⟨[(3, .ia m.cells), (6, .rf 0 0), (8, .ia t.cells), (25, .sl wn (W.map rwC) wc), (26, .sc (.int .i64 W.length)), (27, .sc (.int .i64 g.1))], [], [(0, .cells [.tl 1 g.2.length g.2.isEmpty]), (1, .arr 1 (g.2.map intC) true)], 2⟩) (fun g => W.length - g.1) (fun g => g.1 ≤ W.length ∧ killL m t W 0 = g.2 ++ killL m t (W.drop g.1) g.1 ∧ g.2.length ≤ g.1) [3, 6, 8, 25, 26, 27] 2 ?_ ?_
 ·exact ⟨[(0, 0), (1, 1)], (0, []), rfl, (by simp only [go_sem, Int.natCast_zero, List.map_nil, List.length_nil, List.isEmpty_nil, Mach.cells] <;> rfl), Nat.zero_le _, rfl, Nat.le_refl _⟩
 rintro ⟨i, L⟩ ⟨i1, i2, i3⟩
 simp only at i1 i2 i3 ⊢
 have hLn := norefs_intC L
 have hLl : (L.map intC).length = L.length := List.length_map _
 refine EvC.a ?_
 refine EvC.seq ?_
 refine EvC.cond (by simp only [go_sem] <;> rfl) (fun hc => ?_) (fun hc => ?_)
 rotate_left
 ·refine EvC.exit ?_
  obtain rfl : i = W.length := by have : ¬ i < W.length := (by simpa using hc); omega
  clear hc
  rw [List.drop_length, killL, List.append_nil] at i2
  rw [i2]
  generalize L.map intC = L1 at hLn hLl ⊢
  refine EvC.frzD 1 (by simp only [go_sem, hLn, hLl] <;> rfl) ?_
  refine EvC.a ?_
  refine EvC.rz ?_
  simp only [go_sem]
 have hil : i < W.length := by simpa using hc
 clear hc
 have hge := List.getElem?_eq_getElem hil
 have hwm := List.getElem_mem hil
 have hdr : W.drop i = W[i] :: W.drop (i + 1) := List.drop_eq_getElem_cons hil
 generalize W[i] = w at hge hwm hdr
 have hwg : (W.map rwC)[i]? = some [.sl w.1 (w.2.1.map intC) w.2.2] := by rw [List.getElem?_map, hge]; rfl
 have hit : (i : Int).toNat = i := Int.toNat_natCast i
 rw [hdr, killL] at i2
 have hmr := hv.rows
 have htr := hvt.rows
 have q1 := run52_is hv 0 (by omega) w.1 w.2.1 w.2.2 (hWe w hwm) (hWl w hwm)
 have q2 := run52_is hvt 0 (by omega) w.1 w.2.1 w.2.2 (by rw [hti]; exact hWe w hwm) (hWl w hwm)
 have hr1 : (runR m 0 w.2.1).length < 1000000 := by rw [runR_len]; exact hWl w hwm
 have q3 := equal53_is false false (runR m 0 w.2.1) (runR t 0 w.2.1) .unk .unk hr1
 rw [show m.cells = [.sc (.int .i64 m.ins), .sc (.int .i64 m.outs), .sl m.nl (m.rows.map rowC) .unk] from rfl] at q1
 rw [htc] at q2
 refine EvC.skip ?_
 refine EvC.seq ?_
 refine EvC.block ?_
 refine EvC.a ?_ (by simp only [go_sem, hwg, hit, List.length_map] <;> rfl) (by simp; try omega)
 refine EvC.k1 ?_ (h1 := by simp only [go_sem, Mach.cells] <;> rfl) (c1 := .ca q1)
 refine EvC.k1 ?_ (h1 := by simp only [go_sem, Mach.cells] <;> rfl) (c1 := .ca q2)
 refine EvC.k1 ?_ (c1 := .ca q3)
 by_cases he : runR m 0 w.2.1 = runR t 0 w.2.1
 ·rw [if_pos he] at i2
  refine EvC.cs ?_ (by simp only [go_sem, decide_eq_true he] <;> rfl)
  refine EvC.b ?_ (hok := by exact inI64_of (by omega) (by omega))
  exact ⟨[(0, 0), (1, 1)], (i + 1, L), rfl, (by simp only [go_sem, hLn, Mach.cells, Int.natCast_add, Int.natCast_one] <;> rfl), ⟨hil, i2, by simp only; omega⟩, by simp only; omega⟩
 ·rw [if_neg he] at i2
  refine EvC.ct ?_ (by simp only [go_sem, decide_eq_false he] <;> rfl)
  have hs : L.map intC ++ [[.sc (.int .i64 i)]] = (L ++ [(i : Int)]).map intC := by rw [List.map_append]; rfl
  have hl2 : L.length + 1 = (L ++ [(i : Int)]).length := by simp
  have hn2 : (L ++ [(i : Int)]).isEmpty = false := by simp
  have hr2 : room (L.length + 1) 8 = true := by simp only [room_eq, decide_eq_true_eq]; omega
  have hk : killL m t W 0 = (L ++ [(i : Int)]) ++ killL m t (W.drop (i + 1)) (i + 1) := by rw [i2]; simp
  have hLn2 := norefs_intC (L ++ [(i : Int)])
  have hLl2 : ((L ++ [(i : Int)]).map intC).length = (L ++ [(i : Int)]).length := List.length_map _
  have hle : (L ++ [(i : Int)]).length ≤ i + 1 := by simp; omega
  rw [hl2] at hr2
  generalize L ++ [(i : Int)] = L2 at hs hl2 hn2 hr2 hk hLn2 hLl2 hle
  obtain ⟨U, hU⟩ : ∃ U, U = L2.map intC := ⟨_, rfl⟩
  rw [← hU] at hs hLn2 hLl2
  refine EvC.b ?_ (by simp only [go_sem, hs, hl2, hLl] <;> rfl) (by simp [hr2])
  refine EvC.b ?_ (hok := by exact inI64_of (by omega) (by omega))
  exact ⟨[(0, 0), (1, 1)], (i + 1, L2), rfl, (by rw [hn2, ← hU]; simp only [go_sem, hLn2, hLl2, Mach.cells, Int.natCast_add, Int.natCast_one] <;> rfl), ⟨hil, hk, by simp only; omega⟩, by simp only; omega⟩
def sCmp : List Int → List Int → Int
 | [], [] => 0
 | [], _ :: _ => -1
 | _ :: _, [] => 1
 | x :: a, y :: b => if cmpJ x y ≠ 0 then cmpJ x y else sCmp a b
theorem sCmp_eq : ∀ {a b : List Int}, a.length = b.length → sCmp a b = cmpI a b
 | [], [], _ => rfl
 | [], _ :: _, h => by simp at h
 | _ :: _, [], h => by simp at h
 | x :: a, y :: b, h => by
   have ih := sCmp_eq (a := a) (b := b) (by simpa using h)
   rw [sCmp, cmpI, ih]
   unfold cmpJ
   by_cases h1 : x < y
   ·simp [h1]
   ·by_cases h2 : y < x
    ·simp [h1, h2]
    ·simp [h1, h2]
theorem sCompare_is (na : Bool) (a : List Int) (ca : Cp) (nb : Bool) (b : List Int) (cb : Cp) (ha : a.length < 1000000) :
  PureIs prog 131 [.sl na (a.map intC) ca, .sl nb (b.map intC) cb] (.sc (.int .i64 (sCmp a b))) := by
 have hal : (a.map intC).length = a.length := List.length_map _
 have hbl : (b.map intC).length = b.length := List.length_map _
 have hag : ∀ (i : Nat) (x : Int), a[i]? = some x → (a.map intC)[i]? = some [.sc (.int .i64 x)] := fun i x h => by rw [List.getElem?_map, h]; rfl
 have hbg : ∀ (i : Nat) (x : Int), b[i]? = some x → (b.map intC)[i]? = some [.sc (.int .i64 x)] := fun i x h => by rw [List.getElem?_map, h]; rfl
 generalize a.map intC = A at hal hag ⊢
 generalize b.map intC = B at hbl hbg ⊢
 refine PureIs.of1 2 [4, 5, 6, 7, 8, 9, 10, 11, 12, 19, 28, 35] func131 ntmps131 results131 fun _ => ?_
 refine EvC.a ?_
 refine EvC.seq ?_
 refine EvC.a ?_ (by simp only [go_sem, hal] <;> rfl)
 refine EvC.block ?_
 refine EvC.loopS (σ := Nat) (fun i => ⟨[(0, .sl na A ca), (1, .sl nb B cb), (9, .sl na A ca), (10, .sc (.int .i64 a.length)), (11, .sc (.int .i64 i))], [], [], 0⟩) (fun i => a.length - i) (fun i => i ≤ a.length ∧ i ≤ b.length ∧ sCmp a b = sCmp (a.drop i) (b.drop i)) [0, 1, 9, 10, 11] 0 ?_ ?_
 ·exact ⟨[], 0, rfl, (by simp only [go_sem, Int.natCast_zero] <;> rfl), Nat.zero_le _, Nat.zero_le _, rfl⟩
 rintro i ⟨i1, i2, i3⟩
 refine EvC.a ?_
 refine EvC.seq ?_
 by_cases hi : i < a.length
 rotate_left
 ·refine EvC.cf ?_ (by simp only [go_sem, decide_eq_false (show ¬ (i : Int) < a.length by omega)] <;> rfl)
  refine EvC.exit ?_
  rw [List.drop_of_length_le (l := a) (by omega)] at i3
  refine EvC.seq ?_
  refine EvC.a ?_ (by simp only [go_sem, hal, hbl] <;> rfl)
  by_cases hb : b.length = a.length
  ·rw [List.drop_of_length_le (by omega), sCmp] at i3
   refine EvC.cs ?_ (by simp only [go_sem, decide_eq_false (show ¬ (a.length : Int) < b.length by omega)] <;> rfl)
   rw [i3]
   refine EvC.a ?_
   refine EvC.rz ?_
   simp only [go_sem]
  ·rw [List.drop_eq_getElem_cons (show i < b.length by omega), sCmp] at i3
   refine EvC.ct ?_ (by simp only [go_sem, decide_eq_true (show (a.length : Int) < b.length by omega)] <;> rfl)
   rw [i3]
   refine EvC.a ?_
   refine EvC.rz ?_
   simp only [go_sem]
 have hge := List.getElem?_eq_getElem hi
 have hda : a.drop i = a[i] :: a.drop (i + 1) := List.drop_eq_getElem_cons hi
 generalize a[i] = x at hge hda
 rw [hda] at i3
 have hxg := hag i x hge
 have hit : (i : Int).toNat = i := Int.toNat_natCast i
 refine EvC.cr ?_ (by simp only [go_sem, decide_eq_true (show (i : Int) < a.length by omega)] <;> rfl)
 refine EvC.seq ?_
 refine EvC.block ?_
 refine EvC.a ?_ (by simp only [go_sem, hxg, hit, hal] <;> rfl) (by simp; try omega)
 refine EvC.seq ?_
 refine EvC.a ?_ (by simp only [go_sem, hbl] <;> rfl)
 by_cases hb : i < b.length
 rotate_left
 ·rw [List.drop_of_length_le (l := b) (by omega), sCmp] at i3
  refine EvC.ct ?_ (by simp only [go_sem, decide_eq_true (show (b.length : Int) ≤ i by omega)] <;> rfl)
  rw [i3]
  refine EvC.a ?_
  refine EvC.rz ?_
  simp only [go_sem]
 have hgb := List.getElem?_eq_getElem hb
 have hdb : b.drop i = b[i] :: b.drop (i + 1) := List.drop_eq_getElem_cons hb
 generalize b[i] = y at hgb hdb
 rw [hdb, sCmp] at i3
 have hyg := hbg i y hgb
 refine EvC.cs ?_ (by simp only [go_sem, decide_eq_false (show ¬ (b.length : Int) ≤ i by omega)] <;> rfl)
 refine EvC.a ?_ (by simp only [go_sem, hyg, hit, hbl] <;> rfl) (by simp; try omega)
 refine EvC.k1 ?_ (c1 := .ca (compareI_is x y))
 refine EvC.a ?_
 by_cases hc : cmpJ x y = 0
 ·rw [if_neg (fun h => h hc)] at i3
  refine EvC.cs ?_ (by simp only [go_sem, decide_eq_true hc] <;> rfl)
  refine EvC.b ?_ (hok := by exact inI64_of (by omega) (by omega))
  exact ⟨[], i + 1, rfl, (by simp only [go_sem, Int.natCast_add, Int.natCast_one] <;> rfl), ⟨hi, hb, i3⟩, by omega⟩
 ·rw [if_pos hc] at i3
  refine EvC.ct ?_ (by simp only [go_sem, decide_eq_false hc] <;> rfl)
  rw [i3]
  refine EvC.a ?_
  refine EvC.rz ?_
  simp only [go_sem]
theorem wCompare_is (na : Bool) (a : List Int) (ca : Cp) (nb : Bool) (b : List Int) (cb : Cp) (ha : a.length < 1000000) :
  PureIs prog 125 [.sl na (a.map intC) ca, .sl nb (b.map intC) cb] (.sc (.int .i64 (cmpL a b))) := by
 have q := orI_is false [cmpJ a.length b.length, sCmp a b] .full (by simp)
 simp only [List.map_cons, List.map_nil, intC] at q
 have hR : orR [cmpJ a.length b.length, sCmp a b] = cmpL a b := by
  simp only [orR, cmpL, cmpJ]
  by_cases h : a.length = b.length
  ·rw [sCmp_eq h, if_pos h]
   by_cases hz : cmpI a b = 0 <;> simp [h, hz]
  ·by_cases h2 : a.length < b.length
   ·simp [h, h2]
   ·simp [h, h2, show b.length < a.length by omega]
 rw [hR] at q
 refine PureIs.of1 2 [4] func125 ntmps125 results125 fun _ => ?_
 refine EvC.a ?_
 refine EvC.k3 ?_ (h1 := by simp only [go_sem, List.length_map] <;> rfl) (c1 := .ca (compareI_is a.length b.length)) (h2 := by simp only [go_sem, List.length_map] <;> rfl) (c2 := .ca (sCompare_is na a ca nb b cb ha)) (h3 := by simp only [go_sem, List.length_map] <;> rfl) (c3 := .ca q)
 refine EvC.rz ?_
 simp only [go_sem]
def stepsW (W : List RW) : Nat := (W.map fun w => w.2.1.length).sum
def aheadB : List RW → Bool
 | [] => true
 | [_] => true
 | a :: b :: l => decide (cmpL a.2.1 b.2.1 < 0) && aheadB (b :: l)
def errW (n : Int) : List RW → Int
 | [] => 0
 | w :: W => if wordErr n w.2.1 ≠ 0 then wordErr n w.2.1 else errW n W
def looseE (n : Int) (W : List RW) : Int := if 16 < n ∨ 4096 < (W.length : Int) then 3 else if n < 1 then 1 else errW n W
def triesE (n : Int) (W : List RW) : Int := if looseE n W ≠ 0 then looseE n W else if aheadB W = false then 1 else if 65536 < (stepsW W : Int) then 3 else 0
def readyE (m : Mach) (W : List RW) : Int := if checkM m ≠ 0 then checkM m else triesE m.ins W
theorem rw_get {W : List RW} {i : Nat} {w : RW} (h : W[i]? = some w) : (W.map rwC)[i]? = some [.sl w.1 (w.2.1.map intC) w.2.2] := by rw [List.getElem?_map, h]; rfl
theorem loose_is (wn : Bool) (W : List RW) (wc : Cp) (n : Int) (hW : ∀ w ∈ W, w.2.1.length < 1000000) (hWl : W.length < 1000000) :
  PureIs prog 108 [.sl wn (W.map rwC) wc, .sc (.int .i64 n)] (.sc (.int .i64 (looseE n W))) := by
 have hWn := norefs_rw W
 have hl : (W.map rwC).length = W.length := List.length_map _
 refine PureIs.of1 2 [4, 6, 7, 14, 16, 17, 18, 19, 20, 27] func108 ntmps108 results108 fun _ => ?_
 refine EvC.a ?_
 refine EvC.seq ?_
 by_cases c1 : 16 < n
 ·rw [show looseE n W = 3 by unfold looseE; rw [if_pos (.inl c1)]]
  refine EvC.g ?_ (h := by simp only [go_sem, decide_eq_true c1, hl] <;> rfl)
  refine EvC.ct ?_
  refine EvC.a ?_
  refine EvC.rz ?_
  simp only [go_sem]
 by_cases c2 : 4096 < (W.length : Int)
 ·rw [show looseE n W = 3 by unfold looseE; rw [if_pos (.inr c2)]]
  refine EvC.g ?_ (h := by simp only [go_sem, decide_eq_false c1, decide_eq_true c2, hl] <;> rfl)
  refine EvC.ct ?_
  refine EvC.a ?_
  refine EvC.rz ?_
  simp only [go_sem]
 refine EvC.g ?_ (h := by simp only [go_sem, decide_eq_false c1, decide_eq_false c2, hl] <;> rfl)
 refine EvC.cs ?_
 refine EvC.seq ?_
 refine EvC.a ?_
 by_cases c3 : n < 1
 ·rw [show looseE n W = 1 by unfold looseE; rw [if_neg (fun h => h.elim c1 c2), if_pos c3]]
  refine EvC.ct ?_ (by simp only [go_sem, decide_eq_true c3] <;> rfl)
  refine EvC.a ?_
  refine EvC.rz ?_
  simp only [go_sem]
 rw [show looseE n W = errW n W by unfold looseE; rw [if_neg (fun h => h.elim c1 c2), if_neg c3]]
 refine EvC.cs ?_ (by simp only [go_sem, decide_eq_false c3] <;> rfl)
 refine EvC.seq ?_
 refine EvC.a ?_ (by simp only [go_sem, hl] <;> rfl)
 refine EvC.block ?_
 refine EvC.loopS (σ := Nat) (fun i => ⟨[(1, .sc (.int .i64 n)), (17, .sl wn (W.map rwC) wc), (18, .sc (.int .i64 W.length)), (19, .sc (.int .i64 i))], [], [], 0⟩) (fun i => W.length - i) (fun i => i ≤ W.length ∧ errW n W = errW n (W.drop i)) [1, 17, 18, 19] 0 ?_ ?_
 ·exact ⟨[], 0, rfl, (by simp only [go_sem, Int.natCast_zero] <;> rfl), Nat.zero_le _, rfl⟩
 rintro i ⟨i1, i2⟩
 refine EvC.a ?_
 refine EvC.seq ?_
 refine EvC.cond (by simp only [go_sem] <;> rfl) (fun hc => ?_) (fun hc => ?_)
 rotate_left
 ·refine EvC.exit ?_
  have hi : ¬ i < W.length := by simpa using hc
  rw [List.drop_of_length_le (by omega), errW] at i2
  rw [i2]
  refine EvC.a ?_
  refine EvC.rz ?_
  simp only [go_sem]
 have hil : i < W.length := by simpa using hc
 clear hc
 have hge := List.getElem?_eq_getElem hil
 have hwm := List.getElem_mem hil
 have hdr : W.drop i = W[i] :: W.drop (i + 1) := List.drop_eq_getElem_cons hil
 generalize W[i] = w at hge hwm hdr
 have hwg := rw_get hge
 have hit : (i : Int).toNat = i := Int.toNat_natCast i
 rw [hdr, errW] at i2
 refine EvC.skip ?_
 refine EvC.seq ?_
 refine EvC.block ?_
 refine EvC.a ?_ (by simp only [go_sem, hwg, hit, hl] <;> rfl) (by simp; try omega)
 refine EvC.k1 ?_ (c1 := .ca (wordCheck_is w.1 w.2.1 w.2.2 n (hW w hwm)))
 refine EvC.a ?_
 by_cases he : wordErr n w.2.1 = 0
 ·rw [if_neg (fun h => h he)] at i2
  refine EvC.cs ?_ (by simp only [go_sem, decide_eq_true he] <;> rfl)
  refine EvC.b ?_ (hok := by exact inI64_of (by omega) (by omega))
  exact ⟨[], i + 1, rfl, (by simp only [go_sem, Int.natCast_add, Int.natCast_one] <;> rfl), ⟨hil, i2⟩, by omega⟩
 ·rw [if_pos he] at i2
  refine EvC.ct ?_ (by simp only [go_sem, decide_eq_false he] <;> rfl)
  rw [i2]
  refine EvC.a ?_
  refine EvC.rz ?_
  simp only [go_sem]
theorem aheadB_drop {W : List RW} {i : Nat} (h : i + 1 < W.length) : aheadB (W.drop i) = (decide (cmpL (W[i]'(by omega)).2.1 (W[i + 1]).2.1 < 0) && aheadB (W.drop (i + 1))) := by
 rw [List.drop_eq_getElem_cons (show i < W.length by omega), List.drop_eq_getElem_cons h, aheadB]
theorem ahead_is (wn : Bool) (W : List RW) (wc : Cp) (hW : ∀ w ∈ W, w.2.1.length < 1000000) (hWl : W.length < 1000000) :
  PureIs prog 109 [.sl wn (W.map rwC) wc] (.sc (.bool (aheadB W))) := by
 have hWn := norefs_rw W
 have hl : (W.map rwC).length = W.length := List.length_map _
 refine PureIs.of1 1 [2, 3, 7, 20] func109 ntmps109 results109 fun _ => ?_
 refine EvC.a ?_
 refine EvC.seq ?_
 refine EvC.a ?_
 refine EvC.block ?_
 refine EvC.loopS (σ := Nat) (fun i => ⟨[(0, .sl wn (W.map rwC) wc), (3, .sc (.int .i64 ((i + 1 : Nat) : Int)))], [], [], 0⟩) (fun i => W.length - i) (fun i => (i < W.length ∨ i = 0) ∧ aheadB W = aheadB (W.drop i)) [0, 3] 0 ?_ ?_
 ·exact ⟨[], 0, rfl, (by simp only [go_sem, show ((0 + 1 : Nat) : Int) = 1 from rfl] <;> rfl), .inr rfl, rfl⟩
 rintro i ⟨i1, i2⟩
 obtain ⟨iZ, hiZ⟩ : ∃ z : Int, z = ((i + 1 : Nat) : Int) := ⟨_, rfl⟩
 rw [← hiZ]
 refine EvC.seq ?_
 refine EvC.a ?_ (by simp only [go_sem, hl] <;> rfl)
 by_cases hil : i + 1 < W.length
 rotate_left
 ·refine EvC.cf ?_ (by simp only [go_sem, decide_eq_false (show ¬ iZ < (W.length : Int) by omega)] <;> rfl)
  refine EvC.exit ?_
  have : aheadB (W.drop i) = true := by
   have hd : (W.drop i).length ≤ 1 := by rw [List.length_drop]; omega
   match W.drop i, hd with
   | [], _ => rfl
   | [_], _ => rfl
  rw [i2, this]
  refine EvC.a ?_
  refine EvC.rz ?_
  simp only [go_sem]
 rw [aheadB_drop hil] at i2
 have hga := List.getElem?_eq_getElem (show i < W.length by omega)
 have hgb := List.getElem?_eq_getElem hil
 have ham := hW _ (List.getElem_mem (show i < W.length by omega))
 generalize W[i]'(by omega) = a at hga i2 ham
 generalize W[i + 1] = b at hgb i2
 have hag := rw_get hga
 have hbg := rw_get hgb
 have h1 : (iZ - 1).toNat = i := by omega
 have h2 : iZ.toNat = i + 1 := by omega
 have hI : inI64 (iZ - 1) = true := inI64_of (by omega) (by omega)
 have hb : 1 ≤ iZ ∧ i < W.length ∧ 0 ≤ iZ := by omega
 have q := wCompare_is a.1 a.2.1 a.2.2 b.1 b.2.1 b.2.2 ham
 refine EvC.cr ?_ (by simp only [go_sem, decide_eq_true (show iZ < (W.length : Int) by omega)] <;> rfl)
 refine EvC.seq ?_
 refine EvC.block ?_
 refine EvC.k1D mixed ?_ (h1 := by simp only [go_sem, hag, hbg, h1, h2, hl] <;> rfl) (k1 := by simp [hI, hb, hil]; try omega) (c1 := .ca q) (h2 := by simp only [go_sem, hWn] <;> rfl)
 by_cases hc : cmpL a.2.1 b.2.1 < 0
 ·rw [decide_eq_true hc, Bool.true_and] at i2
  refine EvC.cs ?_ (by simp only [go_sem, decide_eq_false (show ¬ 0 ≤ cmpL a.2.1 b.2.1 by omega)] <;> rfl)
  refine EvC.b ?_ (hok := by exact inI64_of (by omega) (by omega))
  exact ⟨[], i + 1, rfl, (by rw [show ((i + 1 + 1 : Nat) : Int) = iZ + 1 by omega]; simp only [go_sem] <;> rfl), ⟨.inl hil, i2⟩, by omega⟩
 ·rw [decide_eq_false hc, Bool.false_and] at i2
  refine EvC.ct ?_ (by simp only [go_sem, decide_eq_true (show 0 ≤ cmpL a.2.1 b.2.1 by omega)] <;> rfl)
  rw [i2]
  refine EvC.a ?_
  refine EvC.rz ?_
  simp only [go_sem]
theorem steps_is (wn : Bool) (W : List RW) (wc : Cp) (hW : ∀ w ∈ W, w.2.1.length < 1000000) (hWl : W.length < 1000000) :
  PureIs prog 110 [.sl wn (W.map rwC) wc] (.sc (.int .i64 (stepsW W))) := by
 have hl : (W.map rwC).length = W.length := List.length_map _
 refine PureIs.of1 1 [2, 4, 5, 6, 7, 8] func110 ntmps110 results110 fun _ => ?_
 refine EvC.a ?_
 refine EvC.seq ?_
 refine EvC.a ?_ (by simp only [go_sem, hl] <;> rfl)
 refine EvC.block ?_
 refine EvC.loopS (σ := Nat × Nat) (fun g => ⟨[(2, .sc (.int .i64 g.2)), (5, .sl wn (W.map rwC) wc), (6, .sc (.int .i64 W.length)), (7, .sc (.int .i64 g.1))], [], [], 0⟩) (fun g => W.length - g.1) (fun g => g.1 ≤ W.length ∧ stepsW W = g.2 + stepsW (W.drop g.1) ∧ g.2 ≤ g.1 * 1000000) [2, 5, 6, 7] 0 ?_ ?_
 ·exact ⟨[], (0, 0), rfl, (by simp only [go_sem, Int.natCast_zero] <;> rfl), Nat.zero_le _, by simp only [Nat.zero_add]; rfl, Nat.le_refl _⟩
 rintro ⟨i, s⟩ ⟨i1, i2, i3⟩
 simp only at i1 i2 i3 ⊢
 refine EvC.a ?_
 refine EvC.seq ?_
 refine EvC.cond (by simp only [go_sem] <;> rfl) (fun hc => ?_) (fun hc => ?_)
 rotate_left
 ·refine EvC.exit ?_
  have hi : ¬ i < W.length := by simpa using hc
  rw [List.drop_of_length_le (by omega), show stepsW [] = 0 from rfl, Nat.add_zero] at i2
  rw [i2]
  refine EvC.a ?_
  refine EvC.rz ?_
  simp only [go_sem]
 have hil : i < W.length := by simpa using hc
 clear hc
 have hge := List.getElem?_eq_getElem hil
 have hwm := hW _ (List.getElem_mem hil)
 have hdr : W.drop i = W[i] :: W.drop (i + 1) := List.drop_eq_getElem_cons hil
 generalize W[i] = w at hge hwm hdr
 have hwg := rw_get hge
 have hit : (i : Int).toNat = i := Int.toNat_natCast i
 have i4 : stepsW W = (s + w.2.1.length) + stepsW (W.drop (i + 1)) := by rw [i2, hdr]; simp only [stepsW, List.map_cons, List.sum_cons]; omega
 have hI : inI64 ((s : Int) + w.2.1.length) = true := inI64_of (by omega) (by omega)
 refine EvC.skip ?_
 refine EvC.seq ?_
 refine EvC.block ?_
 refine EvC.a ?_ (by simp only [go_sem, hwg, hit, hl] <;> rfl) (by simp; try omega)
 refine EvC.b ?_ (by simp only [go_sem, List.length_map] <;> rfl) (by simp [hI])
 refine EvC.b ?_ (hok := by exact inI64_of (by omega) (by omega))
 exact ⟨[], (i + 1, s + w.2.1.length), rfl, (by simp only [go_sem, Int.natCast_add, Int.natCast_one] <;> rfl), ⟨hil, i4, by simp only; omega⟩, by simp only; omega⟩
theorem tries_is (wn : Bool) (W : List RW) (wc : Cp) (n : Int) (hW : ∀ w ∈ W, w.2.1.length < 1000000) (hWl : W.length < 1000000) :
  PureIs prog 88 [.sl wn (W.map rwC) wc, .sc (.int .i64 n)] (.sc (.int .i64 (triesE n W))) := by
 have hWn := norefs_rw W
 refine PureIs.of1 2 [4, 5, 10, 14, 17] func88 ntmps88 results88 fun _ => ?_
 refine EvC.a ?_
 refine EvC.seq ?_
 refine EvC.k1 ?_ (c1 := .ca (loose_is wn W wc n hW hWl)) (h2 := by simp only [go_sem, hWn] <;> rfl)
 refine EvC.a ?_
 by_cases h1 : looseE n W = 0
 rotate_left
 ·rw [show triesE n W = looseE n W by unfold triesE; rw [if_pos h1]]
  refine EvC.ct ?_ (by simp only [go_sem, decide_eq_false h1] <;> rfl)
  refine EvC.a ?_
  refine EvC.rz ?_
  simp only [go_sem]
 refine EvC.cs ?_ (by simp only [go_sem, decide_eq_true h1] <;> rfl)
 refine EvC.seq ?_
 refine EvC.k1 ?_ (c1 := .ca (ahead_is wn W wc hW hWl)) (h2 := by simp only [go_sem, hWn] <;> rfl)
 cases h2 : aheadB W with
 | false =>
   rw [show triesE n W = 1 by unfold triesE; rw [if_neg (fun h => h h1), if_pos h2]]
   refine EvC.ct ?_ (by simp only [go_sem, h2] <;> rfl)
   refine EvC.a ?_
   refine EvC.rz ?_
   simp only [go_sem]
 | true =>
   refine EvC.cs ?_ (by simp only [go_sem, h2] <;> rfl)
   refine EvC.seq ?_
   refine EvC.k1 ?_ (c1 := .ca (steps_is wn W wc hW hWl)) (h2 := by simp only [go_sem, hWn] <;> rfl)
   by_cases h3 : 65536 < (stepsW W : Int)
   ·rw [show triesE n W = 3 by unfold triesE; rw [if_neg (fun h => h h1), if_neg (by rw [h2]; simp), if_pos h3]]
    refine EvC.ct ?_ (by simp only [go_sem, decide_eq_true h3] <;> rfl)
    refine EvC.a ?_
    refine EvC.rz ?_
    simp only [go_sem]
   rw [show triesE n W = 0 by unfold triesE; rw [if_neg (fun h => h h1), if_neg (by rw [h2]; simp), if_neg h3]]
   refine EvC.cs ?_ (by simp only [go_sem, decide_eq_false h3] <;> rfl)
   refine EvC.a ?_
   refine EvC.rz ?_
   simp only [go_sem]
theorem ready60_is (m : Mach) (hm : ∀ r ∈ m.rows, r.2.length < 1000000) (wn : Bool) (W : List RW) (wc : Cp) (hW : ∀ w ∈ W, w.2.1.length < 1000000) (hWl : W.length < 1000000) :
  PureIs prog 60 [.ag m.cells, .sl wn (W.map rwC) wc] (.sc (.int .i64 (readyE m W))) := by
 have hWn := norefs_rw W
 refine PureIs.of1 3 [4, 5, 9] func60 ntmps60 results60 fun _ => ?_
 refine EvC.a ?_ (by simp only [go_sem, Mach.cells] <;> rfl)
 refine EvC.z 0 ?_
 refine EvC.seq ?_
 refine EvC.k1 ?_ (h1 := by simp only [go_sem, Mach.cells] <;> rfl) (c1 := .ca (check_is m hm))
 refine EvC.a ?_
 by_cases h1 : checkM m = 0
 rotate_left
 ·rw [show readyE m W = checkM m by unfold readyE; rw [if_pos h1]]
  refine EvC.ct ?_ (by simp only [go_sem, decide_eq_false h1] <;> rfl)
  refine EvC.a ?_
  refine EvC.rz ?_
  simp only [go_sem]
 rw [show readyE m W = triesE m.ins W by unfold readyE; rw [if_neg (fun h => h h1)]]
 refine EvC.cs ?_ (by simp only [go_sem, decide_eq_true h1] <;> rfl)
 refine EvC.k1 ?_ (c1 := .ca (tries_is wn W wc m.ins hW hWl)) (h2 := by simp only [go_sem, hWn] <;> rfl)
 refine EvC.rz ?_
 simp only [go_sem]
theorem errW_zero {n : Int} : ∀ {W : List RW}, errW n W = 0 → ∀ w ∈ W, wordErr n w.2.1 = 0
 | [], _, _, h => by cases h
 | v :: W, h, w, hw => by
   rw [errW] at h
   split at h
   ·rename_i h1; exact absurd h h1
   ·rename_i h1
    rcases List.mem_cons.1 hw with rfl | hw
    ·exact Classical.not_not.1 h1
    ·exact errW_zero h w hw
theorem readyE_ok {m : Mach} {W : List RW} (h : readyE m W = 0) : checkM m = 0 ∧ W.length ≤ 4096 ∧ ∀ w ∈ W, wordErr m.ins w.2.1 = 0 := by
 unfold readyE at h
 split at h
 ·rename_i h1; exact absurd h h1
 rename_i h1
 unfold triesE at h
 split at h
 ·rename_i h2; exact absurd h h2
 rename_i h2
 have h2 := Classical.not_not.1 h2
 unfold looseE at h2
 split at h2
 ·cases h2
 rename_i h3
 split at h2
 ·cases h2
 exact ⟨Classical.not_not.1 h1, by omega, errW_zero h2⟩
def killW (m : Mach) (W : List RW) (f : FA) : List Int := killL m (mutF m f) W 0
def subE (m : Mach) (W : List RW) (f g : FA) : Int := if readyE m W ≠ 0 then readyE m W else if checkF m f ≠ 0 then checkF m f else checkF m g
def subV (m : Mach) (W : List RW) (f g : FA) : Bool := decide ((0 : Int) < (killW m W f).length) && subB (killW m W f) (killW m W g)
def subsumesA (m : Mach) (W : List RW) (f g : FA) : AV :=
 if subE m W f g ≠ 0 then .tu [.sc (.bool false), .sc (.int .i64 (subE m W f g))] else .tu [.sc (.bool (subV m W f g)), .sc (.int .i64 0)]
set_option maxHeartbeats 4000000 in
theorem subsumes_is (m : Mach) (hm : ∀ r ∈ m.rows, r.2.length < 1000000) (hnn : NoNil m) (wn : Bool) (W : List RW) (wc : Cp) (hW : ∀ w ∈ W, w.2.1.length < 1000000) (hWl : W.length < 1000000) (f g : FA) :
  PureIs prog 38 [.ag m.cells, .sl wn (W.map rwC) wc, .ag f.cells, .ag g.cells] (subsumesA m W f g) := by
 have hWn := norefs_rw W
 have q0 := ready60_is m hm wn W wc hW hWl
 unfold subsumesA
 generalize hE : subE m W f g = E
 have hE := hE.symm
 unfold subE at hE
 have hfc : f.cells = [.sc (.int .i64 f.kind), .sc (.int .i64 f.state), .sc (.int .i64 f.input), .sc (.int .i64 f.to), .sc (.int .i64 f.at'), .sc (.int .i64 f.out)] := rfl
 have hgc : g.cells = [.sc (.int .i64 g.kind), .sc (.int .i64 g.state), .sc (.int .i64 g.input), .sc (.int .i64 g.to), .sc (.int .i64 g.at'), .sc (.int .i64 g.out)] := rfl
 by_cases h0 : readyE m W = 0
 rotate_left
 ·rw [if_pos h0] at hE
  rw [hE, if_pos h0, hfc, hgc]
  refine PureIs.of1 5 [6, 7, 8, 9, 10, 11, 12, 13, 18, 28, 38] func38 ntmps38 results38 fun _ => ?_
  refine EvC.a ?_ (by simp only [go_sem, Mach.cells] <;> rfl)
  refine EvC.z 0 ?_
  refine EvC.z 1 ?_
  refine EvC.z 2 ?_
  refine EvC.seq ?_
  refine EvC.k1 ?_ (h1 := by simp only [go_sem, Mach.cells] <;> rfl) (c1 := .ca q0) (h2 := by simp only [go_sem, hWn] <;> rfl)
  refine EvC.a ?_
  refine EvC.ct ?_ (by simp only [go_sem, decide_eq_false h0] <;> rfl)
  refine EvC.a ?_
  refine EvC.rz ?_
  simp only [go_sem]
 rw [if_neg (fun h => h h0)] at hE
 obtain ⟨hc0, _, hWe⟩ := readyE_ok h0
 have hv := Valid.of hc0
 have q1 := killers_is hv hnn wn W wc ⟨hWe, hW, hWl⟩ f
 have q2 := killers_is hv hnn wn W wc ⟨hWe, hW, hWl⟩ g
 unfold killersA at q1 q2
 have hl1 := killL_len m (mutF m f) W 0
 have hl2 := killL_len m (mutF m g) W 0
 rw [hfc] at q1 ⊢
 rw [hgc] at q2 ⊢
 rw [h0] at q0
 refine PureIs.of1 5 [6, 7, 8, 9, 10, 11, 12, 13, 18, 28, 38] func38 ntmps38 results38 fun _ => ?_
 refine EvC.a ?_ (by simp only [go_sem, Mach.cells] <;> rfl)
 refine EvC.z 0 ?_
 refine EvC.z 1 ?_
 refine EvC.z 2 ?_
 refine EvC.seq ?_
 refine EvC.k1 ?_ (h1 := by simp only [go_sem, Mach.cells] <;> rfl) (c1 := .ca q0) (h2 := by simp only [go_sem, hWn] <;> rfl)
 refine EvC.a ?_
 refine EvC.cs ?_
 by_cases h1 : checkF m f = 0
 rotate_left
 ·rw [if_pos h1] at hE q1
  rw [hE, if_pos h1]
  refine EvC.k1 ?_ (h1 := by simp only [go_sem, Mach.cells] <;> rfl) (c1 := .ca q1) (h2 := by simp only [go_sem, hWn] <;> rfl)
  refine EvC.seq ?_
  refine EvC.a ?_
  refine EvC.ct ?_ (by simp only [go_sem, decide_eq_false h1] <;> rfl)
  refine EvC.a ?_
  refine EvC.rz ?_
  simp only [go_sem]
 rw [if_neg (fun h => h h1)] at hE q1
 obtain ⟨K1, hK1⟩ : ∃ K, K = killL m (mutF m f) W 0 := ⟨_, rfl⟩
 rw [← hK1] at q1 hl1
 have hn1 := norefs_intC K1
 refine EvC.k1 ?_ (h1 := by simp only [go_sem, Mach.cells] <;> rfl) (c1 := .ca q1) (h2 := by simp only [go_sem, hn1] <;> rfl)
 refine EvC.z 18 ?_
 refine EvC.seq ?_
 refine EvC.a ?_
 refine EvC.cs ?_
 by_cases h2 : checkF m g = 0
 rotate_left
 ·rw [if_pos h2] at q2
  rw [hE, if_pos h2]
  refine EvC.k1 ?_ (h1 := by simp only [go_sem, Mach.cells] <;> rfl) (c1 := .ca q2) (h2 := by simp only [go_sem, hWn] <;> rfl)
  refine EvC.seq ?_
  refine EvC.a ?_
  refine EvC.ct ?_ (by simp only [go_sem, decide_eq_false h2] <;> rfl)
  refine EvC.a ?_
  refine EvC.rz ?_
  simp only [go_sem]
 rw [h2] at hE
 rw [if_neg (fun h => h h2)] at q2
 obtain ⟨K2, hK2⟩ : ∃ K, K = killL m (mutF m g) W 0 := ⟨_, rfl⟩
 rw [← hK2] at q2 hl2
 have hn2 := norefs_intC K2
 rw [hE, if_neg (show ¬ (0 : Int) ≠ 0 from fun h => h rfl), subV, killW, killW, ← hK1, ← hK2]
 refine EvC.k1 ?_ (h1 := by simp only [go_sem, Mach.cells] <;> rfl) (c1 := .ca q2) (h2 := by simp only [go_sem, hn2] <;> rfl)
 refine EvC.z 30 ?_
 refine EvC.seq ?_
 refine EvC.a ?_
 refine EvC.cs ?_
 have hkl : (K1.map intC).length = K1.length := List.length_map _
 by_cases hp : (0 : Int) < K1.length
 ·rw [decide_eq_true hp]
  have q3 := within63_is K1.isEmpty K1 .unk K2.isEmpty K2 .unk (by omega) (by omega)
  refine EvC.k1 ?_ (h1 := by simp only [go_sem, hkl, decide_eq_true hp] <;> rfl) (c1 := .cg q3) (h2 := by simp only [go_sem, hkl, decide_eq_true hp, hn1, hn2] <;> rfl)
  refine EvC.rz ?_
  simp only [go_sem]
 ·rw [decide_eq_false hp]
  apply EvC.s1
  ·apply Tr.run
   ·simp only [go_sem, hkl, decide_eq_false hp] <;> rfl
   ·simp
   apply Tr.cons
   ·exact .skipv (.sc (.bool false)) rfl rfl (by simp only [go_sem] <;> rfl) (by simp only [go_sem] <;> rfl)
   apply Tr.done
   ·simp only [go_sem, hkl, decide_eq_false hp, hn1, hn2] <;> rfl
   ·simp
  refine EvC.rz ?_
  simp only [go_sem]
def badB (S : List (List Int)) (i k : Nat) : Bool :=
 !decide (k = i) && (decide ((0 : Int) < (S.getD k []).length) && (subB (S.getD k []) (S.getD i []) && (decide (k < i) || !subB (S.getD i []) (S.getD k []))))
def keepB (S : List (List Int)) (i : Nat) : Bool := !decide ((S.getD i []).length = 0) && !((List.range S.length).any (badB S i))
def leastL (S : List (List Int)) : List Int := ((List.range S.length).filter (keepB S)).map fun i : Nat => (i : Int)
def leastE (m : Mach) (W : List RW) (fs : List FA) : Int := if readyE m W ≠ 0 then readyE m W else mutErr m fs
def leastA (m : Mach) (W : List RW) (fs : List FA) : AV :=
 if leastE m W fs ≠ 0 then .tu [.sl true [] .unk, .sc (.int .i64 (leastE m W fs))] else .tu [.sl (leastL (fs.map (killW m W))).isEmpty ((leastL (fs.map (killW m W))).map intC) .full, .sc (.int .i64 0)]
def setC (S : List Int) : List AV := [.sl S.isEmpty (S.map intC) .unk]
theorem norefs_sets (l : List (List Int)) : (l.map setC).all AV.norefs = true := by simp [List.all_eq_true, setC, AV.norefs, AV.noref]
def leastTo (S : List (List Int)) (i : Nat) : List Int := ((List.range i).filter (keepB S)).map fun i : Nat => (i : Int)
theorem leastTo_succ (S : List (List Int)) (i : Nat) : leastTo S (i + 1) = leastTo S i ++ if keepB S i = true then [(i : Int)] else [] := by
 unfold leastTo
 rw [List.range_succ, List.filter_append, List.map_append]
 congr 1
 by_cases h : keepB S i = true
 ·rw [if_pos h, List.filter_cons_of_pos h]; rfl
 ·rw [if_neg h, List.filter_cons_of_neg h]; rfl
theorem leastTo_len (S : List (List Int)) (i : Nat) : (leastTo S i).length ≤ i := by
 unfold leastTo
 rw [List.length_map]
 have := List.length_filter_le (keepB S) (List.range i)
 rw [List.length_range] at this
 exact this
set_option maxHeartbeats 8000000 in
theorem least_is (m : Mach) (hm : ∀ r ∈ m.rows, r.2.length < 1000000) (hnn : NoNil m) (wn : Bool) (W : List RW) (wc : Cp) (hW : ∀ w ∈ W, w.2.1.length < 1000000) (hWl : W.length < 1000000) (fn : Bool) (fs : List FA) (fc : Cp) (hfl : fs.length < 1000000) :
  PureIs prog 26 [.ag m.cells, .sl wn (W.map rwC) wc, .sl fn (fs.map FA.cells) fc] (leastA m W fs) := by
 have hWn := norefs_rw W
 have q0 := ready60_is m hm wn W wc hW hWl
 have q1 := check61_is m hm fn fs fc hfl
 have hFn := fas_norefs2 fs
 unfold leastA
 generalize hE : leastE m W fs = E
 have hE := hE.symm
 unfold leastE at hE
 refine PureIs.of1 4 [6, 7, 8, 9, 10, 12, 13, 15, 16, 17, 18, 19, 20, 25, 31, 33, 34, 35, 36, 51, 52, 53, 54, 61, 62, 63, 64, 65, 95] func26 ntmps26 results26 fun _ => ?_
 refine EvC.a ?_ (by simp only [go_sem, Mach.cells] <;> rfl)
 refine EvC.z 0 ?_
 refine EvC.scope ?_
 refine EvC.seq ?_
 refine EvC.k1 ?_ (h1 := by simp only [go_sem, Mach.cells] <;> rfl) (c1 := .ca q0) (h2 := by simp only [go_sem, hWn] <;> rfl)
 refine EvC.a ?_
 by_cases h0 : readyE m W = 0
 rotate_left
 ·rw [if_pos h0] at hE
  rw [hE, if_pos h0]
  refine EvC.ct ?_ (by simp only [go_sem, decide_eq_false h0] <;> rfl)
  refine EvC.a ?_
  refine EvC.rz ?_
  simp only [go_sem]
 rw [if_neg (fun h => h h0)] at hE
 refine EvC.cs ?_ (by simp only [go_sem, decide_eq_true h0] <;> rfl)
 refine EvC.seq ?_
 refine EvC.k1 ?_ (h1 := by simp only [go_sem, Mach.cells] <;> rfl) (c1 := .ca q1) (h2 := by simp only [go_sem, hFn] <;> rfl)
 refine EvC.a ?_
 by_cases h1 : mutErr m fs = 0
 rotate_left
 ·rw [hE, if_pos h1]
  refine EvC.ct ?_ (by simp only [go_sem, decide_eq_false h1] <;> rfl)
  refine EvC.a ?_
  refine EvC.rz ?_
  simp only [go_sem]
 rw [h1] at hE
 rw [hE, if_neg (show ¬ (0 : Int) ≠ 0 from fun h => h rfl)]
 refine EvC.cs ?_ (by simp only [go_sem, decide_eq_true h1] <;> rfl)
 obtain ⟨hc0, _, hWe⟩ := readyE_ok h0
 have hv := Valid.of hc0
 obtain ⟨_, hf2, hf3⟩ := mutErr_ok h1
 have hfz := errFs_zero hf3
 have qk := fun f => killers_is hv hnn wn W wc ⟨hWe, hW, hWl⟩ f
 have hkl := fun f => killL_len m (mutF m f) W 0
 refine EvC.a ?_
 refine EvC.seq ?_
 refine EvC.a ?_ (by simp only [go_sem, List.length_map] <;> rfl)
 refine EvC.block ?_
 obtain ⟨N, hN⟩ : ∃ N, N = fs.length := ⟨_, rfl⟩
 obtain ⟨S, hS⟩ : ∃ S, S = fs.map (killW m W) := ⟨_, rfl⟩
 have hSl : S.length = N := by rw [hS, List.length_map, hN]
 have hSb : ∀ s ∈ S, s.length < 1000000 := fun s hs => by
  rw [hS] at hs
  obtain ⟨f, _, rfl⟩ := List.mem_map.1 hs
  have := hkl f
  unfold killW; omega
 rw [← hN] at hf2 ⊢
 rw [← hS]
 refine EvC.loopS (σ := Nat) (fun i => ⟨[(1, .sl wn (W.map rwC) wc), (3, .ia m.cells), (10, .tl 0 i (i == 0)), (33, .sl fn (fs.map FA.cells) fc), (34, .sc (.int .i64 N)), (35, .sc (.int .i64 i))], [], [(0, .arr 1 ((S.take i).map setC) true)], 1⟩) (fun i => N - i) (fun i => i ≤ N) [1, 3, 10, 33, 34, 35] 1 ?_ ?_
 ·exact ⟨[(15, 0)], 0, rfl, (by simp only [go_sem, Int.natCast_zero, List.take_zero, List.map_nil, Mach.cells] <;> rfl), Nat.zero_le _⟩
 intro i hi
 have hLn := norefs_sets (S.take i)
 have hLl : ((S.take i).map setC).length = i := by rw [List.length_map, List.length_take]; omega
 refine EvC.a ?_
 refine EvC.seq ?_
 refine EvC.cond (by simp only [go_sem] <;> rfl) (fun hc => ?_) (fun hc => ?_)
 rotate_left
 ·refine EvC.exit ?_
  obtain rfl : i = N := by have : ¬ i < N := (by simpa using hc); omega
  clear hc
  rw [List.take_of_length_le (by omega)] at hLn hLl ⊢
  have hSg : ∀ (k : Nat), k < i → (S.map setC)[k]? = some [.sl (S.getD k []).isEmpty ((S.getD k []).map intC) .unk] := fun k hk => by
   rw [List.getElem?_map, List.getElem?_eq_getElem (by omega), List.getD_eq_getElem?_getD, List.getElem?_eq_getElem (by omega)]; rfl
  have hSb2 : ∀ k, k < i → (S.getD k []).length < 1000000 := fun k hk => hSb _ (by
   rw [List.getD_eq_getElem?_getD, List.getElem?_eq_getElem (by omega)]; exact List.getElem_mem _)
  generalize S.map setC = SC at hLn hLl hSg ⊢
  refine EvC.frz 0 (by simp only [go_sem, hLn, hLl] <;> rfl) ?_
  refine EvC.a ?_
  refine EvC.a ?_
  refine EvC.seq ?_
  refine EvC.label ?_
  refine EvC.seq ?_
  refine EvC.a ?_ (by simp only [go_sem, hLl] <;> rfl)
  refine EvC.block ?_
  obtain ⟨N, hNi⟩ : ∃ N, N = i := ⟨_, rfl⟩
  rw [← hNi] at hLl hSg hSb2 hf2 hSl ⊢
  clear hi
  refine EvC.loopS (σ := Nat) (fun i => ⟨[(10, .sl (N == 0) SC .unk), (15, .fn 63 []), (16, .tl 0 (leastTo S i).length (leastTo S i).isEmpty), (51, .sl (N == 0) SC .unk), (52, .sc (.int .i64 N)), (53, .sc (.int .i64 i))], [], [(0, .arr 1 ((leastTo S i).map intC) true)], 1⟩) (fun i => N - i) (fun i => i ≤ N) [10, 15, 16, 51, 52, 53] 1 ?_ ?_
  ·exact ⟨[(3, 0)], 0, rfl, (by (simp only [go_sem, Int.natCast_zero, show leastTo S 0 = [] from rfl, List.map_nil, List.length_nil, List.isEmpty_nil]) <;> rfl), Nat.zero_le _⟩
  intro i hi
  have hOn := norefs_intC (leastTo S i)
  have hOl : ((leastTo S i).map intC).length = (leastTo S i).length := List.length_map _
  have hOb := leastTo_len S i
  refine EvC.a ?_
  refine EvC.seq ?_
  refine EvC.cond (by simp only [go_sem] <;> rfl) (fun hc => ?_) (fun hc => ?_)
  rotate_left
  ·refine EvC.exit ?_
   obtain rfl : i = N := by have : ¬ i < N := (by simpa using hc); omega
   clear hc
   have hLe : leastL S = leastTo S i := by rw [leastL, leastTo, hSl]
   rw [hLe]
   have h1 : (((leastTo S i).map intC).all fun y => decide (y.length = 1)) = true := by simp [List.all_eq_true, intC]
   generalize (leastTo S i).map intC = L at hOn hOl h1 ⊢
   refine EvC.frz 0 (by simp only [go_sem, hOn, hOl] <;> rfl) ?_
   refine EvC.k1 ?_ (h1 := by simp only [go_sem, hOl] <;> rfl) (c1 := .ca (clipI_is _ L .unk h1))
   refine EvC.rz ?_
   simp only [go_sem]
  have hil : i < N := by simpa using hc
  clear hc
  have hgi := hSg i hil
  have hbi := hSb2 i hil
  have hit : (i : Int).toNat = i := Int.toNat_natCast i
  have hsu := leastTo_succ S i
  have hOl2 := leastTo_len S (i + 1)
  obtain ⟨Ti, hTi⟩ : ∃ T, T = S.getD i [] := ⟨_, rfl⟩
  rw [← hTi] at hgi hbi
  refine EvC.skip ?_
  refine EvC.seq ?_
  refine EvC.block ?_
  refine EvC.a ?_ (by simp only [go_sem, hgi, hit, hLl] <;> rfl) (by simp; try omega)
  refine EvC.z 5 ?_
  have hTl : (Ti.map intC).length = Ti.length := List.length_map _
  have hTn := norefs_intC Ti
  have hI1 : inI64 ((i : Int) + 1) = true := inI64_of (by omega) (by omega)
  have hno : keepB S i = false → leastTo S (i + 1) = leastTo S i := fun h => by rw [hsu, h]; simp
  refine EvC.seq ?_
  refine EvC.a ?_ (by simp only [go_sem, hTl] <;> rfl)
  by_cases hz : Ti.length = 0
  ·refine EvC.ct ?_ (by simp only [go_sem, decide_eq_true (show (Ti.length : Int) = 0 by omega)] <;> rfl)
   refine EvC.exit ?_
   have hk : keepB S i = false := by unfold keepB; rw [← hTi, decide_eq_true hz]; rfl
   refine EvC.b ?_ (hok := by simp [hI1])
   exact ⟨[(0, 0)], i + 1, rfl, (by rw [hno hk]; simp only [go_sem, hOn, Int.natCast_add, Int.natCast_one] <;> rfl), hil, by omega⟩
  refine EvC.cs ?_ (by simp only [go_sem, decide_eq_false (show ¬ (Ti.length : Int) = 0 by omega)] <;> rfl)
  refine EvC.seq ?_
  refine EvC.a ?_ (by simp only [go_sem, hLl] <;> rfl)
  refine EvC.block ?_
  refine EvC.loopS (σ := Nat) (fun k => ⟨[(10, .sl (N == 0) SC .unk), (15, .fn 63 []), (16, .tl 0 (leastTo S i).length (leastTo S i).isEmpty), (17, .sc (.int .i64 i)), (18, .ia [.sl Ti.isEmpty (Ti.map intC) .unk]), (51, .sl (N == 0) SC .unk), (52, .sc (.int .i64 N)), (53, .sc (.int .i64 i)), (62, .sl (N == 0) SC .unk), (63, .sc (.int .i64 N)), (64, .sc (.int .i64 k))], [], [(0, .arr 1 ((leastTo S i).map intC) true)], 1⟩) (fun k => N - k) (fun k => k ≤ N ∧ ∀ j, j < k → badB S i j = false) [10, 15, 16, 17, 18, 51, 52, 53, 62, 63, 64] 1 ?_ ?_
  ·exact ⟨[(0, 0)], 0, rfl, (by simp only [go_sem, hOn, Int.natCast_zero] <;> rfl), Nat.zero_le _, fun j h => absurd h (Nat.not_lt_zero _)⟩
  rintro k ⟨k1, k2⟩
  refine EvC.a ?_
  refine EvC.seq ?_
  refine EvC.cond (by simp only [go_sem] <;> rfl) (fun hc => ?_) (fun hc => ?_)
  rotate_left
  ·refine EvC.exit ?_
   obtain rfl : k = N := by have : ¬ k < N := (by simpa using hc); omega
   clear hc
   have hk : keepB S i = true := by
    unfold keepB
    rw [← hTi, decide_eq_false hz]
    simp only [Bool.not_false, Bool.true_and, Bool.not_eq_true']
    rw [List.any_eq_false]
    intro j hj
    rw [List.mem_range, hSl] at hj
    rw [k2 j hj]; simp
   rw [hk, if_pos rfl] at hsu
   have hs : (leastTo S i).map intC ++ [[.sc (.int .i64 i)]] = (leastTo S (i + 1)).map intC := by rw [hsu, List.map_append]; rfl
   have hl2 : (leastTo S i).length + 1 = (leastTo S (i + 1)).length := by rw [hsu]; simp
   have hn2 : (leastTo S (i + 1)).isEmpty = false := by rw [hsu]; simp
   have hr2 : room (leastTo S (i + 1)).length 8 = true := by simp only [room_eq, decide_eq_true_eq]; omega
   have hOn2 := norefs_intC (leastTo S (i + 1))
   have hOl3 : ((leastTo S (i + 1)).map intC).length = (leastTo S (i + 1)).length := List.length_map _
   obtain ⟨U, hU⟩ : ∃ U, U = (leastTo S (i + 1)).map intC := ⟨_, rfl⟩
   rw [← hU] at hs hOn2 hOl3
   refine EvC.b ?_ (by simp only [go_sem, hs, hl2, hOl] <;> rfl) (by simp [hr2])
   refine EvC.b ?_ (hok := by simp [hI1])
   exact ⟨[(0, 0)], i + 1, rfl, (by rw [hn2, ← hU]; simp only [go_sem, hOn2, hOl3, Int.natCast_add, Int.natCast_one] <;> rfl), hil, by omega⟩
  have hkl2 : k < N := by simpa using hc
  clear hc
  have hgk := hSg k hkl2
  have hbk := hSb2 k hkl2
  have hkt : (k : Int).toNat = k := Int.toNat_natCast k
  have hI2 : inI64 ((k : Int) + 1) = true := inI64_of (by omega) (by omega)
  obtain ⟨Tk, hTk⟩ : ∃ T, T = S.getD k [] := ⟨_, rfl⟩
  rw [← hTk] at hgk hbk
  have hTkl : (Tk.map intC).length = Tk.length := List.length_map _
  have hTkn := norefs_intC Tk
  have hbad : badB S i k = (!decide (k = i) && (decide ((0 : Int) < Tk.length) && (subB Tk Ti && (decide (k < i) || !subB Ti Tk)))) := by unfold badB; rw [← hTi, ← hTk]
  have hnext : badB S i k = false → ∀ j, j < k + 1 → badB S i j = false := fun h j hj => by
   by_cases e : j = k
   ·rw [e]; exact h
   ·exact k2 j (by omega)
  have hkeep : badB S i k = true → keepB S i = false := fun h => by
   unfold keepB
   have : (List.range S.length).any (badB S i) = true := List.any_eq_true.2 ⟨k, List.mem_range.2 (by omega), h⟩
   rw [this]; simp
  refine EvC.skip ?_
  refine EvC.seq ?_
  refine EvC.block ?_
  refine EvC.a ?_ (by simp only [go_sem, hgk, hkt, hLl] <;> rfl) (by simp; try omega)
  refine EvC.z 5 ?_
  have qa := within63_is Tk.isEmpty Tk .unk Ti.isEmpty Ti .unk hbk hbi
  have qb := within63_is Ti.isEmpty Ti .unk Tk.isEmpty Tk .unk hbi hbk
  by_cases e1 : k = i
  ·have hb : badB S i k = false := by rw [hbad, decide_eq_true e1]; rfl
   have d1 : decide ((k : Int) = i) = true := decide_eq_true (by omega)
   apply EvC.s1
   ·apply Tr.run
    ·simp only [go_sem, d1, hTkl] <;> rfl
    ·simp
    apply Tr.cons
    ·exact .skipv (.sc (.bool false)) rfl rfl (by simp only [go_sem] <;> rfl) (by simp only [go_sem] <;> rfl)
    apply Tr.run
    ·simp only [go_sem, d1, hTkl] <;> rfl
    ·simp
    apply Tr.cons
    ·exact .skipv (.sc (.bool false)) rfl rfl (by simp only [go_sem] <;> rfl) (by simp only [go_sem] <;> rfl)
    apply Tr.done
    ·simp only [go_sem, d1, hTkl] <;> rfl
    ·simp
   refine EvC.cs ?_
   refine EvC.b ?_ (hok := by simp [hI2])
   exact ⟨[(0, 0)], k + 1, rfl, (by simp only [go_sem, hOn, Int.natCast_add, Int.natCast_one] <;> rfl), ⟨hkl2, hnext hb⟩, by omega⟩
  have d1 : decide ((k : Int) = i) = false := decide_eq_false (by omega)
  by_cases e2 : Tk.length = 0
  ·have hb : badB S i k = false := by rw [hbad, decide_eq_false (show ¬ (0 : Int) < Tk.length by omega)]; simp
   have d2 : decide ((0 : Int) < Tk.length) = false := decide_eq_false (by omega)
   apply EvC.s1
   ·apply Tr.run
    ·simp only [go_sem, d1, d2, hTkl] <;> rfl
    ·simp
    apply Tr.cons
    ·exact .skipv (.sc (.bool false)) rfl rfl (by simp only [go_sem] <;> rfl) (by simp only [go_sem] <;> rfl)
    apply Tr.run
    ·simp only [go_sem, d1, d2, hTkl] <;> rfl
    ·simp
    apply Tr.cons
    ·exact .skipv (.sc (.bool false)) rfl rfl (by simp only [go_sem] <;> rfl) (by simp only [go_sem] <;> rfl)
    apply Tr.done
    ·simp only [go_sem, d1, d2, hTkl] <;> rfl
    ·simp
   refine EvC.cs ?_
   refine EvC.b ?_ (hok := by simp [hI2])
   exact ⟨[(0, 0)], k + 1, rfl, (by simp only [go_sem, hOn, Int.natCast_add, Int.natCast_one] <;> rfl), ⟨hkl2, hnext hb⟩, by omega⟩
  have d2 : decide ((0 : Int) < Tk.length) = true := decide_eq_true (by omega)
  rw [decide_eq_false e1, d2] at hbad
  by_cases e3 : subB Tk Ti = true
  rotate_left
  ·have e3' : subB Tk Ti = false := by simpa using e3
   have hb : badB S i k = false := by rw [hbad, e3']; rfl
   rw [e3'] at qa
   apply EvC.s1
   ·apply Tr.run
    ·simp only [go_sem, d1, d2, hTkl] <;> rfl
    ·simp
    apply Tr.cons
    ·exact .cg (qa)
    apply Tr.run
    ·simp only [go_sem, d1, d2, hTkl] <;> rfl
    ·simp
    apply Tr.cons
    ·exact .skipv (.sc (.bool false)) rfl rfl (by simp only [go_sem] <;> rfl) (by simp only [go_sem] <;> rfl)
    apply Tr.done
    ·simp only [go_sem, d1, d2, hTkl, hTkn, hTn] <;> rfl
    ·simp
   refine EvC.cs ?_
   refine EvC.b ?_ (hok := by simp [hI2])
   exact ⟨[(0, 0)], k + 1, rfl, (by simp only [go_sem, hOn, Int.natCast_add, Int.natCast_one] <;> rfl), ⟨hkl2, hnext hb⟩, by omega⟩
  rw [e3] at qa hbad
  by_cases e4 : k < i
  ·have hb : badB S i k = true := by rw [hbad, decide_eq_true e4]; rfl
   have d3 : decide ((k : Int) < i) = true := decide_eq_true (by omega)
   apply EvC.s1
   ·apply Tr.run
    ·simp only [go_sem, d1, d2, d3, hTkl] <;> rfl
    ·simp
    apply Tr.cons
    ·exact .cg (qa)
    apply Tr.run
    ·simp only [go_sem, d1, d2, d3, hTkl] <;> rfl
    ·simp
    apply Tr.cons
    ·exact .skipv (.sc (.bool false)) rfl rfl (by simp only [go_sem] <;> rfl) (by simp only [go_sem] <;> rfl)
    apply Tr.done
    ·simp only [go_sem, d1, d2, d3, hTkl, hTkn, hTn] <;> rfl
    ·simp
   refine EvC.ct ?_
   refine EvC.exit ?_
   refine EvC.b ?_ (hok := by simp [hI1])
   exact ⟨[(0, 0)], i + 1, rfl, (by rw [hno (hkeep hb)]; simp only [go_sem, hOn, Int.natCast_add, Int.natCast_one] <;> rfl), hil, by omega⟩
  have d3 : decide ((k : Int) < i) = false := decide_eq_false (by omega)
  rw [decide_eq_false e4] at hbad
  by_cases e5 : subB Ti Tk = true
  ·have hb : badB S i k = false := by rw [hbad, e5]; rfl
   rw [e5] at qb
   refine EvC.k2 ?_ (h1 := by simp only [go_sem, d1, d2, d3, hTkl] <;> rfl) (c1 := .cg qa) (h2 := by simp only [go_sem, d1, d2, d3, hTkl] <;> rfl) (c2 := .cg qb) (h3 := by simp only [go_sem, d1, d2, d3, hTkl, hTkn, hTn] <;> rfl)
   refine EvC.cs ?_
   refine EvC.b ?_ (hok := by simp [hI2])
   exact ⟨[(0, 0)], k + 1, rfl, (by simp only [go_sem, hOn, Int.natCast_add, Int.natCast_one] <;> rfl), ⟨hkl2, hnext hb⟩, by omega⟩
  have e5' : subB Ti Tk = false := by simpa using e5
  have hb : badB S i k = true := by rw [hbad, e5']; rfl
  rw [e5'] at qb
  refine EvC.k2 ?_ (h1 := by simp only [go_sem, d1, d2, d3, hTkl] <;> rfl) (c1 := .cg qa) (h2 := by simp only [go_sem, d1, d2, d3, hTkl] <;> rfl) (c2 := .cg qb) (h3 := by simp only [go_sem, d1, d2, d3, hTkl, hTkn, hTn] <;> rfl)
  refine EvC.ct ?_
  refine EvC.exit ?_
  refine EvC.b ?_ (hok := by simp [hI1])
  exact ⟨[(0, 0)], i + 1, rfl, (by rw [hno (hkeep hb)]; simp only [go_sem, hOn, Int.natCast_add, Int.natCast_one] <;> rfl), hil, by omega⟩
 have hil : i < N := by simpa using hc
 clear hc
 have hge : fs[i]? = some (fs[i]'(by omega)) := List.getElem?_eq_getElem (by omega)
 have hfz2 := hfz _ (List.getElem_mem (show i < fs.length by omega))
 have htk : S.take (i + 1) = S.take i ++ [killW m W (fs[i]'(by omega))] := by
  rw [List.take_succ_eq_append_getElem (by omega)]; simp [hS]
 generalize fs[i]'(by omega) = f at hge hfz2 htk
 have hfg : (fs.map FA.cells)[i]? = some f.cells := by rw [List.getElem?_map, hge]; rfl
 have hit : (i : Int).toNat = i := Int.toNat_natCast i
 have q2 := qk f
 unfold killersA at q2
 rw [if_neg (fun h => h hfz2)] at q2
 have hK := hkl f
 rw [show killL m (mutF m f) W 0 = killW m W f from rfl] at q2 hK
 generalize killW m W f = K at q2 htk hK
 have hKn := norefs_intC K
 rw [FA.cells] at hfg q2
 have hfcl : (fs.map FA.cells).length = N := by rw [List.length_map, hN]
 refine EvC.skip ?_
 refine EvC.seq ?_
 refine EvC.block ?_
 refine EvC.a ?_ (by simp only [go_sem, hfg, hit, hfcl] <;> rfl) (by simp; try omega)
 refine EvC.z 4 ?_
 refine EvC.k1 ?_ (h1 := by simp only [go_sem, Mach.cells] <;> rfl) (c1 := .ca q2) (h2 := by simp only [go_sem, hWn, hKn] <;> rfl)
 refine EvC.z 13 ?_
 have hs : (S.take i).map setC ++ [[.sl K.isEmpty (K.map intC) .unk]] = (S.take (i + 1)).map setC := by rw [htk, List.map_append]; rfl
 have hLn2 := norefs_sets (S.take (i + 1))
 have hr2 : room (i + 1) 24 = true := by simp only [room_eq, decide_eq_true_eq]; omega
 have hLl2 : ((S.take (i + 1)).map setC).length = i + 1 := by rw [List.length_map, List.length_take]; omega
 have hne : (i + 1 == 0) = false := rfl
 obtain ⟨L2, hL2⟩ : ∃ L, L = (S.take (i + 1)).map setC := ⟨_, rfl⟩
 rw [← hL2] at hs hLn2 hLl2
 refine EvC.b ?_ (by simp only [go_sem, hs, hLl] <;> rfl) (by simp [hr2])
 refine EvC.b ?_ (hok := by exact inI64_of (by omega) (by omega))
 exact ⟨[(0, 0)], i + 1, rfl, (by rw [← hL2]; simp only [go_sem, Mach.cells, hLn2, hLl2, hne, Int.natCast_add, Int.natCast_one] <;> rfl), hil, by omega⟩
def agreeB (a b : Mach) (W : List RW) : Bool := W.all fun w => decide (runR a 0 w.2.1 = runR b 0 w.2.1)
theorem agree_is {a b : Mach} (ha : Valid a) (hb : Valid b) (wn : Bool) (W : List RW) (wc : Cp) (hWa : ∀ w ∈ W, ∀ x ∈ w.2.1, 0 ≤ x ∧ x < a.ins) (hWb : ∀ w ∈ W, ∀ x ∈ w.2.1, 0 ≤ x ∧ x < b.ins) (hl : ∀ w ∈ W, w.2.1.length < 1000000) (hn : W.length < 1000000) :
  PureIs prog 28 [.ag a.cells, .ag b.cells, .sl wn (W.map rwC) wc] (.sc (.bool (agreeB a b W))) := by
 refine PureIs.of1 5 [6, 7, 11, 29] func28 ntmps28 results28 fun _ => ?_
 refine EvC.a ?_ (by simp only [go_sem, Mach.cells] <;> rfl)
 refine EvC.z 0 ?_
 refine EvC.z 1 ?_
 refine EvC.seq ?_
 refine EvC.a ?_
 refine EvC.block ?_
 have hWn := norefs_rw W
 obtain ⟨N, hN⟩ : ∃ N, N = W.length := ⟨_, rfl⟩
 refine EvC.loopS (σ := Nat) (fun i => ⟨[(2, .sl wn (W.map rwC) wc), (3, .ia a.cells), (4, .ia b.cells), (7, .sc (.int .i64 i))], [], [], 0⟩) (fun i => N - i) (fun i => i ≤ N ∧ ∀ w ∈ W.take i, runR a 0 w.2.1 = runR b 0 w.2.1) [2, 3, 4, 7] 0 ?_ ?_
 ·exact ⟨[], 0, rfl, (by simp only [go_sem, Mach.cells, Int.natCast_zero] <;> rfl), Nat.zero_le _, by simp⟩
 rintro i ⟨h1, h2⟩
 refine EvC.seq ?_
 refine EvC.a ?_ (by simp only [go_sem, List.length_map, hN.symm] <;> rfl)
 refine EvC.cond (by simp only [go_sem] <;> rfl) (fun hc => ?_) (fun hc => ?_)
 rotate_left
 ·refine EvC.exit ?_
  obtain rfl : i = N := by have : ¬ i < N := (by simpa using hc); omega
  rw [List.take_of_length_le (by omega)] at h2
  have hR : agreeB a b W = true := List.all_eq_true.2 fun w hw => decide_eq_true (h2 w hw)
  rw [hR]
  refine EvC.a ?_
  refine EvC.rz ?_
  simp only [go_sem]
 have hil : i < N := by simpa using hc
 clear hc
 have he : W[i]? = some (W[i]'(by omega)) := List.getElem?_eq_getElem (by omega)
 have hm2 := List.getElem_mem (show i < W.length by omega)
 have htk : W.take (i + 1) = W.take i ++ [W[i]'(by omega)] := by
  rw [List.take_succ_eq_append_getElem (by omega)]
 generalize W[i]'(by omega) = w at he hm2 htk
 have hwg : (W.map rwC)[i]? = some [.sl w.1 (w.2.1.map intC) w.2.2] := by rw [List.getElem?_map, he]; rfl
 have hit : (i : Int).toNat = i := Int.toNat_natCast i
 have hll : (W.map rwC).length = N := by rw [List.length_map, hN]
 have har := ha.rows
 have hbr := hb.rows
 have q1 := run04_is ha 0 (by omega) w.1 w.2.1 w.2.2 (hWa w hm2) (hl w hm2)
 have q2 := run04_is hb 0 (by omega) w.1 w.2.1 w.2.2 (hWb w hm2) (hl w hm2)
 have hl1 : (runR a 0 w.2.1).length < 1000000 := by rw [runR_len]; exact hl w hm2
 have hd : ∀ b' : Bool, decide (runR a 0 w.2.1 = runR b 0 w.2.1) = b' → sameW [((runR a 0 w.2.1).isEmpty, runR a 0 w.2.1, Cp.unk)] [((runR b 0 w.2.1).isEmpty, runR b 0 w.2.1, Cp.unk)] = b' := fun b' h => by simp only [sameW, h, Bool.and_true]
 have q3 := fun ca cb => same37_is false false [((runR a 0 w.2.1).isEmpty, runR a 0 w.2.1, Cp.unk)] [((runR b 0 w.2.1).isEmpty, runR b 0 w.2.1, Cp.unk)] ca cb (by simp) (by simpa using hl1)
 have ge : ∀ X : List Int, X.map intC = X.map intC := fun _ => rfl
 refine EvC.skip ?_
 refine EvC.seq ?_
 refine EvC.block ?_
 have hn1 := norefs_intC (runR a 0 w.2.1)
 have hn2 := norefs_intC (runR b 0 w.2.1)
 simp only [List.map_cons, List.map_nil, rwC] at q3
 by_cases hq : runR a 0 w.2.1 = runR b 0 w.2.1
 ·rw [hd true (decide_eq_true hq)] at q3
  apply EvC.seq
  apply EvC.drw mixed
  ·apply Tr.run
   ·simp only [go_sem, hwg, hit, hll, Mach.cells] <;> rfl
   ·simp; try omega
   apply Tr.cons
   ·exact .ca (q1)
   apply Tr.run
   ·simp only [go_sem, hwg, hit, hll, Mach.cells] <;> rfl
   ·simp; try omega
   apply Tr.cons
   ·exact .ca (q2)
   apply Tr.run
   ·simp only [go_sem, hwg, hit, hll, Mach.cells] <;> rfl
   ·simp; try omega
   apply Tr.cons
   ·exact .ca (q3 .full .full)
   apply Tr.done
   ·simp only [go_sem, hn1, hn2, hwg, hit, hll, Mach.cells] <;> rfl
   ·simp; try omega
  ·kernel_rfl
  refine EvC.cs ?_
  refine EvC.b ?_ (hok := by exact inI64_of (by omega) (by omega))
  exact ⟨[], i + 1, rfl, (by simp only [go_sem, Mach.cells, Int.natCast_add, Int.natCast_one] <;> rfl), ⟨hil, fun x hx => by rw [htk] at hx; rcases List.mem_append.1 hx with h | h; exact h2 x h; rw [List.mem_singleton.1 h]; exact hq⟩, by omega⟩
 rw [hd false (decide_eq_false hq)] at q3
 apply EvC.seq
 apply EvC.drw mixed
 ·apply Tr.run
  ·simp only [go_sem, hwg, hit, hll, Mach.cells] <;> rfl
  ·simp; try omega
  apply Tr.cons
  ·exact .ca (q1)
  apply Tr.run
  ·simp only [go_sem, hwg, hit, hll, Mach.cells] <;> rfl
  ·simp; try omega
  apply Tr.cons
  ·exact .ca (q2)
  apply Tr.run
  ·simp only [go_sem, hwg, hit, hll, Mach.cells] <;> rfl
  ·simp; try omega
  apply Tr.cons
  ·exact .ca (q3 .full .full)
  apply Tr.done
  ·simp only [go_sem, hn1, hn2, hwg, hit, hll, Mach.cells] <;> rfl
  ·simp; try omega
 ·kernel_rfl
 refine EvC.ct ?_
 have hR : agreeB a b W = false := by
  rw [Bool.eq_false_iff]; intro h; exact hq (of_decide_eq_true (List.all_eq_true.1 h w hm2))
 rw [hR]
 refine EvC.a ?_
 refine EvC.rz ?_
 simp only [go_sem]
def dR (E : FA → FA → Bool) (fs : List FA) : List Int := fs.map fun f => ((fs.findIdx fun g => E g f : Nat) : Int)
def killedL (m t : Mach) (W : List RW) : List Bool := W.map fun w => !decide (runR m 0 w.2.1 = runR t 0 w.2.1)
set_option maxHeartbeats 4000000 in
theorem refKilled_is {m : Mach} (hv : Valid m) (f : FA) (hf : faultB m f = true) (hvt : Valid (mutF m f)) (wn : Bool) (W : List RW) (wc : Cp) (hW : ∀ w ∈ W, ∀ x ∈ w.2.1, 0 ≤ x ∧ x < m.ins) (hl : ∀ w ∈ W, w.2.1.length < 1000000) (hn : W.length < 1000000) :
  PureIs prog 27 [.ag m.cells, .sl wn (W.map rwC) wc, .ag f.cells] (.sl W.isEmpty ((killedL m (mutF m f) W).map boolC) .unk) := by
 have q0 := apply55_is hv f hf
 have hti : (mutF m f).ins = m.ins := rfl
 generalize mutF m f = t at q0 hvt hti ⊢
 have hWn := norefs_rw W
 have hfc : f.cells = [.sc (.int .i64 f.kind), .sc (.int .i64 f.state), .sc (.int .i64 f.input), .sc (.int .i64 f.to), .sc (.int .i64 f.at'), .sc (.int .i64 f.out)] := rfl
 rw [hfc] at q0 ⊢
 have htc : t.cells = [.sc (.int .i64 t.ins), .sc (.int .i64 t.outs), .sl t.nl (t.rows.map rowC) .unk] := rfl
 rw [htc] at q0
 refine PureIs.of1 4 [5, 6, 7, 8, 9, 16] func27 ntmps27 results27 fun _ => ?_
 refine EvC.a ?_ (by simp only [go_sem, Mach.cells] <;> rfl)
 refine EvC.z 0 ?_
 refine EvC.z 1 ?_
 refine EvC.k1 ?_ (h1 := by simp only [go_sem, Mach.cells] <;> rfl) (c1 := .ca q0)
 refine EvC.z 6 ?_
 refine EvC.a ?_
 refine EvC.seq ?_
 refine EvC.a ?_
 refine EvC.block ?_
 obtain ⟨N, hN⟩ : ∃ N, N = W.length := ⟨_, rfl⟩
 have hfe : W.isEmpty = (N == 0) := by rw [hN]; cases W <;> rfl
 have hel : (killedL m t W).length = N := by rw [killedL, List.length_map, hN]
 have hll : (W.map rwC).length = N := by rw [List.length_map, hN]
 refine EvC.loopS (σ := Nat) (fun i => ⟨[(1, .sl wn (W.map rwC) wc), (3, .ia m.cells), (7, .ia t.cells), (8, .tl 0 i (i == 0)), (9, .sc (.int .i64 i))], [], [(0, .arr 1 (((killedL m t W).take i).map boolC) true)], 1⟩) (fun i => N - i) (fun i => i ≤ N) [1, 3, 7, 8, 9] 1 ?_ ?_
 ·exact ⟨[(8, 0)], 0, rfl, (by simp only [go_sem, Mach.cells, Int.natCast_zero, List.take_zero, List.map_nil] <;> rfl), Nat.zero_le _⟩
 intro i hi
 have hLn := norefs_bools ((killedL m t W).take i)
 have hLl : (((killedL m t W).take i).map boolC).length = i := by rw [List.length_map, List.length_take]; omega
 refine EvC.seq ?_
 refine EvC.a ?_ (by simp only [go_sem, hll] <;> rfl)
 refine EvC.cond (by simp only [go_sem] <;> rfl) (fun hc => ?_) (fun hc => ?_)
 rotate_left
 ·refine EvC.exit ?_
  obtain rfl : i = N := by have : ¬ i < N := (by simpa using hc); omega
  rw [List.take_of_length_le (by omega)] at hLn hLl ⊢
  generalize (killedL m t W).map boolC = L at hLn hLl ⊢
  refine EvC.frz 0 (by simp only [go_sem, hLn, hLl] <;> rfl) ?_
  refine EvC.a ?_
  refine EvC.rz ?_
  simp only [go_sem]
  rw [hfe]
 have hil : i < N := by simpa using hc
 clear hc
 have he : W[i]? = some (W[i]'(by omega)) := List.getElem?_eq_getElem (by omega)
 have hm2 := List.getElem_mem (show i < W.length by omega)
 have htk : (killedL m t W).take (i + 1) = (killedL m t W).take i ++ [!decide (runR m 0 (W[i]'(by omega)).2.1 = runR t 0 (W[i]'(by omega)).2.1)] := by
  rw [List.take_succ_eq_append_getElem (by omega)]; simp [killedL]
 generalize W[i]'(by omega) = w at he hm2 htk
 have hwg : (W.map rwC)[i]? = some [.sl w.1 (w.2.1.map intC) w.2.2] := by rw [List.getElem?_map, he]; rfl
 have hit : (i : Int).toNat = i := Int.toNat_natCast i
 have hI : inI64 ((i : Int) + 1) = true := inI64_of (by omega) (by omega)
 have q : ∀ nl c, PureIs prog 28 [.ag m.cells, .ag t.cells, .sl nl [[.sl w.1 (w.2.1.map intC) w.2.2]] c] (.sc (.bool (decide (runR m 0 w.2.1 = runR t 0 w.2.1)))) := fun nl c => by
  have := agree_is hv hvt nl [w] c (by intro x hx; rw [List.mem_singleton.1 hx]; exact hW w hm2) (by intro x hx; rw [List.mem_singleton.1 hx, hti]; exact hW w hm2) (by intro x hx; rw [List.mem_singleton.1 hx]; exact hl w hm2) (by simp)
  simpa [agreeB, rwC] using this
 generalize decide (runR m 0 w.2.1 = runR t 0 w.2.1) = d at q htk
 have hsl : List.drop i (List.take ((i : Int) + 1).toNat (W.map rwC)) = [[.sl w.1 (w.2.1.map intC) w.2.2]] := by
  rw [show ((i : Int) + 1).toNat = i + 1 by omega, List.drop_take, show i + 1 - i = 1 by omega]
  have hlt : i < (W.map rwC).length := by omega
  rw [List.drop_eq_getElem_cons hlt, List.take_succ_cons, List.take_zero]
  rw [List.getElem?_eq_getElem hlt] at hwg
  rw [Option.some.inj hwg]
 have hall : ((W.map rwC).all fun y => decide (y.length = 1)) = true := by simp [List.all_eq_true, rwC]
 have hs : ((killedL m t W).take i).map boolC ++ [[.sc (.bool (!d))]] = ((killedL m t W).take (i + 1)).map boolC := by rw [htk, List.map_append]; rfl
 have hLn2 := norefs_bools ((killedL m t W).take (i + 1))
 have hLl2 : (((killedL m t W).take (i + 1)).map boolC).length = i + 1 := by rw [List.length_map, List.length_take]; omega
 have hr2 : room (i + 1) 1 = true := by simp only [room_eq, decide_eq_true_eq]; omega
 have hne : (i + 1 == 0) = false := rfl
 obtain ⟨U, hU⟩ : ∃ U, U = ((killedL m t W).take (i + 1)).map boolC := ⟨_, rfl⟩
 rw [← hU] at hs hLn2 hLl2
 refine EvC.skip ?_
 refine EvC.seq ?_
 refine EvC.block ?_
 refine EvC.k1LD mixed ?_ (h1 := by simp only [go_sem, hsl, hwg, hit, hll, hI, Mach.cells] <;> rfl) (k1 := by simp only [hI, hall]; simp; omega) (c1 := .ca (q _ _)) (h2 := by simp only [go_sem, hs, hLl, hr2] <;> rfl) (k2 := by simp [hr2])
 refine EvC.b ?_ (hok := by exact hI)
 exact ⟨[(0, 0)], i + 1, rfl, (by rw [← hU]; simp only [go_sem, hLn2, hLl2, hne, Mach.cells, Int.natCast_add, Int.natCast_one] <;> rfl), hil, by omega⟩
theorem rows_get {a b : Mach} (h : a.rows.map (·.2) = b.rows.map (·.2)) {i : Nat} {r : Row} (hr : a.rows[i]? = some r) : ∃ n, b.rows[i]? = some (n, r.2) := by
 have h2 := congrArg (fun l => l[i]?) h
 simp only [List.getElem?_map, hr, Option.map_some] at h2
 cases hb : b.rows[i]? with
 | none => rw [hb] at h2; cases h2
 | some q => rw [hb] at h2; simp only [Option.map_some, Option.some.injEq] at h2; exact ⟨q.1, by rw [h2]⟩
theorem sameM_is {a b : Mach} (h1 : a.ins = b.ins) (h2 : a.outs = b.outs) (h3 : a.rows.map (·.2) = b.rows.map (·.2)) (hl : a.rows.length < 1000000) (hr : ∀ r ∈ a.rows, r.2.length < 1000000) : PureIs prog 16 [.ag a.cells, .ag b.cells] (.sc (.bool true)) := by
 have hl2 : b.rows.length = a.rows.length := by have := congrArg List.length h3; simpa using this.symm
 refine PureIs.of1 7 [27, 32, 47, 55, 74] func16 ntmps16 results16 fun _ => ?_
 refine EvC.a ?_ (by simp only [go_sem, Mach.cells] <;> rfl)
 refine EvC.z 0 ?_
 refine EvC.z 1 ?_
 refine EvC.seq ?_
 refine EvC.g ?_ (h := by simp only [go_sem, h1, h2, hl2] <;> rfl)
 refine EvC.cs ?_
 refine EvC.seq ?_
 refine EvC.a ?_
 refine EvC.block ?_
 refine EvC.loopS (σ := Nat) (fun i => ⟨[(2, .ia a.cells), (3, .ia b.cells), (5, .sc (.int .i64 i))], [], [], 0⟩) (fun i => a.rows.length - i) (fun i => i ≤ a.rows.length) [2, 3, 5] 0 ?_ ?_
 ·exact ⟨[], 0, rfl, (by simp only [go_sem, Mach.cells, h1, h2] <;> rfl), Nat.zero_le _⟩
 intro i hi
 refine EvC.seq ?_
 refine EvC.a ?_ (by simp only [go_sem, Mach.cells] <;> rfl)
 refine EvC.cond (by simp only [go_sem] <;> rfl) (fun hc => ?_) (fun hc => ?_)
 rotate_left
 ·refine EvC.exit ?_
  refine EvC.a ?_
  refine EvC.rz ?_
  simp only [go_sem]
 have hi : i < a.rows.length := by simpa using hc
 have he : a.rows[i]? = some a.rows[i] := List.getElem?_eq_getElem hi
 have hm := List.getElem_mem hi
 generalize a.rows[i] = r at he hm
 obtain ⟨n, hb⟩ := rows_get h3 he
 obtain ⟨na, es⟩ := r
 have hes := hr _ hm
 simp only at hb hes
 refine EvC.skip ?_
 refine EvC.seq ?_
 refine EvC.block ?_
 refine EvC.seq ?_
 refine EvC.d mixed ?_ (h := by simp only [go_sem, he, hb, rowC, Mach.cells] <;> rfl)
 refine EvC.cs ?_
 refine EvC.a ?_
 refine EvC.block ?_
 refine EvC.loopS (σ := Nat) (fun k => ⟨[(2, .ia a.cells), (3, .ia b.cells), (5, .sc (.int .i64 i)), (6, .sc (.int .i64 k))], [], [], 0⟩) (fun k => es.length - k) (fun k => k ≤ es.length) [2, 3, 5, 6] 0 ?_ ?_
 ·exact ⟨[], 0, rfl, (by simp only [go_sem, Mach.cells, h1, h2] <;> rfl), Nat.zero_le _⟩
 intro k hk
 refine EvC.seq ?_
 refine EvC.a ?_ (by simp only [go_sem, he, rowC, Mach.cells] <;> rfl)
 refine EvC.cond (by simp only [go_sem] <;> rfl) (fun hc => ?_) (fun hc => ?_)
 rotate_left
 ·refine EvC.exit ?_
  refine EvC.b ?_ (hok := by exact inI64_of (by omega) (by omega))
  exact ⟨[], i + 1, rfl, (by simp only [go_sem, Mach.cells] <;> rfl), by omega, by omega⟩
 have hk : k < es.length := by simpa using hc
 have hek : es[k]? = some es[k] := List.getElem?_eq_getElem hk
 generalize es[k] = e at hek
 refine EvC.skip ?_
 refine EvC.seq ?_
 refine EvC.block ?_
 refine EvC.d mixed ?_ (h := by simp only [go_sem, he, hb, rowC, Mach.cells, hek, edgeC] <;> rfl)
 refine EvC.cs ?_
 refine EvC.b ?_ (hok := by exact inI64_of (by omega) (by omega))
 exact ⟨[], k + 1, rfl, (by simp only [go_sem, Mach.cells] <;> rfl), by omega, by omega⟩
theorem intsEq_is (na nb : Bool) (a : List Int) (cb : Cp) (hl : a.length < 1000000) : PureIs prog 21 [.sl na (a.map intC) .full, .sl nb (a.map intC) cb] (.sc (.bool true)) := by
 have q := same37_is false false [(na, a, .full)] [(nb, a, cb)] .full .full (by simp) (by simpa using hl)
 rw [show sameW [(na, a, Cp.full)] [(nb, a, cb)] = true by simp [sameW]] at q
 simp only [List.map_cons, List.map_nil, rwC] at q
 have hn := norefs_intC a
 have hll : (a.map intC).length = a.length := List.length_map _
 generalize a.map intC = L at q hn hll ⊢
 refine PureIs.of1 2 [4] func21 ntmps21 results21 fun _ => ?_
 refine EvC.a ?_
 refine EvC.k1 ?_ (c1 := .ca q) (h2 := by simp only [go_sem, hn, hll] <;> rfl)
 refine EvC.rz ?_
 simp only [go_sem]
theorem pairsEq_is (na nb : Bool) (a : List (FA × FA)) (cb : Cp) (hl : a.length < 1000000) : PureIs prog 13 [.sl na (a.map prC) .full, .sl nb (a.map prC) cb] (.sc (.bool true)) := by
 have hn := pairs_norefs a
 have hll : (a.map prC).length = a.length := List.length_map _
 refine PureIs.of1 2 [4, 5, 17, 21, 32] func13 ntmps13 results13 fun _ => ?_
 refine EvC.a ?_
 refine EvC.seq ?_
 refine EvC.g ?_ (h := by simp only [go_sem, hll] <;> rfl)
 refine EvC.cs ?_
 refine EvC.seq ?_
 refine EvC.a ?_
 refine EvC.block ?_
 refine EvC.loopS (σ := Nat) (fun i => ⟨[(0, .sl na (a.map prC) .full), (1, .sl nb (a.map prC) cb), (5, .sc (.int .i64 i))], [], [], 0⟩) (fun i => a.length - i) (fun i => i ≤ a.length) [0, 1, 5] 0 ?_ ?_
 ·exact ⟨[], 0, rfl, (by simp only [go_sem, Int.natCast_zero] <;> rfl), Nat.zero_le _⟩
 intro i hi
 refine EvC.seq ?_
 refine EvC.a ?_ (by simp only [go_sem, hll] <;> rfl)
 refine EvC.cond (by simp only [go_sem] <;> rfl) (fun hc => ?_) (fun hc => ?_)
 rotate_left
 ·refine EvC.exit ?_
  refine EvC.a ?_
  refine EvC.rz ?_
  simp only [go_sem]
 have hil : i < a.length := by simpa using hc
 clear hc
 have he : a[i]? = some (a[i]'hil) := List.getElem?_eq_getElem hil
 generalize a[i]'hil = p at he
 have hpc : (a.map prC)[i]? = some (prC p) := by rw [List.getElem?_map, he]; rfl
 obtain ⟨f, g⟩ := p
 unfold prC at hpc
 rw [List.getElem?_map, he, Option.map_some] at hpc
 clear hpc
 have hpc : (a.map prC)[i]? = some [.sc (.int .i64 f.kind), .sc (.int .i64 f.state), .sc (.int .i64 f.input), .sc (.int .i64 f.to), .sc (.int .i64 f.at'), .sc (.int .i64 f.out), .sc (.int .i64 g.kind), .sc (.int .i64 g.state), .sc (.int .i64 g.input), .sc (.int .i64 g.to), .sc (.int .i64 g.at'), .sc (.int .i64 g.out)] := by rw [List.getElem?_map, he]; rfl
 have hit : (i : Int).toNat = i := Int.toNat_natCast i
 refine EvC.skip ?_
 refine EvC.seq ?_
 refine EvC.block ?_
 refine EvC.d mixed ?_ (h := by simp only [go_sem, hpc, hit, hll] <;> rfl) (hok := by simp; try omega)
 refine EvC.cs ?_
 refine EvC.b ?_ (hok := by exact inI64_of (by omega) (by omega))
 exact ⟨[], i + 1, rfl, (by simp only [go_sem, Int.natCast_add, Int.natCast_one] <;> rfl), hil, by omega⟩
theorem fOf_is {m : Mach} (hv : Valid m) (n : Int) (hn : 0 ≤ n ∧ n < 65536) (f : FA) (hf : (allF m allK)[(n % ((allF m allK).length : Int)).toNat]? = some f) :
  PureIs prog 48 [.ag [.sc (.int .u16 n)], .ag m.cells] (.tu [.ag f.cells, .sc (.bool true)]) := by
 have q := all48_is hv false allK .full (by decide)
 have hAn := norefs_faL (allF m allK)
 have hlt := (List.getElem?_eq_some_iff.1 hf).1
 generalize allF m allK = A at q hAn hf hlt
 have hAl : (A.map FA.cells).length = A.length := List.length_map _
 have hne : (A.length : Int) ≠ 0 := by omega
 have ht : 0 ≤ n % (A.length : Int) := Int.emod_nonneg _ hne
 have ht2 : n % (A.length : Int) < A.length := Int.emod_lt_of_pos _ (by omega)
 have htt : Int.tmod n A.length = n % (A.length : Int) := Int.tmod_eq_emod_of_nonneg hn.1
 have hI : inI64 n = true := inI64_of (by omega) (by omega)
 rw [show allK.map intC = [[.sc (.int .i64 0)], [.sc (.int .i64 1)], [.sc (.int .i64 2)], [.sc (.int .i64 3)], [.sc (.int .i64 4)]] from rfl] at q
 rw [FA.cells]
 refine PureIs.of1 7 [12] func48 ntmps48 results48 fun _ => ?_
 refine EvC.a ?_ (by simp only [go_sem, Mach.cells] <;> rfl)
 refine EvC.z 0 ?_
 refine EvC.z 1 ?_
 refine EvC.k1 ?_ (h1 := by simp only [go_sem, Mach.cells] <;> rfl) (c1 := .ca q) (h2 := by simp only [go_sem, hAn] <;> rfl)
 refine EvC.seq ?_
 refine EvC.a ?_ (by simp only [go_sem, hAl] <;> rfl)
 refine EvC.cs ?_ (by simp only [go_sem, decide_eq_false hne] <;> rfl)
 refine EvC.a ?_ (by simp only [go_sem, hAl, hf, hI, FA.cells, decide_eq_true ht, decide_eq_false hne] <;> rfl) (by simp [hI, hne]; try omega)
 refine EvC.rz ?_
 simp only [go_sem]
def pickN (m : Mach) (n : Int) : FA := (allF m allK).getD (n % ((allF m allK).length : Int)).toNat ⟨0, 0, 0, 0, 0, 0⟩
def listL (m : Mach) (ns : List Int) : List FA := (ns.take 12).map (pickN m)
set_option maxHeartbeats 4000000 in
theorem list18_is {m : Mach} (hv : Valid m) (nl : Bool) (ns : List Int) (c : Cp) (hns : ∀ n ∈ ns, 0 ≤ n ∧ n < 65536) (hl : (ns.length : Int) ≤ 140737488355328) (hA : 0 < (allF m allK).length) :
  PureIs prog 18 [.ag m.cells, .sl nl (ns.map u16C) c] (.sl (listL m ns).isEmpty ((listL m ns).map FA.cells) .unk) := by
 have hll : (ns.map u16C).length = ns.length := List.length_map _
 refine PureIs.of1 3 [4, 5, 6, 7, 8, 16, 29] func18 ntmps18 results18 fun _ => ?_
 refine EvC.a ?_ (by simp only [go_sem, Mach.cells] <;> rfl)
 refine EvC.z 0 ?_
 refine EvC.a ?_
 refine EvC.seq ?_
 refine EvC.a ?_
 refine EvC.block ?_
 have hel : (listL m ns).length = min 12 ns.length := by rw [listL, List.length_map, List.length_take]
 obtain ⟨K, hK⟩ : ∃ K, K = min 12 ns.length := ⟨_, rfl⟩
 rw [← hK] at hel
 have hfe : (listL m ns).isEmpty = (K == 0) := by rw [← hel]; cases listL m ns <;> rfl
 refine EvC.loopS (σ := Nat) (fun i => ⟨[(1, .sl nl (ns.map u16C) c), (2, .ia m.cells), (5, .tl 0 i (i == 0)), (6, .sc (.int .i64 i))], [], [(0, .arr 6 (((listL m ns).take i).map FA.cells) true)], 1⟩) (fun i => K - i) (fun i => i ≤ K) [1, 2, 5, 6] 1 ?_ ?_
 ·exact ⟨[(2, 0)], 0, rfl, (by simp only [go_sem, Mach.cells, Int.natCast_zero, List.take_zero, List.map_nil] <;> rfl), Nat.zero_le _⟩
 intro i hi
 have hLn := norefs_faL ((listL m ns).take i)
 have hLl : (((listL m ns).take i).map FA.cells).length = i := by rw [List.length_map, List.length_take]; omega
 refine EvC.seq ?_
 by_cases hiK : i < K
 rotate_left
 ·obtain rfl : i = K := by omega
  rw [List.take_of_length_le (by omega)] at hLn hLl ⊢
  rw [hfe]
  generalize (listL m ns).map FA.cells = L at hLn hLl ⊢
  by_cases h1 : i < ns.length
  ·have d1 : decide ((i : Int) < ns.length) = true := decide_eq_true (by omega)
   have d2 : decide ((i : Int) < 12) = false := decide_eq_false (by omega)
   refine EvC.g ?_ (h := by simp only [go_sem, hll, d1, d2] <;> rfl)
   refine EvC.cf ?_
   refine EvC.exit ?_
   refine EvC.frz 0 (by simp only [go_sem, hLn, hLl] <;> rfl) ?_
   refine EvC.a ?_
   refine EvC.rz ?_
   simp only [go_sem]
  ·have d1 : decide ((i : Int) < ns.length) = false := decide_eq_false (by omega)
   refine EvC.g ?_ (h := by simp only [go_sem, hll, d1] <;> rfl)
   refine EvC.cf ?_
   refine EvC.exit ?_
   refine EvC.frz 0 (by simp only [go_sem, hLn, hLl] <;> rfl) ?_
   refine EvC.a ?_
   refine EvC.rz ?_
   simp only [go_sem]
 have d1 : decide ((i : Int) < ns.length) = true := decide_eq_true (by omega)
 have d2 : decide ((i : Int) < 12) = true := decide_eq_true (by omega)
 refine EvC.g ?_ (h := by simp only [go_sem, hll, d1, d2] <;> rfl)
 refine EvC.cr ?_
 refine EvC.seq ?_
 refine EvC.block ?_
 have hil : i < ns.length := by omega
 have he : ns[i]? = some (ns[i]'hil) := List.getElem?_eq_getElem hil
 have hnm := hns _ (List.getElem_mem hil)
 have htk : (listL m ns).take (i + 1) = (listL m ns).take i ++ [pickN m (ns[i]'hil)] := by
  rw [List.take_succ_eq_append_getElem (by omega)]; simp [listL]
 generalize ns[i]'hil = n at he hnm htk
 have hx : (allF m allK)[(n % ((allF m allK).length : Int)).toNat]? = some (pickN m n) := by
  have h1 : 0 ≤ n % ((allF m allK).length : Int) := Int.emod_nonneg _ (by omega)
  have h2 : n % ((allF m allK).length : Int) < (allF m allK).length := Int.emod_lt_of_pos _ (by omega)
  have h3 : (n % ((allF m allK).length : Int)).toNat < (allF m allK).length := by omega
  rw [List.getElem?_eq_getElem h3, pickN, List.getD_eq_getElem?_getD, List.getElem?_eq_getElem h3]; rfl
 have q := fOf_is hv n hnm _ hx
 generalize pickN m n = f at q htk
 have hnc : (ns.map u16C)[i]? = some [.sc (.int .u16 n)] := by rw [List.getElem?_map, he]; rfl
 have hit : (i : Int).toNat = i := Int.toNat_natCast i
 rw [FA.cells] at q
 have hs : ((listL m ns).take i).map FA.cells ++ [[.sc (.int .i64 f.kind), .sc (.int .i64 f.state), .sc (.int .i64 f.input), .sc (.int .i64 f.to), .sc (.int .i64 f.at'), .sc (.int .i64 f.out)]] = ((listL m ns).take (i + 1)).map FA.cells := by rw [htk, List.map_append]; rfl
 have hLn2 := norefs_faL ((listL m ns).take (i + 1))
 have hLl2 : (((listL m ns).take (i + 1)).map FA.cells).length = i + 1 := by rw [List.length_map, List.length_take]; omega
 have hr2 : room (i + 1) 48 = true := by simp only [room_eq, decide_eq_true_eq]; omega
 have hne : (i + 1 == 0) = false := rfl
 obtain ⟨U, hU⟩ : ∃ U, U = ((listL m ns).take (i + 1)).map FA.cells := ⟨_, rfl⟩
 rw [← hU] at hs hLn2 hLl2
 refine EvC.k1D mixed ?_ (h1 := by simp only [go_sem, hnc, hit, hll, Mach.cells] <;> rfl) (k1 := by simp; try omega) (c1 := .ca q)
 refine EvC.a ?_
 refine EvC.ct ?_
 refine EvC.b ?_ (by simp only [go_sem, hs, hLl] <;> rfl) (by simp [hr2])
 refine EvC.b ?_ (hok := by exact inI64_of (by omega) (by omega))
 exact ⟨[(0, 0)], i + 1, rfl, (by rw [← hU]; simp only [go_sem, hLn2, hLl2, hne, Mach.cells, Int.natCast_add, Int.natCast_one] <;> rfl), hiK, by omega⟩
set_option maxRecDepth 100000
def exM : Mach := ⟨1, 2, false, [(false, [(1, 0)]), (false, [(0, 1)])]⟩
def exW : Mach := ⟨1, 2, false, [(false, [(1, 1)]), (false, [(0, 0)])]⟩
def xa : FA := ⟨0, 0, 0, 0, 0, 1⟩
def xb : FA := ⟨0, 1, 0, 0, 0, 0⟩
def xc : FA := ⟨1, 0, 0, 0, 0, 0⟩
def xd : FA := ⟨3, 0, 0, 1, 0, 0⟩
def xu : FA := ⟨2, 0, 0, 0, 0, 0⟩
def xv : FA := ⟨2, 1, 0, 0, 0, 0⟩
def xWs : List RW := [(false, [0], .unk), (false, [0, 0], .unk)]
def errB (e : Int) : AV := .tu [.ag [.sc (.int .i64 0), .sc (.int .i64 0), .sl true [] .zer], .sc (.int .i64 e)]
theorem ex_both1 : bothA exM (xa, xb) = .tu [.ag (mutF (mutF exM xa) xb).cells, .sc (.int .i64 0)] := by kernel_rfl
theorem ex_both1m : mutF (mutF exM xa) xb = exW := by kernel_rfl
theorem ex_both2 : bothA exM (xb, xa) = errB 1 := by kernel_rfl
theorem ex_both3 : bothA exM (xa, xc) = errB 1 := by kernel_rfl
theorem ex_srt : srtE (alF exM [0, 2]) = [xa, xu, xb, xv] := by kernel_rfl
theorem ex_all : allR exM [0, 2] 65536 = 0 := by kernel_rfl
theorem ex_check : checkM exM = 0 := by kernel_rfl
theorem ex_prs : prs [xa, xu, xb, xv] = [(xa, xb), (xa, xv), (xu, xb), (xu, xv)] := by kernel_rfl
theorem ex_pairsE (n : Int) (h0 : 0 ≤ n) (h1 : n ≤ 65536) : pairsE exM [0, 2] n = if n < 4 then 13 else 0 := by
 unfold pairsE
 rw [if_neg (by rw [ex_check]; simp), if_neg (by
  rintro (h | h | ⟨k, hk, h⟩)
  ·omega
  ·omega
  ·simp at hk; omega), if_neg (by rw [ex_all]; simp), ex_srt, ex_prs]
 rfl
theorem ex_pairs1 : pairsA exM [0, 2] 4 = .tu [.sl false ([(xa, xb), (xa, xv), (xu, xb), (xu, xv)].map prC) .full, .sc (.int .i64 0)] := by
 rw [pairsA, ex_pairsE 4 (by omega) (by omega), if_neg (by simp), ex_srt, ex_prs]; rfl
theorem ex_pairs2 : pairsA exM [0, 2] 3 = .tu [.sl true [] .unk, .sc (.int .i64 13)] := by
 rw [pairsA, ex_pairsE 3 (by omega) (by omega), if_pos (by omega), if_pos (by simp)]
theorem ex_eqs : equalsA exM [xa, xb, xc, xd] = .tu [.sl false ([false, false, false, true].map boolC) .full, .sc (.int .i64 0)] := by kernel_rfl
theorem ex_dist : distinctA exM [xa, xb, xc, xd, ⟨3, 1, 0, 0, 0, 0⟩] = .tu [.sl false ([0, 1, 1, 3, 3].map intC) .full, .sc (.int .i64 0)] := by kernel_rfl
theorem ex_least : leastA exM xWs [xa, xb, xc, xd] = .tu [.sl false ([1].map intC) .full, .sc (.int .i64 0)] := by kernel_rfl
theorem ex_sub1 : subsumesA exM xWs xa xb = .tu [.sc (.bool false), .sc (.int .i64 0)] := by kernel_rfl
theorem ex_sub2 : subsumesA exM xWs xb xa = .tu [.sc (.bool true), .sc (.int .i64 0)] := by kernel_rfl
theorem ex_sub3 : subsumesA exM xWs xb xc = .tu [.sc (.bool true), .sc (.int .i64 0)] := by kernel_rfl
theorem ex_sub4 : subsumesA exM xWs xd xa = .tu [.sc (.bool false), .sc (.int .i64 0)] := by kernel_rfl
set_option maxRecDepth 10000
abbrev fA (a b c d e f : Int) : List AV := [.sc (.int .i64 a), .sc (.int .i64 b), .sc (.int .i64 c), .sc (.int .i64 d), .sc (.int .i64 e), .sc (.int .i64 f)]
abbrev pA (a b c d e f a' b' c' d' e' f' : Int) : List AV := [.sc (.int .i64 a), .sc (.int .i64 b), .sc (.int .i64 c), .sc (.int .i64 d), .sc (.int .i64 e), .sc (.int .i64 f), .sc (.int .i64 a'), .sc (.int .i64 b'), .sc (.int .i64 c'), .sc (.int .i64 d'), .sc (.int .i64 e'), .sc (.int .i64 f')]
abbrev iA (a : Int) : List AV := [.sc (.int .i64 a)]
abbrev eA (a b : Int) : List AV := [.sc (.int .i64 a), .sc (.int .i64 b)]
abbrev exC : List AV := [.sc (.int .i64 1), .sc (.int .i64 2), .sl false [[.sl false [eA 1 0] .full], [.sl false [eA 0 1] .full]] .full]
abbrev wsC : AV := .sl false [[.sl false [iA 0] .full], [.sl false [iA 0, iA 0] .full]] .full
abbrev noC : List AV := [.sc (.int .i64 0), .sc (.int .i64 0), .sl true [] .zer]
theorem ex_rows : ∀ r ∈ exM.rows, r.2.length < 1000000 := by decide
theorem ex_noNil : NoNil exM := fun r hr h => by
 simp only [exM, List.mem_cons, List.not_mem_nil, or_false] at hr
 rcases hr with rfl | rfl <;> cases h
theorem ex_ws : ∀ w ∈ xWs, w.2.1.length < 1000000 := by decide
theorem ex_both1_is : PureIs prog 14 [.ag exC, .ag (pA 0 0 0 0 0 1 0 1 0 0 0 0)] (.tu [.ag [.sc (.int .i64 1), .sc (.int .i64 2), .sl false [[.sl false [eA 1 1] .unk], [.sl false [eA 0 0] .unk]] .unk], .sc (.int .i64 0)]) := by
 have q := pairBoth_is exM ex_rows ex_noNil (xa, xb)
 rw [ex_both1, ex_both1m] at q
 exact .weak q
theorem ex_both2_is : PureIs prog 14 [.ag exC, .ag (pA 0 1 0 0 0 0 0 0 0 0 0 1)] (.tu [.ag noC, .sc (.int .i64 1)]) := by
 have q := pairBoth_is exM ex_rows ex_noNil (xb, xa)
 rw [ex_both2] at q
 exact .weak q
theorem ex_both3_is : PureIs prog 14 [.ag exC, .ag (pA 0 0 0 0 0 1 1 0 0 0 0 0)] (.tu [.ag noC, .sc (.int .i64 1)]) := by
 have q := pairBoth_is exM ex_rows ex_noNil (xa, xc)
 rw [ex_both3] at q
 exact .weak q
abbrev exP : List (List AV) := [pA 0 0 0 0 0 1 0 1 0 0 0 0, pA 0 0 0 0 0 1 2 1 0 0 0 0, pA 2 0 0 0 0 0 0 1 0 0 0 0, pA 2 0 0 0 0 0 2 1 0 0 0 0]
theorem ex_pairs1_is : PureIs prog 11 [.ag exC, .sl false [iA 0, iA 2] .full, .sc (.int .i64 4)] (.tu [.sl false exP .full, .sc (.int .i64 0)]) := by
 have q := pairs_is exM ex_rows false [0, 2] .unk (by decide) 4
 rw [ex_pairs1] at q
 exact .weak q
theorem ex_pairs2_is : PureIs prog 11 [.ag exC, .sl false [iA 0, iA 2] .full, .sc (.int .i64 3)] (.tu [.sl true [] .unk, .sc (.int .i64 13)]) := by
 have q := pairs_is exM ex_rows false [0, 2] .unk (by decide) 3
 rw [ex_pairs2] at q
 exact .weak q
theorem ex_same_is : PureIs prog 16 [.ag [.sc (.int .i64 1), .sc (.int .i64 2), .sl false [[.sl false [eA 1 1] .unk], [.sl false [eA 0 0] .unk]] .unk], .ag [.sc (.int .i64 1), .sc (.int .i64 2), .sl false [[.sl false [eA 1 1] .full], [.sl false [eA 0 0] .full]] .full]] (.sc (.bool true)) := by
 have q := sameM_is (a := exW) (b := exW) rfl rfl rfl (by decide) (by decide)
 exact .weak q
theorem ex_pairsEq_is : PureIs prog 13 [.sl false exP .full, .sl false exP .full] (.sc (.bool true)) := by
 exact pairsEq_is false false [(xa, xb), (xa, xv), (xu, xb), (xu, xv)] .full (by decide)
abbrev exL : List (List AV) := [fA 0 0 0 0 0 1, fA 0 1 0 0 0 0, fA 1 0 0 0 0 0, fA 3 0 0 1 0 0]
theorem ex_eqs_is : PureIs prog 19 [.ag exC, .sl false exL .full] (.tu [.sl false [[.sc (.bool false)], [.sc (.bool false)], [.sc (.bool false)], [.sc (.bool true)]] .full, .sc (.int .i64 0)]) := by
 have q := equals19_is exM ex_rows ex_noNil false [xa, xb, xc, xd] .unk (by decide)
 rw [ex_eqs] at q
 exact .weak q
theorem ex_dist_is (c : Cp) : PureIs prog 20 [.ag exC, .sl false (exL ++ [fA 3 1 0 0 0 0]) c] (.tu [.sl false [iA 0, iA 1, iA 1, iA 3, iA 3] .full, .sc (.int .i64 0)]) := by
 have q := distinct_is exM ex_rows ex_noNil false [xa, xb, xc, xd, ⟨3, 1, 0, 0, 0, 0⟩] .unk (by decide)
 rw [ex_dist] at q
 exact .weak q
theorem ex_least_is : PureIs prog 26 [.ag exC, wsC, .sl false exL .full] (.tu [.sl false [iA 1] .full, .sc (.int .i64 0)]) := by
 have q := least_is exM ex_rows ex_noNil false xWs .unk ex_ws (by decide) false [xa, xb, xc, xd] .unk (by decide)
 rw [ex_least] at q
 exact .weak q
theorem ex_sub1_is : PureIs prog 38 [.ag exC, wsC, .ag (fA 0 0 0 0 0 1), .ag (fA 0 1 0 0 0 0)] (.tu [.sc (.bool false), .sc (.int .i64 0)]) := by
 have q := subsumes_is exM ex_rows ex_noNil false xWs .unk ex_ws (by decide) xa xb
 rw [ex_sub1] at q
 exact .weak q
theorem ex_sub2_is : PureIs prog 38 [.ag exC, wsC, .ag (fA 0 1 0 0 0 0), .ag (fA 0 0 0 0 0 1)] (.tu [.sc (.bool true), .sc (.int .i64 0)]) := by
 have q := subsumes_is exM ex_rows ex_noNil false xWs .unk ex_ws (by decide) xb xa
 rw [ex_sub2] at q
 exact .weak q
theorem ex_sub3_is : PureIs prog 38 [.ag exC, wsC, .ag (fA 0 1 0 0 0 0), .ag (fA 1 0 0 0 0 0)] (.tu [.sc (.bool true), .sc (.int .i64 0)]) := by
 have q := subsumes_is exM ex_rows ex_noNil false xWs .unk ex_ws (by decide) xb xc
 rw [ex_sub3] at q
 exact .weak q
theorem ex_sub4_is : PureIs prog 38 [.ag exC, wsC, .ag (fA 3 0 0 1 0 0), .ag (fA 0 0 0 0 0 1)] (.tu [.sc (.bool false), .sc (.int .i64 0)]) := by
 have q := subsumes_is exM ex_rows ex_noNil false xWs .unk ex_ws (by decide) xd xa
 rw [ex_sub4] at q
 exact .weak q
set_option maxHeartbeats 4000000 in
theorem lives_is : PureIs prog 12 [] (.sc (.bool true)) := by
 refine PureIs.of1 8 [9, 11, 12, 13, 15, 16, 17, 18, 19, 20, 21, 22, 23, 24, 25, 26, 27, 123, 201] func12 ntmps12 results12 fun _ => ?_
 refine EvC.a ?_
 refine EvC.a ?_
 refine EvC.z 7 ?_
 refine EvC.a ?_
 refine EvC.z 10 ?_
 refine EvC.a ?_
 refine EvC.z 13 ?_
 refine EvC.a ?_
 refine EvC.z 16 ?_
 refine EvC.a ?_
 refine EvC.z 19 ?_
 refine EvC.k1 ?_ (c1 := .ca ex_both1_is)
 refine EvC.z 29 ?_
 refine EvC.k1 ?_ (c1 := .ca ex_both2_is)
 refine EvC.k1 ?_ (c1 := .ca ex_both3_is)
 refine EvC.k1 ?_ (c1 := .ca ex_pairs1_is)
 refine EvC.k1 ?_ (c1 := .ca ex_pairs2_is)
 refine EvC.a ?_
 refine EvC.z 76 ?_
 refine EvC.a ?_
 refine EvC.z 79 ?_
 refine EvC.a ?_
 refine EvC.z 82 ?_
 refine EvC.seq ?_
 refine EvC.k2 ?_ (c1 := .cg ex_same_is) (c2 := .cg ex_pairsEq_is)
 refine EvC.cs ?_
 refine EvC.a ?_
 refine EvC.a ?_
 refine EvC.k1 ?_ (c1 := .ca ex_eqs_is)
 have hr5 : room 5 48 = true := by simp only [room_eq, decide_eq_true_eq]; omega
 refine EvC.k1D mixed ?_ (k1 := by simp [hr5]) (c1 := .ca (ex_dist_is _))
 refine EvC.k1 ?_ (c1 := .ca ex_least_is)
 refine EvC.seq ?_
 refine EvC.k2 ?_ (c1 := .cg (intsEq_is false false [0, 1, 1, 3, 3] .full (by decide))) (c2 := .cg (intsEq_is false false [1] .full (by decide)))
 refine EvC.cs ?_
 refine EvC.k1 ?_ (c1 := .ca ex_sub1_is)
 refine EvC.k1 ?_ (c1 := .ca ex_sub2_is)
 refine EvC.k1 ?_ (c1 := .ca ex_sub3_is)
 refine EvC.k1 ?_ (c1 := .ca ex_sub4_is)
 refine EvC.g ?_
 refine EvC.rz ?_
 simp only [go_sem]
theorem Valid.check {m : Mach} (h : Valid m) : checkM m = 0 := by
 have h1 := h.ins
 have h2 := h.outs
 have h3 := h.rows
 unfold checkM
 rw [if_neg (by omega), if_neg (by omega), if_pos]
 rw [List.all_eq_true]
 intro r hr
 obtain ⟨k1, k2⟩ := h.row r hr
 simp only [rowOk, Bool.and_eq_true, decide_eq_true_eq, Bool.not_eq_true', List.any_eq_false]
 exact ⟨k1, fun e he => by simpa using k2 e he⟩
theorem LM.small {x : LM} (h : x.Ok) : x.mach.rows.length ≤ 6 ∧ x.mach.ins ≤ 3 := by
 obtain ⟨b1, b2, b3, b4, b5, b6, -, -⟩ := LM.bounds h
 rw [show x.mach.rows.length = x.n by simp [LM.mach]]
 exact ⟨b2, by show (x.i : Int) ≤ 3; omega⟩
theorem LM.noNil (x : LM) : NoNil x.mach := fun r hr h => by
 simp only [LM.mach, List.mem_map] at hr
 obtain ⟨s, _, rfl⟩ := hr
 cases h
def rowsP (m : Mach) : List (List (Int × Int)) := m.rows.map (·.2)
def getP (P : List (List (Int × Int))) (s i : Nat) : Int × Int := (P[s]?.getD [])[i]?.getD (-1, -1)
def putP (P : List (List (Int × Int))) (s i : Nat) (e : Int × Int) : List (List (Int × Int)) := P.set s ((P[s]?.getD []).set i e)
theorem stepM_P (m : Mach) (s a : Int) : stepM m s a = getP (rowsP m) s.toNat a.toNat := by
 unfold stepM getP rowsP
 rw [List.getElem?_map]
theorem rowAt_P (m : Mach) (s : Int) : rowAt m s = (rowsP m)[s.toNat]?.getD [] := by
 unfold rowAt rowsP
 rw [List.getElem?_map]
theorem putR_P (m : Mach) (s i : Int) (e : Int × Int) : (putR m s i e).map (·.2) = putP (rowsP m) s.toNat i.toNat e := by
 unfold putR putP copyR
 rw [List.map_set, rowAt_P, List.map_map]; rfl
theorem getP_put {P : List (List (Int × Int))} {s i s' i' : Nat} {e : Int × Int} (h : s ≠ s' ∨ i ≠ i') : getP (putP P s i e) s' i' = getP P s' i' := by
 unfold getP putP
 by_cases hs : s = s'
 ·subst hs
  have hi : i ≠ i' := h.resolve_left fun h => h rfl
  by_cases hl : s < P.length
  ·rw [List.getElem?_set_self hl]
   simp only [Option.getD_some]
   rw [List.getElem?_set_ne hi]
  ·rw [List.set_eq_of_length_le (by omega)]
 ·rw [List.getElem?_set_ne hs]
theorem putP_comm {P : List (List (Int × Int))} {s i s' i' : Nat} {e e' : Int × Int} (h : s ≠ s' ∨ i ≠ i') : putP (putP P s i e) s' i' e' = putP (putP P s' i' e') s i e := by
 unfold putP
 by_cases hs : s = s'
 ·subst hs
  have hi : i ≠ i' := h.resolve_left fun h => h rfl
  by_cases hl : s < P.length
  ·rw [List.getElem?_set_self hl, List.getElem?_set_self hl]
   simp only [Option.getD_some]
   rw [List.set_set, List.set_set, List.set_comm _ _ hi]
  ·have hx : ∀ r, P.set s r = P := fun r => List.set_eq_of_length_le (by omega)
   simp only [hx]
 ·rw [List.getElem?_set_ne hs, List.getElem?_set_ne (fun h => hs h.symm), List.set_comm _ _ hs]
def edgeF (m : Mach) (f : FA) : Int × Int := if f.kind = 0 then ((stepM m f.state f.input).1, f.out) else if f.kind = 1 then (f.to, (stepM m f.state f.input).2) else (-1, -1)
theorem mutP (m : Mach) {f : FA} (h : 0 ≤ f.kind ∧ f.kind < 3) : rowsP (mutF m f) = putP (rowsP m) f.state.toNat f.input.toNat (edgeF m f) := by
 show (mutRows m f).map (·.2) = _
 unfold mutRows edgeF
 obtain h0 | h0 | h0 : f.kind = 0 ∨ f.kind = 1 ∨ f.kind = 2 := by omega
 ·rw [if_pos h0, if_pos h0, putR_P]
 ·rw [if_neg (by omega), if_pos h0, if_neg (by omega), if_pos h0, putR_P]
 ·rw [if_neg (by omega), if_neg (by omega), if_pos h0, if_neg (by omega), if_neg (by omega), putR_P]
theorem mutF_rows (m : Mach) {f : FA} (h : 0 ≤ f.kind ∧ f.kind < 3) : (mutF m f).rows.length = m.rows.length := by
 have := congrArg List.length (mutP m h)
 unfold rowsP putP at this
 rw [List.length_map, List.length_set, List.length_map] at this
 exact this
structure PairOk (m : Mach) (f g : FA) : Prop where
 okf : faultB m f = true
 okg : faultB m g = true
 fk : f.kind < 3
 gk : g.kind < 3
 lt : ltE f g = true
theorem faultB_place {m : Mach} {f : FA} (h : faultB m f = true) : (0 ≤ f.kind ∧ f.kind ≤ 4) ∧ (0 ≤ f.state ∧ f.state < m.rows.length) ∧ 0 ≤ f.input ∧ f.input < m.ins := by
 unfold faultB at h
 simp only [Bool.and_eq_true] at h
 obtain ⟨h1, h2, _⟩ := h
 obtain ⟨a, b, _⟩ := definedB_iff.1 h2
 have := plainB_kind h1
 exact ⟨by omega, a, b⟩
theorem PairOk.ne {m : Mach} {f g : FA} (h : PairOk m f g) : f.state.toNat ≠ g.state.toNat ∨ f.input.toNat ≠ g.input.toNat := by
 have h1 := faultB_place h.okf
 have h2 := faultB_place h.okg
 have h3 := ltE_iff.1 h.lt
 omega
theorem PairOk.ne' {m : Mach} {f g : FA} (h : PairOk m f g) : g.state.toNat ≠ f.state.toNat ∨ g.input.toNat ≠ f.input.toNat := by
 have := h.ne; omega
theorem step_mut {m : Mach} {f : FA} (h : 0 ≤ f.kind ∧ f.kind < 3) {s i : Int} (hn : f.state.toNat ≠ s.toNat ∨ f.input.toNat ≠ i.toNat) : stepM (mutF m f) s i = stepM m s i := by
 rw [stepM_P, mutP m h, getP_put hn, stepM_P]
theorem fault_mut {m : Mach} {f g : FA} (h : 0 ≤ f.kind ∧ f.kind < 3) (hg : 0 ≤ g.kind ∧ g.kind < 3) (hn : f.state.toNat ≠ g.state.toNat ∨ f.input.toNat ≠ g.input.toNat) : faultB (mutF m f) g = faultB m g := by
 have e1 : definedB (mutF m f) g.state g.input = definedB m g.state g.input := by
  unfold definedB
  rw [step_mut h hn, mutF_rows m h]; rfl
 have e2 : kindB (mutF m f) g = kindB m g := by
  unfold kindB
  rw [step_mut h hn, mutF_rows m h]
  obtain h0 | h0 | h0 : g.kind = 0 ∨ g.kind = 1 ∨ g.kind = 2 := by omega
  ·rw [if_pos h0, if_pos h0]; rfl
  ·rw [if_neg (by omega), if_pos h0, if_neg (by omega), if_pos h0]
  ·rw [if_neg (by omega), if_neg (by omega), if_pos h0, if_neg (by omega), if_neg (by omega), if_pos h0]
 unfold faultB
 rw [e1, e2]
theorem checkF_ok {m : Mach} {f : FA} (h : faultB m f = true) (hk : f.kind < 3) : checkF m f = 0 := by
 unfold checkF
 rw [if_pos h, if_neg (by omega)]
theorem PairOk.check {m : Mach} {f g : FA} (h : PairOk m f g) : checkF m f = 0 ∧ checkF m g = 0 ∧ checkF (mutF m f) g = 0 ∧ faultB (mutF m f) g = true ∧ faultB (mutF m g) f = true := by
 have hf := faultB_place h.okf
 have hg := faultB_place h.okg
 have fk := h.fk
 have gk := h.gk
 have h1 : faultB (mutF m f) g = true := by rw [fault_mut (by omega) (by omega) h.ne]; exact h.okg
 have h2 : faultB (mutF m g) f = true := by rw [fault_mut (by omega) (by omega) h.ne']; exact h.okf
 exact ⟨checkF_ok h.okf fk, checkF_ok h.okg gk, checkF_ok h1 gk, h1, h2⟩
theorem PairOk.same {m : Mach} {f g : FA} (h : PairOk m f g) : (mutF (mutF m f) g).rows.map (·.2) = (mutF (mutF m g) f).rows.map (·.2) := by
 have hf := faultB_place h.okf
 have hg := faultB_place h.okg
 have fk := h.fk
 have gk := h.gk
 show rowsP _ = rowsP _
 rw [mutP _ (by omega), mutP _ (by omega), mutP _ (by omega), mutP _ (by omega), putP_comm h.ne]
 have e1 : edgeF (mutF m f) g = edgeF m g := by unfold edgeF; rw [step_mut (by omega) h.ne]
 have e2 : edgeF (mutF m g) f = edgeF m f := by unfold edgeF; rw [step_mut (by omega) h.ne']
 rw [e1, e2]
theorem fOf_nil {m : Mach} (hv : Valid m) (n : Int) (hA : allF m allK = []) :
  PureIs prog 48 [.ag [.sc (.int .u16 n)], .ag m.cells] (.tu [.ag [.sc (.int .i64 0), .sc (.int .i64 0), .sc (.int .i64 0), .sc (.int .i64 0), .sc (.int .i64 0), .sc (.int .i64 0)], .sc (.bool false)]) := by
 have q := all48_is hv false allK .full (by decide)
 rw [hA, show allK.map intC = [[.sc (.int .i64 0)], [.sc (.int .i64 1)], [.sc (.int .i64 2)], [.sc (.int .i64 3)], [.sc (.int .i64 4)]] from rfl] at q
 simp only [List.map_nil, List.isEmpty_nil] at q
 refine PureIs.of1 7 [12] func48 ntmps48 results48 fun _ => ?_
 refine EvC.a ?_ (by simp only [go_sem, Mach.cells] <;> rfl)
 refine EvC.z 0 ?_
 refine EvC.z 1 ?_
 refine EvC.k1 ?_ (h1 := by simp only [go_sem, Mach.cells] <;> rfl) (c1 := .ca q)
 refine EvC.seq ?_
 refine EvC.a ?_
 refine EvC.ct ?_
 refine EvC.a ?_
 refine EvC.rz ?_
 simp only [go_sem]
set_option maxHeartbeats 4000000 in
theorem list18_nil {m : Mach} (hv : Valid m) (nl : Bool) (ns : List Int) (c : Cp) (hl : (ns.length : Int) ≤ 140737488355328) (hA : allF m allK = []) :
  PureIs prog 18 [.ag m.cells, .sl nl (ns.map u16C) c] (.sl true [] .unk) := by
 have hll : (ns.map u16C).length = ns.length := List.length_map _
 refine PureIs.of1 3 [4, 5, 6, 7, 8, 16, 29] func18 ntmps18 results18 fun _ => ?_
 refine EvC.a ?_ (by simp only [go_sem, Mach.cells] <;> rfl)
 refine EvC.z 0 ?_
 refine EvC.a ?_
 refine EvC.seq ?_
 refine EvC.a ?_
 refine EvC.block ?_
 obtain ⟨K, hK⟩ : ∃ K, K = min 12 ns.length := ⟨_, rfl⟩
 refine EvC.loopS (σ := Nat) (fun i => ⟨[(1, .sl nl (ns.map u16C) c), (2, .ia m.cells), (5, .tl 0 0 true), (6, .sc (.int .i64 i))], [], [(0, .arr 6 [] true)], 1⟩) (fun i => K - i) (fun i => i ≤ K) [1, 2, 5, 6] 1 ?_ ?_
 ·exact ⟨[(2, 0)], 0, rfl, (by simp only [go_sem, Mach.cells, Int.natCast_zero] <;> rfl), Nat.zero_le _⟩
 intro i hi
 refine EvC.seq ?_
 by_cases hiK : i < K
 rotate_left
 ·obtain rfl : i = K := by omega
  by_cases h1 : i < ns.length
  ·have d1 : decide ((i : Int) < ns.length) = true := decide_eq_true (by omega)
   have d2 : decide ((i : Int) < 12) = false := decide_eq_false (by omega)
   refine EvC.g ?_ (h := by simp only [go_sem, hll, d1, d2] <;> rfl)
   refine EvC.cf ?_
   refine EvC.exit ?_
   refine EvC.frz 0 (by simp only [go_sem] <;> rfl) ?_
   refine EvC.a ?_
   refine EvC.rz ?_
   simp only [go_sem]
  ·have d1 : decide ((i : Int) < ns.length) = false := decide_eq_false (by omega)
   refine EvC.g ?_ (h := by simp only [go_sem, hll, d1] <;> rfl)
   refine EvC.cf ?_
   refine EvC.exit ?_
   refine EvC.frz 0 (by simp only [go_sem] <;> rfl) ?_
   refine EvC.a ?_
   refine EvC.rz ?_
   simp only [go_sem]
 have d1 : decide ((i : Int) < ns.length) = true := decide_eq_true (by omega)
 have d2 : decide ((i : Int) < 12) = true := decide_eq_true (by omega)
 refine EvC.g ?_ (h := by simp only [go_sem, hll, d1, d2] <;> rfl)
 refine EvC.cr ?_
 refine EvC.seq ?_
 refine EvC.block ?_
 have hil : i < ns.length := by omega
 have he : ns[i]? = some (ns[i]'hil) := List.getElem?_eq_getElem hil
 generalize ns[i]'hil = n at he
 have q := fOf_nil hv n hA
 have hnc : (ns.map u16C)[i]? = some [.sc (.int .u16 n)] := by rw [List.getElem?_map, he]; rfl
 have hit : (i : Int).toNat = i := Int.toNat_natCast i
 refine EvC.k1D mixed ?_ (h1 := by simp only [go_sem, hnc, hit, hll, Mach.cells] <;> rfl) (k1 := by simp; try omega) (c1 := .ca q)
 refine EvC.a ?_
 refine EvC.cs ?_
 refine EvC.b ?_ (hok := by exact inI64_of (by omega) (by omega))
 exact ⟨[(0, 0)], i + 1, rfl, (by simp only [go_sem, Mach.cells, Int.natCast_add, Int.natCast_one] <;> rfl), hiK, by omega⟩
def listA (m : Mach) (ns : List Int) : List FA := if allF m allK = [] then [] else listL m ns
theorem listA_is {m : Mach} (hv : Valid m) (nl : Bool) (ns : List Int) (c : Cp) (hns : ∀ n ∈ ns, 0 ≤ n ∧ n < 65536) (hl : (ns.length : Int) ≤ 140737488355328) :
  PureIs prog 18 [.ag m.cells, .sl nl (ns.map u16C) c] (.sl (listA m ns).isEmpty ((listA m ns).map FA.cells) .unk) := by
 unfold listA
 split
 ·rename_i h
  exact list18_nil hv nl ns c hl h
 ·rename_i h
  exact list18_is hv nl ns c hns hl (List.length_pos_iff.2 h)
theorem listA_ok {m : Mach} {ns : List Int} : (listA m ns).length ≤ 12 ∧ ∀ f ∈ listA m ns, faultB m f = true := by
 unfold listA
 split
 ·exact ⟨Nat.zero_le _, fun f h => by cases h⟩
 ·rename_i h
  have h2 : 0 < (allF m allK).length := List.length_pos_iff.2 h
  refine ⟨by rw [listL, List.length_map, List.length_take]; omega, fun f hf => ?_⟩
  unfold listL at hf
  obtain ⟨n, _, rfl⟩ := List.mem_map.1 hf
  unfold pickN
  have h3 : (n % ((allF m allK).length : Int)).toNat < (allF m allK).length := by
   have h4 : n % ((allF m allK).length : Int) < (allF m allK).length := Int.emod_lt_of_pos _ (by omega)
   have h5 : 0 ≤ n % ((allF m allK).length : Int) := Int.emod_nonneg _ (by omega)
   omega
  rw [List.getD_eq_getElem?_getD, List.getElem?_eq_getElem h3]
  exact faK_mem (List.getElem_mem h3)
theorem bothR_zero {a b : Mach} (ha : Valid a) (hb : Valid b) (hab : a.ins = b.ins) : bothR a b = 0 := by
 unfold bothR
 simp [ha.check, hb.check, hab]
theorem eqM_none {a b : Mach} (ha : Valid a) (hb : Valid b) (hab : a.ins = b.ins) : eqM a b = (diffO a b).isNone := by simp only [eqM, equalR, bothR_zero ha hb hab]; simp
theorem eqM_iff {a b : Mach} (ha : Valid a) (hb : Valid b) (hab : a.ins = b.ins) : eqM a b = true ↔ ∀ v, WOk a.ins.toNat v → runR a 0 v = runR b 0 v := by
 rw [eqM_none ha hb hab]
 rcases diff_least ha hb hab with ⟨h1, h2⟩ | ⟨h1, _, h2⟩
 ·constructor
  ·intro h
   cases hd : diffO a b <;> simp [hd] at h h1
  ·intro h
   exact absurd (h _ h2.1) h2.2.1
 ·rw [h1]
  exact ⟨fun _ => h2, fun _ => rfl⟩
structure MutsOk (m : Mach) (fs : List FA) : Prop where
 v : Valid m
 r : m.rows.length < 64
 b : ∀ f ∈ fs, faultB m f = true
 n : fs.length ≤ 256
theorem MutsOk.check {m : Mach} {fs : List FA} (h : MutsOk m fs) {f : FA} (hf : f ∈ fs) : checkF m f = 0 := by
 have := h.r
 unfold checkF
 rw [if_pos (h.b f hf), if_neg (by omega)]
theorem MutsOk.mv {m : Mach} {fs : List FA} (h : MutsOk m fs) {f : FA} (hf : f ∈ fs) : Valid (mutF m f) := mutF_valid h.v (h.check hf)
theorem errFs_ok {m : Mach} : ∀ {fs : List FA}, (∀ f ∈ fs, checkF m f = 0) → errFs m fs = 0
 | [], _ => rfl
 | f :: fs, h => by
   rw [errFs, if_pos (h f List.mem_cons_self)]
   exact errFs_ok fun g hg => h g (List.mem_cons_of_mem _ hg)
theorem MutsOk.err {m : Mach} {fs : List FA} (h : MutsOk m fs) : mutErr m fs = 0 := by
 have := h.n
 unfold mutErr
 rw [if_neg (by rw [h.v.check]; simp), if_neg (by omega), errFs_ok fun f hf => h.check hf]
theorem MutsOk.eq {m : Mach} {fs : List FA} (h : MutsOk m fs) {f g : FA} (hf : f ∈ fs) (hg : g ∈ fs) : eqM (mutF m f) (mutF m g) = true ↔ ∀ v, WOk m.ins.toNat v → runR (mutF m f) 0 v = runR (mutF m g) 0 v := eqM_iff (h.mv hf) (h.mv hg) rfl
def eqF (m : Mach) (f g : FA) : Bool := (diffO (mutF m f) (mutF m g)).isNone
theorem MutsOk.eqF {m : Mach} {fs : List FA} (h : MutsOk m fs) {f g : FA} (hf : f ∈ fs) (hg : g ∈ fs) : Avl.eqF m f g = eqM (mutF m f) (mutF m g) := (eqM_none (h.mv hf) (h.mv hg) rfl).symm
theorem MutsOk.refl {m : Mach} {fs : List FA} (h : MutsOk m fs) {f : FA} (hf : f ∈ fs) : Avl.eqF m f f = true := by
 rw [h.eqF hf hf, h.eq hf hf]; exact fun _ _ => rfl
theorem fstM_idx (p : Mach → Bool) : ∀ l : List Mach, fstM p l = l.findIdx p
 | [] => rfl
 | x :: l => by
   rw [fstM, List.findIdx_cons, fstM_idx p l]
   cases p x <;> rfl
theorem MutsOk.cls {m : Mach} {fs : List FA} (h : MutsOk m fs) {i : Nat} (hi : i < fs.length) : ∃ k : Nat, k ≤ i ∧ distF (fs.map (mutF m)) i = k ∧ ((fs.findIdx fun g => Avl.eqF m g fs[i] : Nat) : Int) = k ∧ ∃ hk : k < fs.length, eqM (mutF m fs[k]) (mutF m fs[i]) = true := by
 have hm := List.getElem_mem hi
 have hr := h.refl hm
 have hlt : (fs.findIdx fun g => Avl.eqF m g fs[i]) < fs.length := List.findIdx_lt_length_of_exists ⟨_, hm, hr⟩
 obtain ⟨k, hk⟩ : ∃ k, k = fs.findIdx fun g => Avl.eqF m g fs[i] := ⟨_, rfl⟩
 rw [← hk] at hlt
 have hki : k ≤ i := by
  rcases Nat.lt_or_ge i k with h1 | h1
  ·rw [hk] at h1
   have := List.not_of_lt_findIdx h1
   rw [hr] at this; cases this
  ·exact h1
 have hek : Avl.eqF m fs[k] fs[i] = true := by
  have := List.findIdx_getElem (p := fun g => Avl.eqF m g fs[i]) (xs := fs) (w := by rw [← hk]; exact hlt)
  simp only [← hk] at this
  exact this
 have hkm := List.getElem_mem hlt
 have hbe : ∀ j (hj : j < k), Avl.eqF m (fs[j]'(by omega)) fs[i] = false := fun j hj => by
  have := List.not_of_lt_findIdx (p := fun g => Avl.eqF m g fs[i]) (xs := fs) (i := j) (by rw [← hk]; exact hj)
  simpa using this
 refine ⟨k, hki, ?_, by rw [hk], hlt, by rw [← h.eqF hkm hm]; exact hek⟩
 have hat : atM (fs.map (mutF m)) i = mutF m fs[i] := by
  unfold atM
  rw [List.getD_eq_getElem?_getD, Int.toNat_natCast, List.getElem?_map, List.getElem?_eq_getElem hi]; rfl
 unfold distF
 rw [hat, fstM_idx]
 congr 1
 by_cases hki2 : k < i
 ·rw [List.findIdx_eq (by simp; omega)]
  refine ⟨?_, fun j hj => ?_⟩
  ·rw [List.getElem_take, List.getElem_map, ← h.eqF hkm hm]; exact hek
  ·rw [List.getElem_take, List.getElem_map, ← h.eqF (List.getElem_mem _) hm]; exact hbe j hj
 ·obtain rfl : k = i := by omega
  rw [List.findIdx_eq_length_of_false]
  ·simp; omega
  ·intro x hx
   rw [List.mem_take_iff_getElem] at hx
   obtain ⟨j, hj, rfl⟩ := hx
   rw [List.getElem_map, ← h.eqF (List.getElem_mem _) hm]
   exact hbe j (by omega)
theorem MutsOk.dist {m : Mach} {fs : List FA} (h : MutsOk m fs) : distL (fs.map (mutF m)) = dR (Avl.eqF m) fs := by
 unfold distL dR
 rw [List.length_map]
 apply List.ext_getElem
 ·simp
 intro i h1 h2
 have hi : i < fs.length := by simpa using h2
 obtain ⟨k, _, e1, e2, _⟩ := h.cls hi
 rw [List.getElem_map, List.getElem_range, List.getElem_map, e1, e2]
theorem LM.muts {x : LM} (hx : x.Ok) (ns : List Int) : MutsOk x.mach (listA x.mach ns) := by
 obtain ⟨h6, h3⟩ := LM.small hx
 exact ⟨LM.valid hx, by omega, listA_ok.2, by have := (listA_ok (m := x.mach) (ns := ns)).1; omega⟩
theorem cmpI_swap : ∀ {a b : List Int}, cmpI b a = - cmpI a b
 | [], [] => rfl
 | [], _ :: _ => rfl
 | _ :: _, [] => rfl
 | x :: a, y :: b => by
   unfold cmpI
   by_cases h1 : x < y
   ·rw [if_neg (by omega), if_pos h1, if_pos h1]; rfl
   ·by_cases h2 : y < x
    ·rw [if_pos h2, if_neg h1, if_pos h2]
    ·rw [if_neg h2, if_neg h1, if_neg h1, if_neg h2, cmpI_swap]
theorem cmpL_swap (a b : List Int) : cmpL b a = - cmpL a b := by
 unfold cmpL
 by_cases h : a.length = b.length
 ·rw [if_pos h, if_pos h.symm, cmpI_swap]
 ·rw [if_neg h, if_neg (fun e => h e.symm)]
  by_cases h2 : a.length < b.length
  ·rw [if_pos h2, if_neg (by omega)]; rfl
  ·rw [if_neg h2, if_pos (by omega)]
theorem cmpI_trans : ∀ {a b c : List Int}, a.length = b.length → b.length = c.length → cmpI a b < 0 → cmpI b c < 0 → cmpI a c < 0
 | [], [], _, _, _, h, _ => by simp [cmpI] at h
 | x :: a, y :: b, [], _, h2, _, _ => by simp at h2
 | x :: a, y :: b, z :: c, h1, h2, k1, k2 => by
   unfold cmpI at k1 k2 ⊢
   by_cases e1 : x < y
   ·by_cases e2 : y < z
    ·rw [if_pos (by omega)]; omega
    ·rw [if_neg e2] at k2
     by_cases e3 : z < y
     ·rw [if_pos e3] at k2; omega
     ·rw [if_pos (by omega)]; omega
   ·rw [if_neg e1] at k1
    by_cases e2 : y < x
    ·rw [if_pos e2] at k1; omega
    ·rw [if_neg e2] at k1
     by_cases e3 : y < z
     ·rw [if_pos (by omega)]; omega
     ·rw [if_neg e3] at k2
      by_cases e4 : z < y
      ·rw [if_pos e4] at k2; omega
      ·rw [if_neg e4] at k2
       rw [if_neg (by omega), if_neg (by omega)]
       exact cmpI_trans (by simpa using h1) (by simpa using h2) k1 k2
theorem cmpL_len {a b : List Int} (h : cmpL a b < 0) : a.length ≤ b.length := by
 unfold cmpL at h
 split at h
 ·omega
 ·split at h
  ·omega
  ·omega
theorem cmpL_of_lt {a b : List Int} (h : a.length < b.length) : cmpL a b < 0 := by
 unfold cmpL
 rw [if_neg (by omega), if_pos h]; omega
theorem cmpL_trans {a b c : List Int} (h1 : cmpL a b < 0) (h2 : cmpL b c < 0) : cmpL a c < 0 := by
 have l1 := cmpL_len h1
 have l2 := cmpL_len h2
 by_cases e1 : a.length = b.length
 ·by_cases e2 : b.length = c.length
  ·unfold cmpL at h1 h2 ⊢
   rw [if_pos e1] at h1
   rw [if_pos e2] at h2
   rw [if_pos (by omega)]
   exact cmpI_trans e1 e2 h1 h2
  ·exact cmpL_of_lt (by omega)
 ·exact cmpL_of_lt (by omega)
def SrtW (W : List RW) : Prop := W.Pairwise fun x y => cmpL x.2.1 y.2.1 < 0
def insW : List RW → RW → List RW
 | [], x => [x]
 | y :: l, x => if cmpL y.2.1 x.2.1 < 0 then y :: insW l x else if cmpL y.2.1 x.2.1 = 0 then y :: l else x :: y :: l
theorem insW_app {x : RW} : ∀ {A : List RW} (B : List RW), (∀ a ∈ A, cmpL a.2.1 x.2.1 < 0) → insW (A ++ B) x = A ++ insW B x
 | [], B, _ => rfl
 | a :: A, B, h => by
   rw [List.cons_append, insW, if_pos (h a List.mem_cons_self), insW_app B fun b hb => h b (List.mem_cons_of_mem _ hb)]; rfl
theorem insW_mem {x z : RW} : ∀ {W : List RW}, z ∈ insW W x → z = x ∨ z ∈ W
 | [], h => by rw [insW, List.mem_singleton] at h; exact .inl h
 | y :: l, h => by
   rw [insW] at h
   split at h
   ·rcases List.mem_cons.1 h with h | h
    ·exact .inr (by rw [h]; exact List.mem_cons_self)
    ·rcases insW_mem h with h | h
     ·exact .inl h
     ·exact .inr (List.mem_cons_of_mem _ h)
   ·split at h
    ·exact .inr h
    ·rcases List.mem_cons.1 h with h | h
     ·exact .inl h
     ·exact .inr h
theorem insW_srt {x : RW} : ∀ {W : List RW}, SrtW W → SrtW (insW W x)
 | [], _ => List.pairwise_singleton _ _
 | y :: l, h => by
   obtain ⟨h1, h2⟩ := List.pairwise_cons.1 h
   rw [insW]
   split
   ·rename_i c
    refine List.pairwise_cons.2 ⟨fun z hz => ?_, insW_srt h2⟩
    rcases insW_mem hz with rfl | hz
    ·exact c
    ·exact h1 z hz
   ·split
    ·exact h
    ·rename_i c1 c2
     have hxy : cmpL x.2.1 y.2.1 < 0 := by have := cmpL_swap x.2.1 y.2.1; omega
     refine List.pairwise_cons.2 ⟨fun z hz => ?_, h⟩
     rcases List.mem_cons.1 hz with rfl | hz
     ·exact hxy
     ·exact cmpL_trans hxy (h1 z hz)
theorem insW_len (x : RW) : ∀ W : List RW, (insW W x).length ≤ W.length + 1 ∧ 1 ≤ (insW W x).length
 | [] => by simp [insW]
 | y :: l => by
   have := insW_len x l
   rw [insW]
   split
   ·simp only [List.length_cons]; omega
   ·split <;> simp only [List.length_cons] <;> omega
theorem SrtW.lt {W : List RW} (h : SrtW W) {i j : Nat} (hij : i < j) (hj : j < W.length) : cmpL (W[i]'(by omega)).2.1 W[j].2.1 < 0 := List.pairwise_iff_getElem.1 h i j (by omega) hj hij
def holeW (W : List RW) (i : Nat) (h : List AV) : List (List AV) := (W.take i).map rwC ++ h :: (W.drop i).map rwC
theorem holeW_len {W : List RW} {i : Nat} {h : List AV} (hi : i ≤ W.length) : (holeW W i h).length = W.length + 1 := by
 unfold holeW
 rw [List.length_append, List.length_cons, List.length_map, List.length_map, List.length_take, List.length_drop]; omega
theorem holeW_norefs {W : List RW} {i : Nat} {h : List AV} (hh : AV.norefs h = true) : (holeW W i h).all AV.norefs = true := by
 unfold holeW
 rw [List.all_append, List.all_cons, norefs_rw, norefs_rw, hh]; rfl
theorem holeW_get {W : List RW} {i : Nat} {h : List AV} (hi : i + 1 ≤ W.length) : (holeW W (i + 1) h)[i]? = some (rwC (W[i]'(by omega))) := by
 unfold holeW
 rw [List.getElem?_append_left (by rw [List.length_map, List.length_take]; omega), List.getElem?_map, List.getElem?_take_of_lt (by omega), List.getElem?_eq_getElem (by omega)]; rfl
theorem holeW_set {W : List RW} {i : Nat} {h : List AV} (hi : i + 1 ≤ W.length) : (holeW W (i + 1) h).set (i + 1) (rwC (W[i]'(by omega))) = holeW W i (rwC (W[i]'(by omega))) := by
 unfold holeW
 rw [List.set_append_right _ _ (by rw [List.length_map, List.length_take]; omega)]
 have e : i + 1 - ((W.take (i + 1)).map rwC).length = 0 := by rw [List.length_map, List.length_take]; omega
 rw [e, List.set_cons_zero, List.take_succ_eq_append_getElem (by omega), List.map_append, List.append_assoc, List.drop_eq_getElem_cons (show i < W.length by omega)]
 rfl
theorem holeW_at {W : List RW} {i : Nat} {h : List AV} (hi : i ≤ W.length) : (holeW W i h)[i]? = some h := by
 unfold holeW
 rw [List.getElem?_append_right (by rw [List.length_map, List.length_take]; omega)]
 have e : i - ((W.take i).map rwC).length = 0 := by rw [List.length_map, List.length_take]; omega
 rw [e]; rfl
theorem holeW_put {W : List RW} {i : Nat} {h : List AV} (hi : i ≤ W.length) (x : RW) : (holeW W i h).set i (rwC x) = (W.take i ++ x :: W.drop i).map rwC := by
 unfold holeW
 rw [List.set_append_right _ _ (by rw [List.length_map, List.length_take]; omega)]
 have e : i - ((W.take i).map rwC).length = 0 := by rw [List.length_map, List.length_take]; omega
 rw [e, List.set_cons_zero, List.map_append]; rfl
end Go.Avl
