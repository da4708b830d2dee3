/-
  Lemmas.
-/
import Derived.Test.YtmmcendgdcmlkaaGreatDoorPart9
set_option linter.unusedSimpArgs false
set_option linter.unusedVariables false
set_option linter.unnecessarySimpa false
set_option linter.deprecated false
namespace Go.Avl
open Go Go.Proofs.Tryz
set_option maxRecDepth 10000
theorem leastL_len (S : List (List Int)) : (leastL S).length ≤ S.length := by
 unfold leastL
 rw [List.length_map]
 have := List.length_filter_le (keepB S) (List.range S.length)
 rw [List.length_range] at this; exact this
set_option maxHeartbeats 8000000 in
theorem ordersSubsumes_is {x : LM} (hx : x.Ok) {y : LW} (hy : y.Ok) (hyl : (y.ws.length : Int) ≤ 140737488355328) (hyw : ∀ z ∈ y.ws, (z.2.length : Int) ≤ 140737488355328) (nl : Bool) (ns : List Int) (c : Cp) (hns : ∀ n ∈ ns, 0 ≤ n ∧ n < 65536) (hl : (ns.length : Int) ≤ 140737488355328) :
  PureIs prog 3 [.ag x.cells, .ag y.cells, .sl nl (ns.map u16C) c] (.sc (.bool true)) := by
 have hv := LM.valid hx
 obtain ⟨h6, h3⟩ := LM.small hx
 have hnn := LM.noNil x
 have hmo := mOf_is hx
 have hM := LM.muts hx ns
 rw [LM.cells] at hmo ⊢
 generalize x.mach = m at hv h6 h3 hnn hmo hM
 have hms := hv.small
 have hi1 := hv.ins
 have q0 := listA_is hv nl ns c hns hl
 have h12 := (listA_ok (m := m) (ns := ns)).1
 generalize listA m ns = L at q0 hM h12
 have qw := of25_is hy hyl hyw
 have hWs := y.wsOk (n := m.ins) (by omega)
 have hraw : (sortW y.raw).length < 100000 := by
  have h1 := sortW_len y.raw
  have h2 : y.raw.length ≤ 40 := by rw [LW.raw, List.length_map, List.length_take]; omega
  omega
 have qv := within24_is (sortW y.raw).isEmpty (sortW y.raw) .unk m.ins (by omega) hraw (fun w hw => by
  obtain ⟨z, hz, e⟩ := sortW_mem hw
  obtain ⟨u, _, rfl⟩ := List.mem_map.1 hz
  rw [e]
  simp only [LW.rawOf, List.length_map, List.length_take]
  refine ⟨by omega, fun a ha => ?_⟩
  obtain ⟨b, _, rfl⟩ := List.mem_map.1 ha
  have h1 : y.alpha ≠ 0 := by unfold LW.alpha; have := Int.emod_nonneg y.inp (show (3 : Int) ≠ 0 by omega); omega
  have h2 : y.alpha ≤ 3 ∧ 0 < y.alpha := by unfold LW.alpha; have := Int.emod_nonneg y.inp (show (3 : Int) ≠ 0 by omega); have := Int.emod_lt_of_pos y.inp (show (0 : Int) < 3 by omega); omega
  have := Int.emod_nonneg b h1
  have := Int.emod_lt_of_pos b h2.2
  omega)
 have hSn := norefs_rw (sortW y.raw)
 have qv : PureIs prog 5 [.sl (sortW y.raw).isEmpty ((sortW y.raw).map rwC) .unk, .sc (.int .i64 m.ins)] (.sl (y.words m.ins).isEmpty ((y.words m.ins).map rwC) .unk) := qv
 generalize (sortW y.raw).map rwC = S0 at qw qv hSn
 generalize (sortW y.raw).isEmpty = e0 at qw qv
 generalize y.words m.ins = W at qv hWs
 obtain ⟨we, hwe⟩ : ∃ we, we = W.isEmpty := ⟨_, rfl⟩
 rw [← hwe] at qv
 have hW40 := hWs.l
 have hWlen : ∀ w ∈ W, w.2.1.length < 1000000 := fun w hw => by have := (hWs.w w hw).1; omega
 have hWin : ∀ w ∈ W, ∀ a ∈ w.2.1, 0 ≤ a ∧ a < m.ins := fun w hw => (hWs.w w hw).2
 have hWn := norefs_rw W
 have hWl : (W.map rwC).length = W.length := List.length_map _
 have q1 := least_is m hms hnn we W .unk hWlen (by omega) L.isEmpty L .unk (by omega)
 have hrd := hWs.ready hv
 unfold leastA at q1
 rw [if_neg (by unfold leastE; rw [hrd, hM.err]; simp)] at q1
 have qs := fun f hf g hg => refSub_is hv we W .unk f g (hM.b f hf) (hM.b g hg) (hM.mv hf) (hM.mv hg) hWin hWlen (by omega)
 have qr := refLeast_is we W .unk L.isEmpty L .unk (by omega) qs
 have q3 := intsEq_is (leastL (L.map (killW m W))).isEmpty (leastL (L.map (killW m W))).isEmpty (leastL (L.map (killW m W))) .unk (by have := leastL_len (L.map (killW m W)); rw [List.length_map] at this; omega)
 have hsubs : ∀ f ∈ L, ∀ g ∈ L, PureIs prog 11 [.ag m.cells, .sl we (W.map rwC) .unk, .ag f.cells, .ag g.cells] (.tu [.sc (.bool (subV m W f g)), .sc (.int .i64 0)]) := fun f hf g hg => by
  have q := subsumes_is m hms hnn we W .unk hWlen (by omega) f g
  unfold subsumesA at q
  rwa [if_neg (by unfold subE; rw [hrd, hM.check hf, hM.check hg]; simp)] at q
 have hLn := norefs_faL L
 have hLl : (L.map FA.cells).length = L.length := List.length_map _
 have hEn := norefs_intC (leastL (L.map (killW m W)))
 generalize (leastL (L.map (killW m W))).map intC = E at q1 qr q3 hEn
 generalize (leastL (L.map (killW m W))).isEmpty = ee at q1 qr q3
 rw [Mach.cells] at hmo q0 q1 qr
 rw [LW.cells] at qw ⊢
 refine PureIs.of1 5 [6, 7, 8, 9, 10, 11, 12, 13, 14, 15, 43, 47, 85] func3 ntmps3 results3 fun _ => ?_
 refine EvC.a ?_
 refine EvC.z 0 ?_
 refine EvC.z 1 ?_
 refine EvC.k1 ?_ (c1 := .ca hmo)
 refine EvC.z 5 ?_
 refine EvC.k2D mixed ?_ (c1 := .ca qw) (c2 := .ca qv) (h3 := by simp only [go_sem, hSn, hWn] <;> rfl)
 refine EvC.k1 ?_ (c1 := .ca q0) (h2 := by simp only [go_sem, hLn] <;> rfl)
 refine EvC.k1 ?_ (c1 := .ca q1) (h2 := by simp only [go_sem, hEn] <;> rfl) (k2 := by simp [hEn])
 refine EvC.seq ?_
 refine EvC.k2 ?_ (h1 := by simp only [go_sem, hWn, hLn, hEn] <;> rfl) (c1 := .cg qr) (h2 := by simp only [go_sem, hWn, hLn, hEn] <;> rfl) (c2 := .cg q3)
 refine EvC.cs ?_
 refine EvC.seq ?_
 refine EvC.a ?_
 refine EvC.block ?_
 refine EvC.loopS (σ := Nat) (fun i => ⟨[(7, .ia [.sc (.int .i64 m.ins), .sc (.int .i64 m.outs), .sl m.nl (m.rows.map rowC) .unk]), (8, .sl we (W.map rwC) .unk), (9, .sl L.isEmpty (L.map FA.cells) .unk), (12, .sc (.int .i64 i))], [], [], 0⟩) (fun i => L.length - i) (fun i => i ≤ L.length) [7, 8, 9, 12] 0 ?_ ?_
 ·exact ⟨[], 0, rfl, (by simp only [go_sem, Int.natCast_zero, hWn, hLn] <;> rfl), Nat.zero_le _⟩
 intro i hi
 refine EvC.seq ?_
 refine EvC.a ?_ (by simp only [go_sem, hLl] <;> rfl)
 refine EvC.cond (by simp only [go_sem] <;> rfl) (fun hc => ?_) (fun hc => ?_)
 rotate_left
 ·refine EvC.exit ?_
  refine EvC.k1 ?_ (h1 := by simp only [go_sem, hWn, hLn] <;> rfl) (c1 := .ca lives_is)
  refine EvC.rz ?_
  simp only [go_sem]
 have hil : i < L.length := by simpa using hc
 clear hc
 have hN0 : (L.length : Int) ≠ 0 := by omega
 obtain ⟨jZ, hjZ⟩ : ∃ z : Int, z = (i : Int) + 1 := ⟨_, rfl⟩
 have hm0 : 0 ≤ jZ % (L.length : Int) := Int.emod_nonneg _ hN0
 have hm1 : jZ % (L.length : Int) < L.length := Int.emod_lt_of_pos _ (by omega)
 obtain ⟨k, hk⟩ : ∃ k : Nat, (k : Int) = jZ % (L.length : Int) := ⟨(jZ % (L.length : Int)).toNat, by omega⟩
 have hkl : k < L.length := by omega
 have hfe : L[i]? = some (L[i]'hil) := List.getElem?_eq_getElem hil
 have hge : L[k]? = some (L[k]'hkl) := List.getElem?_eq_getElem hkl
 have p1 := hsubs _ (List.getElem_mem hil) _ (List.getElem_mem hkl)
 have p2 := qs _ (List.getElem_mem hil) _ (List.getElem_mem hkl)
 generalize L[i]'hil = f at hfe p1 p2
 generalize L[k]'hkl = g at hge p1 p2
 generalize subV m W f g = b at p1 p2
 have hfc : (L.map FA.cells)[i]? = some f.cells := by rw [List.getElem?_map, hfe]; rfl
 have hgc : (L.map FA.cells)[k]? = some g.cells := by rw [List.getElem?_map, hge]; rfl
 have hit : (i : Int).toNat = i := Int.toNat_natCast i
 have hkt : (k : Int).toNat = k := Int.toNat_natCast k
 rw [FA.cells] at hfc hgc
 simp only [FA.cells, Mach.cells] at p1 p2
 have hbb : (b == b) = true := by cases b <;> rfl
 have hj0 : 0 ≤ jZ := by omega
 have i1 : inI64 jZ = true := inI64_of (by omega) (by omega)
 have i2 : inI64 (k : Int) = true := inI64_of (by omega) (by omega)
 refine EvC.skip ?_
 refine EvC.seq ?_
 refine EvC.block ?_
 refine EvC.a ?_ (by simp only [go_sem, ← hjZ, ← hk, hLl, decide_eq_false hN0] <;> rfl) (by simp [← hjZ, i1, i2, hN0, hj0]; try omega)
 refine EvC.k1D mixed ?_ (h1 := by simp only [go_sem, hfc, hgc, hit, hkt, hLl, hWn] <;> rfl) (k1 := by simp; try omega) (c1 := .ca p1)
 refine EvC.k1D mixed ?_ (h1 := by simp only [go_sem, hfc, hgc, hit, hkt, hLl, hWn, hbb] <;> rfl) (k1 := by simp; try omega) (c1 := .cg p2)
 refine EvC.cs ?_ (by simp only [go_sem, hbb] <;> rfl)
 refine EvC.b ?_ (hok := by exact inI64_of (by omega) (by omega))
 exact ⟨[], i + 1, rfl, (by simp only [go_sem, Int.natCast_add, Int.natCast_one, hWn, hLn] <;> rfl), hil, by omega⟩
end Go.Avl
