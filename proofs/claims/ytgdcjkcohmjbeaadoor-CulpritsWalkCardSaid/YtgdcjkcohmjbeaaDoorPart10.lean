/-
  Lemmas.
  From a law's row to its contract: arguments opened, and read again behind the call.
  How the arguments of the culprits' laws read, and the table of the kinds of faults.
-/
import Derived.ProofKit
import Derived.OpenShut
import Derived.Test.YtgdcjkcohmjbeaaDoorCards
import Derived.Test.YtgdcjkcohmjbeaaDoorTie
import Derived.LaidMore
import Derived.Stop.Joined
import Derived.Test.YtgdcjkcohmjbeaaDoorPart9
set_option linter.unusedSimpArgs false
set_option linter.unusedVariables false
set_option linter.unnecessarySimpa false
set_option linter.deprecated false
namespace Go.Avl
open Go Go.Proofs.Tryd
set_option maxRecDepth 10000
def kN {κ : Type} (_ : κ) : List AV := []
theorem kN_norefs {κ : Type} (x : κ) : AV.norefs (kN x) = true := rfl
theorem dvPut_head {X : List Mach} {eqB : Mach → Mach → Bool} {i : Int} : ∀ {ps : List (Mach × List Int)}, (∀ q ∈ ps, ∃ h t, q.2 = h :: t ∧ q.1 = atM X h ∧ 0 ≤ h ∧ h < X.length) → 0 ≤ i ∧ i < X.length → ∀ q ∈ dvPut eqB (atM X i) i ps, ∃ h t, q.2 = h :: t ∧ q.1 = atM X h ∧ 0 ≤ h ∧ h < X.length :=
 fun {ps} h hi => dvPut_all (Q := fun k l => ∃ h t, l = h :: t ∧ k = atM X h ∧ 0 ≤ h ∧ h < X.length) (atM X i) i ⟨i, [], rfl, rfl, hi⟩ (fun k l ⟨a, t, e1, e2⟩ _ => ⟨a, t ++ [i], by rw [e1]; rfl, e2⟩) ps h
set_option maxHeartbeats 8000000 in
theorem refclasses_is (m : Mach) (hv : Valid m) (fn : Bool) (fs : List FA) (fc : Cp) (hf : ∀ f ∈ fs, checkF m f = 0) (hfl : fs.length ≤ 256) :
  PureIs prog 18 [.ag m.cells, .sl fn (fs.map FA.cells) fc] (.sl fs.isEmpty ((dvL eqM (atM (fs.map (mutF m))) (idL fs.length) []).map (partC kN)) .unk) := by
 have hfb : ∀ f ∈ fs, faultB m f = true := fun f h => by
  have := hf f h
  unfold checkF at this
  split at this
  ·assumption
  ·cases this
 have q := refmutants_is m hv fn fs fc hfb (by omega)
 have hXv : ∀ x ∈ fs.map (mutF m), Valid x ∧ x.ins = m.ins := fun x hx => by
  obtain ⟨f, h, rfl⟩ := List.mem_map.1 hx
  exact ⟨mutF_valid hv (hf f h), rfl⟩
 have hXl : (fs.map (mutF m)).length = fs.length := List.length_map _
 generalize fs.map (mutF m) = X at q hXv hXl ⊢
 have hXn := norefs_machs X
 obtain ⟨N, hN⟩ : ∃ N, N = fs.length := ⟨_, rfl⟩
 have hin : ∀ i : Int, 0 ≤ i → i < X.length → Valid (atM X i) ∧ (atM X i).ins = m.ins := fun i h1 h2 => hXv _ (by
  rw [atM, List.getD_eq_getElem?_getD, List.getElem?_eq_getElem (show i.toNat < X.length by omega)]
  exact List.getElem_mem _)
 have hfe : (idL N).isEmpty = fs.isEmpty := by rw [hN]; cases fs <;> simp [idL, List.range_succ]
 refine PureIs.of1 3 [4, 5, 6, 7, 8, 9, 16, 26, 42, 54, 57, 58] func18 ntmps18 results18 fun _ => ?_
 refine EvC.a ?_ (by simp only [go_sem, Mach.cells] <;> rfl)
 refine EvC.z 0 ?_
 apply EvC.s1
 ·apply Tr.run
  ·simp only [go_sem, Mach.cells] <;> rfl
  ·simp
  apply Tr.cons
  ·exact .ca (q)
  apply Tr.done
  ·simp only [go_sem, hXn] <;> rfl
  ·simp
 refine EvC.a ?_
 refine EvC.seq ?_
 refine EvC.a ?_
 refine EvC.thaw 6 (by simp only [go_sem] <;> rfl) ?_
 refine EvC.block ?_
 refine EvC.loopS (σ := Nat × List (Mach × List Int)) (fun g2 => ⟨[(1, .sl fn (fs.map FA.cells) fc), (5, .sl fs.isEmpty (X.map Mach.cells) .unk), (6, .tl 0 g2.2.length g2.2.isEmpty), (7, .sc (.int .i64 g2.1))], [], dM kN 1 g2.2, 3000000⟩) (fun g2 => N - g2.1)
  (fun g2 => g2.1 ≤ N ∧ dvL eqM (atM X) (idL N) [] = dvL eqM (atM X) ((idL N).drop g2.1) g2.2 ∧ g2.2.length ≤ g2.1 ∧ (∀ q ∈ g2.2, q.2.length ≤ g2.1) ∧ ∀ q ∈ g2.2, ∃ h t, q.2 = h :: t ∧ q.1 = atM X h ∧ 0 ≤ h ∧ h < X.length) [1, 5, 6, 7] 3000000 ?_ ?_
 ·exact ⟨[(6, 0)], (0, []), rfl, (by simp only [go_sem, Int.natCast_zero, dM, dRows, dcA, msegA, List.map_nil, List.length_nil, List.isEmpty_nil] <;> rfl), Nat.zero_le _, rfl, Nat.le_refl _, (fun _ h => by cases h), fun _ h => by cases h⟩
 rintro ⟨i, ps⟩ ⟨hi, hdv, hpl, hpq, hph⟩
 simp only at hi hdv hpl hpq hph ⊢
 rw [← hN]
 refine EvC.seq ?_
 refine EvC.a ?_ (by simp only [go_sem, List.length_map, ← hN] <;> rfl)
 refine EvC.cond (by simp only [go_sem] <;> rfl) (fun hc => ?_) (fun hc => ?_)
 rotate_left
 ·refine EvC.exit ?_
  obtain rfl : N = i := by have : ¬ i < N := (by simpa using hc); omega
  rw [List.drop_of_length_le (by simp [idL])] at hdv
  have hdv : dvL eqM (atM X) (idL N) [] = ps := hdv
  have hp6 : ps.length ≤ 1000000 := by omega
  have hie : ps.isEmpty = fs.isEmpty := by rw [← hdv, ← hfe]; exact dvL_empty eqM (atM X) (idL N)
  rw [hdv]
  have hrl : ∀ j p, ps[j]? = some p → mlook (dM kN 1 ps) (2000000 + j) = some (.arr 1 (p.2.map intC) false) := fun j p hj => dM_lookR hj
  refine EvC.ofzAll ps.length (fun j hj => ⟨1, _, false, hrl j _ (List.getElem?_eq_getElem hj), by simp [List.all_eq_true, intC, AV.norefs, AV.noref]⟩) ?_
  have hfz : ofzAll ps.length (dM kN 1 ps) = (0, .arr 1 (dcA kN ps 0) false) :: dRowsF ps := by rw [dM, ofzAll_cons hp6 0 rfl, dRows_fz]
  have hsn : (dcA kN ps 0).map (fun c => c.map (AV.deep (snap ((0, .arr 1 (dcA kN ps 0) false) :: dRowsF ps)))) = ps.map (partC kN) := dcA_snap kN_norefs fun j p hj => by
   rw [Nat.zero_add]
   simp only [mlook]
   rw [if_neg (by omega), dRowsF_look hj]
  have hnr := partC_norefs (kc := kN) kN_norefs ps
  have hpl2 : (ps.map (partC kN)).length = ps.length := List.length_map _
  have hmm := fun f => dRowsF_memMap f ps
  refine EvC.snapA 0 (by simp only [go_sem, hfz, hsn] <;> rfl) ?_
  rw [hie]
  generalize ps.map (partC kN) = L at hnr hpl2 ⊢
  refine EvC.frz 0 (by simp only [go_sem, hnr, hpl2] <;> rfl) ?_
  refine EvC.a ?_ (by simp only [go_sem, hpl2] <;> rfl)
  refine EvC.rz ?_
  simp only [go_sem]
 have hil : i < N := by simpa using hc
 clear hc
 have hdr : (idL N).drop i = (i : Int) :: (idL N).drop (i + 1) := by
  have h1 : i < (idL N).length := by simp [idL]; omega
  rw [List.drop_eq_getElem_cons h1]; congr 1; simp [idL]
 rw [hdr, dvL] at hdv
 have hxi := hin i (Int.natCast_nonneg i) (by omega)
 have hxg := atM_get (X := X) (i := (i : Int)) (by omega)
 have hhead := fun (ps : List (Mach × List Int)) h => dvPut_head (X := X) (eqB := eqM) (i := (i : Int)) (ps := ps) h ⟨Int.natCast_nonneg i, by omega⟩
 have hhd := hhead ps hph
 clear hhead
 obtain ⟨iZ, hiZ⟩ : ∃ z : Int, z = (i : Int) := ⟨_, rfl⟩
 have hit : iZ.toNat = i := by omega
 rw [← hiZ] at hdv hxi hxg hhd ⊢
 rw [hit] at hxg
 obtain ⟨x, hx⟩ : ∃ x, x = atM X iZ := ⟨_, rfl⟩
 rw [← hx] at hdv hxi hxg hhd
 have hp6 : ps.length < 1000000 := by omega
 have hl0 := dM_look0 (kc := (kN : Mach → List AV)) (e := 1) (ps := ps)
 have hdl := dcA_len (kN : Mach → List AV) ps 0
 have hgk := dK_ok (n := ps.length) (by omega)
 have hhi := dK_hi (n := ps.length) (by omega)
 have hgc0 := dM_gc (e := 1) (M := dM kN 1 ps) kN_norefs (Nat.le_of_lt hp6) hl0 fun j p hj => dM_lookR hj
 refine EvC.skip ?_
 refine EvC.seq ?_
 refine EvC.block ?_
 refine EvC.a ?_
 refine EvC.seq ?_
 refine EvC.a ?_
 refine EvC.block ?_
 refine EvC.loopS (σ := Nat × Bool × List (Mach × List Int)) (fun g => ⟨[(1, .sl fn (fs.map FA.cells) fc), (5, .sl fs.isEmpty (X.map Mach.cells) .unk), (6, .tl 0 ps.length ps.isEmpty), (7, .sc (.int .i64 iZ)), (8, .sc (.bool g.2.1)), (9, .sc (.int .i64 g.1))], [], dM kN 1 g.2.2, 3000000⟩) (fun g => ps.length - g.1)
  (fun g => g.1 ≤ ps.length ∧ (g.2.1 = false → g.2.2 = ps ∧ ∀ j q, j < g.1 → ps[j]? = some q → eqM q.1 x = false) ∧ (g.2.1 = true → g.2.2 = dvPut eqM x iZ ps ∧ g.2.2.length = ps.length ∧ ∀ q ∈ g.2.2, q.2.length ≤ i + 1)) [1, 5, 6, 7, 8, 9] 3000000 ?_ ?_
 ·exact ⟨dK ps.length, (0, false, ps), hgk, (by simp only [go_sem, Int.natCast_zero, hhi, hgc0] <;> rfl), Nat.zero_le _, (fun _ => ⟨rfl, fun j q h => absurd h (Nat.not_lt_zero _)⟩), fun h => by cases h⟩
 rintro ⟨n, dn, ps'⟩ ⟨hn, hno, hyes⟩
 simp only at hn hno hyes ⊢
 refine EvC.seq ?_
 cases dn with
 | true =>
   obtain ⟨y1, y2, y3⟩ := hyes rfl
   rw [← y1] at hdv hhd
   have hl0' := dM_look0 (kc := (kN : Mach → List AV)) (e := 1) (ps := ps')
   have hdl' := dcA_len (kN : Mach → List AV) ps' 0
   have hgc' := dM_gc (e := 1) (M := dM kN 1 ps') kN_norefs (by omega) hl0' fun j p hj => dM_lookR hj
   rw [y2] at hgc' hdl'
   have hes : ps'.isEmpty = ps.isEmpty := by
    cases ps' <;> cases ps <;> first | rfl | simp at y2
   obtain ⟨b, hb⟩ : ∃ b, decide ((n : Int) < ps.length) = b := ⟨_, rfl⟩
   cases b
   ·apply EvC.seq
    apply EvC.trd
    ·simp only [go_sem, hl0', hdl', hb] <;> rfl
    ·simp
    refine EvC.cf ?_
    refine EvC.exit ?_
    refine EvC.a ?_
    refine EvC.cs ?_
    refine EvC.b ?_ (hok := by exact inI64_of (by omega) (by omega))
    exact ⟨dK ps.length, (i + 1, ps'), hgk, (by rw [hiZ]; simp only [go_sem, hhi, hgc', y2, hes, Int.natCast_add, Int.natCast_one] <;> rfl), ⟨hil, hdv, by simp only; omega, y3, hhd⟩, by simp only; omega⟩
   ·apply EvC.seq
    apply EvC.trd
    ·simp only [go_sem, hl0', hdl', hb] <;> rfl
    ·simp
    refine EvC.cf ?_
    refine EvC.exit ?_
    refine EvC.a ?_
    refine EvC.cs ?_
    refine EvC.b ?_ (hok := by exact inI64_of (by omega) (by omega))
    exact ⟨dK ps.length, (i + 1, ps'), hgk, (by rw [hiZ]; simp only [go_sem, hhi, hgc', y2, hes, Int.natCast_add, Int.natCast_one] <;> rfl), ⟨hil, hdv, by simp only; omega, y3, hhd⟩, by simp only; omega⟩
 | false =>
 obtain ⟨rfl, hno⟩ := hno rfl
 clear hyes
 by_cases hnl : n < ps'.length
 rotate_left
 ·have hnI : decide ((n : Int) < ps'.length) = false := decide_eq_false (by omega)
  obtain rfl : n = ps'.length := by omega
  apply EvC.seq
  apply EvC.trd
  ·simp only [go_sem, hl0, hdl, hnI] <;> rfl
  ·simp
  refine EvC.cf ?_
  refine EvC.exit ?_
  refine EvC.a ?_
  refine EvC.ct ?_
  have hnew := dvPut_new (eqB := eqM) (x := x) (i := iZ) (ps := ps') fun q hq => by
   obtain ⟨j, hj, rfl⟩ := List.getElem_of_mem hq
   exact hno j _ hj (List.getElem?_eq_getElem hj)
  rw [hnew] at hdv hhd
  have hr2 : room (ps'.length + 1) 24 = true := by simp only [room_eq, decide_eq_true_eq]; omega
  refine EvC.b ?_ (by simp only [go_sem, hl0, hdl] <;> rfl) (by simp [hr2])
  obtain ⟨MM, hMM⟩ : ∃ MM : Mem, MM = (3000013, RObj.arr 1 [[.tl 3000012 1 false]] false) :: (3000012, .arr 1 [[.sc (.int .i64 iZ)]] false) :: mset (dM kN 1 ps') 0 (.arr 1 (dcA kN ps' 0 ++ [[.tl 3000012 1 false]]) false) := ⟨_, rfl⟩
  rw [← hMM]
  refine EvC.b ?_ (hok := by exact inI64_of (by omega) (by omega))
  have hgk1 := dK1_ok (n := ps'.length) (k := 3000012) hp6 rfl (by omega)
  have hhi1 := dK1_hi (n := ps'.length) (k0 := 3000012) (by omega)
  have hgc1 := dM_gc1 (e := 1) (M := MM) (k := 3000012) (x := x) (l := [iZ]) kN_norefs hp6 rfl (by omega) (by
   rw [hMM]; simp only [mlook]; rw [if_neg (by omega), if_neg (by omega), mlook_mset, if_pos rfl]; rfl) (fun j p hj => by
   have hjl := (List.getElem?_eq_some_iff.1 hj).1
   rw [hMM]; simp only [mlook]; rw [if_neg (by omega), if_neg (by omega), mlook_mset, if_neg (by omega), dM_lookR hj]) (by
   rw [hMM]; rfl)
  have hsl : ps'.length + 1 = (ps' ++ [(x, [iZ])]).length := by simp
  have hse : (ps' ++ [(x, [iZ])]).isEmpty = false := by simp
  have hqq : ∀ q ∈ ps' ++ [(x, [iZ])], q.2.length ≤ i + 1 := fun q hq => by
   rcases List.mem_append.1 hq with hq | hq
   ·have := hpq q hq; omega
   ·obtain rfl := List.mem_singleton.1 hq
    simp
  generalize ps' ++ [(x, [iZ])] = T at hgc1 hsl hse hdv hqq hhd
  exact ⟨dK1 ps'.length 3000012, (i + 1, T), hgk1, (by rw [hiZ]; simp only [go_sem, hhi1, hgc1, hsl, hse, Int.natCast_add, Int.natCast_one] <;> rfl), ⟨hil, hdv, by simp only; omega, hqq, hhd⟩, by simp only; omega⟩
 have hnI : decide ((n : Int) < ps'.length) = true := decide_eq_true (by omega)
 have hpe : ps'[n]? = some ps'[n] := List.getElem?_eq_getElem hnl
 have hpm := hpq _ (List.getElem_mem hnl)
 obtain ⟨h0, t0, ht1, ht2, ht3, ht4⟩ := hph _ (List.getElem_mem hnl)
 generalize ps'[n] = p at hpe hpm ht1 ht2
 obtain ⟨px, pw⟩ := p
 simp only at hpm ht1 ht2
 subst ht1
 have hg := dcA_get (kN : Mach → List AV) (s := 0) hpe
 rw [Nat.zero_add] at hg
 simp only [kN, List.nil_append] at hg
 have hxh := hin h0 ht3 ht4
 have hxhg := atM_get (X := X) (i := h0) (by omega)
 rw [← ht2] at hxh hxhg
 have q2 := alike50_is hxh.1 hxi.1 (by rw [hxh.2, hxi.2])
 have heq : eqM px x = (diffO px x).isNone := by
  simp only [eqM, equalR, bothR_zero hxh.1 hxi.1 (by rw [hxh.2, hxi.2])]; simp
 rw [← heq] at q2
 have hlr := dM_lookR (kc := (kN : Mach → List AV)) (e := 1) hpe
 simp only [List.map_cons, intC] at hlr
 obtain ⟨nZ, hnZ⟩ : ∃ z : Int, z = (n : Int) := ⟨_, rfl⟩
 have hnt : nZ.toNat = n := by omega
 rw [← hnZ] at hnI ⊢
 apply EvC.seq
 apply EvC.trd
 ·simp only [go_sem, hl0, hdl, hnI] <;> rfl
 ·simp
 refine EvC.cr ?_
 refine EvC.seq ?_
 refine EvC.block ?_
 apply EvC.seq
 apply EvC.drw mixed
 ·apply Tr.run
  ·simp only [go_sem, hl0, hdl, hg, hnt, hit, hlr, hxg, hxhg, Mach.cells, List.length_map, List.length_cons] <;> rfl
  ·simp; try omega
  apply Tr.cons
  ·exact .ca (q2)
  apply Tr.done
  ·simp only [go_sem] <;> rfl
  ·simp
 ·exact confAll_slots (by simp [rdOk, slotsOf, opSlots, memless, Op.operands, Call.operands]) (by kernel_rfl)
 obtain hpx | hpx : eqM px x = false ∨ eqM px x = true := by cases eqM px x <;> simp
 ·refine EvC.cs ?_ (by simp only [go_sem, hpx] <;> rfl)
  refine EvC.b ?_ (hok := by exact inI64_of (by omega) (by omega))
  refine ⟨dK ps'.length, (n + 1, false, ps'), hgk, (by rw [hnZ]; simp only [go_sem, hhi, hgc0, Int.natCast_add, Int.natCast_one] <;> rfl), ⟨hnl, fun _ => ⟨rfl, fun j q hj hq => ?_⟩, fun h => (by cases h)⟩, by simp only; omega⟩
  by_cases hjn : j = n
  ·subst hjn; rw [hpe] at hq; cases hq; exact hpx
  ·exact hno j q (by omega) hq
 refine EvC.ct ?_ (by simp only [go_sem, hpx] <;> rfl)
 have hset := dvPut_set (eqB := eqM) (x := x) (i := iZ) (ps := ps') (n := n) hno hpe hpx
 have hn6 : n < 1000000 := by omega
 have hr3 : room (t0.length + 1 + 1) 8 = true := by simp only [List.length_cons] at hpm; simp only [room_eq, decide_eq_true_eq]; omega
 have hl00 : ∀ o, mlook (mset (dM (kN : Mach → List AV) 1 ps') (2000000 + n) o) 0 = some (.arr 1 (dcA kN ps' 0) false) := fun o => by rw [mlook_mset, if_neg (by omega)]; exact hl0
 have hlrs : ∀ o, mlook (mset (dM (kN : Mach → List AV) 1 ps') (2000000 + n) o) (2000000 + n) = some o := fun o => by rw [mlook_mset, if_pos rfl]
 have hds := dcA_set (kN : Mach → List AV) (s := 0) (h0 :: t0 ++ [iZ]) hpe
 have hpl3 : (h0 :: t0 ++ [iZ]).length = t0.length + 1 + 1 := by simp
 rw [Nat.zero_add, hpl3] at hds
 simp only [kN, List.nil_append] at hds
 have hnl2 : notO (2000000 + n) = false := by unfold notO; simp; omega
 refine EvC.a ?_ (by simp only [go_sem, hl0, hl00, hlrs, hdl, hg, hnt, hlr, o_ne hn6, List.length_map, List.length_cons, hds] <;> rfl) (by simp [hr3, acell, hnl, hlrs]; try omega)
 have hpc : ([AV.sc (.int .i64 h0)] :: (t0.map intC ++ [[.sc (.int .i64 iZ)]])) = (h0 :: t0 ++ [iZ]).map intC := by simp [intC]
 rw [hpc]
 obtain ⟨MM, hMM⟩ : ∃ MM : Mem, MM = mset (mset (dM (kN : Mach → List AV) 1 ps') (2000000 + n) (.arr 1 ((h0 :: t0 ++ [iZ]).map intC) false)) 0 (.arr 1 (dcA kN (ps'.set n (px, h0 :: t0 ++ [iZ])) 0) false) := ⟨_, rfl⟩
 rw [show h0 :: (t0 ++ [iZ]) = h0 :: t0 ++ [iZ] from rfl, ← hMM]
 have hTl : (ps'.set n (px, h0 :: t0 ++ [iZ])).length = ps'.length := List.length_set
 have hM0 : mlook MM 0 = some (.arr 1 (dcA kN (ps'.set n (px, h0 :: t0 ++ [iZ])) 0) false) := by rw [hMM, mlook_mset, if_pos rfl]
 have hMr : ∀ j p, (ps'.set n (px, h0 :: t0 ++ [iZ]))[j]? = some p → mlook MM (2000000 + j) = some (.arr 1 (p.2.map intC) false) := fun j p hj => by
  rw [hMM, mlook_mset, if_neg (by omega), mlook_mset]
  rw [List.getElem?_set] at hj
  by_cases e : n = j
  ·subst e
   rw [if_pos rfl, if_pos hnl] at hj
   cases hj
   rw [if_pos rfl]
  ·rw [if_neg e] at hj
   rw [if_neg (by omega), dM_lookR hj]
 have hTq : ∀ q ∈ ps'.set n (px, h0 :: t0 ++ [iZ]), q.2.length ≤ i + 1 := fun q hq => by
  rcases List.mem_or_eq_of_mem_set hq with hq | rfl
  ·have := hpq q hq; omega
  ·simp only [List.length_append, List.length_cons, List.length_nil] at hpm ⊢; omega
 have hgcT := dM_gc (e := 1) (M := MM) (ps := ps'.set n (px, h0 :: t0 ++ [iZ])) kN_norefs (by omega) hM0 hMr
 rw [hTl] at hgcT
 clear hMM
 rw [← hset] at hTl hgcT hTq
 obtain ⟨T, hT⟩ : ∃ T, T = dvPut eqM x iZ ps' := ⟨_, rfl⟩
 rw [← hT] at hTl hgcT hTq
 refine EvC.b ?_
 refine EvC.b ?_ (hok := by exact inI64_of (by omega) (by omega))
 exact ⟨dK ps'.length, (n + 1, true, T), hgk, (by rw [hnZ]; simp only [go_sem, hhi, hgcT, Int.natCast_add, Int.natCast_one] <;> rfl), ⟨hnl, (fun h => by cases h), fun _ => ⟨hT, hTl, hTq⟩⟩, by simp only; omega⟩
section
variable {κ : Type} {e : Nat} {o1 : RObj} {ps : List (κ × List Int)} {M : Mem}
end
set_option maxRecDepth 100000
theorem tog_noNil : NoNil togM := fun r hr h => by
 simp only [togM, List.mem_cons, List.not_mem_nil, or_false] at hr
 rcases hr with rfl | rfl <;> cases h
def exL : List FA := [⟨0, 0, 0, 0, 0, 1⟩, ⟨0, 0, 1, 0, 0, 1⟩, ⟨0, 1, 0, 0, 0, 0⟩, ⟨0, 1, 1, 0, 0, 1⟩]
theorem ex_susp1 : suspA togM [0] 2 2 [⟨[0, 0], [0, 0], false, false⟩] 4 = .tu [.sl false ([⟨0, 1, 0, 0, 0, 0⟩].map FA.cells) .full, .sc (.bool false), .sc (.int .i64 0)] := by kernel_rfl
theorem ex_susp2 : suspA togM [0] 2 2 [⟨[0], [0], false, false⟩] 4 = .tu [.sl false ((exL.drop 1).map FA.cells) .full, .sc (.bool true), .sc (.int .i64 0)] := by kernel_rfl
theorem ex_next : nextA togM exL 2 = .tu [.sl false ([0, 0].map intC) .full, .sc (.int .i64 2), .sc (.int .i64 0)] := by kernel_rfl
def liT : List Nd := [⟨[0, 1, 2, 3], [0], [([1], 1), ([0], 2)]⟩, ⟨[0], [], []⟩, ⟨[1, 2, 3], [1], [([1], 3), ([0], 4)]⟩, ⟨[1], [], []⟩, ⟨[2, 3], [0, 0], [([0, 0], 5), ([0, 1], 6)]⟩, ⟨[2], [], []⟩, ⟨[3], [], []⟩]
theorem ex_diag : diagL (exL.map (mutF togM)) 4 = liT := by kernel_rfl
theorem ex_diagA : diagA togM exL = .tu [.sl false (liT.map ndC) .full, .sc (.int .i64 0)] := by
 have h1 : mutErr togM exL = 0 := by kernel_rfl
 rw [diagA, if_neg (by simp [h1]), if_neg (by simp [exL]), show exL.length = 4 from rfl, ex_diag]
theorem ex_cls : clsA togM [⟨1, 1, 1, 1, 0, 0⟩] = .tu [.sl true [] .unk, .sc (.int .i64 1)] := by kernel_rfl
set_option maxRecDepth 10000
abbrev fA (a b c d e f : Int) : List AV := [.sc (.int .i64 a), .sc (.int .i64 b), .sc (.int .i64 c), .sc (.int .i64 d), .sc (.int .i64 e), .sc (.int .i64 f)]
def togRs : List (List AV) := togM.rows.map rowC
abbrev togC : List AV := [.sc (.int .i64 2), .sc (.int .i64 2), .sl false togRs .unk]
theorem ex_tog_is : PureIs prog 32 [] (.ag togC) := toggle_is
abbrev iA (a : Int) : List AV := [.sc (.int .i64 a)]
abbrev exA : AV := .sl false [fA 0 0 0 0 0 1, fA 0 0 1 0 0 1, fA 0 1 0 0 0 0, fA 0 1 1 0 0 1] .full
theorem ex_one1_is : PureIs prog 41 [.sl false [iA 0, iA 0] .full, .sl false [iA 0, iA 0] .full] (.ag [.sc (.int .i64 2), .sc (.int .i64 2), .sl false [[.sl false [iA 0, iA 0] .unk, .sl false [iA 0, iA 0] .unk]] .unk]) :=
 (one_is false [0, 0] .full false [0, 0] .full).weakR
theorem ex_one2_is : PureIs prog 41 [.sl false [iA 0] .full, .sl false [iA 0] .full] (.ag [.sc (.int .i64 2), .sc (.int .i64 2), .sl false [[.sl false [iA 0] .unk, .sl false [iA 0] .unk]] .unk]) :=
 (one_is false [0] .full false [0] .full).weakR
theorem tog_rows : ∀ r ∈ togM.rows, r.2.length < 1000000 := by decide
theorem ex_susp1_is : PureIs prog 11 [.ag togC, .sl false [iA 0] .full, .ag [.sc (.int .i64 2), .sc (.int .i64 2), .sl false [[.sl false [iA 0, iA 0] .unk, .sl false [iA 0, iA 0] .unk]] .unk], .sc (.int .i64 4)] (.tu [.sl false [fA 0 1 0 0 0 0] .full, .sc (.bool false), .sc (.int .i64 0)]) := by
 have q := suspects_is togM tog_rows tog_noNil false [0] .unk (by decide) 2 2 false [⟨[0, 0], [0, 0], false, false⟩] ⟨by decide, by decide, by decide⟩ 4
 rw [ex_susp1] at q
 exact .weak q
theorem ex_susp2_is : PureIs prog 11 [.ag togC, .sl false [iA 0] .full, .ag [.sc (.int .i64 2), .sc (.int .i64 2), .sl false [[.sl false [iA 0] .unk, .sl false [iA 0] .unk]] .unk], .sc (.int .i64 4)] (.tu [.sl false [fA 0 0 1 0 0 1, fA 0 1 0 0 0 0, fA 0 1 1 0 0 1] .full, .sc (.bool true), .sc (.int .i64 0)]) := by
 have q := suspects_is togM tog_rows tog_noNil false [0] .unk (by decide) 2 2 false [⟨[0], [0], false, false⟩] ⟨by decide, by decide, by decide⟩ 4
 rw [ex_susp2] at q
 exact .weak q
theorem ex_next_is : PureIs prog 19 [.ag togC, exA, .sc (.int .i64 2)] (.tu [.sl false [iA 0, iA 0] .full, .sc (.int .i64 2), .sc (.int .i64 0)]) := by
 have q := next_is togM tog_rows tog_noNil false exL .unk (by decide) 2
 rw [ex_next] at q
 exact .weak q
theorem ex_diag_is : PureIs prog 22 [.ag togC, exA] (.tu [.sl false (liT.map ndC) .full, .sc (.int .i64 0)]) := by
 have q := diagnose_is togM tog_rows tog_noNil false exL .unk (by decide)
 rw [ex_diagA] at q
 exact .weak q
theorem ex_cls_is : PureIs prog 16 [.ag togC, .sl false [fA 1 1 1 1 0 0] .full] (.tu [.sl true [] .unk, .sc (.int .i64 1)]) := by
 have q := classes_is togM tog_rows tog_noNil false [⟨1, 1, 1, 1, 0, 0⟩] .unk (by decide)
 rw [ex_cls] at q
 exact .weak q
theorem ex_walk : walkA (liT.map ndG) togM = .tu [.sl false ([3].map intC) .full, .sl false ([[0], [1], [0, 0]].map askC) .full, .sc (.int .i64 0)] := by kernel_rfl
theorem ex_walk_is : PureIs prog 24 [.sl false (liT.map ndC) .full, .ag togC] (.tu [.sl false [iA 3] .full, .sl false [[.sl false [iA 0] .full], [.sl false [iA 1] .full], [.sl false [iA 0, iA 0] .full]] .full, .sc (.int .i64 0)]) := by
 have q := walk_is false (liT.map ndG) .full togM tog_rows (by
  intro d hd
  obtain ⟨x, hx, rfl⟩ := List.mem_map.1 hd
  have h1 : ∀ x ∈ liT, x.sus.length < 1000000 ∧ x.word.length < 1000000 ∧ x.br.length < 1000000 ∧ ∀ b ∈ x.br, b.1.length < 1000000 := by decide
  obtain ⟨g1, g2, g3, g4⟩ := h1 x hx
  refine ⟨⟨g1, g2, by show (x.br.map _).length < 1000000; rw [List.length_map]; exact g3, fun b hb => ?_⟩, ⟨(fun h => by cases h), fun h => ?_⟩⟩
  ·obtain ⟨y, hy, rfl⟩ := List.mem_map.1 hb
   exact g4 y hy
  ·exact List.isEmpty_iff.1 h) (by decide)
 rw [ex_walk, List.map_map, show ngC ∘ ndG = ndC from funext ndG_cells] at q
 exact q
theorem ex_same_is (na nb : Bool) (ca cb : Cp) (a : List Int) (hl : a.length < 1000000) : PureIs prog 21 [.sl na (a.map intC) ca, .sl nb (a.map intC) cb] (.sc (.bool true)) := by
 have q := same_is na a ca nb a cb hl
 rwa [decide_eq_true rfl] at q
theorem ex_sameF1_is : PureIs prog 13 [.sl false [fA 0 1 0 0 0 0] .full, .sl false [fA 0 1 0 0 0 0] .unk] (.sc (.bool true)) := by
 have q := sameF_is false [⟨0, 1, 0, 0, 0, 0⟩] .full false [⟨0, 1, 0, 0, 0, 0⟩] .unk (by decide)
 rwa [decide_eq_true rfl] at q
theorem ex_sameF2_is : PureIs prog 13 [.sl false [fA 0 0 1 0 0 1, fA 0 1 0 0 0 0, fA 0 1 1 0 0 1] .full, .sl false [fA 0 0 1 0 0 1, fA 0 1 0 0 0 0, fA 0 1 1 0 0 1] .full] (.sc (.bool true)) := by
 have q := sameF_is false [⟨0, 0, 1, 0, 0, 1⟩, ⟨0, 1, 0, 0, 0, 0⟩, ⟨0, 1, 1, 0, 0, 1⟩] .full false [⟨0, 0, 1, 0, 0, 1⟩, ⟨0, 1, 0, 0, 0, 0⟩, ⟨0, 1, 1, 0, 0, 1⟩] .full (by decide)
 rwa [decide_eq_true rfl] at q
set_option maxHeartbeats 4000000 in
theorem lives_is : PureIs prog 14 [] (.sc (.bool true)) := by
 refine PureIs.of1 16 [104, 165] func14 ntmps14 results14 fun _ => ?_
 refine EvC.a ?_
 apply EvC.s1
 ·apply Tr.run
  ·simp only [go_sem] <;> rfl
  ·simp
  apply Tr.cons
  ·exact .ca (ex_tog_is)
  apply Tr.done
  ·simp only [go_sem] <;> rfl
  ·simp
 refine EvC.z 2 ?_
 refine EvC.a ?_
 apply EvC.seq
 apply EvC.drw mixed
 ·apply Tr.run
  ·simp only [go_sem] <;> rfl
  ·simp
  apply Tr.cons
  ·exact .ca (ex_one1_is)
  apply Tr.run
  ·simp only [go_sem] <;> rfl
  ·simp
  apply Tr.cons
  ·exact .ca (ex_susp1_is)
  apply Tr.done
  ·simp only [go_sem] <;> rfl
  ·simp
 ·kernel_rfl
 apply EvC.seq
 apply EvC.drw mixed
 ·apply Tr.run
  ·simp only [go_sem] <;> rfl
  ·simp
  apply Tr.cons
  ·exact .ca (ex_one2_is)
  apply Tr.run
  ·simp only [go_sem] <;> rfl
  ·simp
  apply Tr.cons
  ·exact .ca (ex_susp2_is)
  apply Tr.done
  ·simp only [go_sem] <;> rfl
  ·simp
 ·kernel_rfl
 apply EvC.s1
 ·apply Tr.run
  ·simp only [go_sem] <;> rfl
  ·simp
  apply Tr.cons
  ·exact .ca (ex_next_is)
  apply Tr.done
  ·simp only [go_sem] <;> rfl
  ·simp
 have qd := ex_diag_is
 have qw := ex_walk_is
 have hTl : (liT.map ndC).length = 7 := rfl
 have hTn : (liT.map ndC).all AV.norefs = true := by decide
 have t0 : (liT.map ndC)[0]? = some [.sl false [iA 0, iA 1, iA 2, iA 3] .full, .sl false [iA 0] .full, bAV [([1], 1), ([0], 2)]] := rfl
 have t1 : (liT.map ndC)[1]? = some [.sl false [iA 0] .full, .sl true [] .zer, bAV []] := rfl
 have t2 : (liT.map ndC)[2]? = some [.sl false [iA 1, iA 2, iA 3] .full, .sl false [iA 1] .full, bAV [([1], 3), ([0], 4)]] := rfl
 have t3 : (liT.map ndC)[3]? = some [.sl false [iA 1] .full, .sl true [] .zer, bAV []] := rfl
 have t4 : (liT.map ndC)[4]? = some [.sl false [iA 2, iA 3] .full, .sl false [iA 0, iA 0] .full, bAV [([0, 0], 5), ([0, 1], 6)]] := rfl
 have t5 : (liT.map ndC)[5]? = some [.sl false [iA 2] .full, .sl true [] .zer, bAV []] := rfl
 have t6 : (liT.map ndC)[6]? = some [.sl false [iA 3] .full, .sl true [] .zer, bAV []] := rfl
 generalize liT.map ndC = T at qd qw hTl hTn t0 t1 t2 t3 t4 t5 t6
 apply EvC.s1
 ·apply Tr.run
  ·simp only [go_sem] <;> rfl
  ·simp
  apply Tr.cons
  ·exact .ca (qd)
  apply Tr.done
  ·simp only [go_sem] <;> rfl
  ·simp
 refine EvC.seq ?_
 apply EvC.s1
 ·apply Tr.run
  ·simp only [go_sem, hTl] <;> rfl
  ·simp
  apply Tr.cons
  ·exact .cg (ex_sameF1_is)
  apply Tr.run
  ·simp only [go_sem, hTl] <;> rfl
  ·simp
  apply Tr.cons
  ·exact .cg (ex_sameF2_is)
  apply Tr.run
  ·simp only [go_sem, hTl] <;> rfl
  ·simp
  apply Tr.cons
  ·exact .cg (ex_same_is false false .full .full [0, 0] (by decide))
  apply Tr.done
  ·simp only [go_sem] <;> rfl
  ·simp
 refine EvC.cs ?_ (by simp only [go_sem, hTl] <;> rfl)
 refine EvC.seq ?_
 apply EvC.s1
 ·apply Tr.run
  ·simp only [go_sem, hTl, t0, t1, t2, t3, t4, t5, t6] <;> rfl
  ·simp [hTl]
  apply Tr.cons
  ·exact .ca (ex_same_is false false .full .full [0] (by decide))
  apply Tr.run
  ·simp only [go_sem, hTl, t0, t1, t2, t3, t4, t5, t6] <;> rfl
  ·simp [hTl]
  apply Tr.cons
  ·exact .cg (ex_same_is false false .full .full [1] (by decide))
  apply Tr.run
  ·simp only [go_sem, hTl, t0, t1, t2, t3, t4, t5, t6] <;> rfl
  ·simp [hTl]
  apply Tr.cons
  ·exact .cg (ex_same_is false false .full .full [0, 0] (by decide))
  apply Tr.run
  ·simp only [go_sem, hTl, t0, t1, t2, t3, t4, t5, t6] <;> rfl
  ·simp [hTl]
  apply Tr.cons
  ·exact .cg (ex_same_is false false .full .full [0] (by decide))
  apply Tr.run
  ·simp only [go_sem, hTl, t0, t1, t2, t3, t4, t5, t6] <;> rfl
  ·simp [hTl]
  apply Tr.cons
  ·exact .cg (ex_same_is false false .full .full [1] (by decide))
  apply Tr.run
  ·simp only [go_sem, hTl, t0, t1, t2, t3, t4, t5, t6] <;> rfl
  ·simp [hTl]
  apply Tr.cons
  ·exact .cg (ex_same_is false false .full .full [2] (by decide))
  apply Tr.run
  ·simp only [go_sem, hTl, t0, t1, t2, t3, t4, t5, t6] <;> rfl
  ·simp [hTl]
  apply Tr.cons
  ·exact .cg (ex_same_is false false .full .full [3] (by decide))
  apply Tr.done
  ·simp only [go_sem] <;> rfl
  ·simp
 refine EvC.cs ?_
 apply EvC.s1
 ·apply Tr.run
  ·simp only [go_sem] <;> rfl
  ·simp
  apply Tr.cons
  ·exact .ca (qw)
  apply Tr.done
  ·simp only [go_sem] <;> rfl
  ·simp
 apply EvC.s1
 ·apply Tr.run
  ·simp only [go_sem] <;> rfl
  ·simp
  apply Tr.cons
  ·exact .ca (ex_cls_is)
  apply Tr.done
  ·simp only [go_sem] <;> rfl
  ·simp
 have qs : PureIs prog 17 [.sl false [[.sl false [iA 0] .full], [.sl false [iA 1] .full], [.sl false [iA 0, iA 0] .full]] .full, .sl false [[.sl false [iA 0] .full], [.sl false [iA 1] .full], [.sl false [iA 0, iA 0] .full]] .full] (.sc (.bool true)) := by
  have q := same37_is false false [(false, [0], .full), (false, [1], .full), (false, [0, 0], .full)] [(false, [0], .full), (false, [1], .full), (false, [0, 0], .full)] .full .full (by decide) (by decide)
  rw [sameW_refl] at q
  exact q
 apply EvC.s1
 ·apply Tr.run
  ·simp only [go_sem] <;> rfl
  ·simp
  apply Tr.cons
  ·exact .cg (ex_same_is false false .full .full [3] (by decide))
  apply Tr.run
  ·simp only [go_sem] <;> rfl
  ·simp
  apply Tr.cons
  ·exact .cg (qs)
  apply Tr.done
  ·simp only [go_sem] <;> rfl
  ·simp
 refine EvC.rz ?_
 simp only [go_sem]
theorem Valid.check {m : Mach} (h : Valid m) : checkM m = 0 := by
 have h1 := h.ins
 have h2 := h.outs
 have h3 := h.rows
 unfold checkM
 rw [if_neg (by omega), if_neg (by omega), if_pos]
 rw [List.all_eq_true]
 intro r hr
 obtain ⟨k1, k2⟩ := h.row r hr
 simp only [rowOk, Bool.and_eq_true, decide_eq_true_eq, Bool.not_eq_true', List.any_eq_false]
 exact ⟨k1, fun e he => by simpa using k2 e he⟩
theorem LM.small {x : LM} (h : x.Ok) : x.mach.rows.length ≤ 6 ∧ x.mach.ins ≤ 3 := by
 obtain ⟨b1, b2, b3, b4, b5, b6, -, -⟩ := LM.bounds h
 rw [show x.mach.rows.length = x.n by simp [LM.mach]]
 exact ⟨b2, by show (x.i : Int) ≤ 3; omega⟩
theorem LM.noNil (x : LM) : NoNil x.mach := fun r hr h => by
 simp only [LM.mach, List.mem_map] at hr
 obtain ⟨s, _, rfl⟩ := hr
 cases h
structure LogGood (m : Mach) (L : List TR) : Prop where
 len : L.length ≤ 8
 w : ∀ t ∈ L, t.w.length ≤ 8
 a : ∀ t ∈ L, ∀ a ∈ t.w, 0 ≤ a ∧ a < m.ins
 r : ∀ t ∈ L, t.r.length = t.w.length
 c : checkL m.ins m.outs L = 0
theorem sOfL_len (x : LM) (ls : List Int) : (sOfL x ls).length ≤ 16 := pickF_len _ _ 16
theorem sOfL_ok {x : LM} (hx : x.Ok) (ls : List Int) : ∀ f ∈ sOfL x ls, checkF x.mach f = 0 := fun f hf => checkF_small (faK_mem (pickF_mem hf)) (by have := (LM.small hx).1; omega)
theorem errFs_ok {m : Mach} : ∀ {fs : List FA}, (∀ f ∈ fs, checkF m f = 0) → errFs m fs = 0
 | [], _ => rfl
 | f :: fs, h => by rw [errFs, if_pos (h f List.mem_cons_self)]; exact errFs_ok fun g hg => h g (List.mem_cons_of_mem _ hg)
theorem mutErr_ok2 {m : Mach} {fs : List FA} (hv : Valid m) (hf : ∀ f ∈ fs, checkF m f = 0) (hl : fs.length ≤ 256) : mutErr m fs = 0 := by
 unfold mutErr
 rw [if_neg (by rw [hv.check]; simp), if_neg (by omega), errFs_ok hf]
theorem sumP_mem {κ : Type} : ∀ {ps : List (κ × List Int)} {p : κ × List Int}, p ∈ ps → p.2.length ≤ sumP ps
 | q :: ps, p, h => by
   rcases List.mem_cons.1 h with rfl | h
   ·simp [sumP]
   ·have := sumP_mem h
    simp only [sumP, List.map_cons, List.sum_cons] at this ⊢; omega
theorem sumP_len {κ : Type} : ∀ {ps : List (κ × List Int)}, (∀ p ∈ ps, p.2 ≠ []) → ps.length ≤ sumP ps
 | [], _ => Nat.zero_le _
 | q :: ps, h => by
   have h1 := sumP_len fun p hp => h p (List.mem_cons_of_mem _ hp)
   have h2 := List.length_pos_iff.2 (h q List.mem_cons_self)
   simp only [sumP, List.map_cons, List.sum_cons, List.length_cons] at h1 ⊢; omega
theorem dvL_bd2 {κ : Type} (eqB : κ → κ → Bool) (K : Int → κ) (is : List Int) : (dvL eqB K is []).length ≤ is.length ∧ ∀ p ∈ dvL eqB K is [], p.2.length ≤ is.length := by
 have h := dvL_sum (eqB := eqB) (K := K) is []
 have h0 : sumP ([] : List (κ × List Int)) = 0 := rfl
 rw [h0, Nat.zero_add] at h
 rw [← h]
 exact ⟨sumP_len (dvL_ne2 is), fun p hp => sumP_mem hp⟩
theorem idL_len (n : Nat) : (idL n).length = n := by simp [idL]
section
variable {κ : Type} {eqB : κ → κ → Bool} {K : Int → κ}
theorem dvPut_cases (eqB : κ → κ → Bool) (x : κ) (i : Int) : ∀ (ps : List (κ × List Int)), (∃ a p b, ps = a ++ p :: b ∧ (∀ q ∈ a, eqB q.1 x = false) ∧ eqB p.1 x = true ∧ dvPut eqB x i ps = a ++ (p.1, p.2 ++ [i]) :: b) ∨ ((∀ q ∈ ps, eqB q.1 x = false) ∧ dvPut eqB x i ps = ps ++ [(x, [i])])
 | [] => .inr ⟨(fun q h => by cases h), rfl⟩
 | p :: ps => by
   by_cases h : eqB p.1 x = true
   ·exact .inl ⟨[], p, ps, rfl, (fun q h => by cases h), h, by rw [dvPut, if_pos h]; rfl⟩
   ·have h' := Bool.eq_false_iff.2 h
    rcases dvPut_cases eqB x i ps with ⟨a, q, b, rfl, h1, h2, h3⟩ | ⟨h1, h2⟩
    ·refine .inl ⟨p :: a, q, b, rfl, fun r hr => ?_, h2, by rw [dvPut, if_neg h, h3]; rfl⟩
     rcases List.mem_cons.1 hr with rfl | hr
     ·exact h'
     ·exact h1 r hr
    ·refine .inr ⟨fun r hr => ?_, by rw [dvPut, if_neg h, h2]; rfl⟩
     rcases List.mem_cons.1 hr with rfl | hr
     ·exact h'
     ·exact h1 r hr
structure EqOn (eqB : κ → κ → Bool) (K : Int → κ) (s : List Int) : Prop where
 refl : ∀ i ∈ s, eqB (K i) (K i) = true
 symm : ∀ i ∈ s, ∀ j ∈ s, eqB (K i) (K j) = true → eqB (K j) (K i) = true
 trans : ∀ i ∈ s, ∀ j ∈ s, ∀ k ∈ s, eqB (K i) (K j) = true → eqB (K j) (K k) = true → eqB (K i) (K k) = true
structure PInv (eqB : κ → κ → Bool) (K : Int → κ) (dn : List Int) (ps : List (κ × List Int)) : Prop where
 key : ∀ p ∈ ps, ∃ i ∈ dn, p.1 = K i
 fil : ∀ p ∈ ps, p.2 = dn.filter fun j => eqB p.1 (K j)
 cov : ∀ j ∈ dn, ∃ p ∈ ps, eqB p.1 (K j) = true
 pw : (ps.map (·.1)).Pairwise fun x y => eqB x y = false
theorem PInv.step {s dn : List Int} {i : Int} {ps : List (κ × List Int)} (he : EqOn eqB K s) (hd : ∀ j ∈ dn, j ∈ s) (hi : i ∈ s) (h : PInv eqB K dn ps) : PInv eqB K (dn ++ [i]) (dvPut eqB (K i) i ps) := by
 have hkey : ∀ p ∈ ps, ∃ j ∈ dn ++ [i], p.1 = K j := fun p hp => by
  obtain ⟨j, hj, e⟩ := h.key p hp
  exact ⟨j, List.mem_append_left _ hj, e⟩
 have hno : ∀ {x : κ}, eqB x (K i) = false → (dn ++ [i]).filter (fun j => eqB x (K j)) = dn.filter fun j => eqB x (K j) := fun {x} e => by
  rw [List.filter_append]
  simp [e]
 have hyes : ∀ {x : κ}, eqB x (K i) = true → (dn ++ [i]).filter (fun j => eqB x (K j)) = (dn.filter fun j => eqB x (K j)) ++ [i] := fun {x} e => by
  rw [List.filter_append]
  simp [e]
 rcases dvPut_cases eqB (K i) i ps with ⟨a, p, b, rfl, h1, h2, h3⟩ | ⟨h1, h2⟩
 ·rw [h3]
  have hb : ∀ q ∈ b, eqB q.1 (K i) = false := fun q hq => by
   cases hc : eqB q.1 (K i) with
   | false => rfl
   | true =>
     obtain ⟨j, hj, ej⟩ := h.key p (by simp)
     obtain ⟨k, hk, ek⟩ := h.key q (by simp [hq])
     have hpw := h.pw
     rw [List.map_append, List.map_cons, List.pairwise_append, List.pairwise_cons] at hpw
     have hf := hpw.2.1.1 q.1 (List.mem_map_of_mem hq)
     rw [ej] at h2 hf
     rw [ek] at hc hf
     have := he.trans j (hd j hj) i hi k (hd k hk) h2 (he.symm k (hd k hk) i hi hc)
     rw [this] at hf; cases hf
  refine ⟨fun q hq => ?_, fun q hq => ?_, fun j hj => ?_, ?_⟩
  ·rcases List.mem_append.1 hq with hq | hq
   ·exact hkey q (by simp [hq])
   ·rcases List.mem_cons.1 hq with rfl | hq
    ·exact hkey p (by simp)
    ·exact hkey q (by simp [hq])
  ·rcases List.mem_append.1 hq with hq | hq
   ·rw [hno (h1 q hq)]; exact h.fil q (by simp [hq])
   ·rcases List.mem_cons.1 hq with rfl | hq
    ·simp only
     rw [hyes h2, ← h.fil p (by simp)]
    ·rw [hno (hb q hq)]; exact h.fil q (by simp [hq])
  ·rcases List.mem_append.1 hj with hj | hj
   ·obtain ⟨q, hq, e⟩ := h.cov j hj
    rcases List.mem_append.1 hq with hq | hq
    ·exact ⟨q, by simp [hq], e⟩
    ·rcases List.mem_cons.1 hq with rfl | hq
     ·exact ⟨(q.1, q.2 ++ [i]), by simp, e⟩
     ·exact ⟨q, by simp [hq], e⟩
   ·rw [List.mem_singleton] at hj; subst hj
    exact ⟨(p.1, p.2 ++ [j]), by simp, h2⟩
  ·have := h.pw
   rw [List.map_append, List.map_cons] at this ⊢
   exact this
 ·rw [h2]
  refine ⟨fun q hq => ?_, fun q hq => ?_, fun j hj => ?_, ?_⟩
  ·rcases List.mem_append.1 hq with hq | hq
   ·exact hkey q hq
   ·rw [List.mem_singleton] at hq; subst hq
    exact ⟨i, by simp, rfl⟩
  ·rcases List.mem_append.1 hq with hq | hq
   ·rw [hno (h1 q hq)]; exact h.fil q hq
   ·rw [List.mem_singleton] at hq; subst hq
    simp only
    rw [hyes (he.refl i hi)]
    have : dn.filter (fun j => eqB (K i) (K j)) = [] := by
     rw [List.filter_eq_nil_iff]
     intro j hj hc
     obtain ⟨q, hq, e⟩ := h.cov j hj
     obtain ⟨k, hk, ek⟩ := h.key q hq
     have hf := h1 q hq
     rw [ek] at e hf
     rw [he.trans k (hd k hk) j (hd j hj) i hi e (he.symm i hi j (hd j hj) hc)] at hf; cases hf
    rw [this]; rfl
  ·rcases List.mem_append.1 hj with hj | hj
   ·obtain ⟨q, hq, e⟩ := h.cov j hj
    exact ⟨q, by simp [hq], e⟩
   ·rw [List.mem_singleton] at hj; subst hj
    exact ⟨(K j, [j]), by simp, he.refl j hi⟩
  ·rw [List.map_append, List.pairwise_append]
   refine ⟨h.pw, by simp, fun x hx y hy => ?_⟩
   obtain ⟨q, hq, rfl⟩ := List.mem_map.1 hx
   simp only [List.map_cons, List.map_nil, List.mem_singleton] at hy
   subst hy
   exact h1 q hq
theorem PInv.dvL {s : List Int} (he : EqOn eqB K s) : ∀ (is dn : List Int) (ps : List (κ × List Int)), (∀ j ∈ dn ++ is, j ∈ s) → PInv eqB K dn ps → PInv eqB K (dn ++ is) (dvL eqB K is ps)
 | [], dn, ps, _, h => by rw [List.append_nil]; exact h
 | i :: is, dn, ps, hs, h => by
   have h1 := h.step he (fun j hj => hs j (List.mem_append_left _ hj)) (hs i (by simp))
   have h2 := PInv.dvL he is (dn ++ [i]) _ (fun j hj => hs j (by simpa using hj)) h1
   rw [List.append_assoc] at h2
   exact h2
theorem dvL_inv {is : List Int} (he : EqOn eqB K is) : PInv eqB K is (Avl.dvL eqB K is []) := by
 have h0 : PInv eqB K [] ([] : List (κ × List Int)) := ⟨(fun p h => by cases h), (fun p h => by cases h), (fun p h => by cases h), List.Pairwise.nil⟩
 exact PInv.dvL he is [] [] (fun j hj => hj) h0
end
theorem eqI_on (K : Int → List Int) (s : List Int) : EqOn eqI K s where
 refl := fun i _ => by simp [eqI]
 symm := fun i _ j _ h => by simp only [eqI, decide_eq_true_eq] at h ⊢; exact h.symm
 trans := fun i _ j _ k _ h h' => by simp only [eqI, decide_eq_true_eq] at h h' ⊢; exact h.trans h'
structure XOk (X : List Mach) (N : Nat) (k : Int) : Prop where
 v : ∀ m ∈ X, Valid m ∧ m.ins = k
 n : X.length = N
theorem XOk.at {X : List Mach} {N : Nat} {k : Int} (h : XOk X N k) {i : Int} (hi : 0 ≤ i ∧ i < N) : Valid (atM X i) ∧ (atM X i).ins = k := h.v _ (by
 have := h.n
 rw [atM, List.getD_eq_getElem?_getD, List.getElem?_eq_getElem (show i.toNat < X.length by omega)]
 exact List.getElem_mem _)
theorem idL_mem {N : Nat} {i : Int} : i ∈ idL N ↔ 0 ≤ i ∧ i < N := by
 unfold idL
 rw [List.mem_map]
 constructor
 ·rintro ⟨j, hj, rfl⟩
  have := List.mem_range.1 hj
  exact ⟨Int.natCast_nonneg j, Int.ofNat_lt.2 this⟩
 ·intro h
  exact ⟨i.toNat, List.mem_range.2 (by omega), Int.toNat_of_nonneg h.1⟩
theorem eqM_iff {a b : Mach} (ha : Valid a) (hb : Valid b) (hab : a.ins = b.ins) : eqM a b = true ↔ ∀ v, WOk a.ins.toNat v → runR a 0 v = runR b 0 v := by
 have e : eqM a b = (diffO a b).isNone := by simp only [eqM, equalR, bothR_zero ha hb hab]; simp
 rw [e]
 rcases diff_least ha hb hab with ⟨h1, h2⟩ | ⟨h1, _, h2⟩
 ·constructor
  ·intro h
   cases hd : diffO a b <;> simp [hd] at h h1
  ·intro h
   exact absurd (h _ h2.1) h2.2.1
 ·rw [h1]
  exact ⟨fun _ => h2, fun _ => rfl⟩
theorem eqM_on {X : List Mach} {N : Nat} {k : Int} (h : XOk X N k) : EqOn eqM (atM X) (idL N) where
 refl := fun i hi => by
  have := h.at (idL_mem.1 hi)
  exact (eqM_iff this.1 this.1 rfl).2 fun v _ => rfl
 symm := fun i hi j hj e => by
  have a := h.at (idL_mem.1 hi)
  have b := h.at (idL_mem.1 hj)
  rw [eqM_iff a.1 b.1 (by rw [a.2, b.2]), a.2] at e
  exact (eqM_iff b.1 a.1 (by rw [a.2, b.2])).2 fun v hv => (e v (by rw [b.2] at hv; exact hv)).symm
 trans := fun i hi j hj l hl e e' => by
  have a := h.at (idL_mem.1 hi)
  have b := h.at (idL_mem.1 hj)
  have c := h.at (idL_mem.1 hl)
  rw [eqM_iff a.1 b.1 (by rw [a.2, b.2]), a.2] at e
  rw [eqM_iff b.1 c.1 (by rw [b.2, c.2]), b.2] at e'
  exact (eqM_iff a.1 c.1 (by rw [a.2, c.2])).2 fun v hv => (e v (by rw [a.2] at hv; exact hv)).trans (e' v (by rw [a.2] at hv; exact hv))
def clsF (X : List Mach) (N : Nat) (i : Int) : List Int := (idL N).filter fun j => eqM (atM X i) (atM X j)
theorem classL_mem {X : List Mach} {N : Nat} {k : Int} (h : XOk X N k) {c : List Int} (hc : c ∈ classL X N) {i : Int} (hi : i ∈ c) : c = clsF X N i := by
 obtain ⟨p, hp, rfl⟩ := List.mem_map.1 hc
 have hP := dvL_inv (eqM_on h)
 have hf := hP.fil p hp
 obtain ⟨j, hj, e⟩ := hP.key p hp
 have ho := eqM_on h
 rw [hf, e, List.mem_filter] at hi
 rw [hf, e]
 unfold clsF
 refine List.filter_congr fun l hl => ?_
 rw [Bool.eq_iff_iff]
 exact ⟨fun h1 => ho.trans i hi.1 j hj l hl (ho.symm j hj i hi.1 hi.2) h1, fun h1 => ho.trans j hj i hi.1 l hl hi.2 h1⟩
structure TInv (X : List Mach) (N n : Nat) (out : List Nd) : Prop where
 root : ∃ d, out[0]? = some d ∧ d.sus = idL N
 sub : ∀ d ∈ out, d.sus.Sublist (idL N)
 un : ∀ j d, n ≤ j → out[j]? = some d → d.word = [] ∧ d.br = []
 w : ∀ j d, j < n → out[j]? = some d → d.word = wordX X d.sus
 br0 : ∀ j d, j < n → out[j]? = some d → d.word = [] → d.br = []
 br : ∀ j d, j < n → out[j]? = some d → d.word ≠ [] → ∃ off, j < off ∧ off + (partsX X d.sus d.word).length ≤ out.length ∧ d.br = brsF (partsX X d.sus d.word) off ∧ ∀ q p, (partsX X d.sus d.word)[q]? = some p → ∃ e, out[off + q]? = some e ∧ e.sus = p.2
theorem TInv.start (X : List Mach) (N : Nat) : TInv X N 0 [⟨idL N, [], []⟩] where
 root := ⟨_, rfl, rfl⟩
 sub := fun d hd => by rw [List.mem_singleton] at hd; subst hd; exact List.Sublist.refl _
 un := fun j d _ h => by
  cases j with
  | zero => cases h; exact ⟨rfl, rfl⟩
  | succ j => simp at h
 w := fun j d h => absurd h (Nat.not_lt_zero _)
 br0 := fun j d h => absurd h (Nat.not_lt_zero _)
 br := fun j d h => absurd h (Nat.not_lt_zero _)
theorem TInv.step {X : List Mach} {N n : Nat} {out : List Nd} (h : TInv X N n out) (hn : n < out.length) : TInv X N (n + 1) (dgStep X out n) := by
 have hd := List.getElem?_eq_getElem hn
 unfold dgStep
 rw [hd]
 simp only
 generalize out[n] = d at hd
 obtain ⟨u1, u2⟩ := h.un n d (Nat.le_refl _) hd
 split
 ·rename_i hw
  refine ⟨h.root, h.sub, fun j e hj he => h.un j e (by omega) he, fun j e hj he => ?_, fun j e hj he => ?_, fun j e hj he => ?_⟩
  ·by_cases hjn : j = n
   ·subst hjn; rw [hd] at he; cases he; rw [u1, hw]
   ·exact h.w j e (by omega) he
  ·by_cases hjn : j = n
   ·subst hjn; rw [hd] at he; cases he; exact fun _ => u2
   ·exact h.br0 j e (by omega) he
  ·by_cases hjn : j = n
   ·subst hjn; rw [hd] at he; cases he; exact fun hne => absurd u1 hne
   ·exact h.br j e (by omega) he
 ·rename_i hw
  obtain ⟨w, hwe⟩ : ∃ w, w = wordX X d.sus := ⟨_, rfl⟩
  rw [← hwe] at hw ⊢
  generalize hps : partsX X d.sus w = ps
  obtain ⟨out', ho⟩ : ∃ o, o = out.set n ⟨d.sus, w, brsF ps out.length⟩ ++ kidL ps := ⟨_, rfl⟩
  rw [← ho]
  have hkl : (kidL ps).length = ps.length := by simp [kidL]
  have hol : out'.length = out.length + ps.length := by rw [ho, List.length_append, List.length_set, hkl]
  have hold : ∀ j, j < out.length → j ≠ n → out'[j]? = out[j]? := fun j hj hjn => by
   rw [ho, List.getElem?_append_left (by rw [List.length_set]; exact hj), List.getElem?_set_ne (fun e => hjn e.symm)]
  have hnew : out'[n]? = some ⟨d.sus, w, brsF ps out.length⟩ := by
   rw [ho, List.getElem?_append_left (by rw [List.length_set]; exact hn), List.getElem?_set_self hn]
  have hkid : ∀ q, out'[out.length + q]? = (ps[q]?).map fun p => ⟨p.2, [], []⟩ := fun q => by
   rw [ho, List.getElem?_append_right (by rw [List.length_set]; omega), List.length_set, Nat.add_sub_cancel_left, kidL, List.getElem?_map]
  have hsus : ∀ (j : Nat) (e : Nd), out[j]? = some e → ∃ e' : Nd, out'[j]? = some e' ∧ e'.sus = e.sus := fun j e he => by
   have hj := (List.getElem?_eq_some_iff.1 he).1
   by_cases hjn : j = n
   ·subst hjn; rw [hd] at he; cases he; exact ⟨_, hnew, rfl⟩
   ·exact ⟨e, by rw [hold j hj hjn]; exact he, rfl⟩
  have hds := h.sub d (List.mem_of_getElem? hd)
  refine ⟨?_, fun e he => ?_, fun j e hj he => ?_, fun j e hj he => ?_, fun j e hj he => ?_, fun j e hj he => ?_⟩
  ·obtain ⟨r, hr, hr2⟩ := h.root
   obtain ⟨r', h1, h2⟩ := hsus 0 r hr
   exact ⟨r', h1, by rw [h2, hr2]⟩
  ·rw [ho] at he
   rcases List.mem_append.1 he with he | he
   ·rcases List.mem_or_eq_of_mem_set he with he | rfl
    ·exact h.sub e he
    ·exact hds
   ·obtain ⟨p, hp, rfl⟩ := List.mem_map.1 he
    have hI : PInv eqI (respK X w) d.sus ps := by rw [← hps]; exact dvL_inv (eqI_on _ _)
    simp only
    rw [hI.fil p hp]
    exact List.filter_sublist.trans hds
  ·by_cases hjl : j < out.length
   ·rw [hold j hjl (by omega)] at he
    exact h.un j e (by omega) he
   ·obtain ⟨q, rfl⟩ : ∃ q, j = out.length + q := ⟨j - out.length, by omega⟩
    rw [hkid, Option.map_eq_some_iff] at he
    obtain ⟨p, _, rfl⟩ := he
    exact ⟨rfl, rfl⟩
  ·by_cases hjn : j = n
   ·subst hjn; rw [hnew] at he; cases he; exact hwe
   ·rw [hold j (by omega) hjn] at he; exact h.w j e (by omega) he
  ·by_cases hjn : j = n
   ·subst hjn; rw [hnew] at he; cases he; exact fun hc => absurd hc hw
   ·rw [hold j (by omega) hjn] at he; exact h.br0 j e (by omega) he
  ·by_cases hjn : j = n
   ·subst hjn; rw [hnew] at he; cases he
    intro _
    simp only [hps]
    refine ⟨out.length, hn, by omega, rfl, fun q p hp => ⟨_, by rw [hkid, hp]; rfl, rfl⟩⟩
   ·rw [hold j (by omega) hjn] at he
    intro hne
    obtain ⟨off, h1, h2, h3, h4⟩ := h.br j e (by omega) he hne
    refine ⟨off, h1, by omega, h3, fun q p hp => ?_⟩
    obtain ⟨e1, h5, h6⟩ := h4 q p hp
    obtain ⟨e2, h7, h8⟩ := hsus _ _ h5
    exact ⟨e2, h7, by rw [h8, h6]⟩
theorem dgF_inv {X : List Mach} {N : Nat} {k : Int} (hX : XOk X N k) : ∀ (f n : Nat) (out : List Nd), DInv X N n out → TInv X N n out → 2 * N ≤ f + n → 1 ≤ N → DInv X N (dgF X f out n).length (dgF X f out n) ∧ TInv X N (dgF X f out n).length (dgF X f out n)
 | 0, n, out, hD, hT, hf, hN => by
   have := hD.le; have := hD.wg; omega
 | f + 1, n, out, hD, hT, hf, hN => by
   rw [dgF]
   split
   ·rename_i hn
    exact dgF_inv hX f (n + 1) _ (hD.step hX.v hX.n hn) (hT.step hn) (by omega) hN
   ·have : n = out.length := by have := hD.le; omega
    subst this
    exact ⟨hD, hT⟩
theorem diagL_inv {X : List Mach} {N : Nat} {k : Int} (hX : XOk X N k) (hN : 1 ≤ N) : DInv X N (diagL X N).length (diagL X N) ∧ TInv X N (diagL X N).length (diagL X N) :=
 dgF_inv hX (2 * N) 0 _ (.start X hN) (.start X N) (by omega) hN
structure NodeOk (X : List Mach) (T : List Nd) (N : Nat) (k : Int) (n : Nat) (d : Nd) : Prop where
 ne : d.sus ≠ []
 sub : d.sus.Sublist (idL N)
 rng : ∀ i ∈ d.sus, 0 ≤ i ∧ i < N
 w : d.word = wordX X d.sus
 leaf : d.word = [] → d.br = []
 wl : d.word.length ≤ 127 ∧ ∀ a ∈ d.word, 0 ≤ a ∧ a < k
 kids : d.word ≠ [] → ∃ off, n < off ∧ off + (partsX X d.sus d.word).length ≤ T.length ∧ 2 ≤ (partsX X d.sus d.word).length ∧ d.br = brsF (partsX X d.sus d.word) off ∧ ∀ q p, (partsX X d.sus d.word)[q]? = some p → ∃ e, T[off + q]? = some e ∧ e.sus = p.2
theorem diagL_node {X : List Mach} {N : Nat} {k : Int} (hX : XOk X N k) (hN : 1 ≤ N) {n : Nat} {d : Nd} (hd : (diagL X N)[n]? = some d) : NodeOk X (diagL X N) N k n d := by
 obtain ⟨hD, hT⟩ := diagL_inv hX hN
 have hn := (List.getElem?_eq_some_iff.1 hd).1
 have hm := List.mem_of_getElem? hd
 have hrg := hD.rng d hm
 have hw := hT.w n d hn hd
 have h2 := fun h => wordX_two hX.v (s := d.sus) (fun i hi => by have := hrg i hi; have := hX.n; omega) h
 rw [← hw] at h2
 refine ⟨hD.ne d hm, hT.sub d hm, hrg, hw, hT.br0 n d hn hd, ?_, fun h => ?_⟩
 ·by_cases h : d.word = []
  ·rw [h]; exact ⟨by decide, fun a ha => by cases ha⟩
  ·exact ⟨(h2 h).2.1, (h2 h).2.2⟩
 ·obtain ⟨off, a, b, c, e⟩ := hT.br n d hn hd h
  exact ⟨off, a, b, (h2 h).1, c, e⟩
theorem toOf_brsF {r : List Int} : ∀ {ps : List (List Int × List Int)} {q off : Nat} {p : List Int × List Int}, ps[q]? = some p → p.1 = r → (∀ j p', j < q → ps[j]? = some p' → p'.1 ≠ r) → toOf (brsF ps off) r = some ((off + q : Nat) : Int)
 | [], _, _, _, h, _, _ => by simp at h
 | p' :: ps, 0, off, p, h, hr, _ => by
   simp only [List.getElem?_cons_zero, Option.some.injEq] at h
   subst h
   simp [toOf, brsF, hr]
 | p' :: ps, q + 1, off, p, h, hr, hn => by
   have h0 : p'.1 ≠ r := hn 0 p' (by omega) rfl
   have := toOf_brsF (ps := ps) (q := q) (off := off + 1) (p := p) (by simpa using h) hr fun j x hj hx => hn (j + 1) x (by omega) (by simpa using hx)
   unfold toOf at this ⊢
   rw [brsF, List.find?_cons, decide_eq_false h0]
   simp only
   rw [this]
   congr 2; omega
theorem walk_leaf {X : List Mach} {N : Nat} {k : Int} (hX : XOk X N k) (hN : 1 ≤ N) {i : Int} (hi : 0 ≤ i ∧ i < N) : ∀ (f n : Nat) (d : Nd) (asked : List (List Int)), (diagL X N)[n]? = some d → (diagL X N).length ≤ f + n →
  (∀ w ∈ asked, WOk k.toNat w) → d.sus = (idL N).filter (fun j => asked.all fun w => decide (runR (atM X j) 0 w = runR (atM X i) 0 w)) →
  ∃ n' d' asked', walkF (diagL X N) (atM X i) f n asked = some (n', asked') ∧ (diagL X N)[n']? = some d' ∧ d'.word = [] ∧ d'.sus = clsF X N i ∧ asked'.length ≤ asked.length + f ∧ ∀ w ∈ asked', w ∈ asked ∨ ∃ d ∈ diagL X N, w = d.word
 | 0, n, d, asked, hd, hf, _, _ => by have := (List.getElem?_eq_some_iff.1 hd).1; omega
 | f + 1, n, d, asked, hd, hf, hA, hs => by
   have hO := diagL_node hX hN hd
   have hiv := hX.at hi
   have hmem : i ∈ d.sus := by rw [hs, List.mem_filter]; exact ⟨idL_mem.2 hi, by simp⟩
   by_cases hw : d.word = []
   ·refine ⟨n, d, asked, walkF_leaf hd hw, hd, hw, ?_, by omega, fun w h => .inl h⟩
    have hal : ∀ j ∈ d.sus, ∀ v, WOk k.toNat v → runR (atM X i) 0 v = runR (atM X j) 0 v := by
     obtain ⟨a, r, har⟩ : ∃ a r, d.sus = a :: r := by
      cases hh : d.sus with
      | nil => exact absurd hh hO.ne
      | cons a r => exact ⟨a, r, rfl⟩
     have hz : firstD X a r = [] := by
      have := hO.w
      rw [hw, har] at this; exact this.symm
     rcases firstD_spec (X := X) (a := a) (r := r) with ⟨_, h2⟩ | ⟨j, _, _, _, h⟩
     ·have hfirst : ∀ j ∈ d.sus, ∀ v, WOk k.toNat v → runR (atM X a) 0 v = runR (atM X j) 0 v := fun j hj v hv => by
        rw [har] at hj
        have ha := hX.at (hO.rng a (by rw [har]; simp))
        rcases List.mem_cons.1 hj with rfl | hj
        ·rfl
        ·have hb := hX.at (hO.rng j (by rw [har]; simp [hj]))
         have h3 := h2 j hj
         rcases diff_least ha.1 hb.1 (by rw [ha.2, hb.2]) with ⟨h4, _⟩ | ⟨_, _, h4⟩
         ·rw [h3] at h4; cases h4
         ·exact h4 v (by rw [ha.2]; exact hv)
      exact fun j hj v hv => (hfirst i hmem v hv).symm.trans (hfirst j hj v hv)
     ·exact absurd hz h
    have hfl : d.sus = (idL N).filter fun j => asked.all fun w => decide (runR (atM X j) 0 w = runR (atM X i) 0 w) := hs
    rw [hfl]
    unfold clsF
    refine List.filter_congr fun j hj => ?_
    have hjv := hX.at (idL_mem.1 hj)
    rw [Bool.eq_iff_iff, eqM_iff hiv.1 hjv.1 (by rw [hiv.2, hjv.2]), hiv.2, List.all_eq_true]
    constructor
    ·intro h
     exact hal j (by rw [hfl, List.mem_filter]; exact ⟨hj, List.all_eq_true.2 h⟩)
    ·intro h w hw
     rw [decide_eq_true_eq]
     exact (h w (hA w hw)).symm
   ·obtain ⟨off, o1, o2, _, o4, o5⟩ := hO.kids hw
    rw [walkF_go hd hw]
    obtain ⟨P, hP⟩ : ∃ P, P = partsX X d.sus d.word := ⟨_, rfl⟩
    rw [← hP] at o2 o4 o5
    have hI : PInv eqI (respK X d.word) d.sus P := by rw [hP]; exact dvL_inv (eqI_on _ _)
    obtain ⟨p, hp, hpe⟩ := hI.cov i hmem
    simp only [eqI, decide_eq_true_eq] at hpe
    obtain ⟨q, hq, rfl⟩ := List.getElem_of_mem hp
    have hnd : (P.map (·.1)).Nodup := by rw [hP]; exact dvI_nodup d.sus [] List.nodup_nil
    have hto := toOf_brsF (off := off) (List.getElem?_eq_getElem hq) hpe fun j p' hj hp' he => by
     have hjl := (List.getElem?_eq_some_iff.1 hp').1
     have e1 : (P.map (·.1))[j]? = (P.map (·.1))[q]? := by
      rw [List.getElem?_map, List.getElem?_map, hp', List.getElem?_eq_getElem hq]
      simp only [Option.map_some, he, hpe]
     have := (List.getElem?_inj (by rw [List.length_map]; exact hjl) hnd).1 e1
     omega
    rw [o4, show runR (atM X i) 0 d.word = respK X d.word i from rfl, hto]
    simp only
    obtain ⟨e, he1, he2⟩ := o5 q _ (List.getElem?_eq_getElem hq)
    have hef : e.sus = (idL N).filter (fun j => (asked ++ [d.word]).all fun w => decide (runR (atM X j) 0 w = runR (atM X i) 0 w)) := by
     rw [he2, hI.fil _ hp, hs, List.filter_filter]
     refine List.filter_congr fun j _ => ?_
     rw [List.all_append]
     simp only [List.all_cons, List.all_nil, Bool.and_true, hpe]
     rw [Bool.and_comm]
     congr 1
     simp only [eqI]
     rw [Bool.eq_iff_iff, decide_eq_true_eq, decide_eq_true_eq]
     exact ⟨fun h => h.symm, fun h => h.symm⟩
    obtain ⟨n', d', asked', a1, a2, a3, a4, a5, a6⟩ := walk_leaf hX hN hi f (off + q) e (asked ++ [d.word]) he1 (by omega) (fun w hw' => by
     rcases List.mem_append.1 hw' with h | h
     ·exact hA w h
     ·rw [List.mem_singleton] at h; subst h
      intro a ha
      have := hO.wl.2 a ha; omega) hef
    refine ⟨n', d', asked', by rw [Int.toNat_natCast]; exact a1, a2, a3, a4, by simp at a5; omega, fun w hw' => ?_⟩
    rcases a6 w hw' with h | h
    ·rcases List.mem_append.1 h with h | h
     ·exact .inl h
     ·rw [List.mem_singleton] at h; exact .inr ⟨d, List.mem_of_getElem? hd, h⟩
    ·exact .inr h
theorem brsF_keys : ∀ (ps : List (List Int × List Int)) (off : Nat), (brsF ps off).map (·.1) = ps.map (·.1)
 | [], _ => rfl
 | p :: ps, off => by rw [brsF, List.map_cons, brsF_keys ps, List.map_cons]
theorem diagL_valid {X : List Mach} {N : Nat} {k : Int} (hX : XOk X N k) (hN : 1 ≤ N) (hk : 1 ≤ k ∧ k ≤ 16) : validT k (diagL X N) = true := by
 obtain ⟨hD, hT⟩ := diagL_inv hX hN
 unfold validT
 rw [Bool.and_eq_true]
 refine ⟨all_range_true fun n hn => ?_, ?_⟩
 rotate_left
 ·obtain ⟨d, hd, _⟩ := hT.root
  exact decide_eq_true (List.getElem?_eq_some_iff.1 hd).1
 have hd := List.getElem?_eq_getElem hn
 rw [hd]
 generalize (diagL X N)[n] = d at hd
 have hO := diagL_node hX hN hd
 simp only
 have hw0 : wordErr k d.word = 0 := (wordErr_iff hk).2 ⟨by have := hO.wl.1; omega, hO.wl.2⟩
 unfold ndOk
 rw [decide_eq_true hw0, Bool.true_and, Bool.and_eq_true]
 by_cases hw : d.word = []
 ·have hb := hO.leaf hw
  rw [hw, hb]
  exact ⟨rfl, rfl⟩
 ·obtain ⟨off, o1, o2, o3, o4, o5⟩ := hO.kids hw
  have hbl : d.br.length = (partsX X d.sus d.word).length := by rw [o4, brsF_len]
  have hwl := List.length_pos_iff.2 hw
  refine ⟨by rw [decide_eq_false (by omega), decide_eq_false (by omega)]; rfl, all_range_true fun j hj => ?_⟩
  have hjl : j < (partsX X d.sus d.word).length := by omega
  have hp := List.getElem?_eq_getElem hjl
  have hm := List.getElem_mem hjl
  generalize (partsX X d.sus d.word)[j] = p at hp hm
  have hbj : d.br[j]? = some (p.1, ((off + j : Nat) : Int)) := by rw [o4]; exact brsF_get hp
  have hI : PInv eqI (respK X d.word) d.sus (partsX X d.sus d.word) := dvL_inv (eqI_on _ _)
  obtain ⟨i, hi, he⟩ := hI.key p hm
  unfold brOk
  rw [hbj]
  simp only
  rw [decide_eq_true (show (n : Int) < ((off + j : Nat) : Int) by omega), decide_eq_true (show ((off + j : Nat) : Int) < ((diagL X N).length : Int) by omega), decide_eq_true (show p.1.length = d.word.length by rw [he, respK, runR_len]), Bool.true_and, Bool.true_and, Bool.true_and, Bool.not_eq_true', List.any_eq_false]
  intro c hc
  rw [decide_eq_true_eq]
  intro hce
  obtain ⟨q, hq, rfl⟩ := List.getElem_of_mem hc
  rw [List.length_take] at hq
  have hnd : ((partsX X d.sus d.word).map (·.1)).Nodup := dvI_nodup d.sus [] List.nodup_nil
  rw [← brsF_keys _ off, ← o4] at hnd
  have h1 : (d.br.map (·.1))[q]? = (d.br.map (·.1))[j]? := by
   rw [List.getElem?_map, List.getElem?_map, hbj, List.getElem?_eq_getElem (show q < d.br.length by omega)]
   rw [List.getElem_take] at hce
   simp only [Option.map_some, hce]
  have := (List.getElem?_inj (by rw [List.length_map]; omega) hnd).1 h1
  omega
structure WalkOk (X : List Mach) (N : Nat) (i : Int) (S : List Int) (n : Nat) (A : List (List Int)) (B : List RW) : Prop where
 sus : S = clsF X N i
 f : walkF (diagL X N) (atM X i) (diagL X N).length 0 [] = some (n, A)
 r : walkR ((diagL X N).map ndG) (atM X i) (diagL X N).length 0 [] = some (n, B)
 ab : A = B.map (·.2.1)
 d : ∃ d, (diagL X N)[n]? = some d ∧ d.sus = S
 al : A.length ≤ (diagL X N).length
 aw : ∀ w ∈ A, w.length ≤ 127
theorem walk_ok {X : List Mach} {N : Nat} {k : Int} (hX : XOk X N k) (hN : 1 ≤ N) {i : Int} (hi : 0 ≤ i ∧ i < N) : ∃ S n A B, WalkOk X N i S n A B := by
 obtain ⟨_, hT⟩ := diagL_inv hX hN
 obtain ⟨r, hr, hr2⟩ := hT.root
 obtain ⟨n, d, A, h1, h2, h3, h4, h5, h6⟩ := walk_leaf hX hN hi (diagL X N).length 0 r [] hr (by omega) (fun w h => by cases h) (by rw [hr2]; exact (List.filter_eq_self.2 fun j _ => rfl).symm)
 have hTn : ((diagL X N).map ndG).map NG.nd = diagL X N := by
  rw [List.map_map, show NG.nd ∘ ndG = id from funext ndG_nd, List.map_id]
 have hF := walkR_walkF ((diagL X N).map ndG) (atM X i) (diagL X N).length 0 []
 rw [hTn, List.map_nil, h1] at hF
 cases hR : walkR ((diagL X N).map ndG) (atM X i) (diagL X N).length 0 [] with
 | none => rw [hR] at hF; cases hF
 | some p =>
   obtain ⟨n', B⟩ := p
   rw [hR] at hF
   simp only [Option.map_some, Option.some.injEq, Prod.mk.injEq] at hF
   obtain ⟨rfl, hab⟩ := hF
   refine ⟨d.sus, n, A, B, ⟨h4, h1, hR, hab, ⟨d, h2, rfl⟩, by simpa using h5, fun w hw => ?_⟩⟩
   rcases h6 w hw with h | ⟨e, he, rfl⟩
   ·cases h
   ·obtain ⟨j, hj, rfl⟩ := List.getElem_of_mem he
    exact (diagL_node hX hN (List.getElem?_eq_getElem hj)).wl.1
theorem clsF_len (X : List Mach) (N : Nat) (i : Int) : (clsF X N i).length ≤ N := by
 have := List.length_filter_le (fun j => eqM (atM X i) (atM X j)) (idL N)
 rw [idL_len] at this; exact this
theorem xok_of {m : Mach} (hv : Valid m) {fs : List FA} (hf : ∀ f ∈ fs, checkF m f = 0) : XOk (fs.map (mutF m)) fs.length m.ins := ⟨fun x hx => by
 obtain ⟨f, h, rfl⟩ := List.mem_map.1 hx
 exact ⟨mutF_valid hv (hf f h), rfl⟩, List.length_map _⟩
theorem node_ok {X : List Mach} {N : Nat} {k : Int} (hX : XOk X N k) (hN : 1 ≤ N) (hN2 : N ≤ 100000) {n : Nat} {d : Nd} (hd : (diagL X N)[n]? = some d) : NGok (ndG d) ∧ NGnil (ndG d) := by
 have hO := diagL_node hX hN hd
 have hTl := (diagL_inv hX hN).1.len
 have hsl := hO.sub.length_le
 rw [idL_len] at hsl
 have hwl := hO.wl.1
 have hbl : d.br.length < 1000000 := by
  by_cases hw : d.word = []
  ·rw [hO.leaf hw]; decide
  ·obtain ⟨off, o1, o2, o3, o4, o5⟩ := hO.kids hw
   rw [o4, brsF_len]; omega
 refine ⟨⟨by show d.sus.length < 1000000; omega, by show d.word.length < 1000000; omega, by show (d.br.map _).length < 1000000; rw [List.length_map]; exact hbl, fun b hb => ?_⟩, ⟨(fun h => by cases h), fun h => List.isEmpty_iff.1 h⟩⟩
 obtain ⟨y, hy, rfl⟩ := List.mem_map.1 hb
 show y.1.length < 1000000
 have hw : d.word ≠ [] := fun hw => by rw [hO.leaf hw] at hy; cases hy
 obtain ⟨off, o1, o2, o3, o4, o5⟩ := hO.kids hw
 have hk : y.1 ∈ (partsX X d.sus d.word).map (·.1) := by
  rw [← brsF_keys _ off, ← o4]; exact List.mem_map_of_mem hy
 obtain ⟨p, hp, hpe⟩ := List.mem_map.1 hk
 have hI : PInv eqI (respK X d.word) d.sus (partsX X d.sus d.word) := dvL_inv (eqI_on _ _)
 obtain ⟨i, _, hi⟩ := hI.key p hp
 rw [← hpe, hi, respK, runR_len]; omega
set_option maxHeartbeats 8000000 in
theorem culpritsWalk_is {x : LM} (hx : x.Ok) (ln : Bool) (ls : List Int) (lc : Cp) (hls : ∀ v ∈ ls, 0 ≤ v ∧ v < 65536) (b : Int) (hb : 0 ≤ b ∧ b < 256) :
  PureIs prog 6 [.ag (x.cells ++ [.sl ln (ls.map u16C) lc]), .sc (.int .u8 b)] (.sc (.bool true)) := by
 have va := LM.valid hx
 have q0 := sOf19_is hx ln ls lc hls
 have hfv := sOfL_ok hx ls
 have hfb : ∀ f ∈ sOfL x ls, faultB x.mach f = true := fun f hf => faK_mem (pickF_mem hf)
 have hfl := sOfL_len x ls
 have hcl : x.cells ++ [AV.sl ln (ls.map u16C) lc] = [.sc (.int .u8 x.st), .sc (.int .u8 x.ins), .sc (.int .u8 x.outs), .sc (.bool x.part), .sl x.nl (x.es.map u16C) x.cap, .sl ln (ls.map u16C) lc] := rfl
 rw [hcl] at q0 ⊢
 have hnn := LM.noNil x
 generalize sOfL x ls = fs at q0 hfv hfl hfb
 generalize x.mach = m at va q0 hfv hnn hfb
 have hn := fas_norefs fs
 have hfl2 : (fs.map FA.cells).length = fs.length := List.length_map _
 have q9 := lives_is
 have hI4 : inI64 b = true := inI64_of (by omega) (by omega)
 by_cases h0 : fs.length = 0
 ·generalize fs.map FA.cells = FS at q0 hn hfl2
  rw [Mach.cells] at q0
  refine PureIs.of1 3 [4, 5, 6, 7, 8, 9, 10, 11, 12, 13, 14, 15, 16, 17, 18, 26, 40, 100, 107, 116, 136] func6 ntmps6 results6 fun _ => ?_
  refine EvC.a ?_
  refine EvC.z 0 ?_
  apply EvC.s1
  ·apply Tr.run
   ·simp only [go_sem] <;> rfl
   ·simp
   apply Tr.cons
   ·exact .ca (q0)
   apply Tr.done
   ·simp only [go_sem] <;> rfl
   ·simp
  refine EvC.z 7 ?_
  refine EvC.seq ?_
  refine EvC.a ?_ (by simp only [go_sem, hfl2] <;> rfl)
  refine EvC.ct ?_ (by simp only [go_sem, decide_eq_true (show (fs.length : Int) = 0 by omega)] <;> rfl)
  apply EvC.s1
  ·apply Tr.run
   ·simp only [go_sem] <;> rfl
   ·simp
   apply Tr.cons
   ·exact .ca (q9)
   apply Tr.done
   ·simp only [go_sem] <;> rfl
   ·simp
  refine EvC.rz ?_
  simp only [go_sem]
 have hX := xok_of va hfv
 have hN : 1 ≤ fs.length := by omega
 obtain ⟨iN, hiN⟩ : ∃ i : Nat, b % (fs.length : Int) = (i : Int) := ⟨(b % (fs.length : Int)).toNat, (Int.toNat_of_nonneg (Int.emod_nonneg _ (by omega))).symm⟩
 have hil : iN < fs.length := by have := Int.emod_lt_of_pos b (b := (fs.length : Int)) (by omega); omega
 obtain ⟨i, hi⟩ : ∃ i : Int, i = (iN : Int) := ⟨_, rfl⟩
 have hit : i.toNat = iN := by omega
 rw [← hi] at hiN
 have hfi : fs[iN]? = some fs[iN] := List.getElem?_eq_getElem hil
 have hfm := List.getElem_mem hil
 have hMi : atM (fs.map (mutF m)) i = mutF m fs[iN] := by
  rw [atM, hit, List.getD_eq_getElem?_getD, List.getElem?_map, hfi]; rfl
 generalize fs[iN] = f at hfi hfm hMi
 have hfc : (fs.map FA.cells)[iN]? = some f.cells := by rw [List.getElem?_map, hfi]; rfl
 obtain ⟨S, n, A, B, hW⟩ := walk_ok hX hN (i := i) (by omega)
 have hval := diagL_valid hX hN va.ins
 have hTl := (diagL_inv hX hN).1.len
 have hnode : ∀ d ∈ diagL (fs.map (mutF m)) fs.length, NGok (ndG d) ∧ NGnil (ndG d) := fun d hd => by
  obtain ⟨j, hj, rfl⟩ := List.getElem_of_mem hd
  exact node_ok hX hN (by omega) (List.getElem?_eq_getElem hj)
 have hmv : Valid (mutF m f) := mutF_valid va (hfv f hfm)
 have q1 := diagnose_is m va.small hnn fs.isEmpty fs .unk (by omega)
 rw [diagA, if_neg (by rw [mutErr_ok2 va hfv (by omega)]; simp), if_neg h0] at q1
 have hcls := fun c (hc : c ∈ classL (fs.map (mutF m)) fs.length) (hic : i ∈ c) => classL_mem hX hc hic
 obtain ⟨w1, w2, w3, w4, ⟨d, w5, w5'⟩, w6, w7⟩ := hW
 rw [hMi] at w2 w3
 generalize hT : diagL (fs.map (mutF m)) fs.length = T at q1 hval hTl hnode w2 w3 w5 w6
 have hTn : (T.map ndG).map NG.nd = T := by rw [List.map_map, show NG.nd ∘ ndG = id from funext ndG_nd, List.map_id]
 have hTc : (T.map ndG).map ngC = T.map ndC := by rw [List.map_map, show ngC ∘ ndG = ndC from funext ndG_cells]
 have q3 := walk_is false (T.map ndG) .full (mutF m f) hmv.small (fun d hd => by obtain ⟨e, he, rfl⟩ := List.mem_map.1 hd; exact hnode e he) (by rw [List.length_map]; omega)
 have q4 := refwalk_is false (T.map ndG) .full (mutF m f) hmv (fun d hd => by obtain ⟨e, he, rfl⟩ := List.mem_map.1 hd; exact (hnode e he).1) (by rw [List.length_map]; omega) (by rw [hTn]; exact hval)
 rw [hTc] at q3 q4
 rw [walkA, if_neg (by rw [hmv.check]; simp), hTn, if_neg (by rw [show (mutF m f).ins = m.ins from rfl, hval]; simp), List.length_map, w2] at q3
 rw [refWalkA, List.length_map, w3] at q4
 have hg : (T.map ndC)[n]? = some (ndC d) := by rw [List.getElem?_map, w5]; rfl
 have hg2 : (T.map ndG)[n]? = some (ndG d) := by rw [List.getElem?_map, w5]; rfl
 simp only [hg2] at q3
 simp only at q4
 rw [show (ndG d).s.1 = false from rfl, show (ndG d).s.2.1 = d.sus from rfl, w5'] at q3
 rw [ndC, w5'] at hg
 have hSl : S.length < 1000000 := by rw [w1]; have := clsF_len (fs.map (mutF m)) fs.length i; omega
 have hBl : B.length < 1000000 := by have := w6; rw [w4, List.length_map] at this; omega
 have q5 := same_is false S .full false S .full hSl
 have q5u := same_is false S .full false S .unk hSl
 rw [decide_eq_true rfl] at q5 q5u
 have q6 := same37_is A.isEmpty B.isEmpty (A.map fun w => (false, w, .full)) B .full .unk (by rw [List.length_map, w4, List.length_map]; exact hBl) (fun y hy => by
  obtain ⟨w, hw, rfl⟩ := List.mem_map.1 hy
  have := w7 w hw
  simp only; omega)
 rw [sameW_eq, decide_eq_true (by rw [List.map_map, ← w4]; exact List.map_id _), List.map_map] at q6
 rw [show (rwC ∘ fun w : List Int => (false, w, Cp.full)) = askC from rfl, show (rwC : RW → List AV) = rwC1 from rfl] at q6
 have q7 := refclasses_is m va fs.isEmpty fs .unk hfv (by omega)
 obtain ⟨C, hC⟩ : ∃ C, C = dvL eqM (atM (fs.map (mutF m))) (idL fs.length) [] := ⟨_, rfl⟩
 rw [← hC] at q7
 have hcm : ∀ p ∈ C, i ∈ p.2 → p.2 = S := fun p hp hip => by
  rw [w1]
  exact hcls p.2 (by rw [show classL (fs.map (mutF m)) fs.length = C.map (·.2) by rw [hC]; rfl]; exact List.mem_map_of_mem hp) hip
 have hbd := dvL_bd2 eqM (atM (fs.map (mutF m))) (idL fs.length)
 rw [← hC, idL_len] at hbd
 have hCn := partC_norefs (kc := (kN : Mach → List AV)) kN_norefs C
 have hCl : (C.map (partC (kN : Mach → List AV))).length = C.length := List.length_map _
 have hCg : ∀ (k : Nat) (p : Mach × List Int), C[k]? = some p → (C.map (partC (kN : Mach → List AV)))[k]? = some [AV.sl false (p.2.map intC) .unk] := fun k p h => by rw [List.getElem?_map, h]; rfl
 generalize C.map (partC (kN : Mach → List AV)) = CC at q7 hCn hCl hCg
 have q8 := apply55_is va f (hfb f hfm)
 have hTcn : (T.map ndC).all AV.norefs = true := by rw [← hTc]; exact norefs_ngs _
 have hTcl : (T.map ndC).length = T.length := List.length_map _
 have hT0 : 0 < T.length := by have := (List.getElem?_eq_some_iff.1 w5).1; omega
 have hAn := norefs_ask A
 have hAl : (A.map askC).length = A.length := List.length_map _
 have hBn := norefs_rwC1 B
 generalize A.map askC = A1 at q3 q6 hAn hAl
 generalize B.map rwC1 = B1 at q4 q6 hBn
 have hSn := norefs_intC S
 have hSc : ∀ l : List Int, l = S → l.map intC = S.map intC := fun l h => by rw [h]
 generalize hS1 : S.map intC = S1 at q3 q5 q5u hg hSn hSc
 generalize T.map ndC = TC at q1 q3 q4 hg hTcn hTcl
 rw [FA.cells] at hfc q8
 generalize fs.map FA.cells = FS at q0 q1 q7 hn hfl2 hfc
 generalize mutF m f = mf at q3 q4 q8 hmv
 rw [Mach.cells] at q0 q1 q3 q4 q7
 rw [Mach.cells, Mach.cells] at q8
 refine PureIs.of1 3 [4, 5, 6, 7, 8, 9, 10, 11, 12, 13, 14, 15, 16, 17, 18, 26, 40, 100, 107, 116, 136] func6 ntmps6 results6 fun _ => ?_
 refine EvC.a ?_
 refine EvC.z 0 ?_
 apply EvC.s1
 ·apply Tr.run
  ·simp only [go_sem] <;> rfl
  ·simp
  apply Tr.cons
  ·exact .ca (q0)
  apply Tr.done
  ·simp only [go_sem] <;> rfl
  ·simp
 refine EvC.z 7 ?_
 refine EvC.seq ?_
 refine EvC.a ?_ (by simp only [go_sem, hfl2] <;> rfl)
 refine EvC.cs ?_ (by simp only [go_sem, decide_eq_false (show ¬ (fs.length : Int) = 0 by omega)] <;> rfl)
 apply EvC.s1
 ·apply Tr.run
  ·simp only [go_sem] <;> rfl
  ·simp
  apply Tr.cons
  ·exact .ca (q1)
  apply Tr.done
  ·simp only [go_sem, hn] <;> rfl
  ·simp [hn, hTcn]
 refine EvC.seq ?_
 apply EvC.seq
 apply EvC.trd
 ·simp only [go_sem, hTcl, decide_eq_false (show ¬ (T.length : Int) = 0 by omega)] <;> rfl
 ·simp
 refine EvC.cs ?_ (by simp only [go_sem, hTcl, decide_eq_false (show ¬ (T.length : Int) = 0 by omega)] <;> rfl)
 refine EvC.a ?_ (by simp only [go_sem, hfl2, hiN] <;> rfl) (by simp [hI4, hb.1]; omega)
 apply EvC.seq
 apply EvC.drw mixed
 ·apply Tr.run
  ·simp only [go_sem, hfc, hit, hfl2] <;> rfl
  ·simp [hfl2]; omega
  apply Tr.cons
  ·exact .ca (q8)
  apply Tr.done
  ·simp only [go_sem] <;> rfl
  ·simp
 ·kernel_rfl
 refine EvC.z 40 ?_
 apply EvC.s1
 ·apply Tr.run
  ·simp only [go_sem] <;> rfl
  ·simp
  apply Tr.cons
  ·exact .ca (q3)
  apply Tr.done
  ·simp only [go_sem, hn, hAn, hSn] <;> rfl
  ·simp [hTcn, hAn, hSn]
 obtain ⟨nZ, hnZ⟩ : ∃ z : Int, z = (n : Int) := ⟨_, rfl⟩
 have hnt : nZ.toNat = n := by omega
 have hnl : n < T.length := (List.getElem?_eq_some_iff.1 w5).1
 rw [← hnZ] at q4
 apply EvC.s1
 ·apply Tr.run
  ·simp only [go_sem] <;> rfl
  ·simp
  apply Tr.cons
  ·exact .ca (q4)
  apply Tr.done
  ·simp only [go_sem, hBn] <;> rfl
  ·simp [hTcn, hBn]
 refine EvC.seq ?_
 apply EvC.s1
 ·apply Tr.run
  ·simp only [go_sem, hg, hnt, hTcl, hAn, hBn, hSn, hAl, decide_eq_false (show ¬ nZ < 0 by omega)] <;> rfl
  ·simp [hTcl]; try omega
  apply Tr.cons
  ·exact .cg (q5)
  apply Tr.run
  ·simp only [go_sem, hg, hnt, hTcl, hAn, hBn, hSn, hAl, decide_eq_false (show ¬ nZ < 0 by omega)] <;> rfl
  ·simp [hTcl]; try omega
  apply Tr.cons
  ·exact .cg (q6)
  apply Tr.done
  ·simp only [go_sem] <;> rfl
  ·simp
 refine EvC.cs ?_
 apply EvC.s1
 ·apply Tr.run
  ·simp only [go_sem] <;> rfl
  ·simp
  apply Tr.cons
  ·exact .ca (q7)
  apply Tr.done
  ·simp only [go_sem, hn, hCn] <;> rfl
  ·simp [hn, hCn]
 refine EvC.seq ?_
 refine EvC.a ?_
 refine EvC.block ?_
 refine EvC.loopS (σ := Nat) (fun k => ⟨[(9, .sc (.int .i64 i)), (11, .sl false S1 .full), (16, .sl fs.isEmpty CC .unk), (17, .sc (.int .i64 k))], [], [], 0⟩) (fun k => C.length - k) (fun k => k ≤ C.length) [9, 11, 16, 17] 0 ?_ ?_
 ·exact ⟨[], 0, rfl, (by simp only [go_sem, Int.natCast_zero, hCn, hSn] <;> rfl), Nat.zero_le _⟩
 intro k hk
 refine EvC.seq ?_
 refine EvC.a ?_ (by simp only [go_sem, hCl] <;> rfl)
 by_cases hkl : k < C.length
 rotate_left
 ·refine EvC.cf ?_ (by simp only [go_sem, decide_eq_false (show ¬ (k : Int) < C.length by omega)] <;> rfl)
  refine EvC.exit ?_
  apply EvC.s1
  ·apply Tr.run
   ·simp only [go_sem] <;> rfl
   ·simp
   apply Tr.cons
   ·exact .ca (q9)
   apply Tr.done
   ·simp only [go_sem] <;> rfl
   ·simp
  refine EvC.rz ?_
  simp only [go_sem]
 have hke := List.getElem?_eq_getElem hkl
 have hkm := List.getElem_mem hkl
 generalize C[k] = p at hke hkm
 obtain ⟨px, l⟩ := p
 have hkg := hCg k _ hke
 have hll := hbd.2 _ hkm
 have hls2 := hcm _ hkm
 simp only at hkg hll hls2
 obtain ⟨kZ, hkZ⟩ : ∃ z : Int, z = (k : Int) := ⟨_, rfl⟩
 have hkt : kZ.toNat = k := by omega
 rw [← hkZ]
 refine EvC.cr ?_ (by simp only [go_sem, decide_eq_true (show kZ < (C.length : Int) by omega)] <;> rfl)
 refine EvC.seq ?_
 refine EvC.block ?_
 refine EvC.a ?_
 refine EvC.block ?_
 refine EvC.loopS (σ := Nat) (fun j => ⟨[(9, .sc (.int .i64 i)), (11, .sl false S1 .full), (16, .sl fs.isEmpty CC .unk), (17, .sc (.int .i64 kZ)), (18, .sc (.int .i64 j))], [], [], 0⟩) (fun j => l.length - j) (fun j => j ≤ l.length) [9, 11, 16, 17, 18] 0 ?_ ?_
 ·exact ⟨[], 0, rfl, (by simp only [go_sem, Int.natCast_zero, hCn, hSn] <;> rfl), Nat.zero_le _⟩
 intro j hj
 refine EvC.seq ?_
 refine EvC.a ?_ (by simp only [go_sem, hCl, hkg, hkt, List.length_map] <;> rfl) (by simp [hCl]; try omega)
 by_cases hjl : j < l.length
 rotate_left
 ·refine EvC.cf ?_ (by simp only [go_sem, decide_eq_false (show ¬ (j : Int) < l.length by omega)] <;> rfl)
  refine EvC.exit ?_
  refine EvC.b ?_ (hok := by exact inI64_of (by omega) (by omega))
  exact ⟨[], k + 1, rfl, (by rw [hkZ]; simp only [go_sem, Int.natCast_add, Int.natCast_one] <;> rfl), hkl, by omega⟩
 have hje := List.getElem?_eq_getElem hjl
 have hjm := List.getElem_mem hjl
 generalize l[j] = a at hje hjm
 obtain ⟨jZ, hjZ⟩ : ∃ z : Int, z = (j : Int) := ⟨_, rfl⟩
 have hjt : jZ.toNat = j := by omega
 have hjg : (l.map intC)[j]? = some [.sc (.int .i64 a)] := by rw [List.getElem?_map, hje]; rfl
 rw [← hjZ]
 refine EvC.cr ?_ (by simp only [go_sem, decide_eq_true (show jZ < (l.length : Int) by omega)] <;> rfl)
 refine EvC.seq ?_
 refine EvC.block ?_
 by_cases hai : a = i
 ·have hlS := hls2 (by rw [← hai]; exact hjm)
  have hll2 : l.map intC = S1 := by rw [hlS]; exact hS1
  have hlen : S1.length = l.length := by rw [← hll2, List.length_map]
  have hjg2 : S1[j]? = some [.sc (.int .i64 a)] := by rw [← hll2]; exact hjg
  rw [hll2] at hkg
  subst hai
  apply EvC.s1
  ·apply Tr.run
   ·simp only [go_sem, hkg, hkt, hjg2, hjt, hCl, hlen] <;> rfl
   ·simp [hCl, hlen]; try omega
   apply Tr.cons
   ·exact .cg (q5u)
   apply Tr.done
   ·simp only [go_sem] <;> rfl
   ·simp
  refine EvC.cs ?_
  refine EvC.b ?_ (hok := by exact inI64_of (by omega) (by omega))
  exact ⟨[], j + 1, rfl, (by rw [hjZ]; simp only [go_sem, Int.natCast_add, Int.natCast_one] <;> rfl), hjl, by omega⟩
 ·apply EvC.s1
  ·apply Tr.run
   ·simp only [go_sem, hkg, hkt, hjg, hjt, hCl, List.length_map, decide_eq_false hai] <;> rfl
   ·simp [hCl]; try omega
   apply Tr.cons
   ·exact .skipv (.sc (.bool true)) rfl rfl (by simp only [go_sem] <;> rfl) (by simp only [go_sem] <;> rfl)
   apply Tr.done
   ·simp only [go_sem] <;> rfl
   ·simp
  refine EvC.cs ?_
  refine EvC.b ?_ (hok := by exact inI64_of (by omega) (by omega))
  exact ⟨[], j + 1, rfl, (by rw [hjZ]; simp only [go_sem, Int.natCast_add, Int.natCast_one] <;> rfl), hjl, by omega⟩
open Go Go.ChangeShapes Go.RowKit
def Live (w : World) : Nat → Nat → Prop := fun b _ => b < w.heap.size
section
variable {H : Type} {enc : TypeId × Value → H} {P : Program} {w : World} {α β : Type}
def Fits (P : Program) (t : TypeId) (d : DataW H) : Prop := ∀ n ∈ d.weights P t, n ≤ reachBytes
theorem fits_all {P : Program} {e : TypeId} : ∀ {l : List (DataW H)}, (∀ n ∈ DataW.weightsAll P e l, n ≤ reachBytes) → ∀ d ∈ l, Fits P e d
 | [], _, d, hd => by cases hd
 | a :: l, h, d, hd => by
   simp only [DataW.weightsAll, List.mem_append] at h
   rcases List.mem_cons.1 hd with rfl | hd
   ·exact fun n hn => h n (.inl hn)
   ·exact fits_all (fun n hn => h n (.inr hn)) d hd
theorem fits_each {P : Program} : ∀ {ts : List TypeId} {l : List (DataW H)}, (∀ n ∈ DataW.weightsEach P ts l, n ≤ reachBytes) → ∀ (i : Nat) t d, ts[i]? = some t → l[i]? = some d → Fits P t d
 | [], _, _, i, t, d, h1, _ => by simp at h1
 | _ :: _, [], _, i, t, d, _, h2 => by simp at h2
 | a :: ts, b :: l, h, i, t, d, h1, h2 => by
   simp only [DataW.weightsEach, List.mem_append] at h
   cases i with
   | zero =>
     simp only [List.getElem?_cons_zero, Option.some.injEq] at h1 h2
     subst h1; subst h2
     exact fun n hn => h n (.inl hn)
   | succ i => exact fits_each (fun n hn => h n (.inr hn)) i t d (by simpa using h1) (by simpa using h2)
def Reads (enc : TypeId × Value → H) (P : Program) (w : World) (t : TypeId) (f : α → List AV) (Ok : α → Prop) : Prop :=
 ∀ fuel cs x, Fits P t x.1 → DataW.trod enc P w 0 (fun _ => true) true fuel t cs = some x →
   ∃ a, Ok a ∧ Imms (Live w) w cs (f a) ∧ ∀ v ∈ cs, v.oneCell' = true
theorem Imms.one {F : Nat → Nat → Prop} {v : Value} {x : AV} (h : Imm F w v x) : Imms F w [v] [x] :=
 ⟨rfl, fun i h1 _ => by have : i = 0 := by simpa using h1
                        subst this; exact h⟩
theorem Imms.append {F : Nat → Nat → Prop} {vs vs' : List Value} {xs xs' : List AV} (h : Imms F w vs xs) (h' : Imms F w vs' xs') : Imms F w (vs ++ vs') (xs ++ xs') := by
 have e := h.1
 have e' := h'.1
 refine ⟨by simp [e, e'], fun i h1 h2 => ?_⟩
 by_cases hi : i < vs.length
 ·rw [List.getElem_append_left hi, List.getElem_append_left (by omega)]; exact h.2 i _ _
 ·rw [List.getElem_append_right (by omega), List.getElem_append_right (by omega)]
  have := h'.2 (i - vs.length) (by simp at h1; omega) (by simp at h2; omega)
  simpa only [e] using this
theorem Reads.mono {t : TypeId} {f : α → List AV} {Ok : α → Prop} {g : β → List AV} {Ok' : β → Prop} (h : Reads enc P w t f Ok) (hq : ∀ a, Ok a → ∃ b, Ok' b ∧ g b = f a) : Reads enc P w t g Ok' :=
 fun fuel cs x hs ht => let ⟨a, h1, h2, h3⟩ := h fuel cs x hs ht; let ⟨b, k1, k2⟩ := hq a h1; ⟨b, k1, by rw [k2]; exact h2, h3⟩
theorem Reads.int {t : TypeId} {k : IntKind} (ht : P.underlying t = some (.int k)) : Reads enc P w t (fun n : Int => [.sc (.int k n)]) (fun n => (Lit.int k n).wf = true) := fun fuel cs x _ h => by
 obtain ⟨n, rfl, rfl, hw⟩ := DataW.trod_int ht h
 exact ⟨n, hw, .one (.sc _), by simp [Value.oneCell']⟩
theorem Reads.bool {t : TypeId} (ht : P.underlying t = some .bool) : Reads enc P w t (fun b : Bool => [.sc (.bool b)]) (fun _ => True) := fun fuel cs x _ h => by
 obtain ⟨b, rfl, rfl⟩ := DataW.trod_bool ht h
 exact ⟨b, trivial, .one (.sc _), by simp [Value.oneCell']⟩
theorem pick {α : Type} {p : Nat → α → Prop} (n : Nat) (h : ∀ i, i < n → ∃ a, p i a) : ∃ l : List α, l.length = n ∧ ∀ i (hi : i < l.length), p i l[i] := by
 induction n with
 | zero => exact ⟨[], rfl, fun i hi => by simp at hi⟩
 | succ n ih =>
   obtain ⟨l, h1, h2⟩ := ih fun i hi => h i (by omega)
   obtain ⟨a, ha⟩ := h n (by omega)
   refine ⟨l ++ [a], by simp [h1], fun i hi => ?_⟩
   by_cases h3 : i < l.length
   ·rw [List.getElem_append_left h3]; exact h2 i h3
   ·have : i = l.length := by simp at hi; omega
    subst this
    rw [List.getElem_append_right (Nat.le_refl _)]
    simpa [h1] using ha
theorem Reads.slice {t e : TypeId} {f : α → List AV} {Ok : α → Prop} (ht : P.underlying t = some (.slice e)) (he : Reads enc P w e f Ok) (hz : ∀ a, (f a).length = P.cellsOf e) (hz0 : 0 < P.cellsOf e) :
  Reads enc P w t (fun x : Bool × List α => [.sl x.1 (x.2.map f) .unk]) (fun x => (∀ y ∈ x.2, Ok y) ∧ (x.1 = true → x.2 = []) ∧ x.2.length * P.bytesOf e ≤ reachBytes) := fun fuel cs x hs h => by
 rcases DataW.trod_slice ht h with ⟨rfl, rfl⟩ | ⟨a, len, cap, elems, rest, n, rfl, rfl, rfl, _, hlc, hcm, hlen, hel, hrest, _⟩
 ·exact ⟨(true, []), ⟨by simp, fun _ => rfl, by simp⟩, .one (.nil _ (.inl rfl)), by simp [Value.oneCell']⟩
 unfold Fits at hs
 simp only [DataW.weights, ht, List.mem_cons, List.mem_append, List.length_map] at hs
 have hbytes : len * P.bytesOf e ≤ reachBytes := by
  have := hs _ (.inl rfl)
  rw [hlen, Nat.add_mul] at this; omega
 have hfit : ∀ i (hi : i < elems.length), Fits P e elems[i].1 := fun i hi =>
  fits_all (l := elems.map (·.1)) (fun n hn => hs n (.inr (.inl hn))) _ (List.mem_map.2 ⟨_, List.getElem_mem hi, rfl⟩)
 by_cases hc0 : cap = 0
 ·have hl0 : len = 0 := by omega
  subst hc0; subst hl0
  exact ⟨(false, []), ⟨by simp, by simp, by simp⟩, .one (.sz a _ (.inl rfl)), by simp [Value.oneCell']⟩
 have hfirst : ∃ v, w.cell? a = some v := by
  have hcells : ∃ cs', w.cells? 0 a (P.cellsOf e) = some cs' := by
   by_cases hl0 : len = 0
   ·subst hl0
    have h1 := (hrest rfl).2 0 (by omega)
    rw [List.getElem?_eq_getElem (by rw [(hrest rfl).1]; omega)] at h1
    obtain ⟨cs', h2, _⟩ := Option.bind_eq_some_iff.1 h1
    refine ⟨cs', ?_⟩
    simpa [Addr.add] using h2
   ·have h1 := hel 0 (by omega)
    rw [List.getElem?_eq_getElem (by omega)] at h1
    obtain ⟨cs', h2, _⟩ := Option.bind_eq_some_iff.1 h1
    refine ⟨cs', ?_⟩
    simpa [Addr.add] using h2
  obtain ⟨cs', h2⟩ := hcells
  obtain ⟨_, q1, q2⟩ := World.cells?_some h2
  have := q2 0 hz0
  rw [List.getElem?_eq_getElem (by omega)] at this
  exact ⟨_, by simpa [Addr.add] using this⟩
 have hsp : a.spot = none := by
  obtain ⟨v, hv⟩ := hfirst
  unfold World.cell? at hv
  cases hsp : a.spot with
  | none => rfl
  | some k =>
    rw [hsp] at hv
    split at hv <;> simp at hv
 obtain ⟨b, off, spt⟩ := a
 cases hsp
 have key : ∀ i, i < len → ∃ y : α, Ok y ∧ ∃ cs', cs'.length = P.cellsOf e ∧ (∀ j (hj : j < cs'.length), w.cell? ⟨b, off + i * P.cellsOf e + j, none⟩ = some cs'[j]) ∧ Imms (Live w) w cs' (f y) ∧ ∀ v ∈ cs', v.oneCell' = true := fun i hi => by
  have h1 := hel i hi
  rw [List.getElem?_eq_getElem (by omega)] at h1
  obtain ⟨cs', h2, h3⟩ := Option.bind_eq_some_iff.1 h1
  obtain ⟨y, k1, k2, k3⟩ := he _ _ _ (hfit i (by omega)) h3
  obtain ⟨_, q1, q2⟩ := World.cells?_some h2
  refine ⟨y, k1, cs', q1, fun j hj => ?_, k2, k3⟩
  have := q2 j (by omega)
  rw [List.getElem?_eq_getElem hj] at this
  rw [← this]
  congr 1
  unfold Addr.add
  by_cases e1 : i * P.cellsOf e = 0
  ·rw [if_pos e1]
   by_cases e2 : j = 0
   ·subst e2; simp [e1]
   ·rw [if_neg e2]; simp [e1]
  ·rw [if_neg e1]
   by_cases e2 : j = 0
   ·subst e2; simp
   ·rw [if_neg e2]
 obtain ⟨l, hl, hp⟩ := pick len key
 refine ⟨(false, l), ⟨fun y hy => ?_, by simp, by rw [hl]; exact hbytes⟩, .one ?_, by simp [Value.oneCell']⟩
 ·obtain ⟨i, hi, rfl⟩ := List.getElem_of_mem hy
  exact (hp i hi).1
 ·
  have hcell : ∀ i j, i < len → j < P.cellsOf e → ∃ v, w.cell? ⟨b, off + i * P.cellsOf e + j, none⟩ = some v ∧ v.oneCell' = true ∧ ∀ (h : i < l.length) (h' : j < (f l[i]).length), Imm (Live w) w v (f l[i])[j] := fun i j hi hj => by
   obtain ⟨_, cs', q1, q2, q3, q4⟩ := hp i (by omega)
   exact ⟨cs'[j], q2 j (by omega), q4 _ (List.getElem_mem _), fun h h' => q3.2 j (by omega) h'⟩
  have hv := fun i j => show ∃ v, i < len → j < P.cellsOf e → w.cell? ⟨b, off + i * P.cellsOf e + j, none⟩ = some v ∧ v.oneCell' = true ∧ ∀ (h : i < l.length) (h' : j < (f l[i]).length), Imm (Live w) w v (f l[i])[j] from by
   by_cases h : i < len ∧ j < P.cellsOf e
   ·obtain ⟨v, hv⟩ := hcell i j h.1 h.2; exact ⟨v, fun _ _ => hv⟩
   ·exact ⟨undef, fun h1 h2 => absurd ⟨h1, h2⟩ h⟩
  have hvs : ∀ i j, ∃ v, v = Classical.choose (hv i j) := fun i j => ⟨_, rfl⟩
  have e0 : (l.map f).length = len := by simp [hl]
  have := Imm.sl (F := Live w) (w := w) b off cap (P.cellsOf e) (l.map f) .unk (fun i j => Classical.choose (hv i j)) (by rw [e0]; exact hlc) (.inl rfl) (fun i hi => by rw [List.getElem_map]; exact hz _)
   (fun i j hi hj => by
    obtain ⟨k1, k2, _⟩ := Classical.choose_spec (hv i j) (by rw [← e0]; exact hi) hj
    refine ⟨?_, k1, k2⟩
    unfold World.cell? at k1
    show b < w.heap.size
    cases hb : w.heap[b]? with
    | none => simp [hb] at k1
    | some o => exact (Array.getElem?_eq_some_iff.1 hb).1)
   (fun i j h h' => by
    have h'2 := h'
    rw [List.getElem_map, hz] at h'2
    have := (Classical.choose_spec (hv i j) (by rw [← e0]; exact h) h'2).2.2 (by simpa using h) (by rw [hz]; exact h'2)
    simpa only [List.getElem_map] using this)
  rw [e0] at this
  exact this
def RdF (enc : TypeId × Value → H) (P : Program) (w : World) (L : List Field) (k tot : Nat) (f : α → List AV) (Ok : α → Prop) : Prop :=
 ∀ (n : Nat) (cs : List Value), cs.length = tot → (∀ fd ∈ L, ∃ y, DataW.trod enc P w 0 (fun _ => true) true n fd.type ((cs.drop fd.offset).take (P.cellsOf fd.type)) = some y ∧ Fits P fd.type y.1) →
   ∃ a, Ok a ∧ Imms (Live w) w (cs.drop k) (f a) ∧ ∀ v ∈ cs.drop k, v.oneCell' = true
theorem RdF.nil {tot : Nat} : RdF enc P w [] tot tot (fun _ : Unit => []) (fun _ => True) := fun n cs hl _ => by
 have : cs.drop tot = [] := by rw [List.drop_eq_nil_iff]; omega
 rw [this]
 exact ⟨(), trivial, ⟨rfl, fun i h => by simp at h⟩, by simp⟩
theorem RdF.cons {fd : Field} {fs : List Field} {k k' sz tot : Nat} {f : α → List AV} {Ok : α → Prop} {g : β → List AV} {Ok' : β → Prop} (ho : fd.offset = k) (hz : P.cellsOf fd.type = sz) (hk : k + sz = k')
  (h : Reads enc P w fd.type f Ok) (hs : RdF enc P w fs k' tot g Ok') : RdF enc P w (fd :: fs) k tot (fun x : α × β => f x.1 ++ g x.2) (fun x => Ok x.1 ∧ Ok' x.2) := fun n cs hl hf => by
 obtain ⟨y, hy, hyf⟩ := hf fd List.mem_cons_self
 obtain ⟨a, h1, h2, h3⟩ := h _ _ _ hyf hy
 obtain ⟨b, k1, k2, k3⟩ := hs n cs hl fun fd' h' => hf fd' (List.mem_cons_of_mem _ h')
 have e : cs.drop k = (cs.drop k).take sz ++ cs.drop k' := by
  rw [← hk, ← List.drop_drop, List.take_append_drop]
 rw [ho, hz] at h2 h3
 refine ⟨(a, b), ⟨h1, k1⟩, by rw [e]; exact h2.append k2, fun v hv => ?_⟩
 rw [e, List.mem_append] at hv
 rcases hv with hv | hv
 ·exact h3 v hv
 ·exact k3 v hv
theorem Reads.struct {t : TypeId} {fs : Array Field} {tot : Nat} {f : α → List AV} {Ok : α → Prop} (ht : P.underlying t = some (.struct fs)) (hz : P.cellsOf t = tot) (h : RdF enc P w fs.toList 0 tot f Ok) : Reads enc P w t f Ok := fun fuel cs x hs hx => by
 obtain ⟨xs, n, _, rfl, hl, hlen, hf⟩ := DataW.trod_struct ht hx
 unfold Fits at hs
 simp only [DataW.weights, ht] at hs
 obtain ⟨a, h1, h2, h3⟩ := h n cs (hl.trans hz) fun fd hfd => by
  obtain ⟨i, hi, rfl⟩ := List.getElem_of_mem hfd
  have := hf i fs.toList[i] (by simp)
  have hix : i < xs.length := by simp at hi; omega
  rw [List.getElem?_eq_getElem hix] at this
  exact ⟨_, this, fits_each hs i _ _ (by rw [List.getElem?_map, List.getElem?_eq_getElem hi]; rfl) (by rw [List.getElem?_map, List.getElem?_eq_getElem hix]; rfl)⟩
 exact ⟨a, h1, by simpa using h2, by simpa using h3⟩
theorem Reads.imm_struct {t : TypeId} {fs : Array Field} {f : α → List AV} {Ok : α → Prop} {r : Reach} {b0 : Nat} {v : Value} {d : DataW H} {ps : List MemPlace} (ht : P.underlying t = some (.struct fs)) (h : Reads enc P w t f Ok)
  (hv : Value.okWide P w r b0 t v) (hw : Fits P t d) (hd : DataW.Trod enc P w 0 (fun _ => true) true t v d ps) : ∃ a, Ok a ∧ Imm (Live w) w v (.ag (f a)) := by
 obtain ⟨cs, rfl, _⟩ := WideShapes.okWide_struct ht hv
 obtain ⟨fuel, hd⟩ := hd
 obtain ⟨a, h1, h2, _⟩ := h _ _ _ hw hd
 refine ⟨a, h1, ?_⟩
 have : (Value.agg cs) = .agg cs.toList.toArray := by simp
 rw [this]
 exact .ag _ _ h2.1 h2.2
theorem Grown.below {F F' : Nat → Nat → Prop} {w' : World} (g : Avl.Grown F w F' w') : Below w.heap.size w w' := ⟨g.kept.os, g.kept.tape, g.kept.output, g.size, g.old⟩
theorem trodAll_stays (hl : laidOutB P = true) {w' : World} (hb : Below w.heap.size w w') {spf : Nat → Bool} : ∀ {ts : List TypeId} {vs : List Value} {ds : List (DataW H)} {ps : List MemPlace}, (∀ t ∈ ts, P.readableRec t = true ∧ t < P.types.size) →
  DataW.TrodAll enc P w 0 (fun _ => true) true ts vs ds ps → (∀ p ∈ ps, p.block < w.heap.size) → (∀ p ∈ ps, spf p.block = true) → DataW.TrodAll enc P w' 0 spf true ts vs ds ps
 | [], [], [], _, _, h, _, _ => h
 | t :: ts, v :: vs, d :: ds, _, hr, ⟨p, q, h1, h2, e⟩, hlt, hsp => by
   subst e
   refine ⟨p, q, ?_, trodAll_stays hl hb (fun t ht => hr t (List.mem_cons_of_mem _ ht)) h2 (fun x hx => hlt x (List.mem_append_right _ hx)) fun x hx => hsp x (List.mem_append_right _ hx), rfl⟩
   have := hr t List.mem_cons_self
   exact WideElems.Trod_stays hl this.1 this.2 h1 (fun x hx => hb.same (hlt x (List.mem_append_left _ hx))) fun x hx => hsp x (List.mem_append_left _ hx)
 | [], _ :: _, _, _, _, h, _, _ => h.elim
 | [], [], _ :: _, _, _, h, _, _ => h.elim
 | _ :: _, [], _, _, _, h, _, _ => h.elim
 | _ :: _, _ :: _, [], _, _, h, _, _ => h.elim
theorem law_calls {f : FuncId} {fn : Func} {s : ChangeSpec} {apart fresh handsOn again : Bool} {args : Array Value} {avs : List AV} {ds : List (DataW H)} {before : List MemPlace} {tb : TypeId}
  (hl : laidOutB P = true) (hrd : (fn.params.toList.all fun t => P.readableRec t && decide (t < P.types.size)) = true) (hrt : fn.resultTypes = #[tb]) (htb : P.underlying tb = some .bool) (hvars : s.vars = [])
  (hs : s.fn H (ds ++ []) = { results := [.lit (.bool true)], args := ds })
  (h : PureIs P f avs (.sc (.bool true))) (hi : Imms (Live w) w args.toList avs) (hW : DataW.Whole enc P fn.params.toList s.vars apart w args.toList ds [] before) (hgl : Globs (Live w) w := by exact fun g vs hg => by cases hg) :
  Calls P f args w fun e W' => ∃ v, e = .returned v ∧ s.post enc P fn apart fresh handsOn again w args v W' := by
 have hW' := hW
 obtain ⟨p, q, hA, hV, rfl, hfz, hnd⟩ := hW
 rw [hvars] at hV
 obtain ⟨_, rfl⟩ := trodVars_none hV
 have hc := callsIn_wide.1 (h.2 (Live w) w args.toList ⟨fun _ _ h => h, hgl⟩ hi)
 rw [Array.toArray_toList] at hc
 refine hc.mono fun e W' ⟨v, F', he, hr, g⟩ => ?_
 have hv : v = .bool true := by cases hr; rfl
 subst hv
 have hb := Grown.below g
 refine ⟨_, he, post_of_same (pa := p) (pv := []) (by simpa using hW') (fun _ _ _ => ?_) (fun sp hsp => ?_) (fun _ _ => ?_) (by simp) (hb.frame _) g.kept.froz ?_⟩
 ·rw [hs, hrt]; exact trodAll_mk1 (shut_bool htb true)
 ·rw [hs]
  refine trodAll_stays hl hb (fun t ht => ?_) hA (fun x hx => hW'.lt x (by simpa using hx)) fun x hx => hsp x (by simpa using hx)
  have := List.all_eq_true.1 hrd t ht
  simpa using this
 ·rw [hvars, hs]; exact rfl
 ·exact ok_one hrt rfl (okWide_bool_mk htb true)
end
open Go Go.Proofs
theorem Reads.imm_int {H : Type} {enc : TypeId × Value → H} {w : World} {α : Type} {P : Program} {t : TypeId} {k : IntKind} {f : α → AV} {Ok : α → Prop} {r : Reach} {b0 : Nat} {v : Value} {d : DataW H} {ps : List MemPlace} (ht : P.underlying t = some (.int k)) (h : Reads enc P w t (fun a => [f a]) Ok)
  (hv : Value.okWide P w r b0 t v) (hw : Fits P t d) (hd : DataW.Trod enc P w 0 (fun _ => true) true t v d ps) : ∃ a, Ok a ∧ Imm (Live w) w v (f a) := by
 have hc : v.cells = #[v] := by
  simp only [Value.okWide, ht, Cell.okWide] at hv
  cases v <;> simp_all [Cell.ok, Value.cells]
 obtain ⟨fuel, hd⟩ := hd
 obtain ⟨a, h1, h2, _⟩ := h _ _ _ hw hd
 rw [hc] at h2
 exact ⟨a, h1, h2.2 0 (by simp) (by simp)⟩
end Go.Avl
namespace Go.Proofs.YtgdcjkcohmjbeaaDoor
open Go Go.Avl Go.Proofs Go.ChangeShapes Go.RowKit
theorem Tryd.own : ownKnob Tryd.prog.godebug = none := by kernel_rfl
theorem Tryd.laidOut : laidOutB Tryd.prog = true := by kernel_rfl
abbrev laidT : List (String × DataW Unit) := [("gauntlet/faults.table", Rows.laid_gauntlet_faults_table)]
section
variable {H : Type} {enc : TypeId × Value → H} {w : World}
theorem u8wf {n : Int} (h : (Lit.int .u8 n).wf = true) : 0 ≤ n ∧ n < 256 := by
 simp [Lit.wf, IntKind.min, IntKind.max, IntKind.signed, IntKind.bits] at h
 omega
theorem len_of {n b : Nat} (hb : 1 ≤ b) (h : n * b ≤ reachBytes) : (n : Int) ≤ 140737488355328 := by
 have h1 : n * 1 ≤ n * b := Nat.mul_le_mul_left n hb
 have h2 : reachBytes ≤ 140737488355328 := by decide
 omega
theorem rd_u8 : Reads enc Tryd.prog w 5 u8C (fun n => 0 ≤ n ∧ n < 256) := (Reads.int (by kernel_rfl)).mono fun a h => ⟨a, u8wf h, rfl⟩
theorem rd_u8' : Reads enc Tryd.prog w 5 (fun n : Int => [.sc (.int .u8 n)]) (fun n => 0 ≤ n ∧ n < 256) := rd_u8
theorem u16wf {n : Int} (h : (Lit.int .u16 n).wf = true) : 0 ≤ n ∧ n < 65536 := by
 simp [Lit.wf, IntKind.min, IntKind.max, IntKind.signed, IntKind.bits] at h
 omega
theorem rd_u16 : Reads enc Tryd.prog w 25 u16C (fun n => 0 ≤ n ∧ n < 65536) := (Reads.int (by kernel_rfl)).mono fun a h => ⟨a, u16wf h, rfl⟩
theorem rd_u16s : Reads enc Tryd.prog w 22 (fun x : Bool × List Int => [.sl x.1 (x.2.map u16C) .unk]) (fun x => (∀ e ∈ x.2, 0 ≤ e ∧ e < 65536) ∧ (x.2.length : Int) ≤ 140737488355328) :=
 (Reads.slice (by kernel_rfl) rd_u16 (fun a => by rw [show Program.cellsOf Tryd.prog 25 = 1 by kernel_rfl]; rfl) (by rw [show Program.cellsOf Tryd.prog 25 = 1 by kernel_rfl]; exact Nat.succ_pos _)).mono fun a h => ⟨a, ⟨h.1, len_of (b := Program.bytesOf Tryd.prog 25) (by decide +kernel) h.2.2⟩, rfl⟩
theorem rd_LM : Reads enc Tryd.prog w 24 LM.cells LM.Ok := by
 have := (Reads.struct (enc := enc) (w := w) (tot := 5) Tryd.underlying24 (by kernel_rfl) (.cons (sz := 1) rfl (by kernel_rfl) rfl rd_u8 (.cons (sz := 1) rfl (by kernel_rfl) rfl rd_u8 (.cons (sz := 1) rfl (by kernel_rfl) rfl rd_u8 (.cons (sz := 1) rfl (by kernel_rfl) rfl (Reads.bool Tryd.underlying4)
  (.cons (sz := 1) rfl (by kernel_rfl) rfl rd_u16s .nil))))))
 exact this.mono fun a h => ⟨⟨a.1, a.2.1, a.2.2.1, a.2.2.2.1, a.2.2.2.2.1.1, a.2.2.2.2.1.2, .unk⟩, ⟨h.1.1, h.2.1.1, h.2.2.1.1, h.2.2.2.2.1.1⟩, rfl⟩
theorem rd_S : Reads enc Tryd.prog w 50 (fun x : LM × Bool × List Int => x.1.cells ++ [.sl x.2.1 (x.2.2.map u16C) .unk]) (fun x => x.1.Ok ∧ ∀ e ∈ x.2.2, 0 ≤ e ∧ e < 65536) := by
 have := (Reads.struct (enc := enc) (w := w) (tot := 6) Tryd.underlying50 (by kernel_rfl) (.cons (sz := 5) rfl (by kernel_rfl) rfl rd_LM (.cons (sz := 1) rfl (by kernel_rfl) rfl rd_u16s .nil)))
 exact this.mono fun a h => ⟨⟨a.1, a.2.1.1, a.2.1.2⟩, ⟨h.1, h.2.1.1⟩, by simp⟩
end
theorem gTable : Tryd.prog.globalNamed "gauntlet/faults.table" = some 0 := by kernel_rfl
theorem tTable : (Tryd.prog.globals[0]?).map (·.type) = some 179 := by kernel_rfl
theorem string_eq {s t : ByteArray} (h : s.data.toList = t.data.toList) : s = t := by
 obtain ⟨⟨l⟩⟩ := s; obtain ⟨⟨k⟩⟩ := t
 simp only at h
 rw [h]
set_option maxRecDepth 100000 in
theorem kind_cells {W : World} {m : Nat} {cs : List Value} {n : List UInt8} {a b c : Bool} {ps : List MemPlace} (h : DataW.trod (fun _ => ()) Tryd.prog W 0 (fun _ => true) false m 178 cs = some (.agg [.lit (.string n), .lit (.bool a), .lit (.bool b), .lit (.bool c)], ps)) :
  cs = [kindN n, .bool a, .bool b, .bool c] := by
 obtain ⟨xs, k, _, he, hl, hlen, hf⟩ := DataW.trod_struct Tryd.underlying178 h
 have hl4 : cs.length = 4 := hl.trans (by kernel_rfl)
 match cs, hl4 with
 | [c0, c1, c2, c3], _ =>
   have h0 : DataW.trod (fun _ => ()) Tryd.prog W 0 (fun _ => true) false k 9 (([c0, c1, c2, c3].drop 0).take (Program.cellsOf Tryd.prog 9)) = xs[0]? := hf 0 _ rfl
   have h1 : DataW.trod (fun _ => ()) Tryd.prog W 0 (fun _ => true) false k 4 (([c0, c1, c2, c3].drop 1).take (Program.cellsOf Tryd.prog 4)) = xs[1]? := hf 1 _ rfl
   have h2 : DataW.trod (fun _ => ()) Tryd.prog W 0 (fun _ => true) false k 4 (([c0, c1, c2, c3].drop 2).take (Program.cellsOf Tryd.prog 4)) = xs[2]? := hf 2 _ rfl
   have h3 : DataW.trod (fun _ => ()) Tryd.prog W 0 (fun _ => true) false k 4 (([c0, c1, c2, c3].drop 3).take (Program.cellsOf Tryd.prog 4)) = xs[3]? := hf 3 _ rfl
   have e9 : Program.cellsOf Tryd.prog 9 = 1 := by kernel_rfl
   have e4 : Program.cellsOf Tryd.prog 4 = 1 := by kernel_rfl
   simp only [e9, e4, List.drop_zero, List.drop_succ_cons, List.take_succ_cons, List.take_zero] at h0 h1 h2 h3
   match xs, hlen with
   | [x0, x1, x2, x3], _ =>
     simp only [Prod.mk.injEq, DataW.agg.injEq, List.map_cons, List.map_nil, List.cons.injEq, and_true] at he
     obtain ⟨⟨e0, e1, e2, e3⟩, _⟩ := he
     obtain ⟨s, q0, r0, _⟩ := DataW.trod_string Tryd.underlying9 h0
     obtain ⟨b1, q1, r1⟩ := DataW.trod_bool Tryd.underlying4 h1
     obtain ⟨b2, q2, r2⟩ := DataW.trod_bool Tryd.underlying4 h2
     obtain ⟨b3, q3, r3⟩ := DataW.trod_bool Tryd.underlying4 h3
     rw [r0] at e0; rw [r1] at e1; rw [r2] at e2; rw [r3] at e3
     simp only [DataW.lit.injEq, Lit.string.injEq, Lit.bool.injEq] at e0 e1 e2 e3
     simp only [List.cons.injEq, and_true] at q0 q1 q2 q3
     subst q0 q1 q2 q3 e1 e2 e3
     have : s = ⟨n.toArray⟩ := string_eq (by simpa using e0.symm)
     rw [this]; rfl
set_option maxRecDepth 100000 in
theorem globs_of {W : World} (h : laidMetH Tryd.prog laidT W) : Globs (Live W) W := by
 rw [MakeChecks.laidMetH_plain _ _ _ (by kernel_rfl)] at h
 obtain ⟨ps, ⟨g, t, cs, fuel, p, q, hg, ht, hvar, hd, _, _⟩, _, _⟩ := h
 obtain rfl := Option.some.inj (gTable.symm.trans hg)
 obtain rfl := Option.some.inj (tTable.symm.trans ht)
 obtain ⟨xs, m, _, he, hl, hlen, hf⟩ := DataW.trod_array Tryd.underlying179 hd
 have e178 : Program.cellsOf Tryd.prog 178 = 4 := by kernel_rfl
 have hl20 : cs.toList.length = 20 := hl.trans (by kernel_rfl)
 have hcs : cs.toList = kindTab := by
  rw [e178] at hf
  match xs, hlen with
  | [x0, x1, x2, x3, x4], _ =>
    have h0 := hf 0 (by decide)
    have h1 := hf 1 (by decide)
    have h2 := hf 2 (by decide)
    have h3 := hf 3 (by decide)
    have h4 := hf 4 (by decide)
    simp only [Rows.laid_gauntlet_faults_table, Prod.mk.injEq, DataW.agg.injEq, List.map_cons, List.map_nil, List.cons.injEq, and_true] at he
    obtain ⟨⟨e0, e1, e2, e3, e4⟩, _⟩ := he
    obtain ⟨d0, p0⟩ := x0
    obtain ⟨d1, p1⟩ := x1
    obtain ⟨d2, p2⟩ := x2
    obtain ⟨d3, p3⟩ := x3
    obtain ⟨d4, p4⟩ := x4
    simp only at e0 e1 e2 e3 e4
    subst e0 e1 e2 e3 e4
    have k0 := kind_cells h0
    have k1 := kind_cells h1
    have k2 := kind_cells h2
    have k3 := kind_cells h3
    have k4 := kind_cells h4
    have key : cs.toList = (cs.toList.drop (0 * 4)).take 4 ++ ((cs.toList.drop (1 * 4)).take 4 ++ ((cs.toList.drop (2 * 4)).take 4 ++ ((cs.toList.drop (3 * 4)).take 4 ++ (cs.toList.drop (4 * 4)).take 4))) := by
     have e : (cs.toList.drop (4 * 4)).take 4 = cs.toList.drop (4 * 4) := List.take_of_length_le (by rw [List.length_drop, hl20]; decide)
     rw [e]
     have s : ∀ k, cs.toList.drop (k * 4) = (cs.toList.drop (k * 4)).take 4 ++ cs.toList.drop ((k + 1) * 4) := fun k => by
      rw [show (k + 1) * 4 = k * 4 + 4 by omega, ← List.drop_drop, List.take_append_drop]
     have z : cs.toList = cs.toList.drop (0 * 4) := by simp
     exact z.trans ((s 0).trans (congrArg _ ((s 1).trans (congrArg _ ((s 2).trans (congrArg _ ((s 3).trans (congrArg _ rfl))))))))
    rw [k0, k1, k2, k3, k4] at key
    rw [key]; rfl
 intro g vs hgv j hj
 match g, hgv with
 | 0, hgv =>
   have hgv : kindTab = vs := by simpa [laidAt] using hgv
   subst hgv
   have hc := World.var?_cell gTable hvar j
   have : cs[j]? = some kindTab[j] := by rw [← Array.getElem?_toList, hcs, List.getElem?_eq_getElem hj]
   rw [this] at hc
   refine ⟨?_, hc⟩
   unfold World.cell? at hc
   show 0 < W.heap.size
   cases hb : W.heap[0]? with
   | none => simp [hb] at hc
   | some o => exact (Array.getElem?_eq_some_iff.1 hb).1
theorem door_met (os : Os) (args : Array Value) : laidMetH Tryd.prog laidT ((World.doorLaid Tryd.prog 400 os).forCall (fun _ _ => 0) ⟨#[], args, []⟩).memory :=
 laidMetH_of_parts3 (fuel := 8) (laidMet_of_run' 8 (by kernel_rfl) (by kernel_rfl)) (by kernel_rfl) (by kernel_rfl)
end Go.Proofs.YtgdcjkcohmjbeaaDoor
