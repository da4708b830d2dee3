/-
  Lemmas.
  From a law's row to its contract: arguments opened, and read again behind the call.
  How the arguments of the culprits' laws read, and the table of the kinds of faults.
-/
import Derived.ProofKit
import Derived.OpenShut
import Derived.Test.YtgdcjkcohmjbeaaGreatDoorCards
import Derived.Test.YtgdcjkcohmjbeaaGreatDoorTie
import Derived.LaidMore
import Derived.Stop.Joined
import Derived.Test.YtgdcjkcohmjbeaaGreatDoorPart9
set_option linter.unusedSimpArgs false
set_option linter.unusedVariables false
set_option linter.unnecessarySimpa false
set_option linter.deprecated false
namespace Go.Avl
open Go Go.Proofs.Tryz
set_option maxRecDepth 10000
def kN {κ : Type} (_ : κ) : List AV := []
theorem kN_norefs {κ : Type} (x : κ) : AV.norefs (kN x) = true := rfl
theorem dvPut_head {X : List Mach} {eqB : Mach → Mach → Bool} {i : Int} : ∀ {ps : List (Mach × List Int)}, (∀ q ∈ ps, ∃ h t, q.2 = h :: t ∧ q.1 = atM X h ∧ 0 ≤ h ∧ h < X.length) → 0 ≤ i ∧ i < X.length → ∀ q ∈ dvPut eqB (atM X i) i ps, ∃ h t, q.2 = h :: t ∧ q.1 = atM X h ∧ 0 ≤ h ∧ h < X.length :=
 fun {ps} h hi => dvPut_all (Q := fun k l => ∃ h t, l = h :: t ∧ k = atM X h ∧ 0 ≤ h ∧ h < X.length) (atM X i) i ⟨i, [], rfl, rfl, hi⟩ (fun k l ⟨a, t, e1, e2⟩ _ => ⟨a, t ++ [i], by rw [e1]; rfl, e2⟩) ps h
set_option maxHeartbeats 8000000 in
theorem refclasses_is (m : Mach) (hv : Valid m) (fn : Bool) (fs : List FA) (fc : Cp) (hf : ∀ f ∈ fs, checkF m f = 0) (hfl : fs.length ≤ 256) :
  PureIs prog 10 [.ag m.cells, .sl fn (fs.map FA.cells) fc] (.sl fs.isEmpty ((dvL eqM (atM (fs.map (mutF m))) (idL fs.length) []).map (partC kN)) .unk) := by
 have hfb : ∀ f ∈ fs, faultB m f = true := fun f h => by
  have := hf f h;unfold checkF at this;split at this
  ·assumption
  ·cases this
 have q := refmutants_is m hv fn fs fc hfb (by omega);have hXv : ∀ x ∈ fs.map (mutF m), Valid x ∧ x.ins = m.ins := fun x hx => by
  obtain ⟨f, h, rfl⟩ := List.mem_map.1 hx;exact ⟨mutF_valid hv (hf f h), rfl⟩
 have hXl : (fs.map (mutF m)).length = fs.length := List.length_map _;generalize fs.map (mutF m) = X at q hXv hXl ⊢;have hXn := norefs_machs X;obtain ⟨N, hN⟩ : ∃ N, N = fs.length := ⟨_, rfl⟩;have hin : ∀ i : Int, 0 ≤ i → i < X.length → Valid (atM X i) ∧ (atM X i).ins = m.ins := fun i h1 h2 => hXv _ (by
  rw [atM, List.getD_eq_getElem?_getD, List.getElem?_eq_getElem (show i.toNat < X.length by omega)];exact List.getElem_mem _)
 have hfe : (idL N).isEmpty = fs.isEmpty := by rw [hN]; cases fs <;> simp [idL, List.range_succ]
 refine PureIs.of1 3 [4, 5, 6, 7, 8, 9, 16, 26, 42, 54, 57, 58] func10 ntmps10 results10 fun _ => ?_;refine EvC.a ?_ (by simp only [go_sem, Mach.cells] <;> rfl);refine EvC.z 0 ?_;refine EvC.k1 ?_ (h1 := by simp only [go_sem, Mach.cells] <;> rfl) (c1 := .ca q) (h2 := by simp only [go_sem, hXn] <;> rfl);refine EvC.a ?_;refine EvC.seq ?_;refine EvC.a ?_;refine EvC.thaw 6 (by simp only [go_sem] <;> rfl) ?_;refine EvC.block ?_;refine EvC.loopS (σ := Nat × List (Mach × List Int)) (fun g2 => ⟨[(1, .sl fn (fs.map FA.cells) fc), (5, .sl fs.isEmpty (X.map Mach.cells) .unk), (6, .tl 0 g2.2.length g2.2.isEmpty), (7, .sc (.int .i64 g2.1))], [], dM kN 1 g2.2, 3000000⟩) (fun g2 => N - g2.1)
  (fun g2 => g2.1 ≤ N ∧ dvL eqM (atM X) (idL N) [] = dvL eqM (atM X) ((idL N).drop g2.1) g2.2 ∧ g2.2.length ≤ g2.1 ∧ (∀ q ∈ g2.2, q.2.length ≤ g2.1) ∧ ∀ q ∈ g2.2, ∃ h t, q.2 = h :: t ∧ q.1 = atM X h ∧ 0 ≤ h ∧ h < X.length) [1, 5, 6, 7] 3000000 ?_ ?_
 ·exact ⟨[(6, 0)], (0, []), rfl, (by simp only [go_sem, Int.natCast_zero, dM, dRows, dcA, msegA, List.map_nil, List.length_nil, List.isEmpty_nil] <;> rfl), Nat.zero_le _, rfl, Nat.le_refl _, (fun _ h => by cases h), fun _ h => by cases h⟩
 rintro ⟨i, ps⟩ ⟨hi, hdv, hpl, hpq, hph⟩;simp only at hi hdv hpl hpq hph ⊢;rw [← hN];refine EvC.seq ?_;refine EvC.a ?_ (by simp only [go_sem, List.length_map, ← hN] <;> rfl);refine EvC.cond (by simp only [go_sem] <;> rfl) (fun hc => ?_) (fun hc => ?_);rotate_left
 ·refine EvC.exit ?_;obtain rfl : N = i := by have : ¬ i < N := (by simpa using hc); omega
  rw [List.drop_of_length_le (by simp [idL])] at hdv;have hdv : dvL eqM (atM X) (idL N) [] = ps := hdv;have hp6 : ps.length ≤ 1000000 := by omega
  have hie : ps.isEmpty = fs.isEmpty := by rw [← hdv, ← hfe]; exact dvL_empty eqM (atM X) (idL N)
  rw [hdv];have hrl : ∀ j p, ps[j]? = some p → mlook (dM kN 1 ps) (2000000 + j) = some (.arr 1 (p.2.map intC) false) := fun j p hj => dM_lookR hj;refine EvC.ofzAll ps.length (fun j hj => ⟨1, _, false, hrl j _ (List.getElem?_eq_getElem hj), by simp [List.all_eq_true, intC, AV.norefs, AV.noref]⟩) ?_;have hfz : ofzAll ps.length (dM kN 1 ps) = (0, .arr 1 (dcA kN ps 0) false) :: dRowsF ps := by rw [dM, ofzAll_cons hp6 0 rfl, dRows_fz]
  have hsn : (dcA kN ps 0).map (fun c => c.map (AV.deep (snap ((0, .arr 1 (dcA kN ps 0) false) :: dRowsF ps)))) = ps.map (partC kN) := dcA_snap kN_norefs fun j p hj => by
   rw [Nat.zero_add];simp only [mlook];rw [if_neg (by omega), dRowsF_look hj]
  have hnr := partC_norefs (kc := kN) kN_norefs ps;have hpl2 : (ps.map (partC kN)).length = ps.length := List.length_map _;have hmm := fun f => dRowsF_memMap f ps;refine EvC.snapA 0 (by simp only [go_sem, hfz, hsn] <;> rfl) ?_;rw [hie];generalize ps.map (partC kN) = L at hnr hpl2 ⊢;refine EvC.frz 0 (by simp only [go_sem, hnr, hpl2] <;> rfl) ?_;refine EvC.a ?_ (by simp only [go_sem, hpl2] <;> rfl);refine EvC.rz ?_;simp only [go_sem]
 have hil : i < N := by simpa using hc
 clear hc;have hdr : (idL N).drop i = (i : Int) :: (idL N).drop (i + 1) := by
  have h1 : i < (idL N).length := by simp [idL]; omega
  rw [List.drop_eq_getElem_cons h1]; congr 1; simp [idL]
 rw [hdr, dvL] at hdv;have hxi := hin i (Int.natCast_nonneg i) (by omega);have hxg := atM_get (X := X) (i := (i : Int)) (by omega);have hhead := fun (ps : List (Mach × List Int)) h => dvPut_head (X := X) (eqB := eqM) (i := (i : Int)) (ps := ps) h ⟨Int.natCast_nonneg i, by omega⟩;have hhd := hhead ps hph;clear hhead;obtain ⟨iZ, hiZ⟩ : ∃ z : Int, z = (i : Int) := ⟨_, rfl⟩;have hit : iZ.toNat = i := by omega
 rw [← hiZ] at hdv hxi hxg hhd ⊢;rw [hit] at hxg;obtain ⟨x, hx⟩ : ∃ x, x = atM X iZ := ⟨_, rfl⟩;rw [← hx] at hdv hxi hxg hhd;have hp6 : ps.length < 1000000 := by omega
 have hl0 := dM_look0 (kc := (kN : Mach → List AV)) (e := 1) (ps := ps);have hdl := dcA_len (kN : Mach → List AV) ps 0;have hgk := dK_ok (n := ps.length) (by omega);have hhi := dK_hi (n := ps.length) (by omega);have hgc0 := dM_gc (e := 1) (M := dM kN 1 ps) kN_norefs (Nat.le_of_lt hp6) hl0 fun j p hj => dM_lookR hj;refine EvC.skip ?_;refine EvC.seq ?_;refine EvC.block ?_;refine EvC.a ?_;refine EvC.seq ?_;refine EvC.a ?_;refine EvC.block ?_;refine EvC.loopS (σ := Nat × Bool × List (Mach × List Int)) (fun g => ⟨[(1, .sl fn (fs.map FA.cells) fc), (5, .sl fs.isEmpty (X.map Mach.cells) .unk), (6, .tl 0 ps.length ps.isEmpty), (7, .sc (.int .i64 iZ)), (8, .sc (.bool g.2.1)), (9, .sc (.int .i64 g.1))], [], dM kN 1 g.2.2, 3000000⟩) (fun g => ps.length - g.1)
  (fun g => g.1 ≤ ps.length ∧ (g.2.1 = false → g.2.2 = ps ∧ ∀ j q, j < g.1 → ps[j]? = some q → eqM q.1 x = false) ∧ (g.2.1 = true → g.2.2 = dvPut eqM x iZ ps ∧ g.2.2.length = ps.length ∧ ∀ q ∈ g.2.2, q.2.length ≤ i + 1)) [1, 5, 6, 7, 8, 9] 3000000 ?_ ?_
 ·exact ⟨dK ps.length, (0, false, ps), hgk, (by simp only [go_sem, Int.natCast_zero, hhi, hgc0] <;> rfl), Nat.zero_le _, (fun _ => ⟨rfl, fun j q h => absurd h (Nat.not_lt_zero _)⟩), fun h => by cases h⟩
 rintro ⟨n, dn, ps'⟩ ⟨hn, hno, hyes⟩;simp only at hn hno hyes ⊢;refine EvC.seq ?_;cases dn with
 | true =>
   obtain ⟨y1, y2, y3⟩ := hyes rfl;rw [← y1] at hdv hhd;have hl0' := dM_look0 (kc := (kN : Mach → List AV)) (e := 1) (ps := ps');have hdl' := dcA_len (kN : Mach → List AV) ps' 0;have hgc' := dM_gc (e := 1) (M := dM kN 1 ps') kN_norefs (by omega) hl0' fun j p hj => dM_lookR hj;rw [y2] at hgc' hdl';have hes : ps'.isEmpty = ps.isEmpty := by
    cases ps' <;> cases ps <;> first | rfl | simp at y2
   obtain ⟨b, hb⟩ : ∃ b, decide ((n : Int) < ps.length) = b := ⟨_, rfl⟩;cases b
   ·refine EvC.g ?_ (h := by simp only [go_sem, hl0', hdl', hb] <;> rfl);refine EvC.cf ?_;refine EvC.exit ?_;refine EvC.a ?_;refine EvC.cs ?_;refine EvC.b ?_ (hok := by exact inI64_of (by omega) (by omega));exact ⟨dK ps.length, (i + 1, ps'), hgk, (by rw [hiZ]; simp only [go_sem, hhi, hgc', y2, hes, Int.natCast_add, Int.natCast_one] <;> rfl), ⟨hil, hdv, by simp only; omega, y3, hhd⟩, by simp only; omega⟩
   ·refine EvC.g ?_ (h := by simp only [go_sem, hl0', hdl', hb] <;> rfl);refine EvC.cf ?_;refine EvC.exit ?_;refine EvC.a ?_;refine EvC.cs ?_;refine EvC.b ?_ (hok := by exact inI64_of (by omega) (by omega));exact ⟨dK ps.length, (i + 1, ps'), hgk, (by rw [hiZ]; simp only [go_sem, hhi, hgc', y2, hes, Int.natCast_add, Int.natCast_one] <;> rfl), ⟨hil, hdv, by simp only; omega, y3, hhd⟩, by simp only; omega⟩
 | false =>
 obtain ⟨rfl, hno⟩ := hno rfl;clear hyes;by_cases hnl : n < ps'.length;rotate_left
 ·have hnI : decide ((n : Int) < ps'.length) = false := decide_eq_false (by omega);obtain rfl : n = ps'.length := by omega
  refine EvC.g ?_ (h := by simp only [go_sem, hl0, hdl, hnI] <;> rfl);refine EvC.cf ?_;refine EvC.exit ?_;refine EvC.a ?_;refine EvC.ct ?_;have hnew := dvPut_new (eqB := eqM) (x := x) (i := iZ) (ps := ps') fun q hq => by
   obtain ⟨j, hj, rfl⟩ := List.getElem_of_mem hq;exact hno j _ hj (List.getElem?_eq_getElem hj)
  rw [hnew] at hdv hhd;have hr2 : room (ps'.length + 1) 24 = true := by simp only [room_eq, decide_eq_true_eq]; omega
  refine EvC.b ?_ (by simp only [go_sem, hl0, hdl] <;> rfl) (by simp [hr2]);obtain ⟨MM, hMM⟩ : ∃ MM : Mem, MM = (3000013, RObj.arr 1 [[.tl 3000012 1 false]] false) :: (3000012, .arr 1 [[.sc (.int .i64 iZ)]] false) :: mset (dM kN 1 ps') 0 (.arr 1 (dcA kN ps' 0 ++ [[.tl 3000012 1 false]]) false) := ⟨_, rfl⟩;rw [← hMM];refine EvC.b ?_ (hok := by exact inI64_of (by omega) (by omega));have hgk1 := dK1_ok (n := ps'.length) (k := 3000012) hp6 rfl (by omega);have hhi1 := dK1_hi (n := ps'.length) (k0 := 3000012) (by omega);have hgc1 := dM_gc1 (e := 1) (M := MM) (k := 3000012) (x := x) (l := [iZ]) kN_norefs hp6 rfl (by omega) (by
   rw [hMM]; simp only [mlook]; rw [if_neg (by omega), if_neg (by omega), mlook_mset, if_pos rfl]; rfl) (fun j p hj => by
   have hjl := (List.getElem?_eq_some_iff.1 hj).1;rw [hMM]; simp only [mlook]; rw [if_neg (by omega), if_neg (by omega), mlook_mset, if_neg (by omega), dM_lookR hj]) (by
   rw [hMM]; rfl)
  have hsl : ps'.length + 1 = (ps' ++ [(x, [iZ])]).length := by simp
  have hse : (ps' ++ [(x, [iZ])]).isEmpty = false := by simp
  have hqq : ∀ q ∈ ps' ++ [(x, [iZ])], q.2.length ≤ i + 1 := fun q hq => by
   rcases List.mem_append.1 hq with hq | hq
   ·have := hpq q hq; omega
   ·obtain rfl := List.mem_singleton.1 hq;simp
  generalize ps' ++ [(x, [iZ])] = T at hgc1 hsl hse hdv hqq hhd;exact ⟨dK1 ps'.length 3000012, (i + 1, T), hgk1, (by rw [hiZ]; simp only [go_sem, hhi1, hgc1, hsl, hse, Int.natCast_add, Int.natCast_one] <;> rfl), ⟨hil, hdv, by simp only; omega, hqq, hhd⟩, by simp only; omega⟩
 have hnI : decide ((n : Int) < ps'.length) = true := decide_eq_true (by omega);have hpe : ps'[n]? = some ps'[n] := List.getElem?_eq_getElem hnl;have hpm := hpq _ (List.getElem_mem hnl);obtain ⟨h0, t0, ht1, ht2, ht3, ht4⟩ := hph _ (List.getElem_mem hnl);generalize ps'[n] = p at hpe hpm ht1 ht2;obtain ⟨px, pw⟩ := p;simp only at hpm ht1 ht2;subst ht1;have hg := dcA_get (kN : Mach → List AV) (s := 0) hpe;rw [Nat.zero_add] at hg;simp only [kN, List.nil_append] at hg;have hxh := hin h0 ht3 ht4;have hxhg := atM_get (X := X) (i := h0) (by omega);rw [← ht2] at hxh hxhg;have q2 := alike50_is hxh.1 hxi.1 (by rw [hxh.2, hxi.2]);have heq : eqM px x = (diffO px x).isNone := by
  simp only [eqM, equalR, bothR_zero hxh.1 hxi.1 (by rw [hxh.2, hxi.2])]; simp
 rw [← heq] at q2;have hlr := dM_lookR (kc := (kN : Mach → List AV)) (e := 1) hpe;simp only [List.map_cons, intC] at hlr;obtain ⟨nZ, hnZ⟩ : ∃ z : Int, z = (n : Int) := ⟨_, rfl⟩;have hnt : nZ.toNat = n := by omega
 rw [← hnZ] at hnI ⊢;refine EvC.g ?_ (h := by simp only [go_sem, hl0, hdl, hnI] <;> rfl);refine EvC.cr ?_;refine EvC.seq ?_;refine EvC.block ?_;apply EvC.seq;apply EvC.drw mixed
 ·apply Tr.run
  ·simp only [go_sem, hl0, hdl, hg, hnt, hit, hlr, hxg, hxhg, Mach.cells, List.length_map, List.length_cons] <;> rfl
  ·simp; try omega
  apply Tr.cons
  ·exact .ca (q2)
  apply Tr.done
  ·simp only [go_sem] <;> rfl
  ·simp
 ·exact confAll_slots (by simp [rdOk, slotsOf, opSlots, memless, Op.operands, Call.operands]) (by kernel_rfl)
 obtain hpx | hpx : eqM px x = false ∨ eqM px x = true := by cases eqM px x <;> simp
 ·refine EvC.cs ?_ (by simp only [go_sem, hpx] <;> rfl);refine EvC.b ?_ (hok := by exact inI64_of (by omega) (by omega));refine ⟨dK ps'.length, (n + 1, false, ps'), hgk, (by rw [hnZ]; simp only [go_sem, hhi, hgc0, Int.natCast_add, Int.natCast_one] <;> rfl), ⟨hnl, fun _ => ⟨rfl, fun j q hj hq => ?_⟩, fun h => (by cases h)⟩, by simp only; omega⟩;by_cases hjn : j = n
  ·subst hjn; rw [hpe] at hq; cases hq; exact hpx
  ·exact hno j q (by omega) hq
 refine EvC.ct ?_ (by simp only [go_sem, hpx] <;> rfl);have hset := dvPut_set (eqB := eqM) (x := x) (i := iZ) (ps := ps') (n := n) hno hpe hpx;have hn6 : n < 1000000 := by omega
 have hr3 : room (t0.length + 1 + 1) 8 = true := by simp only [List.length_cons] at hpm; simp only [room_eq, decide_eq_true_eq]; omega
 have hl00 : ∀ o, mlook (mset (dM (kN : Mach → List AV) 1 ps') (2000000 + n) o) 0 = some (.arr 1 (dcA kN ps' 0) false) := fun o => by rw [mlook_mset, if_neg (by omega)]; exact hl0
 have hlrs : ∀ o, mlook (mset (dM (kN : Mach → List AV) 1 ps') (2000000 + n) o) (2000000 + n) = some o := fun o => by rw [mlook_mset, if_pos rfl]
 have hds := dcA_set (kN : Mach → List AV) (s := 0) (h0 :: t0 ++ [iZ]) hpe;have hpl3 : (h0 :: t0 ++ [iZ]).length = t0.length + 1 + 1 := by simp
 rw [Nat.zero_add, hpl3] at hds;simp only [kN, List.nil_append] at hds;have hnl2 : notO (2000000 + n) = false := by unfold notO; simp; omega
 refine EvC.a ?_ (by simp only [go_sem, hl0, hl00, hlrs, hdl, hg, hnt, hlr, o_ne hn6, List.length_map, List.length_cons, hds] <;> rfl) (by simp [hr3, acell, hnl, hlrs]; try omega);have hpc : ([AV.sc (.int .i64 h0)] :: (t0.map intC ++ [[.sc (.int .i64 iZ)]])) = (h0 :: t0 ++ [iZ]).map intC := by simp [intC]
 rw [hpc];obtain ⟨MM, hMM⟩ : ∃ MM : Mem, MM = mset (mset (dM (kN : Mach → List AV) 1 ps') (2000000 + n) (.arr 1 ((h0 :: t0 ++ [iZ]).map intC) false)) 0 (.arr 1 (dcA kN (ps'.set n (px, h0 :: t0 ++ [iZ])) 0) false) := ⟨_, rfl⟩;rw [show h0 :: (t0 ++ [iZ]) = h0 :: t0 ++ [iZ] from rfl, ← hMM];have hTl : (ps'.set n (px, h0 :: t0 ++ [iZ])).length = ps'.length := List.length_set;have hM0 : mlook MM 0 = some (.arr 1 (dcA kN (ps'.set n (px, h0 :: t0 ++ [iZ])) 0) false) := by rw [hMM, mlook_mset, if_pos rfl]
 have hMr : ∀ j p, (ps'.set n (px, h0 :: t0 ++ [iZ]))[j]? = some p → mlook MM (2000000 + j) = some (.arr 1 (p.2.map intC) false) := fun j p hj => by
  rw [hMM, mlook_mset, if_neg (by omega), mlook_mset];rw [List.getElem?_set] at hj;by_cases e : n = j
  ·subst e;rw [if_pos rfl, if_pos hnl] at hj;cases hj;rw [if_pos rfl]
  ·rw [if_neg e] at hj;rw [if_neg (by omega), dM_lookR hj]
 have hTq : ∀ q ∈ ps'.set n (px, h0 :: t0 ++ [iZ]), q.2.length ≤ i + 1 := fun q hq => by
  rcases List.mem_or_eq_of_mem_set hq with hq | rfl
  ·have := hpq q hq; omega
  ·simp only [List.length_append, List.length_cons, List.length_nil] at hpm ⊢; omega
 have hgcT := dM_gc (e := 1) (M := MM) (ps := ps'.set n (px, h0 :: t0 ++ [iZ])) kN_norefs (by omega) hM0 hMr;rw [hTl] at hgcT;clear hMM;rw [← hset] at hTl hgcT hTq;obtain ⟨T, hT⟩ : ∃ T, T = dvPut eqM x iZ ps' := ⟨_, rfl⟩;rw [← hT] at hTl hgcT hTq;refine EvC.b ?_;refine EvC.b ?_ (hok := by exact inI64_of (by omega) (by omega));exact ⟨dK ps'.length, (n + 1, true, T), hgk, (by rw [hnZ]; simp only [go_sem, hhi, hgcT, Int.natCast_add, Int.natCast_one] <;> rfl), ⟨hnl, (fun h => by cases h), fun _ => ⟨hT, hTl, hTq⟩⟩, by simp only; omega⟩
section
variable {κ : Type} {e : Nat} {o1 : RObj} {ps : List (κ × List Int)} {M : Mem}
def dM2 (e : Nat) (o1 : RObj) (ps : List (κ × List Int)) : Mem := (0, .arr e (dcA kN ps 0) false) :: (1, o1) :: dRows ps
def dK2 (n : Nat) : List (Nat × Nat) := osegK [(0, 0), (1, 1)] n []
def dK21 (n k : Nat) : List (Nat × Nat) := osegK [(0, 0), (1, 1)] n [(k, 2000000 + n)]
theorem dM2_look0 : mlook (dM2 e o1 ps) 0 = some (.arr e (dcA kN ps 0) false) := rfl
theorem dM2_look1 : mlook (dM2 e o1 ps) 1 = some o1 := rfl
theorem dM2_lookR {n : Nat} {p : κ × List Int} (h : ps[n]? = some p) : mlook (dM2 e o1 ps) (2000000 + n) = some (.arr 1 (p.2.map intC) false) := by
 rw [dM2]; simp only [mlook]; rw [if_neg (by omega), if_neg (by omega), dRows_look h]
theorem dK2_hi {n : Nat} (hn : n ≤ 1000000) (k : Nat) (hk : notO k = true) : rlook (dK2 n) k = rlook [(0, 0), (1, 1)] k := by rw [dK2, rlook_osegK_hi hn _ _ _ hk, List.append_nil]
theorem dK21_hi {n k0 : Nat} (hn : n ≤ 1000000) (k : Nat) (hk : notO k = true) : rlook (dK21 n k0) k = rlook [(0, 0), (1, 1), (k0, 2000000 + n)] k := by rw [dK21, rlook_osegK_hi hn _ _ _ hk]; rfl
theorem dK2_ok {n : Nat} (hn : n ≤ 1000000) : gcOk 0 3000000 (dK2 n) = true := osegK_ok (A := [(0, 0), (1, 1)]) rfl rfl rfl hn (by omega)
theorem dK21_ok {n k : Nat} (hn : n < 1000000) (hk : notO k = true) (hk0 : k ≠ 0) (hk1 : k ≠ 1) : gcOk 0 3000000 (dK21 n k) = true := osegK_ok1 (A := [(0, 0), (1, 1)]) rfl rfl rfl hk (by simp only [rlook, if_neg hk0, if_neg hk1]) (by omega) (by omega) hn (by omega)
theorem dM2_gc (ho : ∀ K, RObj.ren K o1 = o1) (hp : ps.length ≤ 1000000) (h0 : mlook M 0 = some (.arr e (dcA kN ps 0) false)) (h1 : mlook M 1 = some o1) (hr : ∀ j p, ps[j]? = some p → mlook M (2000000 + j) = some (.arr 1 (p.2.map intC) false)) :
  renMem M (dK2 ps.length) (dK2 ps.length) = dM2 e o1 ps := by
 have hlo : ∀ j, j < ps.length → rlook (osegK [(0, 0), (1, 1)] ps.length []) (2000000 + (0 + j)) = some (2000000 + (0 + j)) := fun j hj => by rw [Nat.zero_add]; exact rlook_osegK_lo hj hp rfl
 rw [dK2, renMem_osegK];have e1 : renMem M (osegK [(0, 0), (1, 1)] ps.length []) [(0, 0), (1, 1)] = [(0, .arr e (dcA kN ps 0) false), (1, o1)] := by
  simp only [renMem, h0, h1, ho];rw [arrRen_eq (dcA_ren kN_norefs hlo) fun _ => rfl]
 have e2 : renMem M (osegK [(0, 0), (1, 1)] ps.length []) (oK ps.length) = dRows ps := by
  rw [renMem_oK_congr hp (M' := dRows ps) _ fun j hj => ?_, dRows_ren];have hg : ps[j]? = some ps[j] := List.getElem?_eq_getElem hj;rw [hr j _ hg, dRows_look hg]
 rw [e1, e2];simp [renMem, dM2]
theorem dM2_gc1 (ho : ∀ K, RObj.ren K o1 = o1) (hp : ps.length < 1000000) {k : Nat} (hkn : notO k = true) (hk0 : k ≠ 0) (hk1 : k ≠ 1) {x : κ} {l : List Int} (h0 : mlook M 0 = some (.arr e (dcA kN ps 0 ++ [[.tl k l.length false]]) false)) (h1 : mlook M 1 = some o1) (hr : ∀ j p, ps[j]? = some p → mlook M (2000000 + j) = some (.arr 1 (p.2.map intC) false))
  (hl : mlook M k = some (.arr 1 (l.map intC) false)) : renMem M (dK21 ps.length k) (dK21 ps.length k) = dM2 e o1 (ps ++ [(x, l)]) := by
 have hlo : ∀ j, j < ps.length → rlook (osegK [(0, 0), (1, 1)] ps.length [(k, 2000000 + ps.length)]) (2000000 + (0 + j)) = some (2000000 + (0 + j)) := fun j hj => by rw [Nat.zero_add]; exact rlook_osegK_lo hj (by omega) rfl
 have hlk : rlook (osegK [(0, 0), (1, 1)] ps.length [(k, 2000000 + ps.length)]) k = some (2000000 + ps.length) := by
  rw [rlook_osegK_hi (by omega) _ _ _ hkn];simp [rlook, hk0, hk1]
 rw [dK21, renMem_osegK];have e1 : renMem M (osegK [(0, 0), (1, 1)] ps.length [(k, 2000000 + ps.length)]) [(0, 0), (1, 1)] = [(0, .arr e (dcA kN (ps ++ [(x, l)]) 0) false), (1, o1)] := by
  simp only [renMem, h0, h1, ho];have := dcA_snoc (kN : κ → List AV) ps 0 x l;rw [Nat.zero_add] at this;simp only [kN, List.nil_append] at this;rw [arrRen_eq (es' := dcA kN (ps ++ [(x, l)]) 0) ?_ ?_]
  ·rw [List.map_append, dcA_ren kN_norefs hlo, ← this];simp only [List.map_cons, List.map_nil, AV.ren, AV.noref, Bool.false_eq_true, if_false, AV.deep, renLeaf, hlk]
  ·intro hn;rw [List.all_append] at hn;simp [AV.norefs, AV.noref] at hn
 have e2 : renMem M (osegK [(0, 0), (1, 1)] ps.length [(k, 2000000 + ps.length)]) (oK ps.length) = dRows ps := by
  rw [renMem_oK_congr (by omega) (M' := dRows ps) _ fun j hj => ?_, dRows_ren];have hg : ps[j]? = some ps[j] := List.getElem?_eq_getElem hj;rw [hr j _ hg, dRows_look hg]
 have e3 : renMem M (osegK [(0, 0), (1, 1)] ps.length [(k, 2000000 + ps.length)]) [(k, 2000000 + ps.length)] = [(2000000 + ps.length, .arr 1 (l.map intC) false)] := by
  have hn : (l.map intC).all AV.norefs = true := by simp [List.all_eq_true, intC, AV.norefs, AV.noref]
  simp only [renMem, hl, RObj.ren, hn, if_true]
 rw [e1, e2, e3, dM2, ← dRows_snoc];rfl
end
def keyR (p : List Int × List Int) : List AV := [.sl p.1.isEmpty (p.1.map intC) .unk]
theorem keyR_norefs (l : List (List Int × List Int)) : (l.map keyR).all AV.norefs = true := by simp [List.all_eq_true, keyR, AV.norefs, AV.noref]
def oR (ps : List (List Int × List Int)) : RObj := .arr 1 (ps.map keyR) true
theorem oR_ren (ps : List (List Int × List Int)) (K : List (Nat × Nat)) : RObj.ren K (oR ps) = oR ps := by
 simp only [oR, RObj.ren, keyR_norefs, if_true]
theorem dvPut_keys {x : List Int} {i : Int} : ∀ {ps : List (List Int × List Int)} {n : Nat} {p : List Int × List Int}, ps[n]? = some p → p.1 = x → (dvPut eqI x i ps).map (·.1) = ps.map (·.1)
 | [], n, p, h, _ => by simp at h
 | q :: ps, 0, p, h, he => by
   simp only [List.getElem?_cons_zero, Option.some.injEq] at h;subst h;rw [dvPut, if_pos (by simp [eqI, he])]; rfl
 | q :: ps, n + 1, p, h, he => by
   rw [dvPut];split
   ·rfl
   ·rw [List.map_cons, List.map_cons, dvPut_keys (n := n) (by simpa using h) he]
theorem keyR_keys {a b : List (List Int × List Int)} (h : a.map (·.1) = b.map (·.1)) : a.map keyR = b.map keyR := by
 have e : ∀ l : List (List Int × List Int), l.map keyR = (l.map (·.1)).map fun k => [AV.sl k.isEmpty (k.map intC) .unk] := fun l => by rw [List.map_map]; rfl
 rw [e, e, h]
set_option maxHeartbeats 8000000 in
theorem parts56_is (xn : Bool) (X : List Mach) (xc : Cp) (whn : Bool) (who : List Int) (whc : Cp) (wn : Bool) (w : List Int) (wc : Cp) (hwho : ∀ i ∈ who, 0 ≤ i ∧ i < X.length) (hv : ∀ m ∈ X, Valid m ∧ ∀ a ∈ w, 0 ≤ a ∧ a < m.ins) (hl : w.length < 1000000) (hwl : who.length < 1000000) :
  PureIs prog 32 [.sl xn (X.map Mach.cells) xc, .sl whn (who.map intC) whc, .sl wn (w.map intC) wc] (.tu [.sl who.isEmpty ((dvL eqI (respK X w) who []).map keyR) .unk, .sl who.isEmpty ((dvL eqI (respK X w) who []).map (partC kN)) .unk]) := by
 have hXn := norefs_machs X;refine PureIs.of1 3 [6, 7, 8, 9, 10, 11, 12, 13, 17, 32, 40, 55, 65, 66] func32 ntmps32 results32 fun _ => ?_;refine EvC.a ?_;refine EvC.a ?_;refine EvC.seq ?_;refine EvC.a ?_;refine EvC.thaw 3 (by simp only [go_sem] <;> rfl) ?_;refine EvC.block ?_;refine EvC.loopS (σ := Nat × List (List Int × List Int)) (fun g2 => ⟨[(0, .sl xn (X.map Mach.cells) xc), (1, .sl whn (who.map intC) whc), (2, .sl wn (w.map intC) wc), (8, .tl 1 g2.2.length g2.2.isEmpty), (9, .tl 0 g2.2.length g2.2.isEmpty), (10, .sc (.int .i64 g2.1))], [], dM2 1 (oR g2.2) g2.2, 3000000⟩) (fun g2 => who.length - g2.1)
  (fun g2 => g2.1 ≤ who.length ∧ dvL eqI (respK X w) who [] = dvL eqI (respK X w) (who.drop g2.1) g2.2 ∧ g2.2.length ≤ g2.1 ∧ (∀ q ∈ g2.2, q.2.length ≤ g2.1) ∧ (g2.2.map (·.1)).Nodup ∧ ∀ q ∈ g2.2, q.1.length < 1000000) [0, 1, 2, 8, 9, 10] 3000000 ?_ ?_
 ·exact ⟨[(3, 0), (2, 1)], (0, []), rfl, (by simp only [go_sem, Int.natCast_zero, dM2, oR, dRows, dcA, msegA, List.map_nil, List.length_nil, List.isEmpty_nil] <;> rfl), Nat.zero_le _, rfl, Nat.le_refl _, (fun _ h => by cases h), List.nodup_nil, fun _ h => by cases h⟩
 rintro ⟨i, ps⟩ ⟨hi, hdv, hpl, hpq, hnd, hkl⟩;simp only at hi hdv hpl hpq hnd hkl ⊢;refine EvC.seq ?_;refine EvC.a ?_ (by simp only [go_sem, List.length_map] <;> rfl);refine EvC.cond (by simp only [go_sem] <;> rfl) (fun hc => ?_) (fun hc => ?_);rotate_left
 ·refine EvC.exit ?_;obtain rfl : who.length = i := by have : ¬ i < who.length := (by simpa using hc); omega
  rw [List.drop_length] at hdv;have hdv : dvL eqI (respK X w) who [] = ps := hdv;have hp6 : ps.length ≤ 1000000 := by omega
  have hie : ps.isEmpty = who.isEmpty := by rw [← hdv]; exact dvL_empty eqI (respK X w) who
  rw [hdv];have hrl : ∀ j p, ps[j]? = some p → mlook (dM2 1 (oR ps) ps) (2000000 + j) = some (.arr 1 (p.2.map intC) false) := fun j p hj => dM2_lookR hj;refine EvC.ofzAll ps.length (fun j hj => ⟨1, _, false, hrl j _ (List.getElem?_eq_getElem hj), by simp [List.all_eq_true, intC, AV.norefs, AV.noref]⟩) ?_;have hfz : ofzAll ps.length (dM2 1 (oR ps) ps) = (0, .arr 1 (dcA kN ps 0) false) :: (1, .arr 1 (ps.map keyR) true) :: dRowsF ps := by rw [dM2, ofzAll_cons hp6 0 rfl, ofzAll_cons hp6 1 rfl, dRows_fz]; rfl
  have hsn : (dcA kN ps 0).map (fun c => c.map (AV.deep (snap ((0, .arr 1 (dcA kN ps 0) false) :: (1, .arr 1 (ps.map keyR) true) :: dRowsF ps)))) = ps.map (partC kN) := dcA_snap kN_norefs fun j p hj => by
   rw [Nat.zero_add];simp only [mlook];rw [if_neg (by omega), if_neg (by omega), dRowsF_look hj]
  have hnr := partC_norefs (kc := (kN : List Int → List AV)) kN_norefs ps;have hpl2 : (ps.map (partC kN)).length = ps.length := List.length_map _;have hnr2 := keyR_norefs ps;have hpl3 : (ps.map keyR).length = ps.length := List.length_map _;have hmm := fun f => dRowsF_memMap f ps;refine EvC.snapA 0 (by simp only [go_sem, hfz, hsn] <;> rfl) ?_;rw [hie];generalize ps.map (partC kN) = L at hnr hpl2 ⊢;generalize ps.map keyR = L2 at hnr2 hpl3 ⊢;refine EvC.frz 0 (by simp only [go_sem, hnr, hpl2, hnr2] <;> rfl) ?_;refine EvC.frz 1 (by simp only [go_sem, hnr, hpl2, hnr2, hpl3, hmm] <;> rfl) ?_;refine EvC.a ?_ (by simp only [go_sem, hpl2, hpl3] <;> rfl);refine EvC.rz ?_;simp only [go_sem]
 have hil : i < who.length := by simpa using hc
 clear hc;have he : who[i]? = some who[i] := List.getElem?_eq_getElem hil;have hdr : who.drop i = who[i] :: who.drop (i + 1) := List.drop_eq_getElem_cons hil;have hmem := hwho _ (List.getElem_mem hil);generalize who[i] = a at he hdr hmem;rw [hdr, dvL] at hdv;have hxg := atM_get (X := X) (i := a) (by omega);have hxv := hv (atM X a) (by
  rw [atM, List.getD_eq_getElem?_getD, List.getElem?_eq_getElem (show a.toNat < X.length by omega)];exact List.getElem_mem _)
 have hrw := hxv.1.rows;have q1 := run04_is hxv.1 0 (by omega) wn w wc hxv.2 hl;have hxl : (respK X w a).length < 1000000 := by rw [respK, runR_len]; exact hl
 rw [show runR (atM X a) 0 w = respK X w a from rfl] at q1;generalize respK X w a = x at q1 hxl hdv;generalize atM X a = ma at hxg q1;clear hxv hrw;have hag : (who.map intC)[i]? = some [.sc (.int .i64 a)] := by rw [List.getElem?_map, he]; rfl
 obtain ⟨iZ, hiZ⟩ : ∃ z : Int, z = (i : Int) := ⟨_, rfl⟩;have hit : iZ.toNat = i := by omega
 rw [← hiZ];have hp6 : ps.length < 1000000 := by omega
 have hl0 := dM2_look0 (e := 1) (o1 := oR ps) (ps := ps);have hl1 := dM2_look1 (e := 1) (o1 := oR ps) (ps := ps);have hdl := dcA_len (kN : List Int → List AV) ps 0;have hgk := dK2_ok (n := ps.length) (by omega);have hhi := dK2_hi (n := ps.length) (by omega);have hgc0 := dM2_gc (e := 1) (M := dM2 1 (oR ps) ps) (oR_ren ps) (Nat.le_of_lt hp6) hl0 hl1 fun j p hj => dM2_lookR hj;have hkl1 : (ps.map keyR).length = ps.length := List.length_map _;refine EvC.skip ?_;refine EvC.seq ?_;refine EvC.block ?_;refine EvC.k1 ?_ (h1 := by simp only [go_sem, hag, hit, hxg, Mach.cells, List.length_map] <;> rfl) (k1 := by simp; try omega) (c1 := .ca q1);refine EvC.a ?_;refine EvC.seq ?_;refine EvC.a ?_;refine EvC.block ?_;refine EvC.loopS (σ := Nat × Bool × List (List Int × List Int)) (fun g => ⟨[(0, .sl xn (X.map Mach.cells) xc), (1, .sl whn (who.map intC) whc), (2, .sl wn (w.map intC) wc), (8, .tl 1 ps.length ps.isEmpty), (9, .tl 0 ps.length ps.isEmpty), (10, .sc (.int .i64 iZ)), (11, .sl x.isEmpty (x.map intC) .unk), (12, .sc (.bool g.2.1)), (13, .sc (.int .i64 g.1))], [], dM2 1 (oR ps) g.2.2, 3000000⟩) (fun g => ps.length - g.1)
  (fun g => g.1 ≤ ps.length ∧ (g.2.1 = false → g.2.2 = ps ∧ ∀ j q, j < g.1 → ps[j]? = some q → eqI q.1 x = false) ∧ (g.2.1 = true → g.2.2 = dvPut eqI x a ps ∧ g.2.2.length = ps.length ∧ (∀ q ∈ g.2.2, q.2.length ≤ i + 1) ∧ g.2.2.map (·.1) = ps.map (·.1) ∧ ∃ j q, j < g.1 ∧ ps[j]? = some q ∧ q.1 = x)) [0, 1, 2, 8, 9, 10, 11, 12, 13] 3000000 ?_ ?_
 ·exact ⟨dK2 ps.length, (0, false, ps), hgk, (by simp only [go_sem, Int.natCast_zero, hhi, hgc0] <;> rfl), Nat.zero_le _, (fun _ => ⟨rfl, fun j q h => absurd h (Nat.not_lt_zero _)⟩), fun h => by cases h⟩
 rintro ⟨n, dn, ps'⟩ ⟨hn, hno, hyes⟩;simp only at hn hno hyes ⊢;have hl0' := dM2_look0 (e := 1) (o1 := oR ps) (ps := ps');have hl1' := dM2_look1 (e := 1) (o1 := oR ps) (ps := ps');have hdl' := dcA_len (kN : List Int → List AV) ps' 0;have hlen : ps'.length = ps.length := by
  cases dn with
  | true => exact (hyes rfl).2.1
  | false => rw [(hno rfl).1]
 have hgc' := dM2_gc (e := 1) (o1 := oR ps) (M := dM2 1 (oR ps) ps') (oR_ren ps) (by omega) hl0' hl1' fun j p hj => dM2_lookR hj;rw [hlen] at hgc' hdl';refine EvC.seq ?_;by_cases hnl : n < ps.length;rotate_left
 ·have hnI : decide ((n : Int) < ps.length) = false := decide_eq_false (by omega);obtain rfl : n = ps.length := by omega
  refine EvC.a ?_ (by simp only [go_sem, hl0', hdl', hnI] <;> rfl);refine EvC.cf ?_;refine EvC.exit ?_;refine EvC.a ?_;cases dn with
  | true =>
    obtain ⟨y1, y2, y3, y4, _⟩ := hyes rfl;rw [← y1] at hdv;have hoR : oR ps = oR ps' := by rw [oR, oR, keyR_keys y4]
    have hes : ps'.isEmpty = ps.isEmpty := by
     cases ps' <;> cases ps <;> first | rfl | simp at y2
    refine EvC.cs ?_;refine EvC.b ?_ (hok := by exact inI64_of (by omega) (by omega));have hkl2 : ∀ q ∈ ps', q.1.length < 1000000 := fun q hq => by
     have h1 : q.1 ∈ ps'.map (·.1) := List.mem_map.2 ⟨q, hq, rfl⟩;rw [y4] at h1;obtain ⟨q', h2, h3⟩ := List.mem_map.1 h1;rw [← h3]; exact hkl q' h2
    exact ⟨dK2 ps.length, (i + 1, ps'), hgk, (by rw [hiZ, ← hoR]; simp only [go_sem, hhi, hgc', y2, hes, Int.natCast_add, Int.natCast_one] <;> rfl), ⟨hil, hdv, by simp only; omega, y3, by simp only; rw [y4]; exact hnd, hkl2⟩, by simp only; omega⟩
  | false =>
    obtain ⟨rfl, hno⟩ := hno rfl;refine EvC.ct ?_;have hnew := dvPut_new (eqB := eqI) (x := x) (i := a) (ps := ps') fun q hq => by
     obtain ⟨j, hj, rfl⟩ := List.getElem_of_mem hq;exact hno j _ hj (List.getElem?_eq_getElem hj)
    rw [hnew] at hdv;have hr2 : room (ps'.length + 1) 24 = true := by simp only [room_eq, decide_eq_true_eq]; omega
    have hsR : ps'.map keyR ++ [[.sl x.isEmpty (x.map intC) .unk]] = (ps' ++ [(x, [a])]).map keyR := by simp [keyR]
    have hnr3 := keyR_norefs (ps' ++ [(x, [a])]);obtain ⟨R1, hR1⟩ : ∃ R, R = (ps' ++ [(x, [a])]).map keyR := ⟨_, rfl⟩;have hR1l : R1.length = ps'.length + 1 := by rw [hR1]; simp
    rw [← hR1] at hsR hnr3;have hL0 : ∀ o, mlook (dM2 1 o ps') 0 = some (.arr 1 (dcA kN ps' 0) false) := fun o => rfl;have hL1 : ∀ o, mlook (dM2 1 o ps') 1 = some o := fun o => rfl;have hS1 : ∀ o o', mset (dM2 1 o ps') 1 o' = dM2 1 o' ps' := fun o o' => rfl;unfold oR;obtain ⟨R0, hR0⟩ : ∃ R, R = ps'.map keyR := ⟨_, rfl⟩;rw [← hR0] at hsR hkl1 ⊢;refine EvC.a ?_ (by simp only [go_sem, hL0, hL1, hS1, hkl1, hsR] <;> rfl) (by simp [hr2]);refine EvC.b ?_ (by simp only [go_sem, hag, hit, List.length_map, hL0, hL1, hdl] <;> rfl) (by simp [hr2]; try omega);obtain ⟨MM, hMM⟩ : ∃ MM : Mem, MM = (3000017, RObj.arr 1 [[.tl 3000016 1 false]] false) :: (3000016, .arr 1 [[.sc (.int .i64 a)]] false) :: mset (dM2 1 (.arr 1 R1 true) ps') 0 (.arr 1 (dcA kN ps' 0 ++ [[.tl 3000016 1 false]]) false) := ⟨_, rfl⟩;rw [← hMM];refine EvC.b ?_ (hok := by exact inI64_of (by omega) (by omega));have hoR : oR (ps' ++ [(x, [a])]) = .arr 1 R1 true := by rw [oR, hR1]
    have hgk1 := dK21_ok (n := ps'.length) (k := 3000016) hp6 rfl (by omega) (by omega);have hhi1 := dK21_hi (n := ps'.length) (k0 := 3000016) (by omega);have hgc1 := dM2_gc1 (e := 1) (o1 := .arr 1 R1 true) (M := MM) (k := 3000016) (x := x) (l := [a]) (fun K => by rw [← hoR]; exact oR_ren _ K) hp6 rfl (by omega) (by omega) (by
     rw [hMM]; simp only [mlook]; rw [if_neg (by omega), if_neg (by omega), mlook_mset, if_pos rfl]; rfl) (by
     rw [hMM]; simp only [mlook]; rw [if_neg (by omega), if_neg (by omega), mlook_mset, if_neg (by omega), hL1]) (fun j p hj => by
     have hjl := (List.getElem?_eq_some_iff.1 hj).1;rw [hMM]; simp only [mlook]; rw [if_neg (by omega), if_neg (by omega), mlook_mset, if_neg (by omega), dM2_lookR hj]) (by
     rw [hMM]; rfl)
    rw [← hoR] at hgc1;have hsl : ps'.length + 1 = (ps' ++ [(x, [a])]).length := by simp
    have hse : (ps' ++ [(x, [a])]).isEmpty = false := by simp
    have hqq : ∀ q ∈ ps' ++ [(x, [a])], q.2.length ≤ i + 1 := fun q hq => by
     rcases List.mem_append.1 hq with hq | hq
     ·have := hpq q hq; omega
     ·obtain rfl := List.mem_singleton.1 hq;simp
    have hkk : ∀ q ∈ ps' ++ [(x, [a])], q.1.length < 1000000 := fun q hq => by
     rcases List.mem_append.1 hq with hq | hq
     ·exact hkl q hq
     ·obtain rfl := List.mem_singleton.1 hq;exact hxl
    have hndd : ((ps' ++ [(x, [a])]).map (·.1)).Nodup := by
     rw [List.map_append, List.nodup_append];refine ⟨hnd, by simp, ?_⟩;rintro u hu v hv rfl;simp only [List.map_cons, List.map_nil, List.mem_singleton] at hv;obtain ⟨q, hq, hqe⟩ := List.mem_map.1 hu;obtain ⟨j, hj, rfl⟩ := List.getElem_of_mem hq;have := hno j _ hj (List.getElem?_eq_getElem hj);simp [eqI, hqe, hv] at this
    generalize ps' ++ [(x, [a])] = T at hgc1 hsl hse hdv hqq hkk hndd hR1;have hsl2 : R1.length = T.length := by rw [hR1l, hsl]
    exact ⟨dK21 ps'.length 3000016, (i + 1, T), hgk1, (by rw [hiZ]; simp only [go_sem, hhi1, hgc1, hsl, hsl2, hse, Int.natCast_add, Int.natCast_one] <;> rfl), ⟨hil, hdv, by simp only; omega, hqq, hndd, hkk⟩, by simp only; omega⟩
 have hnI : decide ((n : Int) < ps.length) = true := decide_eq_true (by omega);have hpe0 : ps[n]? = some ps[n] := List.getElem?_eq_getElem hnl;obtain ⟨nZ, hnZ⟩ : ∃ z : Int, z = (n : Int) := ⟨_, rfl⟩;have hnt : nZ.toNat = n := by omega
 have hkg : (ps.map keyR)[n]? = some [.sl ps[n].1.isEmpty (ps[n].1.map intC) .unk] := by rw [List.getElem?_map, hpe0]; rfl
 have hkln := hkl _ (List.getElem_mem hnl);have q3 := same_is ps[n].1.isEmpty ps[n].1 .unk x.isEmpty x .unk hkln;obtain ⟨key, hkey⟩ : ∃ key, key = ps[n].1 := ⟨_, rfl⟩;rw [← hkey] at hkg q3;rw [← hnZ] at hnI ⊢;refine EvC.a ?_ (by simp only [go_sem, hl0', hdl', hnI] <;> rfl);refine EvC.cr ?_;refine EvC.seq ?_;refine EvC.block ?_;have hL1 : mlook (dM2 1 (oR ps) ps') 1 = some (.arr 1 (ps.map keyR) true) := rfl;refine EvC.k1 ?_ (h1 := by simp only [go_sem, hL1, hkl1, hkg, hnt] <;> rfl) (k1 := by simp; try omega) (c1 := .ca q3);by_cases hkx : key = x;rotate_left
 ·refine EvC.cs ?_ (by simp only [go_sem, decide_eq_false hkx] <;> rfl);refine EvC.b ?_ (hok := by exact inI64_of (by omega) (by omega));refine ⟨dK2 ps.length, (n + 1, dn, ps'), hgk, (by rw [hnZ]; simp only [go_sem, hhi, hgc', Int.natCast_add, Int.natCast_one] <;> rfl), ⟨hnl, fun hd => ⟨(hno hd).1, fun j q hj hq => ?_⟩, fun hd => ?_⟩, by simp only; omega⟩
  ·by_cases hjn : j = n
   ·subst hjn; rw [hpe0] at hq; cases hq;rw [← hkey]; simp [eqI, hkx]
   ·exact (hno hd).2 j q (by omega) hq
  ·obtain ⟨y1, y2, y3, y4, j, q, y5, y6, y7⟩ := hyes hd;exact ⟨y1, y2, y3, y4, j, q, by simp only; omega, y6, y7⟩
 have hdn : dn = false := by
  cases dn with
  | false => rfl
  | true =>
    exfalso;obtain ⟨_, _, _, _, j, q, y5, y6, y7⟩ := hyes rfl;have h1 : (ps.map (·.1))[j]? = some x := by rw [List.getElem?_map, y6]; simp [y7]
    have h2 : (ps.map (·.1))[n]? = some x := by rw [List.getElem?_map, hpe0]; simp [← hkey, hkx]
    obtain ⟨h3, h4⟩ := List.getElem?_eq_some_iff.1 h1;obtain ⟨h5, h6⟩ := List.getElem?_eq_some_iff.1 h2;exact List.pairwise_iff_getElem.1 hnd j n h3 h5 y5 (h4.trans h6.symm)
 subst hdn;obtain ⟨rfl, hno⟩ := hno rfl;clear hyes;refine EvC.ct ?_ (by simp only [go_sem, decide_eq_true hkx] <;> rfl);have hpe := hpe0;have hpm := hpq _ (List.getElem_mem hnl);generalize ps'[n] = p at hpe hpm hkey;clear hpe0;obtain ⟨px, pw⟩ := p;simp only at hpm hkey;subst hkey;subst hkx;have hset := dvPut_set (eqB := eqI) (x := key) (i := a) (ps := ps') (n := n) hno hpe (by simp [eqI]);have hkeys := dvPut_keys (i := a) hpe rfl;have hg := dcA_get (kN : List Int → List AV) (s := 0) hpe;rw [Nat.zero_add] at hg;simp only [kN, List.nil_append] at hg;have hlr := dM2_lookR (e := 1) (o1 := oR ps') hpe;simp only at hlr;have hn6 : n < 1000000 := by omega
 have hr3 : room (pw.length + 1) 8 = true := by simp only [room_eq, decide_eq_true_eq]; omega
 have hl00 : ∀ o, mlook (mset (dM2 1 (oR ps') ps') (2000000 + n) o) 0 = some (.arr 1 (dcA kN ps' 0) false) := fun o => by rw [mlook_mset, if_neg (by omega)]; exact hl0
 have hlrs : ∀ o, mlook (mset (dM2 1 (oR ps') ps') (2000000 + n) o) (2000000 + n) = some o := fun o => by rw [mlook_mset, if_pos rfl]
 have hds := dcA_set (kN : List Int → List AV) (s := 0) (pw ++ [a]) hpe;have hpl3 : (pw ++ [a]).length = pw.length + 1 := by simp
 rw [Nat.zero_add, hpl3] at hds;simp only [kN, List.nil_append] at hds;have hnl2 : notO (2000000 + n) = false := by unfold notO; simp; omega
 apply EvC.seq;apply EvC.drwA mixed
 ·apply Tr.done
  ·simp only [go_sem, hl0, hl00, hlrs, hdl, hg, hnt, hag, hit, hlr, o_ne hn6, List.length_map, hds] <;> rfl
  ·simp [hr3, acell, hnl, hlrs]; try omega
 ·exact confAllA_slots (by simp [rdOk, slotsOf, opSlots, memless, Op.operands, Call.operands]) (by kernel_rfl)
 have hpc : (pw.map intC ++ [[AV.sc (.int .i64 a)]]) = (pw ++ [a]).map intC := by simp [intC]
 rw [hpc];obtain ⟨MM, hMM⟩ : ∃ MM : Mem, MM = mset (mset (dM2 1 (oR ps') ps') (2000000 + n) (.arr 1 ((pw ++ [a]).map intC) false)) 0 (.arr 1 (dcA kN (ps'.set n (key, pw ++ [a])) 0) false) := ⟨_, rfl⟩;rw [← hMM];have hTl : (ps'.set n (key, pw ++ [a])).length = ps'.length := List.length_set;have hM0 : mlook MM 0 = some (.arr 1 (dcA kN (ps'.set n (key, pw ++ [a])) 0) false) := by rw [hMM, mlook_mset, if_pos rfl]
 have hM1 : mlook MM 1 = some (oR ps') := by rw [hMM, mlook_mset, if_neg (by omega), mlook_mset, if_neg (by omega)]; rfl
 have hMr : ∀ j p, (ps'.set n (key, pw ++ [a]))[j]? = some p → mlook MM (2000000 + j) = some (.arr 1 (p.2.map intC) false) := fun j p hj => by
  rw [hMM, mlook_mset, if_neg (by omega), mlook_mset];rw [List.getElem?_set] at hj;by_cases e : n = j
  ·subst e;rw [if_pos rfl, if_pos hnl] at hj;cases hj;rw [if_pos rfl]
  ·rw [if_neg e] at hj;rw [if_neg (by omega), dM2_lookR hj]
 have hTq : ∀ q ∈ ps'.set n (key, pw ++ [a]), q.2.length ≤ i + 1 := fun q hq => by
  rcases List.mem_or_eq_of_mem_set hq with hq | rfl
  ·have := hpq q hq; omega
  ·simp only [List.length_append, List.length_cons, List.length_nil]; omega
 have hgcT := dM2_gc (e := 1) (o1 := oR ps') (M := MM) (ps := ps'.set n (key, pw ++ [a])) (oR_ren ps') (by omega) hM0 hM1 hMr;rw [hTl] at hgcT;clear hMM;rw [← hset] at hTl hgcT hTq;obtain ⟨T, hT⟩ : ∃ T, T = dvPut eqI key a ps' := ⟨_, rfl⟩;rw [← hT] at hTl hgcT hTq hkeys;refine EvC.b ?_;refine EvC.b ?_ (hok := by exact inI64_of (by omega) (by omega));exact ⟨dK2 ps'.length, (n + 1, true, T), hgk, (by rw [hnZ]; simp only [go_sem, hhi, hgcT, Int.natCast_add, Int.natCast_one] <;> rfl), ⟨hnl, (fun h => by cases h), fun _ => ⟨hT, hTl, hTq, hkeys, n, _, Nat.lt_succ_self n, hpe, rfl⟩⟩, by simp only; omega⟩
set_option maxRecDepth 100000
theorem tog_noNil : NoNil togM := fun r hr h => by
 simp only [togM, List.mem_cons, List.not_mem_nil, or_false] at hr;rcases hr with rfl | rfl <;> cases h
def exL : List FA := [⟨0, 0, 0, 0, 0, 1⟩, ⟨0, 0, 1, 0, 0, 1⟩, ⟨0, 1, 0, 0, 0, 0⟩, ⟨0, 1, 1, 0, 0, 1⟩]
theorem ex_susp1 : suspA togM [0] 2 2 [⟨[0, 0], [0, 0], false, false⟩] 4 = .tu [.sl false ([⟨0, 1, 0, 0, 0, 0⟩].map FA.cells) .full, .sc (.bool false), .sc (.int .i64 0)] := by kernel_rfl
theorem ex_susp2 : suspA togM [0] 2 2 [⟨[0], [0], false, false⟩] 4 = .tu [.sl false ((exL.drop 1).map FA.cells) .full, .sc (.bool true), .sc (.int .i64 0)] := by kernel_rfl
theorem ex_next : nextA togM exL 2 = .tu [.sl false ([0, 0].map intC) .full, .sc (.int .i64 2), .sc (.int .i64 0)] := by kernel_rfl
def liT : List Nd := [⟨[0, 1, 2, 3], [0], [([1], 1), ([0], 2)]⟩, ⟨[0], [], []⟩, ⟨[1, 2, 3], [1], [([1], 3), ([0], 4)]⟩, ⟨[1], [], []⟩, ⟨[2, 3], [0, 0], [([0, 0], 5), ([0, 1], 6)]⟩, ⟨[2], [], []⟩, ⟨[3], [], []⟩]
theorem ex_diag : diagL (exL.map (mutF togM)) 4 = liT := by kernel_rfl
theorem ex_diagA : diagA togM exL = .tu [.sl false (liT.map ndC) .full, .sc (.int .i64 0)] := by
 have h1 : mutErr togM exL = 0 := by kernel_rfl
 rw [diagA, if_neg (by simp [h1]), if_neg (by simp [exL]), show exL.length = 4 from rfl, ex_diag]
theorem ex_cls : clsA togM [⟨1, 1, 1, 1, 0, 0⟩] = .tu [.sl true [] .unk, .sc (.int .i64 1)] := by kernel_rfl
set_option maxRecDepth 10000
abbrev fA (a b c d e f : Int) : List AV := [.sc (.int .i64 a), .sc (.int .i64 b), .sc (.int .i64 c), .sc (.int .i64 d), .sc (.int .i64 e), .sc (.int .i64 f)]
def togRs : List (List AV) := togM.rows.map rowC
abbrev togC : List AV := [.sc (.int .i64 2), .sc (.int .i64 2), .sl false togRs .unk]
theorem ex_tog_is : PureIs prog 20 [] (.ag togC) := toggle_is
abbrev iA (a : Int) : List AV := [.sc (.int .i64 a)]
abbrev exA : AV := .sl false [fA 0 0 0 0 0 1, fA 0 0 1 0 0 1, fA 0 1 0 0 0 0, fA 0 1 1 0 0 1] .full
theorem ex_one1_is : PureIs prog 22 [.sl false [iA 0, iA 0] .full, .sl false [iA 0, iA 0] .full] (.ag [.sc (.int .i64 2), .sc (.int .i64 2), .sl false [[.sl false [iA 0, iA 0] .unk, .sl false [iA 0, iA 0] .unk]] .unk]) :=
 (one_is false [0, 0] .full false [0, 0] .full).weakR
theorem ex_one2_is : PureIs prog 22 [.sl false [iA 0] .full, .sl false [iA 0] .full] (.ag [.sc (.int .i64 2), .sc (.int .i64 2), .sl false [[.sl false [iA 0] .unk, .sl false [iA 0] .unk]] .unk]) :=
 (one_is false [0] .full false [0] .full).weakR
theorem tog_rows : ∀ r ∈ togM.rows, r.2.length < 1000000 := by decide
theorem ex_susp1_is : PureIs prog 21 [.ag togC, .sl false [iA 0] .full, .ag [.sc (.int .i64 2), .sc (.int .i64 2), .sl false [[.sl false [iA 0, iA 0] .unk, .sl false [iA 0, iA 0] .unk]] .unk], .sc (.int .i64 4)] (.tu [.sl false [fA 0 1 0 0 0 0] .full, .sc (.bool false), .sc (.int .i64 0)]) := by
 have q := suspects_is togM tog_rows tog_noNil false [0] .unk (by decide) 2 2 false [⟨[0, 0], [0, 0], false, false⟩] ⟨by decide, by decide, by decide⟩ 4;rw [ex_susp1] at q;exact .weak q
theorem ex_susp2_is : PureIs prog 21 [.ag togC, .sl false [iA 0] .full, .ag [.sc (.int .i64 2), .sc (.int .i64 2), .sl false [[.sl false [iA 0] .unk, .sl false [iA 0] .unk]] .unk], .sc (.int .i64 4)] (.tu [.sl false [fA 0 0 1 0 0 1, fA 0 1 0 0 0 0, fA 0 1 1 0 0 1] .full, .sc (.bool true), .sc (.int .i64 0)]) := by
 have q := suspects_is togM tog_rows tog_noNil false [0] .unk (by decide) 2 2 false [⟨[0], [0], false, false⟩] ⟨by decide, by decide, by decide⟩ 4;rw [ex_susp2] at q;exact .weak q
theorem ex_next_is : PureIs prog 23 [.ag togC, exA, .sc (.int .i64 2)] (.tu [.sl false [iA 0, iA 0] .full, .sc (.int .i64 2), .sc (.int .i64 0)]) := by
 have q := next_is togM tog_rows tog_noNil false exL .unk (by decide) 2;rw [ex_next] at q;exact .weak q
theorem ex_diag_is : PureIs prog 5 [.ag togC, exA] (.tu [.sl false (liT.map ndC) .full, .sc (.int .i64 0)]) := by
 have q := diagnose_is togM tog_rows tog_noNil false exL .unk (by decide);rw [ex_diagA] at q;exact .weak q
theorem ex_cls_is : PureIs prog 26 [.ag togC, .sl false [fA 1 1 1 1 0 0] .full] (.tu [.sl true [] .unk, .sc (.int .i64 1)]) := by
 have q := classes_is togM tog_rows tog_noNil false [⟨1, 1, 1, 1, 0, 0⟩] .unk (by decide);rw [ex_cls] at q;exact .weak q
theorem ex_walk : walkA (liT.map ndG) togM = .tu [.sl false ([3].map intC) .full, .sl false ([[0], [1], [0, 0]].map askC) .full, .sc (.int .i64 0)] := by kernel_rfl
theorem ex_walk_is : PureIs prog 25 [.sl false (liT.map ndC) .full, .ag togC] (.tu [.sl false [iA 3] .full, .sl false [[.sl false [iA 0] .full], [.sl false [iA 1] .full], [.sl false [iA 0, iA 0] .full]] .full, .sc (.int .i64 0)]) := by
 have q := walk_is false (liT.map ndG) .full togM tog_rows (by
  intro d hd;obtain ⟨x, hx, rfl⟩ := List.mem_map.1 hd;have h1 : ∀ x ∈ liT, x.sus.length < 1000000 ∧ x.word.length < 1000000 ∧ x.br.length < 1000000 ∧ ∀ b ∈ x.br, b.1.length < 1000000 := by decide
  obtain ⟨g1, g2, g3, g4⟩ := h1 x hx;refine ⟨⟨g1, g2, by show (x.br.map _).length < 1000000; rw [List.length_map]; exact g3, fun b hb => ?_⟩, ⟨(fun h => by cases h), fun h => ?_⟩⟩
  ·obtain ⟨y, hy, rfl⟩ := List.mem_map.1 hb;exact g4 y hy
  ·exact List.isEmpty_iff.1 h) (by decide)
 rw [ex_walk, List.map_map, show ngC ∘ ndG = ndC from funext ndG_cells] at q;exact q
theorem ex_same_is (na nb : Bool) (ca cb : Cp) (a : List Int) (hl : a.length < 1000000) : PureIs prog 11 [.sl na (a.map intC) ca, .sl nb (a.map intC) cb] (.sc (.bool true)) := by
 have q := same_is na a ca nb a cb hl
 rwa [decide_eq_true rfl] at q
theorem ex_sameF1_is : PureIs prog 24 [.sl false [fA 0 1 0 0 0 0] .full, .sl false [fA 0 1 0 0 0 0] .unk] (.sc (.bool true)) := by
 have q := sameF_is false [⟨0, 1, 0, 0, 0, 0⟩] .full false [⟨0, 1, 0, 0, 0, 0⟩] .unk (by decide)
 rwa [decide_eq_true rfl] at q
theorem ex_sameF2_is : PureIs prog 24 [.sl false [fA 0 0 1 0 0 1, fA 0 1 0 0 0 0, fA 0 1 1 0 0 1] .full, .sl false [fA 0 0 1 0 0 1, fA 0 1 0 0 0 0, fA 0 1 1 0 0 1] .full] (.sc (.bool true)) := by
 have q := sameF_is false [⟨0, 0, 1, 0, 0, 1⟩, ⟨0, 1, 0, 0, 0, 0⟩, ⟨0, 1, 1, 0, 0, 1⟩] .full false [⟨0, 0, 1, 0, 0, 1⟩, ⟨0, 1, 0, 0, 0, 0⟩, ⟨0, 1, 1, 0, 0, 1⟩] .full (by decide)
 rwa [decide_eq_true rfl] at q
set_option maxHeartbeats 4000000 in
theorem lives_is : PureIs prog 6 [] (.sc (.bool true)) := by
 refine PureIs.of1 16 [104, 165] func6 ntmps6 results6 fun _ => ?_;refine EvC.a ?_;refine EvC.k1 ?_ (c1 := .ca ex_tog_is);refine EvC.z 2 ?_;refine EvC.a ?_;refine EvC.k2D mixed ?_ (c1 := .ca ex_one1_is) (c2 := .ca ex_susp1_is);refine EvC.k2D mixed ?_ (c1 := .ca ex_one2_is) (c2 := .ca ex_susp2_is);refine EvC.k1 ?_ (c1 := .ca ex_next_is);have qd := ex_diag_is;have qw := ex_walk_is;have hTl : (liT.map ndC).length = 7 := rfl;have hTn : (liT.map ndC).all AV.norefs = true := by decide
 have t0 : (liT.map ndC)[0]? = some [.sl false [iA 0, iA 1, iA 2, iA 3] .full, .sl false [iA 0] .full, bAV [([1], 1), ([0], 2)]] := rfl;have t1 : (liT.map ndC)[1]? = some [.sl false [iA 0] .full, .sl true [] .zer, bAV []] := rfl;have t2 : (liT.map ndC)[2]? = some [.sl false [iA 1, iA 2, iA 3] .full, .sl false [iA 1] .full, bAV [([1], 3), ([0], 4)]] := rfl;have t3 : (liT.map ndC)[3]? = some [.sl false [iA 1] .full, .sl true [] .zer, bAV []] := rfl;have t4 : (liT.map ndC)[4]? = some [.sl false [iA 2, iA 3] .full, .sl false [iA 0, iA 0] .full, bAV [([0, 0], 5), ([0, 1], 6)]] := rfl;have t5 : (liT.map ndC)[5]? = some [.sl false [iA 2] .full, .sl true [] .zer, bAV []] := rfl;have t6 : (liT.map ndC)[6]? = some [.sl false [iA 3] .full, .sl true [] .zer, bAV []] := rfl;generalize liT.map ndC = T at qd qw hTl hTn t0 t1 t2 t3 t4 t5 t6;refine EvC.k1 ?_ (c1 := .ca qd);refine EvC.seq ?_;refine EvC.k3 ?_ (h1 := by simp only [go_sem, hTl] <;> rfl) (c1 := .cg ex_sameF1_is) (h2 := by simp only [go_sem, hTl] <;> rfl) (c2 := .cg ex_sameF2_is) (h3 := by simp only [go_sem, hTl] <;> rfl) (c3 := .cg (ex_same_is false false .full .full [0, 0] (by decide)));refine EvC.cs ?_ (by simp only [go_sem, hTl] <;> rfl);refine EvC.seq ?_;apply EvC.s1
 ·apply Tr.run
  ·simp only [go_sem, hTl, t0, t1, t2, t3, t4, t5, t6] <;> rfl
  ·simp [hTl]
  apply Tr.cons
  ·exact .ca (ex_same_is false false .full .full [0] (by decide))
  apply Tr.run
  ·simp only [go_sem, hTl, t0, t1, t2, t3, t4, t5, t6] <;> rfl
  ·simp [hTl]
  apply Tr.cons
  ·exact .cg (ex_same_is false false .full .full [1] (by decide))
  apply Tr.run
  ·simp only [go_sem, hTl, t0, t1, t2, t3, t4, t5, t6] <;> rfl
  ·simp [hTl]
  apply Tr.cons
  ·exact .cg (ex_same_is false false .full .full [0, 0] (by decide))
  apply Tr.run
  ·simp only [go_sem, hTl, t0, t1, t2, t3, t4, t5, t6] <;> rfl
  ·simp [hTl]
  apply Tr.cons
  ·exact .cg (ex_same_is false false .full .full [0] (by decide))
  apply Tr.run
  ·simp only [go_sem, hTl, t0, t1, t2, t3, t4, t5, t6] <;> rfl
  ·simp [hTl]
  apply Tr.cons
  ·exact .cg (ex_same_is false false .full .full [1] (by decide))
  apply Tr.run
  ·simp only [go_sem, hTl, t0, t1, t2, t3, t4, t5, t6] <;> rfl
  ·simp [hTl]
  apply Tr.cons
  ·exact .cg (ex_same_is false false .full .full [2] (by decide))
  apply Tr.run
  ·simp only [go_sem, hTl, t0, t1, t2, t3, t4, t5, t6] <;> rfl
  ·simp [hTl]
  apply Tr.cons
  ·exact .cg (ex_same_is false false .full .full [3] (by decide))
  apply Tr.done
  ·simp only [go_sem] <;> rfl
  ·simp
 refine EvC.cs ?_;refine EvC.k1 ?_ (c1 := .ca qw);refine EvC.k1 ?_ (c1 := .ca ex_cls_is);have qs : PureIs prog 27 [.sl false [[.sl false [iA 0] .full], [.sl false [iA 1] .full], [.sl false [iA 0, iA 0] .full]] .full, .sl false [[.sl false [iA 0] .full], [.sl false [iA 1] .full], [.sl false [iA 0, iA 0] .full]] .full] (.sc (.bool true)) := by
  have q := same37_is false false [(false, [0], .full), (false, [1], .full), (false, [0, 0], .full)] [(false, [0], .full), (false, [1], .full), (false, [0, 0], .full)] .full .full (by decide) (by decide);rw [sameW_refl] at q;exact q
 refine EvC.k2 ?_ (c1 := .cg (ex_same_is false false .full .full [3] (by decide))) (c2 := .cg qs);refine EvC.rz ?_;simp only [go_sem]
theorem Valid.check {m : Mach} (h : Valid m) : checkM m = 0 := by
 have h1 := h.ins;have h2 := h.outs;have h3 := h.rows;unfold checkM;rw [if_neg (by omega), if_neg (by omega), if_pos];rw [List.all_eq_true];intro r hr;obtain ⟨k1, k2⟩ := h.row r hr;simp only [rowOk, Bool.and_eq_true, decide_eq_true_eq, Bool.not_eq_true', List.any_eq_false];exact ⟨k1, fun e he => by simpa using k2 e he⟩
theorem LM.small {x : LM} (h : x.Ok) : x.mach.rows.length ≤ 6 ∧ x.mach.ins ≤ 3 := by
 obtain ⟨b1, b2, b3, b4, b5, b6, -, -⟩ := LM.bounds h;rw [show x.mach.rows.length = x.n by simp [LM.mach]];exact ⟨b2, by show (x.i : Int) ≤ 3; omega⟩
theorem LM.noNil (x : LM) : NoNil x.mach := fun r hr h => by
 simp only [LM.mach, List.mem_map] at hr;obtain ⟨s, _, rfl⟩ := hr;cases h
theorem checkF_small {m : Mach} {f : FA} (h : faultB m f = true) (hm : m.rows.length < 64) : checkF m f = 0 := by
 unfold checkF; rw [if_pos h, if_neg (by omega)]
theorem sOfL_len (x : LM) (ls : List Int) : (sOfL x ls).length ≤ 16 := pickF_len _ _ 16
theorem sOfL_ok {x : LM} (hx : x.Ok) (ls : List Int) : ∀ f ∈ sOfL x ls, checkF x.mach f = 0 := fun f hf => checkF_small (faK_mem (pickF_mem hf)) (by have := (LM.small hx).1; omega)
theorem errFs_ok {m : Mach} : ∀ {fs : List FA}, (∀ f ∈ fs, checkF m f = 0) → errFs m fs = 0
 | [], _ => rfl
 | f :: fs, h => by rw [errFs, if_pos (h f List.mem_cons_self)]; exact errFs_ok fun g hg => h g (List.mem_cons_of_mem _ hg)
theorem mutErr_ok2 {m : Mach} {fs : List FA} (hv : Valid m) (hf : ∀ f ∈ fs, checkF m f = 0) (hl : fs.length ≤ 256) : mutErr m fs = 0 := by
 unfold mutErr;rw [if_neg (by rw [hv.check]; simp), if_neg (by omega), errFs_ok hf]
theorem sumP_mem {κ : Type} : ∀ {ps : List (κ × List Int)} {p : κ × List Int}, p ∈ ps → p.2.length ≤ sumP ps
 | q :: ps, p, h => by
   rcases List.mem_cons.1 h with rfl | h
   ·simp [sumP]
   ·have := sumP_mem h;simp only [sumP, List.map_cons, List.sum_cons] at this ⊢; omega
theorem sumP_len {κ : Type} : ∀ {ps : List (κ × List Int)}, (∀ p ∈ ps, p.2 ≠ []) → ps.length ≤ sumP ps
 | [], _ => Nat.zero_le _
 | q :: ps, h => by
   have h1 := sumP_len fun p hp => h p (List.mem_cons_of_mem _ hp);have h2 := List.length_pos_iff.2 (h q List.mem_cons_self);simp only [sumP, List.map_cons, List.sum_cons, List.length_cons] at h1 ⊢; omega
theorem dvL_bd2 {κ : Type} (eqB : κ → κ → Bool) (K : Int → κ) (is : List Int) : (dvL eqB K is []).length ≤ is.length ∧ ∀ p ∈ dvL eqB K is [], p.2.length ≤ is.length := by
 have h := dvL_sum (eqB := eqB) (K := K) is [];have h0 : sumP ([] : List (κ × List Int)) = 0 := rfl;rw [h0, Nat.zero_add] at h;rw [← h];exact ⟨sumP_len (dvL_ne2 is), fun p hp => sumP_mem hp⟩
theorem idL_len (n : Nat) : (idL n).length = n := by simp [idL]
section
variable {κ : Type} {eqB : κ → κ → Bool} {K : Int → κ}
theorem dvPut_cases (eqB : κ → κ → Bool) (x : κ) (i : Int) : ∀ (ps : List (κ × List Int)), (∃ a p b, ps = a ++ p :: b ∧ (∀ q ∈ a, eqB q.1 x = false) ∧ eqB p.1 x = true ∧ dvPut eqB x i ps = a ++ (p.1, p.2 ++ [i]) :: b) ∨ ((∀ q ∈ ps, eqB q.1 x = false) ∧ dvPut eqB x i ps = ps ++ [(x, [i])])
 | [] => .inr ⟨(fun q h => by cases h), rfl⟩
 | p :: ps => by
   by_cases h : eqB p.1 x = true
   ·exact .inl ⟨[], p, ps, rfl, (fun q h => by cases h), h, by rw [dvPut, if_pos h]; rfl⟩
   ·have h' := Bool.eq_false_iff.2 h;rcases dvPut_cases eqB x i ps with ⟨a, q, b, rfl, h1, h2, h3⟩ | ⟨h1, h2⟩
    ·refine .inl ⟨p :: a, q, b, rfl, fun r hr => ?_, h2, by rw [dvPut, if_neg h, h3]; rfl⟩;rcases List.mem_cons.1 hr with rfl | hr
     ·exact h'
     ·exact h1 r hr
    ·refine .inr ⟨fun r hr => ?_, by rw [dvPut, if_neg h, h2]; rfl⟩;rcases List.mem_cons.1 hr with rfl | hr
     ·exact h'
     ·exact h1 r hr
structure EqOn (eqB : κ → κ → Bool) (K : Int → κ) (s : List Int) : Prop where
 refl : ∀ i ∈ s, eqB (K i) (K i) = true
 symm : ∀ i ∈ s, ∀ j ∈ s, eqB (K i) (K j) = true → eqB (K j) (K i) = true
 trans : ∀ i ∈ s, ∀ j ∈ s, ∀ k ∈ s, eqB (K i) (K j) = true → eqB (K j) (K k) = true → eqB (K i) (K k) = true
structure PInv (eqB : κ → κ → Bool) (K : Int → κ) (dn : List Int) (ps : List (κ × List Int)) : Prop where
 key : ∀ p ∈ ps, ∃ i ∈ dn, p.1 = K i
 fil : ∀ p ∈ ps, p.2 = dn.filter fun j => eqB p.1 (K j)
 cov : ∀ j ∈ dn, ∃ p ∈ ps, eqB p.1 (K j) = true
 pw : (ps.map (·.1)).Pairwise fun x y => eqB x y = false
theorem PInv.step {s dn : List Int} {i : Int} {ps : List (κ × List Int)} (he : EqOn eqB K s) (hd : ∀ j ∈ dn, j ∈ s) (hi : i ∈ s) (h : PInv eqB K dn ps) : PInv eqB K (dn ++ [i]) (dvPut eqB (K i) i ps) := by
 have hkey : ∀ p ∈ ps, ∃ j ∈ dn ++ [i], p.1 = K j := fun p hp => by
  obtain ⟨j, hj, e⟩ := h.key p hp;exact ⟨j, List.mem_append_left _ hj, e⟩
 have hno : ∀ {x : κ}, eqB x (K i) = false → (dn ++ [i]).filter (fun j => eqB x (K j)) = dn.filter fun j => eqB x (K j) := fun {x} e => by
  rw [List.filter_append];simp [e]
 have hyes : ∀ {x : κ}, eqB x (K i) = true → (dn ++ [i]).filter (fun j => eqB x (K j)) = (dn.filter fun j => eqB x (K j)) ++ [i] := fun {x} e => by
  rw [List.filter_append];simp [e]
 rcases dvPut_cases eqB (K i) i ps with ⟨a, p, b, rfl, h1, h2, h3⟩ | ⟨h1, h2⟩
 ·rw [h3];have hb : ∀ q ∈ b, eqB q.1 (K i) = false := fun q hq => by
   cases hc : eqB q.1 (K i) with
   | false => rfl
   | true =>
     obtain ⟨j, hj, ej⟩ := h.key p (by simp);obtain ⟨k, hk, ek⟩ := h.key q (by simp [hq]);have hpw := h.pw;rw [List.map_append, List.map_cons, List.pairwise_append, List.pairwise_cons] at hpw;have hf := hpw.2.1.1 q.1 (List.mem_map_of_mem hq);rw [ej] at h2 hf;rw [ek] at hc hf;have := he.trans j (hd j hj) i hi k (hd k hk) h2 (he.symm k (hd k hk) i hi hc);rw [this] at hf; cases hf
  refine ⟨fun q hq => ?_, fun q hq => ?_, fun j hj => ?_, ?_⟩
  ·rcases List.mem_append.1 hq with hq | hq
   ·exact hkey q (by simp [hq])
   ·rcases List.mem_cons.1 hq with rfl | hq
    ·exact hkey p (by simp)
    ·exact hkey q (by simp [hq])
  ·rcases List.mem_append.1 hq with hq | hq
   ·rw [hno (h1 q hq)]; exact h.fil q (by simp [hq])
   ·rcases List.mem_cons.1 hq with rfl | hq
    ·simp only;rw [hyes h2, ← h.fil p (by simp)]
    ·rw [hno (hb q hq)]; exact h.fil q (by simp [hq])
  ·rcases List.mem_append.1 hj with hj | hj
   ·obtain ⟨q, hq, e⟩ := h.cov j hj;rcases List.mem_append.1 hq with hq | hq
    ·exact ⟨q, by simp [hq], e⟩
    ·rcases List.mem_cons.1 hq with rfl | hq
     ·exact ⟨(q.1, q.2 ++ [i]), by simp, e⟩
     ·exact ⟨q, by simp [hq], e⟩
   ·rw [List.mem_singleton] at hj; subst hj;exact ⟨(p.1, p.2 ++ [j]), by simp, h2⟩
  ·have := h.pw;rw [List.map_append, List.map_cons] at this ⊢;exact this
 ·rw [h2];refine ⟨fun q hq => ?_, fun q hq => ?_, fun j hj => ?_, ?_⟩
  ·rcases List.mem_append.1 hq with hq | hq
   ·exact hkey q hq
   ·rw [List.mem_singleton] at hq; subst hq;exact ⟨i, by simp, rfl⟩
  ·rcases List.mem_append.1 hq with hq | hq
   ·rw [hno (h1 q hq)]; exact h.fil q hq
   ·rw [List.mem_singleton] at hq; subst hq;simp only;rw [hyes (he.refl i hi)];have : dn.filter (fun j => eqB (K i) (K j)) = [] := by
     rw [List.filter_eq_nil_iff];intro j hj hc;obtain ⟨q, hq, e⟩ := h.cov j hj;obtain ⟨k, hk, ek⟩ := h.key q hq;have hf := h1 q hq;rw [ek] at e hf;rw [he.trans k (hd k hk) j (hd j hj) i hi e (he.symm i hi j (hd j hj) hc)] at hf; cases hf
    rw [this]; rfl
  ·rcases List.mem_append.1 hj with hj | hj
   ·obtain ⟨q, hq, e⟩ := h.cov j hj;exact ⟨q, by simp [hq], e⟩
   ·rw [List.mem_singleton] at hj; subst hj;exact ⟨(K j, [j]), by simp, he.refl j hi⟩
  ·rw [List.map_append, List.pairwise_append];refine ⟨h.pw, by simp, fun x hx y hy => ?_⟩;obtain ⟨q, hq, rfl⟩ := List.mem_map.1 hx;simp only [List.map_cons, List.map_nil, List.mem_singleton] at hy;subst hy;exact h1 q hq
theorem PInv.dvL {s : List Int} (he : EqOn eqB K s) : ∀ (is dn : List Int) (ps : List (κ × List Int)), (∀ j ∈ dn ++ is, j ∈ s) → PInv eqB K dn ps → PInv eqB K (dn ++ is) (dvL eqB K is ps)
 | [], dn, ps, _, h => by rw [List.append_nil]; exact h
 | i :: is, dn, ps, hs, h => by
   have h1 := h.step he (fun j hj => hs j (List.mem_append_left _ hj)) (hs i (by simp));have h2 := PInv.dvL he is (dn ++ [i]) _ (fun j hj => hs j (by simpa using hj)) h1;rw [List.append_assoc] at h2;exact h2
theorem dvL_inv {is : List Int} (he : EqOn eqB K is) : PInv eqB K is (Avl.dvL eqB K is []) := by
 have h0 : PInv eqB K [] ([] : List (κ × List Int)) := ⟨(fun p h => by cases h), (fun p h => by cases h), (fun p h => by cases h), List.Pairwise.nil⟩;exact PInv.dvL he is [] [] (fun j hj => hj) h0
end
theorem eqI_on (K : Int → List Int) (s : List Int) : EqOn eqI K s where
 refl := fun i _ => by simp [eqI]
 symm := fun i _ j _ h => by simp only [eqI, decide_eq_true_eq] at h ⊢; exact h.symm
 trans := fun i _ j _ k _ h h' => by simp only [eqI, decide_eq_true_eq] at h h' ⊢; exact h.trans h'
structure XOk (X : List Mach) (N : Nat) (k : Int) : Prop where
 v : ∀ m ∈ X, Valid m ∧ m.ins = k
 n : X.length = N
theorem XOk.at {X : List Mach} {N : Nat} {k : Int} (h : XOk X N k) {i : Int} (hi : 0 ≤ i ∧ i < N) : Valid (atM X i) ∧ (atM X i).ins = k := h.v _ (by
 have := h.n;rw [atM, List.getD_eq_getElem?_getD, List.getElem?_eq_getElem (show i.toNat < X.length by omega)];exact List.getElem_mem _)
theorem idL_mem {N : Nat} {i : Int} : i ∈ idL N ↔ 0 ≤ i ∧ i < N := by
 unfold idL;rw [List.mem_map];constructor
 ·rintro ⟨j, hj, rfl⟩;have := List.mem_range.1 hj;exact ⟨Int.natCast_nonneg j, Int.ofNat_lt.2 this⟩
 ·intro h;exact ⟨i.toNat, List.mem_range.2 (by omega), Int.toNat_of_nonneg h.1⟩
theorem eqM_iff {a b : Mach} (ha : Valid a) (hb : Valid b) (hab : a.ins = b.ins) : eqM a b = true ↔ ∀ v, WOk a.ins.toNat v → runR a 0 v = runR b 0 v := by
 have e : eqM a b = (diffO a b).isNone := by simp only [eqM, equalR, bothR_zero ha hb hab]; simp
 rw [e];rcases diff_least ha hb hab with ⟨h1, h2⟩ | ⟨h1, _, h2⟩
 ·constructor
  ·intro h;cases hd : diffO a b <;> simp [hd] at h h1
  ·intro h;exact absurd (h _ h2.1) h2.2.1
 ·rw [h1];exact ⟨fun _ => h2, fun _ => rfl⟩
theorem eqM_on {X : List Mach} {N : Nat} {k : Int} (h : XOk X N k) : EqOn eqM (atM X) (idL N) where
 refl := fun i hi => by
  have := h.at (idL_mem.1 hi);exact (eqM_iff this.1 this.1 rfl).2 fun v _ => rfl
 symm := fun i hi j hj e => by
  have a := h.at (idL_mem.1 hi);have b := h.at (idL_mem.1 hj);rw [eqM_iff a.1 b.1 (by rw [a.2, b.2]), a.2] at e;exact (eqM_iff b.1 a.1 (by rw [a.2, b.2])).2 fun v hv => (e v (by rw [b.2] at hv; exact hv)).symm
 trans := fun i hi j hj l hl e e' => by
  have a := h.at (idL_mem.1 hi);have b := h.at (idL_mem.1 hj);have c := h.at (idL_mem.1 hl);rw [eqM_iff a.1 b.1 (by rw [a.2, b.2]), a.2] at e;rw [eqM_iff b.1 c.1 (by rw [b.2, c.2]), b.2] at e';exact (eqM_iff a.1 c.1 (by rw [a.2, c.2])).2 fun v hv => (e v (by rw [a.2] at hv; exact hv)).trans (e' v (by rw [a.2] at hv; exact hv))
def clsF (X : List Mach) (N : Nat) (i : Int) : List Int := (idL N).filter fun j => eqM (atM X i) (atM X j)
theorem classL_mem {X : List Mach} {N : Nat} {k : Int} (h : XOk X N k) {c : List Int} (hc : c ∈ classL X N) {i : Int} (hi : i ∈ c) : c = clsF X N i := by
 obtain ⟨p, hp, rfl⟩ := List.mem_map.1 hc;have hP := dvL_inv (eqM_on h);have hf := hP.fil p hp;obtain ⟨j, hj, e⟩ := hP.key p hp;have ho := eqM_on h;rw [hf, e, List.mem_filter] at hi;rw [hf, e];unfold clsF;refine List.filter_congr fun l hl => ?_;rw [Bool.eq_iff_iff];exact ⟨fun h1 => ho.trans i hi.1 j hj l hl (ho.symm j hj i hi.1 hi.2) h1, fun h1 => ho.trans j hj i hi.1 l hl hi.2 h1⟩
structure TInv (X : List Mach) (N n : Nat) (out : List Nd) : Prop where
 root : ∃ d, out[0]? = some d ∧ d.sus = idL N
 sub : ∀ d ∈ out, d.sus.Sublist (idL N)
 un : ∀ j d, n ≤ j → out[j]? = some d → d.word = [] ∧ d.br = []
 w : ∀ j d, j < n → out[j]? = some d → d.word = wordX X d.sus
 br0 : ∀ j d, j < n → out[j]? = some d → d.word = [] → d.br = []
 br : ∀ j d, j < n → out[j]? = some d → d.word ≠ [] → ∃ off, j < off ∧ off + (partsX X d.sus d.word).length ≤ out.length ∧ d.br = brsF (partsX X d.sus d.word) off ∧ ∀ q p, (partsX X d.sus d.word)[q]? = some p → ∃ e, out[off + q]? = some e ∧ e.sus = p.2
theorem TInv.start (X : List Mach) (N : Nat) : TInv X N 0 [⟨idL N, [], []⟩] where
 root := ⟨_, rfl, rfl⟩
 sub := fun d hd => by rw [List.mem_singleton] at hd; subst hd; exact List.Sublist.refl _
 un := fun j d _ h => by
  cases j with
  | zero => cases h; exact ⟨rfl, rfl⟩
  | succ j => simp at h
 w := fun j d h => absurd h (Nat.not_lt_zero _)
 br0 := fun j d h => absurd h (Nat.not_lt_zero _)
 br := fun j d h => absurd h (Nat.not_lt_zero _)
theorem TInv.step {X : List Mach} {N n : Nat} {out : List Nd} (h : TInv X N n out) (hn : n < out.length) : TInv X N (n + 1) (dgStep X out n) := by
 have hd := List.getElem?_eq_getElem hn;unfold dgStep;rw [hd];simp only;generalize out[n] = d at hd;obtain ⟨u1, u2⟩ := h.un n d (Nat.le_refl _) hd;split
 ·rename_i hw;refine ⟨h.root, h.sub, fun j e hj he => h.un j e (by omega) he, fun j e hj he => ?_, fun j e hj he => ?_, fun j e hj he => ?_⟩
  ·by_cases hjn : j = n
   ·subst hjn; rw [hd] at he; cases he; rw [u1, hw]
   ·exact h.w j e (by omega) he
  ·by_cases hjn : j = n
   ·subst hjn; rw [hd] at he; cases he; exact fun _ => u2
   ·exact h.br0 j e (by omega) he
  ·by_cases hjn : j = n
   ·subst hjn; rw [hd] at he; cases he; exact fun hne => absurd u1 hne
   ·exact h.br j e (by omega) he
 ·rename_i hw;obtain ⟨w, hwe⟩ : ∃ w, w = wordX X d.sus := ⟨_, rfl⟩;rw [← hwe] at hw ⊢;generalize hps : partsX X d.sus w = ps;obtain ⟨out', ho⟩ : ∃ o, o = out.set n ⟨d.sus, w, brsF ps out.length⟩ ++ kidL ps := ⟨_, rfl⟩;rw [← ho];have hkl : (kidL ps).length = ps.length := by simp [kidL]
  have hol : out'.length = out.length + ps.length := by rw [ho, List.length_append, List.length_set, hkl]
  have hold : ∀ j, j < out.length → j ≠ n → out'[j]? = out[j]? := fun j hj hjn => by
   rw [ho, List.getElem?_append_left (by rw [List.length_set]; exact hj), List.getElem?_set_ne (fun e => hjn e.symm)]
  have hnew : out'[n]? = some ⟨d.sus, w, brsF ps out.length⟩ := by
   rw [ho, List.getElem?_append_left (by rw [List.length_set]; exact hn), List.getElem?_set_self hn]
  have hkid : ∀ q, out'[out.length + q]? = (ps[q]?).map fun p => ⟨p.2, [], []⟩ := fun q => by
   rw [ho, List.getElem?_append_right (by rw [List.length_set]; omega), List.length_set, Nat.add_sub_cancel_left, kidL, List.getElem?_map]
  have hsus : ∀ (j : Nat) (e : Nd), out[j]? = some e → ∃ e' : Nd, out'[j]? = some e' ∧ e'.sus = e.sus := fun j e he => by
   have hj := (List.getElem?_eq_some_iff.1 he).1;by_cases hjn : j = n
   ·subst hjn; rw [hd] at he; cases he; exact ⟨_, hnew, rfl⟩
   ·exact ⟨e, by rw [hold j hj hjn]; exact he, rfl⟩
  have hds := h.sub d (List.mem_of_getElem? hd);refine ⟨?_, fun e he => ?_, fun j e hj he => ?_, fun j e hj he => ?_, fun j e hj he => ?_, fun j e hj he => ?_⟩
  ·obtain ⟨r, hr, hr2⟩ := h.root;obtain ⟨r', h1, h2⟩ := hsus 0 r hr;exact ⟨r', h1, by rw [h2, hr2]⟩
  ·rw [ho] at he;rcases List.mem_append.1 he with he | he
   ·rcases List.mem_or_eq_of_mem_set he with he | rfl
    ·exact h.sub e he
    ·exact hds
   ·obtain ⟨p, hp, rfl⟩ := List.mem_map.1 he;have hI : PInv eqI (respK X w) d.sus ps := by rw [← hps]; exact dvL_inv (eqI_on _ _)
    simp only;rw [hI.fil p hp];exact List.filter_sublist.trans hds
  ·by_cases hjl : j < out.length
   ·rw [hold j hjl (by omega)] at he;exact h.un j e (by omega) he
   ·obtain ⟨q, rfl⟩ : ∃ q, j = out.length + q := ⟨j - out.length, by omega⟩;rw [hkid, Option.map_eq_some_iff] at he;obtain ⟨p, _, rfl⟩ := he;exact ⟨rfl, rfl⟩
  ·by_cases hjn : j = n
   ·subst hjn; rw [hnew] at he; cases he; exact hwe
   ·rw [hold j (by omega) hjn] at he; exact h.w j e (by omega) he
  ·by_cases hjn : j = n
   ·subst hjn; rw [hnew] at he; cases he; exact fun hc => absurd hc hw
   ·rw [hold j (by omega) hjn] at he; exact h.br0 j e (by omega) he
  ·by_cases hjn : j = n
   ·subst hjn; rw [hnew] at he; cases he;intro _;simp only [hps];refine ⟨out.length, hn, by omega, rfl, fun q p hp => ⟨_, by rw [hkid, hp]; rfl, rfl⟩⟩
   ·rw [hold j (by omega) hjn] at he;intro hne;obtain ⟨off, h1, h2, h3, h4⟩ := h.br j e (by omega) he hne;refine ⟨off, h1, by omega, h3, fun q p hp => ?_⟩;obtain ⟨e1, h5, h6⟩ := h4 q p hp;obtain ⟨e2, h7, h8⟩ := hsus _ _ h5;exact ⟨e2, h7, by rw [h8, h6]⟩
theorem dgF_inv {X : List Mach} {N : Nat} {k : Int} (hX : XOk X N k) : ∀ (f n : Nat) (out : List Nd), DInv X N n out → TInv X N n out → 2 * N ≤ f + n → 1 ≤ N → DInv X N (dgF X f out n).length (dgF X f out n) ∧ TInv X N (dgF X f out n).length (dgF X f out n)
 | 0, n, out, hD, hT, hf, hN => by
   have := hD.le; have := hD.wg; omega
 | f + 1, n, out, hD, hT, hf, hN => by
   rw [dgF];split
   ·rename_i hn;exact dgF_inv hX f (n + 1) _ (hD.step hX.v hX.n hn) (hT.step hn) (by omega) hN
   ·have : n = out.length := by have := hD.le; omega
    subst this;exact ⟨hD, hT⟩
theorem diagL_inv {X : List Mach} {N : Nat} {k : Int} (hX : XOk X N k) (hN : 1 ≤ N) : DInv X N (diagL X N).length (diagL X N) ∧ TInv X N (diagL X N).length (diagL X N) :=
 dgF_inv hX (2 * N) 0 _ (.start X hN) (.start X N) (by omega) hN
structure NodeOk (X : List Mach) (T : List Nd) (N : Nat) (k : Int) (n : Nat) (d : Nd) : Prop where
 ne : d.sus ≠ []
 sub : d.sus.Sublist (idL N)
 rng : ∀ i ∈ d.sus, 0 ≤ i ∧ i < N
 w : d.word = wordX X d.sus
 leaf : d.word = [] → d.br = []
 wl : d.word.length ≤ 127 ∧ ∀ a ∈ d.word, 0 ≤ a ∧ a < k
 kids : d.word ≠ [] → ∃ off, n < off ∧ off + (partsX X d.sus d.word).length ≤ T.length ∧ 2 ≤ (partsX X d.sus d.word).length ∧ d.br = brsF (partsX X d.sus d.word) off ∧ ∀ q p, (partsX X d.sus d.word)[q]? = some p → ∃ e, T[off + q]? = some e ∧ e.sus = p.2
theorem diagL_node {X : List Mach} {N : Nat} {k : Int} (hX : XOk X N k) (hN : 1 ≤ N) {n : Nat} {d : Nd} (hd : (diagL X N)[n]? = some d) : NodeOk X (diagL X N) N k n d := by
 obtain ⟨hD, hT⟩ := diagL_inv hX hN;have hn := (List.getElem?_eq_some_iff.1 hd).1;have hm := List.mem_of_getElem? hd;have hrg := hD.rng d hm;have hw := hT.w n d hn hd;have h2 := fun h => wordX_two hX.v (s := d.sus) (fun i hi => by have := hrg i hi; have := hX.n; omega) h;rw [← hw] at h2;refine ⟨hD.ne d hm, hT.sub d hm, hrg, hw, hT.br0 n d hn hd, ?_, fun h => ?_⟩
 ·by_cases h : d.word = []
  ·rw [h]; exact ⟨by decide, fun a ha => by cases ha⟩
  ·exact ⟨(h2 h).2.1, (h2 h).2.2⟩
 ·obtain ⟨off, a, b, c, e⟩ := hT.br n d hn hd h;exact ⟨off, a, b, (h2 h).1, c, e⟩
theorem toOf_brsF {r : List Int} : ∀ {ps : List (List Int × List Int)} {q off : Nat} {p : List Int × List Int}, ps[q]? = some p → p.1 = r → (∀ j p', j < q → ps[j]? = some p' → p'.1 ≠ r) → toOf (brsF ps off) r = some ((off + q : Nat) : Int)
 | [], _, _, _, h, _, _ => by simp at h
 | p' :: ps, 0, off, p, h, hr, _ => by
   simp only [List.getElem?_cons_zero, Option.some.injEq] at h;subst h;simp [toOf, brsF, hr]
 | p' :: ps, q + 1, off, p, h, hr, hn => by
   have h0 : p'.1 ≠ r := hn 0 p' (by omega) rfl;have := toOf_brsF (ps := ps) (q := q) (off := off + 1) (p := p) (by simpa using h) hr fun j x hj hx => hn (j + 1) x (by omega) (by simpa using hx);unfold toOf at this ⊢;rw [brsF, List.find?_cons, decide_eq_false h0];simp only;rw [this];congr 2; omega
theorem walk_leaf {X : List Mach} {N : Nat} {k : Int} (hX : XOk X N k) (hN : 1 ≤ N) {i : Int} (hi : 0 ≤ i ∧ i < N) : ∀ (f n : Nat) (d : Nd) (asked : List (List Int)), (diagL X N)[n]? = some d → (diagL X N).length ≤ f + n →
  (∀ w ∈ asked, WOk k.toNat w) → d.sus = (idL N).filter (fun j => asked.all fun w => decide (runR (atM X j) 0 w = runR (atM X i) 0 w)) →
  ∃ n' d' asked', walkF (diagL X N) (atM X i) f n asked = some (n', asked') ∧ (diagL X N)[n']? = some d' ∧ d'.word = [] ∧ d'.sus = clsF X N i ∧ asked'.length ≤ asked.length + f ∧ ∀ w ∈ asked', w ∈ asked ∨ ∃ d ∈ diagL X N, w = d.word
 | 0, n, d, asked, hd, hf, _, _ => by have := (List.getElem?_eq_some_iff.1 hd).1; omega
 | f + 1, n, d, asked, hd, hf, hA, hs => by
   have hO := diagL_node hX hN hd;have hiv := hX.at hi;have hmem : i ∈ d.sus := by rw [hs, List.mem_filter]; exact ⟨idL_mem.2 hi, by simp⟩
   by_cases hw : d.word = []
   ·refine ⟨n, d, asked, walkF_leaf hd hw, hd, hw, ?_, by omega, fun w h => .inl h⟩;have hal : ∀ j ∈ d.sus, ∀ v, WOk k.toNat v → runR (atM X i) 0 v = runR (atM X j) 0 v := by
     obtain ⟨a, r, har⟩ : ∃ a r, d.sus = a :: r := by
      cases hh : d.sus with
      | nil => exact absurd hh hO.ne
      | cons a r => exact ⟨a, r, rfl⟩
     have hz : firstD X a r = [] := by
      have := hO.w;rw [hw, har] at this; exact this.symm
     rcases firstD_spec (X := X) (a := a) (r := r) with ⟨_, h2⟩ | ⟨j, _, _, _, h⟩
     ·have hfirst : ∀ j ∈ d.sus, ∀ v, WOk k.toNat v → runR (atM X a) 0 v = runR (atM X j) 0 v := fun j hj v hv => by
        rw [har] at hj;have ha := hX.at (hO.rng a (by rw [har]; simp));rcases List.mem_cons.1 hj with rfl | hj
        ·rfl
        ·have hb := hX.at (hO.rng j (by rw [har]; simp [hj]));have h3 := h2 j hj;rcases diff_least ha.1 hb.1 (by rw [ha.2, hb.2]) with ⟨h4, _⟩ | ⟨_, _, h4⟩
         ·rw [h3] at h4; cases h4
         ·exact h4 v (by rw [ha.2]; exact hv)
      exact fun j hj v hv => (hfirst i hmem v hv).symm.trans (hfirst j hj v hv)
     ·exact absurd hz h
    have hfl : d.sus = (idL N).filter fun j => asked.all fun w => decide (runR (atM X j) 0 w = runR (atM X i) 0 w) := hs;rw [hfl];unfold clsF;refine List.filter_congr fun j hj => ?_;have hjv := hX.at (idL_mem.1 hj);rw [Bool.eq_iff_iff, eqM_iff hiv.1 hjv.1 (by rw [hiv.2, hjv.2]), hiv.2, List.all_eq_true];constructor
    ·intro h;exact hal j (by rw [hfl, List.mem_filter]; exact ⟨hj, List.all_eq_true.2 h⟩)
    ·intro h w hw;rw [decide_eq_true_eq];exact (h w (hA w hw)).symm
   ·obtain ⟨off, o1, o2, _, o4, o5⟩ := hO.kids hw;rw [walkF_go hd hw];obtain ⟨P, hP⟩ : ∃ P, P = partsX X d.sus d.word := ⟨_, rfl⟩;rw [← hP] at o2 o4 o5;have hI : PInv eqI (respK X d.word) d.sus P := by rw [hP]; exact dvL_inv (eqI_on _ _)
    obtain ⟨p, hp, hpe⟩ := hI.cov i hmem;simp only [eqI, decide_eq_true_eq] at hpe;obtain ⟨q, hq, rfl⟩ := List.getElem_of_mem hp;have hnd : (P.map (·.1)).Nodup := by rw [hP]; exact dvI_nodup d.sus [] List.nodup_nil
    have hto := toOf_brsF (off := off) (List.getElem?_eq_getElem hq) hpe fun j p' hj hp' he => by
     have hjl := (List.getElem?_eq_some_iff.1 hp').1;have e1 : (P.map (·.1))[j]? = (P.map (·.1))[q]? := by
      rw [List.getElem?_map, List.getElem?_map, hp', List.getElem?_eq_getElem hq];simp only [Option.map_some, he, hpe]
     have := (List.getElem?_inj (by rw [List.length_map]; exact hjl) hnd).1 e1;omega
    rw [o4, show runR (atM X i) 0 d.word = respK X d.word i from rfl, hto];simp only;obtain ⟨e, he1, he2⟩ := o5 q _ (List.getElem?_eq_getElem hq);have hef : e.sus = (idL N).filter (fun j => (asked ++ [d.word]).all fun w => decide (runR (atM X j) 0 w = runR (atM X i) 0 w)) := by
     rw [he2, hI.fil _ hp, hs, List.filter_filter];refine List.filter_congr fun j _ => ?_;rw [List.all_append];simp only [List.all_cons, List.all_nil, Bool.and_true, hpe];rw [Bool.and_comm];congr 1;simp only [eqI];rw [Bool.eq_iff_iff, decide_eq_true_eq, decide_eq_true_eq];exact ⟨fun h => h.symm, fun h => h.symm⟩
    obtain ⟨n', d', asked', a1, a2, a3, a4, a5, a6⟩ := walk_leaf hX hN hi f (off + q) e (asked ++ [d.word]) he1 (by omega) (fun w hw' => by
     rcases List.mem_append.1 hw' with h | h
     ·exact hA w h
     ·rw [List.mem_singleton] at h; subst h;intro a ha;have := hO.wl.2 a ha; omega) hef
    refine ⟨n', d', asked', by rw [Int.toNat_natCast]; exact a1, a2, a3, a4, by simp at a5; omega, fun w hw' => ?_⟩;rcases a6 w hw' with h | h
    ·rcases List.mem_append.1 h with h | h
     ·exact .inl h
     ·rw [List.mem_singleton] at h; exact .inr ⟨d, List.mem_of_getElem? hd, h⟩
    ·exact .inr h
theorem brsF_keys : ∀ (ps : List (List Int × List Int)) (off : Nat), (brsF ps off).map (·.1) = ps.map (·.1)
 | [], _ => rfl
 | p :: ps, off => by rw [brsF, List.map_cons, brsF_keys ps, List.map_cons]
theorem diagL_valid {X : List Mach} {N : Nat} {k : Int} (hX : XOk X N k) (hN : 1 ≤ N) (hk : 1 ≤ k ∧ k ≤ 16) : validT k (diagL X N) = true := by
 obtain ⟨hD, hT⟩ := diagL_inv hX hN;unfold validT;rw [Bool.and_eq_true];refine ⟨all_range_true fun n hn => ?_, ?_⟩;rotate_left
 ·obtain ⟨d, hd, _⟩ := hT.root;exact decide_eq_true (List.getElem?_eq_some_iff.1 hd).1
 have hd := List.getElem?_eq_getElem hn;rw [hd];generalize (diagL X N)[n] = d at hd;have hO := diagL_node hX hN hd;simp only;have hw0 : wordErr k d.word = 0 := (wordErr_iff hk).2 ⟨by have := hO.wl.1; omega, hO.wl.2⟩;unfold ndOk;rw [decide_eq_true hw0, Bool.true_and, Bool.and_eq_true];by_cases hw : d.word = []
 ·have hb := hO.leaf hw;rw [hw, hb];exact ⟨rfl, rfl⟩
 ·obtain ⟨off, o1, o2, o3, o4, o5⟩ := hO.kids hw;have hbl : d.br.length = (partsX X d.sus d.word).length := by rw [o4, brsF_len]
  have hwl := List.length_pos_iff.2 hw;refine ⟨by rw [decide_eq_false (by omega), decide_eq_false (by omega)]; rfl, all_range_true fun j hj => ?_⟩;have hjl : j < (partsX X d.sus d.word).length := by omega
  have hp := List.getElem?_eq_getElem hjl;have hm := List.getElem_mem hjl;generalize (partsX X d.sus d.word)[j] = p at hp hm;have hbj : d.br[j]? = some (p.1, ((off + j : Nat) : Int)) := by rw [o4]; exact brsF_get hp
  have hI : PInv eqI (respK X d.word) d.sus (partsX X d.sus d.word) := dvL_inv (eqI_on _ _);obtain ⟨i, hi, he⟩ := hI.key p hm;unfold brOk;rw [hbj];simp only;rw [decide_eq_true (show (n : Int) < ((off + j : Nat) : Int) by omega), decide_eq_true (show ((off + j : Nat) : Int) < ((diagL X N).length : Int) by omega), decide_eq_true (show p.1.length = d.word.length by rw [he, respK, runR_len]), Bool.true_and, Bool.true_and, Bool.true_and, Bool.not_eq_true', List.any_eq_false];intro c hc;rw [decide_eq_true_eq];intro hce;obtain ⟨q, hq, rfl⟩ := List.getElem_of_mem hc;rw [List.length_take] at hq;have hnd : ((partsX X d.sus d.word).map (·.1)).Nodup := dvI_nodup d.sus [] List.nodup_nil;rw [← brsF_keys _ off, ← o4] at hnd;have h1 : (d.br.map (·.1))[q]? = (d.br.map (·.1))[j]? := by
   rw [List.getElem?_map, List.getElem?_map, hbj, List.getElem?_eq_getElem (show q < d.br.length by omega)];rw [List.getElem_take] at hce;simp only [Option.map_some, hce]
  have := (List.getElem?_inj (by rw [List.length_map]; omega) hnd).1 h1;omega
open Go Go.ChangeShapes Go.RowKit
def Live (w : World) : Nat → Nat → Prop := fun b _ => b < w.heap.size
section
variable {H : Type} {enc : TypeId × Value → H} {P : Program} {w : World} {α β : Type}
def Fits (P : Program) (t : TypeId) (d : DataW H) : Prop := ∀ n ∈ d.weights P t, n ≤ reachBytes
theorem fits_all {P : Program} {e : TypeId} : ∀ {l : List (DataW H)}, (∀ n ∈ DataW.weightsAll P e l, n ≤ reachBytes) → ∀ d ∈ l, Fits P e d
 | [], _, d, hd => by cases hd
 | a :: l, h, d, hd => by
   simp only [DataW.weightsAll, List.mem_append] at h;rcases List.mem_cons.1 hd with rfl | hd
   ·exact fun n hn => h n (.inl hn)
   ·exact fits_all (fun n hn => h n (.inr hn)) d hd
theorem fits_each {P : Program} : ∀ {ts : List TypeId} {l : List (DataW H)}, (∀ n ∈ DataW.weightsEach P ts l, n ≤ reachBytes) → ∀ (i : Nat) t d, ts[i]? = some t → l[i]? = some d → Fits P t d
 | [], _, _, i, t, d, h1, _ => by simp at h1
 | _ :: _, [], _, i, t, d, _, h2 => by simp at h2
 | a :: ts, b :: l, h, i, t, d, h1, h2 => by
   simp only [DataW.weightsEach, List.mem_append] at h;cases i with
   | zero =>
     simp only [List.getElem?_cons_zero, Option.some.injEq] at h1 h2;subst h1; subst h2;exact fun n hn => h n (.inl hn)
   | succ i => exact fits_each (fun n hn => h n (.inr hn)) i t d (by simpa using h1) (by simpa using h2)
def Reads (enc : TypeId × Value → H) (P : Program) (w : World) (t : TypeId) (f : α → List AV) (Ok : α → Prop) : Prop :=
 ∀ fuel cs x, Fits P t x.1 → DataW.trod enc P w 0 (fun _ => true) true fuel t cs = some x →
   ∃ a, Ok a ∧ Imms (Live w) w cs (f a) ∧ ∀ v ∈ cs, v.oneCell' = true
theorem Imms.one {F : Nat → Nat → Prop} {v : Value} {x : AV} (h : Imm F w v x) : Imms F w [v] [x] :=
 ⟨rfl, fun i h1 _ => by have : i = 0 := by simpa using h1
                        subst this; exact h⟩
theorem Imms.append {F : Nat → Nat → Prop} {vs vs' : List Value} {xs xs' : List AV} (h : Imms F w vs xs) (h' : Imms F w vs' xs') : Imms F w (vs ++ vs') (xs ++ xs') := by
 have e := h.1;have e' := h'.1;refine ⟨by simp [e, e'], fun i h1 h2 => ?_⟩;by_cases hi : i < vs.length
 ·rw [List.getElem_append_left hi, List.getElem_append_left (by omega)]; exact h.2 i _ _
 ·rw [List.getElem_append_right (by omega), List.getElem_append_right (by omega)];have := h'.2 (i - vs.length) (by simp at h1; omega) (by simp at h2; omega);simpa only [e] using this
theorem Reads.mono {t : TypeId} {f : α → List AV} {Ok : α → Prop} {g : β → List AV} {Ok' : β → Prop} (h : Reads enc P w t f Ok) (hq : ∀ a, Ok a → ∃ b, Ok' b ∧ g b = f a) : Reads enc P w t g Ok' :=
 fun fuel cs x hs ht => let ⟨a, h1, h2, h3⟩ := h fuel cs x hs ht; let ⟨b, k1, k2⟩ := hq a h1; ⟨b, k1, by rw [k2]; exact h2, h3⟩
theorem Reads.int {t : TypeId} {k : IntKind} (ht : P.underlying t = some (.int k)) : Reads enc P w t (fun n : Int => [.sc (.int k n)]) (fun n => (Lit.int k n).wf = true) := fun fuel cs x _ h => by
 obtain ⟨n, rfl, rfl, hw⟩ := DataW.trod_int ht h;exact ⟨n, hw, .one (.sc _), by simp [Value.oneCell']⟩
theorem Reads.bool {t : TypeId} (ht : P.underlying t = some .bool) : Reads enc P w t (fun b : Bool => [.sc (.bool b)]) (fun _ => True) := fun fuel cs x _ h => by
 obtain ⟨b, rfl, rfl⟩ := DataW.trod_bool ht h;exact ⟨b, trivial, .one (.sc _), by simp [Value.oneCell']⟩
theorem pick {α : Type} {p : Nat → α → Prop} (n : Nat) (h : ∀ i, i < n → ∃ a, p i a) : ∃ l : List α, l.length = n ∧ ∀ i (hi : i < l.length), p i l[i] := by
 induction n with
 | zero => exact ⟨[], rfl, fun i hi => by simp at hi⟩
 | succ n ih =>
   obtain ⟨l, h1, h2⟩ := ih fun i hi => h i (by omega);obtain ⟨a, ha⟩ := h n (by omega);refine ⟨l ++ [a], by simp [h1], fun i hi => ?_⟩;by_cases h3 : i < l.length
   ·rw [List.getElem_append_left h3]; exact h2 i h3
   ·have : i = l.length := by simp at hi; omega
    subst this;rw [List.getElem_append_right (Nat.le_refl _)];simpa [h1] using ha
theorem Reads.slice {t e : TypeId} {f : α → List AV} {Ok : α → Prop} (ht : P.underlying t = some (.slice e)) (he : Reads enc P w e f Ok) (hz : ∀ a, (f a).length = P.cellsOf e) (hz0 : 0 < P.cellsOf e) :
  Reads enc P w t (fun x : Bool × List α => [.sl x.1 (x.2.map f) .unk]) (fun x => (∀ y ∈ x.2, Ok y) ∧ (x.1 = true → x.2 = []) ∧ x.2.length * P.bytesOf e ≤ reachBytes) := fun fuel cs x hs h => by
 rcases DataW.trod_slice ht h with ⟨rfl, rfl⟩ | ⟨a, len, cap, elems, rest, n, rfl, rfl, rfl, _, hlc, hcm, hlen, hel, hrest, _⟩
 ·exact ⟨(true, []), ⟨by simp, fun _ => rfl, by simp⟩, .one (.nil _ (.inl rfl)), by simp [Value.oneCell']⟩
 unfold Fits at hs;simp only [DataW.weights, ht, List.mem_cons, List.mem_append, List.length_map] at hs;have hbytes : len * P.bytesOf e ≤ reachBytes := by
  have := hs _ (.inl rfl);rw [hlen, Nat.add_mul] at this; omega
 have hfit : ∀ i (hi : i < elems.length), Fits P e elems[i].1 := fun i hi =>
  fits_all (l := elems.map (·.1)) (fun n hn => hs n (.inr (.inl hn))) _ (List.mem_map.2 ⟨_, List.getElem_mem hi, rfl⟩)
 by_cases hc0 : cap = 0
 ·have hl0 : len = 0 := by omega
  subst hc0; subst hl0;exact ⟨(false, []), ⟨by simp, by simp, by simp⟩, .one (.sz a _ (.inl rfl)), by simp [Value.oneCell']⟩
 have hfirst : ∃ v, w.cell? a = some v := by
  have hcells : ∃ cs', w.cells? 0 a (P.cellsOf e) = some cs' := by
   by_cases hl0 : len = 0
   ·subst hl0;have h1 := (hrest rfl).2 0 (by omega);rw [List.getElem?_eq_getElem (by rw [(hrest rfl).1]; omega)] at h1;obtain ⟨cs', h2, _⟩ := Option.bind_eq_some_iff.1 h1;refine ⟨cs', ?_⟩;simpa [Addr.add] using h2
   ·have h1 := hel 0 (by omega);rw [List.getElem?_eq_getElem (by omega)] at h1;obtain ⟨cs', h2, _⟩ := Option.bind_eq_some_iff.1 h1;refine ⟨cs', ?_⟩;simpa [Addr.add] using h2
  obtain ⟨cs', h2⟩ := hcells;obtain ⟨_, q1, q2⟩ := World.cells?_some h2;have := q2 0 hz0;rw [List.getElem?_eq_getElem (by omega)] at this;exact ⟨_, by simpa [Addr.add] using this⟩
 have hsp : a.spot = none := by
  obtain ⟨v, hv⟩ := hfirst;unfold World.cell? at hv;cases hsp : a.spot with
  | none => rfl
  | some k =>
    rw [hsp] at hv;split at hv <;> simp at hv
 obtain ⟨b, off, spt⟩ := a;cases hsp;have key : ∀ i, i < len → ∃ y : α, Ok y ∧ ∃ cs', cs'.length = P.cellsOf e ∧ (∀ j (hj : j < cs'.length), w.cell? ⟨b, off + i * P.cellsOf e + j, none⟩ = some cs'[j]) ∧ Imms (Live w) w cs' (f y) ∧ ∀ v ∈ cs', v.oneCell' = true := fun i hi => by
  have h1 := hel i hi;rw [List.getElem?_eq_getElem (by omega)] at h1;obtain ⟨cs', h2, h3⟩ := Option.bind_eq_some_iff.1 h1;obtain ⟨y, k1, k2, k3⟩ := he _ _ _ (hfit i (by omega)) h3;obtain ⟨_, q1, q2⟩ := World.cells?_some h2;refine ⟨y, k1, cs', q1, fun j hj => ?_, k2, k3⟩;have := q2 j (by omega);rw [List.getElem?_eq_getElem hj] at this;rw [← this];congr 1;unfold Addr.add;by_cases e1 : i * P.cellsOf e = 0
  ·rw [if_pos e1];by_cases e2 : j = 0
   ·subst e2; simp [e1]
   ·rw [if_neg e2]; simp [e1]
  ·rw [if_neg e1];by_cases e2 : j = 0
   ·subst e2; simp
   ·rw [if_neg e2]
 obtain ⟨l, hl, hp⟩ := pick len key;refine ⟨(false, l), ⟨fun y hy => ?_, by simp, by rw [hl]; exact hbytes⟩, .one ?_, by simp [Value.oneCell']⟩
 ·obtain ⟨i, hi, rfl⟩ := List.getElem_of_mem hy;exact (hp i hi).1
 ·
  have hcell : ∀ i j, i < len → j < P.cellsOf e → ∃ v, w.cell? ⟨b, off + i * P.cellsOf e + j, none⟩ = some v ∧ v.oneCell' = true ∧ ∀ (h : i < l.length) (h' : j < (f l[i]).length), Imm (Live w) w v (f l[i])[j] := fun i j hi hj => by
   obtain ⟨_, cs', q1, q2, q3, q4⟩ := hp i (by omega);exact ⟨cs'[j], q2 j (by omega), q4 _ (List.getElem_mem _), fun h h' => q3.2 j (by omega) h'⟩
  have hv := fun i j => show ∃ v, i < len → j < P.cellsOf e → w.cell? ⟨b, off + i * P.cellsOf e + j, none⟩ = some v ∧ v.oneCell' = true ∧ ∀ (h : i < l.length) (h' : j < (f l[i]).length), Imm (Live w) w v (f l[i])[j] from by
   by_cases h : i < len ∧ j < P.cellsOf e
   ·obtain ⟨v, hv⟩ := hcell i j h.1 h.2; exact ⟨v, fun _ _ => hv⟩
   ·exact ⟨undef, fun h1 h2 => absurd ⟨h1, h2⟩ h⟩
  have hvs : ∀ i j, ∃ v, v = Classical.choose (hv i j) := fun i j => ⟨_, rfl⟩;have e0 : (l.map f).length = len := by simp [hl]
  have := Imm.sl (F := Live w) (w := w) b off cap (P.cellsOf e) (l.map f) .unk (fun i j => Classical.choose (hv i j)) (by rw [e0]; exact hlc) (.inl rfl) (fun i hi => by rw [List.getElem_map]; exact hz _)
   (fun i j hi hj => by
    obtain ⟨k1, k2, _⟩ := Classical.choose_spec (hv i j) (by rw [← e0]; exact hi) hj;refine ⟨?_, k1, k2⟩;unfold World.cell? at k1;show b < w.heap.size;cases hb : w.heap[b]? with
    | none => simp [hb] at k1
    | some o => exact (Array.getElem?_eq_some_iff.1 hb).1)
   (fun i j h h' => by
    have h'2 := h';rw [List.getElem_map, hz] at h'2;have := (Classical.choose_spec (hv i j) (by rw [← e0]; exact h) h'2).2.2 (by simpa using h) (by rw [hz]; exact h'2);simpa only [List.getElem_map] using this)
  rw [e0] at this;exact this
def RdF (enc : TypeId × Value → H) (P : Program) (w : World) (L : List Field) (k tot : Nat) (f : α → List AV) (Ok : α → Prop) : Prop :=
 ∀ (n : Nat) (cs : List Value), cs.length = tot → (∀ fd ∈ L, ∃ y, DataW.trod enc P w 0 (fun _ => true) true n fd.type ((cs.drop fd.offset).take (P.cellsOf fd.type)) = some y ∧ Fits P fd.type y.1) →
   ∃ a, Ok a ∧ Imms (Live w) w (cs.drop k) (f a) ∧ ∀ v ∈ cs.drop k, v.oneCell' = true
theorem RdF.nil {tot : Nat} : RdF enc P w [] tot tot (fun _ : Unit => []) (fun _ => True) := fun n cs hl _ => by
 have : cs.drop tot = [] := by rw [List.drop_eq_nil_iff]; omega
 rw [this];exact ⟨(), trivial, ⟨rfl, fun i h => by simp at h⟩, by simp⟩
theorem RdF.cons {fd : Field} {fs : List Field} {k k' sz tot : Nat} {f : α → List AV} {Ok : α → Prop} {g : β → List AV} {Ok' : β → Prop} (ho : fd.offset = k) (hz : P.cellsOf fd.type = sz) (hk : k + sz = k')
  (h : Reads enc P w fd.type f Ok) (hs : RdF enc P w fs k' tot g Ok') : RdF enc P w (fd :: fs) k tot (fun x : α × β => f x.1 ++ g x.2) (fun x => Ok x.1 ∧ Ok' x.2) := fun n cs hl hf => by
 obtain ⟨y, hy, hyf⟩ := hf fd List.mem_cons_self;obtain ⟨a, h1, h2, h3⟩ := h _ _ _ hyf hy;obtain ⟨b, k1, k2, k3⟩ := hs n cs hl fun fd' h' => hf fd' (List.mem_cons_of_mem _ h');have e : cs.drop k = (cs.drop k).take sz ++ cs.drop k' := by
  rw [← hk, ← List.drop_drop, List.take_append_drop]
 rw [ho, hz] at h2 h3;refine ⟨(a, b), ⟨h1, k1⟩, by rw [e]; exact h2.append k2, fun v hv => ?_⟩;rw [e, List.mem_append] at hv;rcases hv with hv | hv
 ·exact h3 v hv
 ·exact k3 v hv
theorem Reads.struct {t : TypeId} {fs : Array Field} {tot : Nat} {f : α → List AV} {Ok : α → Prop} (ht : P.underlying t = some (.struct fs)) (hz : P.cellsOf t = tot) (h : RdF enc P w fs.toList 0 tot f Ok) : Reads enc P w t f Ok := fun fuel cs x hs hx => by
 obtain ⟨xs, n, _, rfl, hl, hlen, hf⟩ := DataW.trod_struct ht hx;unfold Fits at hs;simp only [DataW.weights, ht] at hs;obtain ⟨a, h1, h2, h3⟩ := h n cs (hl.trans hz) fun fd hfd => by
  obtain ⟨i, hi, rfl⟩ := List.getElem_of_mem hfd;have := hf i fs.toList[i] (by simp);have hix : i < xs.length := by simp at hi; omega
  rw [List.getElem?_eq_getElem hix] at this;exact ⟨_, this, fits_each hs i _ _ (by rw [List.getElem?_map, List.getElem?_eq_getElem hi]; rfl) (by rw [List.getElem?_map, List.getElem?_eq_getElem hix]; rfl)⟩
 exact ⟨a, h1, by simpa using h2, by simpa using h3⟩
theorem Reads.imm_struct {t : TypeId} {fs : Array Field} {f : α → List AV} {Ok : α → Prop} {r : Reach} {b0 : Nat} {v : Value} {d : DataW H} {ps : List MemPlace} (ht : P.underlying t = some (.struct fs)) (h : Reads enc P w t f Ok)
  (hv : Value.okWide P w r b0 t v) (hw : Fits P t d) (hd : DataW.Trod enc P w 0 (fun _ => true) true t v d ps) : ∃ a, Ok a ∧ Imm (Live w) w v (.ag (f a)) := by
 obtain ⟨cs, rfl, _⟩ := WideShapes.okWide_struct ht hv;obtain ⟨fuel, hd⟩ := hd;obtain ⟨a, h1, h2, _⟩ := h _ _ _ hw hd;refine ⟨a, h1, ?_⟩;have : (Value.agg cs) = .agg cs.toList.toArray := by simp
 rw [this];exact .ag _ _ h2.1 h2.2
theorem Grown.below {F F' : Nat → Nat → Prop} {w' : World} (g : Avl.Grown F w F' w') : Below w.heap.size w w' := ⟨g.kept.os, g.kept.tape, g.kept.output, g.size, g.old⟩
theorem trodAll_stays (hl : laidOutB P = true) {w' : World} (hb : Below w.heap.size w w') {spf : Nat → Bool} : ∀ {ts : List TypeId} {vs : List Value} {ds : List (DataW H)} {ps : List MemPlace}, (∀ t ∈ ts, P.readableRec t = true ∧ t < P.types.size) →
  DataW.TrodAll enc P w 0 (fun _ => true) true ts vs ds ps → (∀ p ∈ ps, p.block < w.heap.size) → (∀ p ∈ ps, spf p.block = true) → DataW.TrodAll enc P w' 0 spf true ts vs ds ps
 | [], [], [], _, _, h, _, _ => h
 | t :: ts, v :: vs, d :: ds, _, hr, ⟨p, q, h1, h2, e⟩, hlt, hsp => by
   subst e;refine ⟨p, q, ?_, trodAll_stays hl hb (fun t ht => hr t (List.mem_cons_of_mem _ ht)) h2 (fun x hx => hlt x (List.mem_append_right _ hx)) fun x hx => hsp x (List.mem_append_right _ hx), rfl⟩;have := hr t List.mem_cons_self;exact WideElems.Trod_stays hl this.1 this.2 h1 (fun x hx => hb.same (hlt x (List.mem_append_left _ hx))) fun x hx => hsp x (List.mem_append_left _ hx)
 | [], _ :: _, _, _, _, h, _, _ => h.elim
 | [], [], _ :: _, _, _, h, _, _ => h.elim
 | _ :: _, [], _, _, _, h, _, _ => h.elim
 | _ :: _, _ :: _, [], _, _, h, _, _ => h.elim
theorem law_calls {f : FuncId} {fn : Func} {s : ChangeSpec} {apart fresh handsOn again : Bool} {args : Array Value} {avs : List AV} {ds : List (DataW H)} {before : List MemPlace} {tb : TypeId}
  (hl : laidOutB P = true) (hrd : (fn.params.toList.all fun t => P.readableRec t && decide (t < P.types.size)) = true) (hrt : fn.resultTypes = #[tb]) (htb : P.underlying tb = some .bool) (hvars : s.vars = [])
  (hs : s.fn H (ds ++ []) = { results := [.lit (.bool true)], args := ds })
  (h : PureIs P f avs (.sc (.bool true))) (hi : Imms (Live w) w args.toList avs) (hW : DataW.Whole enc P fn.params.toList s.vars apart w args.toList ds [] before) (hgl : Globs (Live w) w := by exact fun g vs hg => by cases hg) :
  Calls P f args w fun e W' => ∃ v, e = .returned v ∧ s.post enc P fn apart fresh handsOn again w args v W' := by
 have hW' := hW;obtain ⟨p, q, hA, hV, rfl, hfz, hnd⟩ := hW;rw [hvars] at hV;obtain ⟨_, rfl⟩ := trodVars_none hV;have hc := callsIn_wide.1 (h.2 (Live w) w args.toList ⟨fun _ _ h => h, hgl⟩ hi);rw [Array.toArray_toList] at hc;refine hc.mono fun e W' ⟨v, F', he, hr, g⟩ => ?_;have hv : v = .bool true := by cases hr; rfl
 subst hv;have hb := Grown.below g;refine ⟨_, he, post_of_same (pa := p) (pv := []) (by simpa using hW') (fun _ _ _ => ?_) (fun sp hsp => ?_) (fun _ _ => ?_) (by simp) (hb.frame _) g.kept.froz ?_⟩
 ·rw [hs, hrt]; exact trodAll_mk1 (shut_bool htb true)
 ·rw [hs];refine trodAll_stays hl hb (fun t ht => ?_) hA (fun x hx => hW'.lt x (by simpa using hx)) fun x hx => hsp x (by simpa using hx);have := List.all_eq_true.1 hrd t ht;simpa using this
 ·rw [hvars, hs]; exact rfl
 ·exact ok_one hrt rfl (okWide_bool_mk htb true)
end
open Go Go.Proofs
end Go.Avl
namespace Go.Proofs.YtgdcjkcohmjbeaaGreatDoor
open Go Go.Avl Go.Proofs Go.ChangeShapes Go.RowKit
theorem Tryz.own : ownKnob Tryz.prog.godebug = none := by kernel_rfl
theorem Tryz.laidOut : laidOutB Tryz.prog = true := by kernel_rfl
abbrev laidT : List (String × DataW Unit) := [("gauntlet/faults.table", Rows.laid_gauntlet_faults_table)]
section
variable {H : Type} {enc : TypeId × Value → H} {w : World}
theorem u8wf {n : Int} (h : (Lit.int .u8 n).wf = true) : 0 ≤ n ∧ n < 256 := by
 simp [Lit.wf, IntKind.min, IntKind.max, IntKind.signed, IntKind.bits] at h;omega
theorem len_of {n b : Nat} (hb : 1 ≤ b) (h : n * b ≤ reachBytes) : (n : Int) ≤ 140737488355328 := by
 have h1 : n * 1 ≤ n * b := Nat.mul_le_mul_left n hb;have h2 : reachBytes ≤ 140737488355328 := by decide
 omega
theorem rd_u8 : Reads enc Tryz.prog w 5 u8C (fun n => 0 ≤ n ∧ n < 256) := (Reads.int (by kernel_rfl)).mono fun a h => ⟨a, u8wf h, rfl⟩
theorem u16wf {n : Int} (h : (Lit.int .u16 n).wf = true) : 0 ≤ n ∧ n < 65536 := by
 simp [Lit.wf, IntKind.min, IntKind.max, IntKind.signed, IntKind.bits] at h;omega
theorem rd_u16 : Reads enc Tryz.prog w 53 u16C (fun n => 0 ≤ n ∧ n < 65536) := (Reads.int (by kernel_rfl)).mono fun a h => ⟨a, u16wf h, rfl⟩
theorem rd_u16s : Reads enc Tryz.prog w 22 (fun x : Bool × List Int => [.sl x.1 (x.2.map u16C) .unk]) (fun x => (∀ e ∈ x.2, 0 ≤ e ∧ e < 65536) ∧ (x.2.length : Int) ≤ 140737488355328) :=
 (Reads.slice (by kernel_rfl) rd_u16 (fun a => by rw [show Program.cellsOf Tryz.prog 53 = 1 by kernel_rfl]; rfl) (by rw [show Program.cellsOf Tryz.prog 53 = 1 by kernel_rfl]; exact Nat.succ_pos _)).mono fun a h => ⟨a, ⟨h.1, len_of (b := Program.bytesOf Tryz.prog 53) (by decide +kernel) h.2.2⟩, rfl⟩
theorem rd_LM : Reads enc Tryz.prog w 24 LM.cells LM.Ok := by
 have := (Reads.struct (enc := enc) (w := w) (tot := 5) Tryz.underlying24 (by kernel_rfl) (.cons (sz := 1) rfl (by kernel_rfl) rfl rd_u8 (.cons (sz := 1) rfl (by kernel_rfl) rfl rd_u8 (.cons (sz := 1) rfl (by kernel_rfl) rfl rd_u8 (.cons (sz := 1) rfl (by kernel_rfl) rfl (Reads.bool Tryz.underlying4)
  (.cons (sz := 1) rfl (by kernel_rfl) rfl rd_u16s .nil))))))
 exact this.mono fun a h => ⟨⟨a.1, a.2.1, a.2.2.1, a.2.2.2.1, a.2.2.2.2.1.1, a.2.2.2.2.1.2, .unk⟩, ⟨h.1.1, h.2.1.1, h.2.2.1.1, h.2.2.2.2.1.1⟩, rfl⟩
theorem rd_S : Reads enc Tryz.prog w 26 (fun x : LM × Bool × List Int => x.1.cells ++ [.sl x.2.1 (x.2.2.map u16C) .unk]) (fun x => x.1.Ok ∧ ∀ e ∈ x.2.2, 0 ≤ e ∧ e < 65536) := by
 have := (Reads.struct (enc := enc) (w := w) (tot := 6) Tryz.underlying26 (by kernel_rfl) (.cons (sz := 5) rfl (by kernel_rfl) rfl rd_LM (.cons (sz := 1) rfl (by kernel_rfl) rfl rd_u16s .nil)));exact this.mono fun a h => ⟨⟨a.1, a.2.1.1, a.2.1.2⟩, ⟨h.1, h.2.1.1⟩, by simp⟩
end
theorem gTable : Tryz.prog.globalNamed "gauntlet/faults.table" = some 0 := by kernel_rfl
theorem tTable : (Tryz.prog.globals[0]?).map (·.type) = some 160 := by kernel_rfl
theorem string_eq {s t : ByteArray} (h : s.data.toList = t.data.toList) : s = t := by
 obtain ⟨⟨l⟩⟩ := s; obtain ⟨⟨k⟩⟩ := t;simp only at h;rw [h]
set_option maxRecDepth 100000 in
theorem kind_cells {W : World} {m : Nat} {cs : List Value} {n : List UInt8} {a b c : Bool} {ps : List MemPlace} (h : DataW.trod (fun _ => ()) Tryz.prog W 0 (fun _ => true) false m 159 cs = some (.agg [.lit (.string n), .lit (.bool a), .lit (.bool b), .lit (.bool c)], ps)) :
  cs = [kindN n, .bool a, .bool b, .bool c] := by
 obtain ⟨xs, k, _, he, hl, hlen, hf⟩ := DataW.trod_struct Tryz.underlying159 h;have hl4 : cs.length = 4 := hl.trans (by kernel_rfl)
 match cs, hl4 with
 | [c0, c1, c2, c3], _ =>
   have h0 : DataW.trod (fun _ => ()) Tryz.prog W 0 (fun _ => true) false k 9 (([c0, c1, c2, c3].drop 0).take (Program.cellsOf Tryz.prog 9)) = xs[0]? := hf 0 _ rfl;have h1 : DataW.trod (fun _ => ()) Tryz.prog W 0 (fun _ => true) false k 4 (([c0, c1, c2, c3].drop 1).take (Program.cellsOf Tryz.prog 4)) = xs[1]? := hf 1 _ rfl;have h2 : DataW.trod (fun _ => ()) Tryz.prog W 0 (fun _ => true) false k 4 (([c0, c1, c2, c3].drop 2).take (Program.cellsOf Tryz.prog 4)) = xs[2]? := hf 2 _ rfl;have h3 : DataW.trod (fun _ => ()) Tryz.prog W 0 (fun _ => true) false k 4 (([c0, c1, c2, c3].drop 3).take (Program.cellsOf Tryz.prog 4)) = xs[3]? := hf 3 _ rfl;have e9 : Program.cellsOf Tryz.prog 9 = 1 := by kernel_rfl
   have e4 : Program.cellsOf Tryz.prog 4 = 1 := by kernel_rfl
   simp only [e9, e4, List.drop_zero, List.drop_succ_cons, List.take_succ_cons, List.take_zero] at h0 h1 h2 h3
   match xs, hlen with
   | [x0, x1, x2, x3], _ =>
     simp only [Prod.mk.injEq, DataW.agg.injEq, List.map_cons, List.map_nil, List.cons.injEq, and_true] at he;obtain ⟨⟨e0, e1, e2, e3⟩, _⟩ := he;obtain ⟨s, q0, r0, _⟩ := DataW.trod_string Tryz.underlying9 h0;obtain ⟨b1, q1, r1⟩ := DataW.trod_bool Tryz.underlying4 h1;obtain ⟨b2, q2, r2⟩ := DataW.trod_bool Tryz.underlying4 h2;obtain ⟨b3, q3, r3⟩ := DataW.trod_bool Tryz.underlying4 h3;rw [r0] at e0; rw [r1] at e1; rw [r2] at e2; rw [r3] at e3;simp only [DataW.lit.injEq, Lit.string.injEq, Lit.bool.injEq] at e0 e1 e2 e3;simp only [List.cons.injEq, and_true] at q0 q1 q2 q3;subst q0 q1 q2 q3 e1 e2 e3;have : s = ⟨n.toArray⟩ := string_eq (by simpa using e0.symm);rw [this]; rfl
set_option maxRecDepth 100000 in
theorem globs_of {W : World} (h : laidMetH Tryz.prog laidT W) : Globs (Live W) W := by
 rw [MakeChecks.laidMetH_plain _ _ _ (by kernel_rfl)] at h;obtain ⟨ps, ⟨g, t, cs, fuel, p, q, hg, ht, hvar, hd, _, _⟩, _, _⟩ := h;obtain rfl := Option.some.inj (gTable.symm.trans hg);obtain rfl := Option.some.inj (tTable.symm.trans ht);obtain ⟨xs, m, _, he, hl, hlen, hf⟩ := DataW.trod_array Tryz.underlying160 hd;have e159 : Program.cellsOf Tryz.prog 159 = 4 := by kernel_rfl
 have hl20 : cs.toList.length = 20 := hl.trans (by kernel_rfl);have hcs : cs.toList = kindTab := by
  rw [e159] at hf
  match xs, hlen with
  | [x0, x1, x2, x3, x4], _ =>
    have h0 := hf 0 (by decide);have h1 := hf 1 (by decide);have h2 := hf 2 (by decide);have h3 := hf 3 (by decide);have h4 := hf 4 (by decide);simp only [Rows.laid_gauntlet_faults_table, Prod.mk.injEq, DataW.agg.injEq, List.map_cons, List.map_nil, List.cons.injEq, and_true] at he;obtain ⟨⟨e0, e1, e2, e3, e4⟩, _⟩ := he;obtain ⟨d0, p0⟩ := x0;obtain ⟨d1, p1⟩ := x1;obtain ⟨d2, p2⟩ := x2;obtain ⟨d3, p3⟩ := x3;obtain ⟨d4, p4⟩ := x4;simp only at e0 e1 e2 e3 e4;subst e0 e1 e2 e3 e4;have k0 := kind_cells h0;have k1 := kind_cells h1;have k2 := kind_cells h2;have k3 := kind_cells h3;have k4 := kind_cells h4;have key : cs.toList = (cs.toList.drop (0 * 4)).take 4 ++ ((cs.toList.drop (1 * 4)).take 4 ++ ((cs.toList.drop (2 * 4)).take 4 ++ ((cs.toList.drop (3 * 4)).take 4 ++ (cs.toList.drop (4 * 4)).take 4))) := by
     have e : (cs.toList.drop (4 * 4)).take 4 = cs.toList.drop (4 * 4) := List.take_of_length_le (by rw [List.length_drop, hl20]; decide);rw [e];have s : ∀ k, cs.toList.drop (k * 4) = (cs.toList.drop (k * 4)).take 4 ++ cs.toList.drop ((k + 1) * 4) := fun k => by
      rw [show (k + 1) * 4 = k * 4 + 4 by omega, ← List.drop_drop, List.take_append_drop]
     have z : cs.toList = cs.toList.drop (0 * 4) := by simp
     exact z.trans ((s 0).trans (congrArg _ ((s 1).trans (congrArg _ ((s 2).trans (congrArg _ ((s 3).trans (congrArg _ rfl))))))))
    rw [k0, k1, k2, k3, k4] at key;rw [key]; rfl
 intro g vs hgv j hj
 match g, hgv with
 | 0, hgv =>
   have hgv : kindTab = vs := by simpa [laidAt] using hgv
   subst hgv;have hc := World.var?_cell gTable hvar j;have : cs[j]? = some kindTab[j] := by rw [← Array.getElem?_toList, hcs, List.getElem?_eq_getElem hj]
   rw [this] at hc;refine ⟨?_, hc⟩;unfold World.cell? at hc;show 0 < W.heap.size;cases hb : W.heap[0]? with
   | none => simp [hb] at hc
   | some o => exact (Array.getElem?_eq_some_iff.1 hb).1
theorem door_met (os : Os) (args : Array Value) : laidMetH Tryz.prog laidT ((World.doorLaid Tryz.prog 400 os).forCall (fun _ _ => 0) ⟨#[], args, []⟩).memory :=
 laidMetH_of_parts3 (fuel := 8) (laidMet_of_run' 8 (by kernel_rfl) (by kernel_rfl)) (by kernel_rfl) (by kernel_rfl)
end Go.Proofs.YtgdcjkcohmjbeaaGreatDoor
namespace Go.Avl
open Go Go.Proofs.Tryz
set_option maxRecDepth 10000
def brU (b : List Int × Int) : List AV := [.sl b.1.isEmpty (b.1.map intC) .unk, .sc (.int .i64 b.2)]
def wU (w : List Int) : AV := .sl w.isEmpty (w.map intC) (if w.isEmpty then .zer else .unk)
def bU (bs : List (List Int × Int)) : AV := .sl bs.isEmpty (bs.map brU) (if bs.isEmpty then .zer else .unk)
def ndU (d : Nd) : List AV := [.sl false (d.sus.map intC) .unk, wU d.word, bU d.br]
theorem ndU_norefs (d : Nd) : AV.norefs (ndU d) = true := rfl
theorem ndUs_norefs (l : List Nd) : (l.map ndU).all AV.norefs = true := by
 rw [List.all_eq_true];intro c hc;obtain ⟨d, _, rfl⟩ := List.mem_map.1 hc;exact ndU_norefs d
structure NdSm (d : Nd) : Prop where
 s : d.sus.length < 1000000
 w : d.word.length < 1000000
 b : d.br.length < 1000000
 r : ∀ b ∈ d.br, b.1.length < 1000000
set_option maxHeartbeats 4000000 in
theorem treeSame_is (l : List Nd) (hd : ∀ d ∈ l, NdSm d) (hl : l.length < 1000000) : PureIs prog 7 [.sl false (l.map ndC) .full, .sl false (l.map ndU) .unk] (.sc (.bool true)) := by
 have hAl : (l.map ndC).length = l.length := List.length_map _;have hBl : (l.map ndU).length = l.length := List.length_map _;have hA : ∀ k d, l[k]? = some d → (l.map ndC)[k]? = some (ndC d) := fun k d h => by rw [List.getElem?_map, h]; rfl
 have hB : ∀ k d, l[k]? = some d → (l.map ndU)[k]? = some (ndU d) := fun k d h => by rw [List.getElem?_map, h]; rfl
 have hAn := nds_norefs l;have hBn := ndUs_norefs l;generalize l.map ndC = A at hAl hA hAn ⊢;generalize l.map ndU = B at hBl hB hBn ⊢;refine PureIs.of1 2 [4, 5, 6, 11, 15, 58, 66, 109] func7 ntmps7 results7 fun _ => ?_;refine EvC.a ?_;refine EvC.seq ?_;refine EvC.a ?_ (by simp only [go_sem, hAl, hBl] <;> rfl);refine EvC.cs ?_;refine EvC.seq ?_;refine EvC.a ?_;refine EvC.block ?_;refine EvC.loopS (σ := Nat) (fun i => ⟨[(0, .sl false A .full), (1, .sl false B .unk), (5, .sc (.int .i64 i))], [], [], 0⟩) (fun i => l.length - i) (fun i => i ≤ l.length) [0, 1, 5] 0 ?_ ?_
 ·exact ⟨[], 0, rfl, (by simp only [go_sem, Int.natCast_zero] <;> rfl), Nat.zero_le _⟩
 intro i hi;refine EvC.seq ?_;refine EvC.a ?_ (by simp only [go_sem, hAl] <;> rfl);refine EvC.cond (by simp only [go_sem] <;> rfl) (fun hc => ?_) (fun hc => ?_);rotate_left
 ·refine EvC.exit ?_;refine EvC.a ?_;refine EvC.rz ?_;simp only [go_sem]
 have hil : i < l.length := by simpa using hc
 clear hc;have hge : l[i]? = some l[i] := List.getElem?_eq_getElem hil;have hsm := hd _ (List.getElem_mem hil);generalize l[i] = d at hge hsm;have hAg := hA i d hge;have hBg := hB i d hge;obtain ⟨sus, wd, bd⟩ := d;simp only [ndC, ndU, wAV, wU, bAV, bU] at hAg hBg;obtain ⟨h1, h2, h3, h4⟩ := hsm;simp only at h1 h2 h3 h4;have q1 := same_is false sus .full false sus .unk h1;have q2 := same_is wd.isEmpty wd (if wd.isEmpty then .zer else .full) wd.isEmpty wd (if wd.isEmpty then .zer else .unk) h2;rw [decide_eq_true rfl] at q1 q2;have hCl : (bd.map brC).length = bd.length := List.length_map _;have hDl : (bd.map brU).length = bd.length := List.length_map _;have hC : ∀ k b, bd[k]? = some b → (bd.map brC)[k]? = some (brC b) := fun k d h => by rw [List.getElem?_map, h]; rfl
 have hD : ∀ k b, bd[k]? = some b → (bd.map brU)[k]? = some (brU b) := fun k d h => by rw [List.getElem?_map, h]; rfl
 generalize bd.map brC = C at hAg hCl hC;generalize bd.map brU = D at hBg hDl hD;generalize (if bd.isEmpty then Cp.zer else Cp.full) = c1 at hAg;generalize (if bd.isEmpty then Cp.zer else Cp.unk) = c2 at hBg;generalize (if wd.isEmpty then Cp.zer else Cp.full) = c3 at hAg q2;generalize (if wd.isEmpty then Cp.zer else Cp.unk) = c4 at hBg q2;have hit : (i : Int).toNat = i := Int.toNat_natCast i;refine EvC.skip ?_;refine EvC.seq ?_;refine EvC.block ?_;refine EvC.seq ?_;refine EvC.k2D mixed ?_ (h1 := by simp only [go_sem, hAg, hBg, hit, hAl, hBl, hCl, hDl] <;> rfl) (k1 := by simp; try omega) (c1 := .ca q1) (h2 := by simp only [go_sem, hAg, hBg, hit, hAl, hBl, hCl, hDl] <;> rfl) (k2 := by simp; try omega) (c2 := .cg q2) (h3 := by simp only [go_sem, hAg, hBg, hit, hAl, hBl, hCl, hDl] <;> rfl) (k3 := by simp; try omega);refine EvC.cs ?_;refine EvC.a ?_;refine EvC.block ?_;refine EvC.loopS (σ := Nat) (fun k => ⟨[(0, .sl false A .full), (1, .sl false B .unk), (5, .sc (.int .i64 i)), (6, .sc (.int .i64 k))], [], [], 0⟩) (fun k => bd.length - k) (fun k => k ≤ bd.length) [0, 1, 5, 6] 0 ?_ ?_
 ·exact ⟨[], 0, rfl, (by simp only [go_sem, Int.natCast_zero] <;> rfl), Nat.zero_le _⟩
 intro k hk;refine EvC.seq ?_;refine EvC.a ?_ (by simp only [go_sem, hAg, hit, hAl, hCl] <;> rfl) (by simp; try omega);refine EvC.cond (by simp only [go_sem] <;> rfl) (fun hc => ?_) (fun hc => ?_);rotate_left
 ·refine EvC.exit ?_;refine EvC.b ?_ (hok := by exact inI64_of (by omega) (by omega));exact ⟨[], i + 1, rfl, (by simp only [go_sem, Int.natCast_add, Int.natCast_one] <;> rfl), hil, by omega⟩
 have hkl : k < bd.length := by simpa using hc
 clear hc;have hkt : (k : Int).toNat = k := Int.toNat_natCast k;have hke : bd[k]? = some bd[k] := List.getElem?_eq_getElem hkl;have hkm := h4 _ (List.getElem_mem hkl);generalize bd[k] = b at hke hkm;have hCg := hC k b hke;have hDg := hD k b hke;obtain ⟨b1, b2⟩ := b;simp only [brC, brU] at hCg hDg hkm;have q3 := same_is false b1 .full b1.isEmpty b1 .unk hkm;rw [decide_eq_true rfl] at q3;refine EvC.skip ?_;refine EvC.seq ?_;refine EvC.block ?_;refine EvC.k1D mixed ?_ (h1 := by simp only [go_sem, hAg, hBg, hit, hAl, hBl, hCl, hDl, hkt, hCg, hDg] <;> rfl) (k1 := by simp; try omega) (c1 := .cg q3) (h2 := by simp only [go_sem, hAg, hBg, hit, hAl, hBl, hCl, hDl, hkt, hCg, hDg] <;> rfl) (k2 := by simp; try omega);refine EvC.cs ?_;refine EvC.b ?_ (hok := by exact inI64_of (by omega) (by omega));exact ⟨[], k + 1, rfl, (by simp only [go_sem, Int.natCast_add, Int.natCast_one] <;> rfl), hkl, by omega⟩
theorem Fresh.step {X : List Mach} {out : List Nd} {n : Nat} (h : ∀ j d, n ≤ j → out[j]? = some d → d.word = [] ∧ d.br = []) : ∀ j d, n + 1 ≤ j → (dgStep X out n)[j]? = some d → d.word = [] ∧ d.br = [] := fun j d hj hd => by
 unfold dgStep at hd;split at hd
 ·exact h j d (by omega) hd
 ·rename_i e he;have hn := (List.getElem?_eq_some_iff.1 he).1;split at hd
  ·exact h j d (by omega) hd
  ·by_cases hl : j < out.length
   ·rw [List.getElem?_append_left (by rw [List.length_set]; exact hl), List.getElem?_set_ne (by omega)] at hd;exact h j d (by omega) hd
   ·rw [List.getElem?_append_right (by rw [List.length_set]; omega)] at hd;have hm := List.mem_of_getElem? hd;obtain ⟨p, _, rfl⟩ := List.mem_map.1 hm;exact ⟨rfl, rfl⟩
def Srch (X : List Mach) (S : List Int) (a : Int) (o : Nat) : Prop := 1 ≤ o ∧ ∃ y, S[o]? = some y ∧ (diffO (atM X a) (atM X y)).isSome = true ∧ wordX X S = diffW (atM X a) (atM X y)
def kidsU (out : List Nd) (ps : List (List Int × List Int)) (k : Nat) : List (List AV) := (out ++ kidL (ps.take k)).map ndU
theorem kidsU_succ {out : List Nd} {ps : List (List Int × List Int)} {k : Nat} {p : List Int × List Int} (h : ps[k]? = some p) : kidsU out ps k ++ [[.sl false (p.2.map intC) .unk, .sl true [] .zer, .sl true [] .zer]] = kidsU out ps (k + 1) := by
 obtain ⟨hi, he⟩ := List.getElem?_eq_some_iff.1 h;unfold kidsU kidL;rw [List.take_succ_eq_append_getElem hi, he];simp only [List.map_append, List.append_assoc]; rfl
theorem kidsU_len {out : List Nd} {ps : List (List Int × List Int)} {k : Nat} (h : k ≤ ps.length) : (kidsU out ps k).length = out.length + k := by simp [kidsU, kidL]; omega
theorem kidsU_norefs (out : List Nd) (ps : List (List Int × List Int)) (k : Nat) : (kidsU out ps k).all AV.norefs = true := ndUs_norefs _
def brT (ps : List (List Int × List Int)) (L k : Nat) : List (List AV) := ((brsF ps L).take k).map brU
theorem brT_len {ps : List (List Int × List Int)} {L k : Nat} (h : k ≤ ps.length) : (brT ps L k).length = k := by simp [brT, brsF_len]; omega
theorem brT_succ {ps : List (List Int × List Int)} {L k : Nat} {p : List Int × List Int} (h : ps[k]? = some p) : brT ps L k ++ [[.sl p.1.isEmpty (p.1.map intC) .unk, .sc (.int .i64 ((L + k : Nat) : Int))]] = brT ps L (k + 1) := by
 have h2 := brsF_get (t := L) h;obtain ⟨hi, he⟩ := List.getElem?_eq_some_iff.1 h2;unfold brT;rw [List.take_succ_eq_append_getElem hi, he, List.map_append]; rfl
theorem brT_norefs (ps : List (List Int × List Int)) (L k : Nat) : (brT ps L k).all AV.norefs = true := by
 rw [brT, List.all_eq_true];intro c hc;obtain ⟨b, _, rfl⟩ := List.mem_map.1 hc;rfl
def dgM (n L : Nat) (s w : AV) (out : List Nd) (ps : List (List Int × List Int)) : Nat → Mem
 | 0 => [(0, .arr 3 ((kidsU out ps 0).set n [s, w, .sl true [] .zer]) false)]
 | k + 1 => [(0, .arr 3 ((kidsU out ps (k + 1)).set n [s, w, .tl 1 (k + 1) false]) false), (1, .arr 2 (brT ps L (k + 1)) false)]
theorem set_refs {n : Nat} (O : List (List AV)) (h : n < O.length) (s w : AV) (k i : Nat) (b : Bool) : (O.set n [s, w, .tl i k b]).all AV.norefs = false := by
 rw [List.all_eq_false];refine ⟨[s, w, .tl i k b], List.mem_set h _, ?_⟩;simp [AV.norefs, AV.noref]
theorem set_ren {n : Nat} {K : List (Nat × Nat)} {O : List (List AV)} (hO : O.all AV.norefs = true) (S w : List (List AV)) (hS : S.all AV.norefs = true) (hw : w.all AV.norefs = true) (x : AV) : List.map (fun c => List.map (AV.ren K) c) (O.set n [.sl false S .unk, .sl false w .unk, x]) = O.set n [.sl false S .unk, .sl false w .unk, x.ren K] := by
 have hc : ∀ c : List AV, AV.norefs c = true → c.map (AV.ren K) = c := fun c h => by
  induction c with
  | nil => rfl
  | cons x c ih =>
    simp only [AV.norefs, Bool.and_eq_true] at h;rw [List.map_cons, ih h.2, AV.ren, if_pos h.1]
 have hl : O.map (fun c => c.map (AV.ren K)) = O := by
  refine (List.map_congr_left fun c h => hc c (List.all_eq_true.1 hO c h)).trans (List.map_id' O)
 have h1 : (AV.sl false S .unk).ren K = .sl false S .unk := by simp [AV.ren, AV.noref]
 have h2 : (AV.sl false w .unk).ren K = .sl false w .unk := by simp [AV.ren, AV.noref]
 rw [List.map_set, hl, List.map_cons, List.map_cons, List.map_cons, List.map_nil, h1, h2]
set_option maxHeartbeats 8000000 in
theorem refdiag_is (m : Mach) (hv : Valid m) (fn : Bool) (fs : List FA) (fc : Cp) (hf : ∀ f ∈ fs, checkF m f = 0) (hfl : fs.length ≤ 256) (hf0 : 1 ≤ fs.length) :
  PureIs prog 8 [.ag m.cells, .sl fn (fs.map FA.cells) fc] (.sl false ((diagL (fs.map (mutF m)) fs.length).map ndU) .unk) := by
 have hfb : ∀ f ∈ fs, faultB m f = true := fun f h => by
  have := hf f h;unfold checkF at this;split at this
  ·assumption
  ·cases this
 have q := refmutants_is m hv fn fs fc hfb (by omega);have hXv : ∀ x ∈ fs.map (mutF m), Valid x := fun x hx => by
  obtain ⟨f, h, rfl⟩ := List.mem_map.1 hx;exact mutF_valid hv (hf f h)
 have hXl : (fs.map (mutF m)).length = fs.length := List.length_map _;have hXi : ∀ x ∈ fs.map (mutF m), x.ins = m.ins := fun x hx => by obtain ⟨f, _, rfl⟩ := List.mem_map.1 hx; rfl
 generalize fs.map (mutF m) = X at q hXv hXl hXi ⊢;have hXn := norefs_machs X;obtain ⟨N, hN⟩ : ∃ N, N = fs.length := ⟨_, rfl⟩;have hX : ∀ x ∈ X, Valid x ∧ x.ins = m.ins := fun x hx => ⟨hXv x hx, hXi x hx⟩;have q1 := everybody57_is N (by omega);rw [show (N == 0) = false by simp; omega] at q1;have hfl2 : (fs.map FA.cells).length = N := by rw [hN]; exact List.length_map _
 rw [← hN] at hXl hfl hf0 ⊢;refine PureIs.of1 3 [4, 5, 6, 7, 8, 9, 10, 11, 13, 14, 15, 23, 27, 42, 59, 62, 95] func8 ntmps8 results8 fun _ => ?_;refine EvC.a ?_ (by simp only [go_sem, Mach.cells] <;> rfl);refine EvC.z 0 ?_;refine EvC.k1 ?_ (h1 := by simp only [go_sem, Mach.cells] <;> rfl) (c1 := .ca q) (h2 := by simp only [go_sem, hXn] <;> rfl);refine EvC.k1 ?_ (h1 := by simp only [go_sem, hfl2] <;> rfl) (c1 := .ca q1);refine EvC.seq ?_;refine EvC.a ?_;refine EvC.block ?_;refine EvC.loopS (σ := Nat × List Nd) (fun g => ⟨[(5, .sl fs.isEmpty (X.map Mach.cells) .unk), (6, .tl 0 g.2.length false), (7, .sc (.int .i64 g.1))], [], [(0, .arr 3 (g.2.map ndU) false)], 1⟩) (fun g => 2 * N - g.1) (fun g => DInv X N g.1 g.2 ∧ dgF X (2 * N - g.1) g.2 g.1 = diagL X N ∧ ∀ j d, g.1 ≤ j → g.2[j]? = some d → d.word = [] ∧ d.br = []) [5, 6, 7] 1 ?_ ?_
 ·exact ⟨[(10, 0)], (0, [⟨idL N, [], []⟩]), rfl, (by simp only [go_sem, Int.natCast_zero, List.map_cons, List.map_nil, ndU, wU, bU, List.isEmpty_nil, List.length_cons, List.length_nil] <;> rfl), .start X (by omega), rfl, fun j d _ h => by
   have hm := List.mem_of_getElem? h;rw [List.mem_singleton] at hm; subst hm; exact ⟨rfl, rfl⟩⟩
 rintro ⟨n, out⟩ ⟨hD, hF, hW⟩;simp only at hD hF hW ⊢;have hlen := hD.len;have hnl := hD.le;refine EvC.seq ?_;refine EvC.a ?_ (by simp only [go_sem, List.length_map] <;> rfl);refine EvC.cond (by simp only [go_sem] <;> rfl) (fun hc => ?_) (fun hc => ?_);rotate_left
 ·refine EvC.exit ?_;obtain rfl : n = out.length := by have : ¬ n < out.length := (by simpa using hc); omega
  rw [dgF_end] at hF;rw [← hF];have hn1 := ndUs_norefs out;have hl1 : (out.map ndU).length = out.length := List.length_map _;generalize out.map ndU = O at hn1 hl1 ⊢;refine EvC.frz 0 (by simp only [go_sem, hn1, hl1] <;> rfl) ?_;refine EvC.a ?_;refine EvC.rz ?_;simp only [go_sem]
 have hlt : n < out.length := by simpa using hc
 clear hc;have hstep := hD.step hX hXl hlt;have hWs := Fresh.step (X := X) hW;rw [dgF_step (by omega) hlt, show 2 * N - n - 1 = 2 * N - (n + 1) by omega] at hF;have hge : out[n]? = some out[n] := List.getElem?_eq_getElem hlt;have hmem := List.getElem_mem hlt;have hne := hD.ne _ hmem;have hrg := hD.rng _ hmem;have hrl := hD.wg;obtain ⟨hw0, hb0⟩ := hW n _ (Nat.le_refl _) hge;rw [List.drop_eq_getElem_cons hlt, show wgt (out[n] :: out.drop (n + 1)) = 2 * (out[n].sus.length - 1) + wgt (out.drop (n + 1)) by simp only [wgt, List.map_cons, List.sum_cons]] at hrl;unfold dgStep at hstep hF hWs;rw [hge] at hstep hF hWs;simp only at hstep hF hWs;generalize out[n] = d at hge hne hrg hstep hF hrl hw0 hb0 hWs;obtain ⟨sus, wd, bd⟩ := d;simp only at hne hrg hstep hF hrl hw0 hb0 hWs;subst hw0 hb0;obtain ⟨a, r, rfl⟩ : ∃ a r, sus = a :: r := by
  cases sus with
  | nil => exact absurd rfl hne
  | cons a r => exact ⟨a, r, rfl⟩
 have hrg2 : ∀ i ∈ a :: r, 0 ≤ i ∧ i < X.length := fun i hi => by have := hrg i hi; omega
 have hsl : (a :: r).length ≤ 1000 := by omega
 have hw2 := wordX_two hX hrg2;have hOl : (out.map ndU).length = out.length := List.length_map _;have hOg : (out.map ndU)[n]? = some [.sl false ((a :: r).map intC) .unk, .sl true [] .zer, .sl true [] .zer] := by rw [List.getElem?_map, hge]; rfl
 obtain ⟨S, hS⟩ : ∃ S, S = a :: r := ⟨_, rfl⟩;have hS0 : (S.map intC)[0]? = some [.sc (.int .i64 a)] := by rw [hS]; rfl
 have hSr : firstD X a (S.drop 1) = wordX X S := by rw [hS]; rfl
 have hSp : 1 ≤ S.length := by rw [hS]; simp
 rw [← hS] at hrg2 hsl hw2 hOg hstep hF hWs hrl;have ha := hrg2 a (by rw [hS]; exact List.mem_cons_self);have hOn := ndUs_norefs out;have hSl : (S.map intC).length = S.length := List.length_map _;have hat : ∀ i ∈ S, Valid (atM X i) ∧ (atM X i).ins = m.ins := fun i hi => hX _ (by
  have h := hrg2 i hi;rw [atM, List.getD_eq_getElem?_getD, List.getElem?_eq_getElem (show i.toNat < X.length by omega)];exact List.getElem_mem _)
 have haS : a ∈ S := by rw [hS]; exact List.mem_cons_self
 have hxa := atM_get (X := X) (i := a) (by omega);have hXcl : (X.map Mach.cells).length = N := by rw [List.length_map, hXl]
 clear hS;have hnt : ((n : Int)).toNat = n := Int.toNat_natCast n;refine EvC.skip ?_;refine EvC.seq ?_;refine EvC.block ?_;refine EvC.a ?_ (by simp only [go_sem, hOg, hOl, hnt] <;> rfl) (by simp; try omega);refine EvC.a ?_;refine EvC.mergeS (α := Nat) (fun o => ⟨[(5, .sl fs.isEmpty (X.map Mach.cells) .unk), (6, .tl 0 out.length false), (7, .sc (.int .i64 n)), (8, .sl false (S.map intC) .unk), (9, .sc (.int .i64 o))], [], [(0, .arr 3 (out.map ndU) false)], 1⟩) (fun o => o = 0 ∧ wordX X S = [] ∨ Srch X S a o) [5, 6, 7, 8, 9] 1 ?_ ?_
 ·refine EvC.a ?_;refine EvC.block ?_;refine EvC.loopS (σ := Nat × Nat) (fun g => ⟨[(5, .sl fs.isEmpty (X.map Mach.cells) .unk), (6, .tl 0 out.length false), (7, .sc (.int .i64 n)), (8, .sl false (S.map intC) .unk), (9, .sc (.int .i64 g.2)), (10, .sc (.int .i64 g.1))], [], [(0, .arr 3 (out.map ndU) false)], 1⟩) (fun g => S.length - g.1) (fun g => 1 ≤ g.1 ∧ g.1 ≤ S.length ∧ (g.2 = 0 ∧ wordX X S = firstD X a (S.drop g.1) ∨ Srch X S a g.2)) [5, 6, 7, 8, 9, 10] 1 ?_ ?_
  ·exact ⟨[(0, 0)], (1, 0), rfl, (by simp only [go_sem, hOn, Int.natCast_zero, Int.natCast_one] <;> rfl), Nat.le_refl _, hSp, .inl ⟨rfl, hSr.symm⟩⟩
  rintro ⟨i, o⟩ ⟨i1, i2, i3⟩;simp only at i1 i2 i3 ⊢;refine EvC.seq ?_;by_cases hil : i < S.length;rotate_left
  ·have hf0 : decide ((i : Int) < S.length) = false := decide_eq_false (by omega);refine EvC.g ?_ (h := by simp only [go_sem, hSl, hf0] <;> rfl);refine EvC.cf ?_;refine EvC.exit ?_;refine ⟨rfl, [(0, 0)], o, rfl, (by simp only [go_sem, hOn] <;> rfl), ?_⟩;rcases i3 with ⟨h1, h2⟩ | h
   ·rw [List.drop_of_length_le (by omega)] at h2;exact .inl ⟨h1, h2⟩
   ·exact .inr h
  have hf1 : decide ((i : Int) < S.length) = true := decide_eq_true (by omega);rcases i3 with ⟨rfl, h2⟩ | h
  rotate_left
  ·have ho : decide ((o : Int) = 0) = false := decide_eq_false (by have := h.1; omega);refine EvC.g ?_ (h := by simp only [go_sem, hSl, hf1, ho] <;> rfl);refine EvC.cf ?_;refine EvC.exit ?_;exact ⟨rfl, [(0, 0)], o, rfl, (by simp only [go_sem, hOn] <;> rfl), .inr h⟩
  refine EvC.g ?_ (h := by simp only [go_sem, hSl, hf1, Int.natCast_zero] <;> rfl);refine EvC.cr ?_;refine EvC.seq ?_;refine EvC.block ?_;have hge2 : S[i]? = some S[i] := List.getElem?_eq_getElem hil;have hyS := List.getElem_mem hil;have hdr := List.drop_eq_getElem_cons hil;generalize S[i] = y at hge2 hyS hdr;rw [hdr, firstD] at h2;have hSi : (S.map intC)[i]? = some [.sc (.int .i64 y)] := by rw [List.getElem?_map, hge2]; rfl
  have hy := hrg2 y hyS;have hxy := atM_get (X := X) (i := y) (by omega);have hit : (i : Int).toNat = i := Int.toNat_natCast i;have q2 := alike50_is (hat a haS).1 (hat y hyS).1 (by rw [(hat a haS).2, (hat y hyS).2]);refine EvC.k1D mixed ?_ (h1 := by simp only [go_sem, hS0, hSi, hSl, hit, hxa, hxy, hXcl, Mach.cells] <;> rfl) (k1 := by simp; try omega) (c1 := .ca q2) (h2 := by simp only [go_sem, hS0, hSi, hSl, hit, hxa, hxy, hXcl, Mach.cells] <;> rfl) (k2 := by simp; try omega);have hs2 : ∀ o : Option Unit, True := fun _ => trivial;cases hdf : diffO (atM X a) (atM X y) with
  | none =>
    rw [hdf] at h2;refine EvC.cs ?_ (by simp only [go_sem, hdf] <;> rfl);refine EvC.b ?_ (hok := by exact inI64_of (by omega) (by omega));exact ⟨[(0, 0)], (i + 1, 0), rfl, (by simp only [go_sem, hOn, Int.natCast_zero, Int.natCast_add, Int.natCast_one] <;> rfl), ⟨by omega, hil, .inl ⟨rfl, by rw [h2, if_neg (by simp)]⟩⟩, by simp only; omega⟩
  | some z =>
    rw [hdf] at h2;refine EvC.ct ?_ (by simp only [go_sem, hdf] <;> rfl);refine EvC.b ?_;refine EvC.b ?_ (hok := by exact inI64_of (by omega) (by omega));exact ⟨[(0, 0)], (i + 1, i), rfl, (by simp only [go_sem, hOn, Int.natCast_zero, Int.natCast_add, Int.natCast_one] <;> rfl), ⟨by omega, hil, .inr ⟨i1, y, hge2, by rw [hdf]; rfl, by rw [h2]; exact if_pos rfl⟩⟩, by simp only; omega⟩
 intro o ho;refine EvC.seq ?_;refine EvC.a ?_;rcases ho with ⟨rfl, hwe⟩ | ho
 ·rw [if_pos hwe] at hstep hF hWs;refine EvC.ct ?_;refine EvC.exit ?_;refine EvC.b ?_ (hok := by exact inI64_of (by omega) (by omega));exact ⟨[(0, 0)], (n + 1, out), rfl, (by simp only [go_sem, hOn, Int.natCast_add, Int.natCast_one] <;> rfl), ⟨hstep, hF, hWs⟩, by simp only; omega⟩
 obtain ⟨o1, y, hge2, hyd, hwy⟩ := ho;have hyS := List.mem_of_getElem? hge2;have hol : o < S.length := (List.getElem?_eq_some_iff.1 hge2).1;have hSo : (S.map intC)[o]? = some [.sc (.int .i64 y)] := by rw [List.getElem?_map, hge2]; rfl
 have hy := hrg2 y hyS;have hxy := atM_get (X := X) (i := y) (by omega);have hot : (o : Int).toNat = o := Int.toNat_natCast o;have hwE : wordX X S ≠ [] := fun e => by
  have h := diffW_empty (atM X a) (atM X y);rw [← hwy, e] at h;cases hd : diffO (atM X a) (atM X y) <;> simp [hd] at h hyd
 have q2 := ref10_is (hat a haS).1 (hat y hyS).1 (by rw [(hat a haS).2, (hat y hyS).2]);rw [← hwy] at q2;rw [if_neg hwE] at hstep hF hWs;obtain ⟨hp2, hwl, hwi⟩ := hw2 hwE;obtain ⟨w, hw⟩ : ∃ w, w = wordX X S := ⟨_, rfl⟩;rw [← hw] at q2 hstep hF hWs hp2 hwl hwi hwE
 have hwb : w.isEmpty = false := by cases w with
  | nil => exact absurd rfl hwE
  | cons x w => rfl
 rw [hwb] at q2;refine EvC.cs ?_ (by simp only [go_sem, decide_eq_false (show ¬ (o : Int) = 0 by omega)] <;> rfl);refine EvC.k1D mixed ?_ (h1 := by simp only [go_sem, hS0, hSo, hSl, hot, hxa, hxy, hXcl, Mach.cells] <;> rfl) (k1 := by simp; try omega) (c1 := .ca q2) (h2 := by simp only [go_sem, hS0, hSo, hSl, hot, hxa, hxy, hXcl, Mach.cells] <;> rfl) (k2 := by simp; try omega);refine EvC.a ?_ (by simp only [go_sem, hOg, hOl, hnt] <;> rfl) (by simp; try omega);have q3 := parts56_is fs.isEmpty X .unk false S .unk false w .unk hrg2 (fun x hx => ⟨hXv x hx, fun i hi => by rw [hXi x hx]; exact hwi i hi⟩) (by omega) (by omega);have hps0 := dvL_sum (eqB := eqI) (K := respK X w) S [];have hpl := dvL_len (eqB := eqI) (K := respK X w) S [];rw [show dvL eqI (respK X w) S [] = partsX X S w from rfl] at q3 hpl;simp only [List.length_nil, Nat.zero_add] at hpl;generalize partsX X S w = ps at q3 hstep hF hWs hp2 hpl;have hpn := partC_norefs (kc := (kN : List Int → List AV)) kN_norefs ps;have hkn := keyR_norefs ps
 have hSe : S.isEmpty = false := by cases S with
  | nil => simp at hSp
  | cons _ _ => rfl
 rw [hSe] at q3;refine EvC.k1 ?_ (h1 := by simp only [go_sem, Mach.cells] <;> rfl) (k1 := by simp; try omega) (c1 := .ca q3) (h2 := by simp only [go_sem, hXn, hpn, hkn] <;> rfl);refine EvC.a ?_;obtain ⟨L, hL⟩ : ∃ L, L = out.length := ⟨_, rfl⟩;have hKl := fun k (h : k ≤ ps.length) => kidsU_len (out := out) h;have hPl : (ps.map (partC (kN : List Int → List AV))).length = ps.length := List.length_map _;have hRl : (ps.map keyR).length = ps.length := List.length_map _;have hk0 : out.map ndU = kidsU out ps 0 := by simp [kidsU, kidL]
 rw [← hL] at hOl ⊢;rw [hk0];have hn0 : ((kidsU out ps 0).set n [.sl false (S.map intC) .unk, .sl false (w.map intC) .unk, .sl true [] .zer]).all AV.norefs = true := by
  rw [← hk0, List.all_eq_true];intro c hc;rcases List.mem_or_eq_of_mem_set hc with hc | rfl
  ·exact List.all_eq_true.1 hOn c hc
  ·rfl
 refine EvC.block ?_;refine EvC.loopS (σ := Nat) (fun k => ⟨[(5, .sl fs.isEmpty (X.map Mach.cells) .unk), (6, .tl 0 (L + k) false), (7, .sc (.int .i64 n)), (13, .sl false (ps.map keyR) .unk), (14, .sl false (ps.map (partC kN)) .unk), (15, .sc (.int .i64 k))], [], dgM n L (.sl false (S.map intC) .unk) (.sl false (w.map intC) .unk) out ps k, 2⟩) (fun k => ps.length - k) (fun k => k ≤ ps.length) [5, 6, 7, 13, 14, 15] 2 ?_ ?_
 ·exact ⟨[(0, 0)], 0, rfl, (by simp only [go_sem, dgM, hn0, Nat.add_zero, Int.natCast_zero] <;> rfl), Nat.zero_le _⟩
 intro k hk;have hkk := hKl k hk;refine EvC.seq ?_;refine EvC.a ?_ (by simp only [go_sem, hPl] <;> rfl);refine EvC.cond (by simp only [go_sem] <;> rfl) (fun hc => ?_) (fun hc => ?_);rotate_left
 ·refine EvC.exit ?_;obtain rfl : k = ps.length := by have : ¬ k < ps.length := (by simpa using hc); omega
  clear hc;obtain ⟨k, hk⟩ : ∃ k, ps.length = k + 1 := ⟨ps.length - 1, by omega⟩;have hbl := brT_len (ps := ps) (L := L) (k := k + 1) (by omega);have hbn := brT_norefs ps L (k + 1);rw [hk] at hkk ⊢;rw [dgM];have hfin : ∀ c : List AV, c = ndU ⟨S, w, brsF ps L⟩ → (kidsU out ps (k + 1)).set n c = (out.set n ⟨S, w, brsF ps L⟩ ++ kidL ps).map ndU := fun c hc => by
   rw [hc, kidsU, ← hk, List.take_length, ← List.map_set, List.set_append_left _ _ hlt]
  have hBe : brT ps L (k + 1) = (brsF ps L).map brU := by rw [brT, ← hk, ← brsF_len ps L, List.take_length]
  have hbe : (brsF ps L).isEmpty = false := by
   have := brsF_len ps L;cases h : brsF ps L with
   | nil => rw [h] at this; simp at this; omega
   | cons x y => rfl
  have hf1 := hfin [.sl false (S.map intC) .unk, .sl false (w.map intC) .unk, .sl false (brT ps L (k + 1)) .unk] (by rw [hBe]; simp [ndU, wU, bU, hwb, hbe]);have hM : L + (k + 1) = (out.set n ⟨S, w, brsF ps L⟩ ++ kidL ps).length := by simp [kidL]; omega
  have hOn2 := ndUs_norefs (out.set n ⟨S, w, brsF ps L⟩ ++ kidL ps);rw [← hL] at hstep hF hWs;obtain ⟨O0, hO0⟩ : ∃ O, O = kidsU out ps (k + 1) := ⟨_, rfl⟩;rw [← hO0] at hkk hf1 ⊢;have g1 : ∀ c1 : List AV, (O0.set n c1)[n]? = some c1 := fun c1 => by rw [List.getElem?_set_self (by omega)]
  have hl1 : ∀ c1 : List AV, (O0.set n c1).length = L + (k + 1) := fun c1 => by rw [List.length_set, hkk]; omega
  have s1 : ∀ c1 c2 : List AV, (O0.set n c1).set n c2 = O0.set n c2 := fun c1 c2 => by rw [List.set_set]
  obtain ⟨B0, hB0⟩ : ∃ B, B = brT ps L (k + 1) := ⟨_, rfl⟩;rw [← hB0] at hbl hbn hf1 ⊢;obtain ⟨O2, hO2⟩ : ∃ O, O = (out.set n ⟨S, w, brsF ps L⟩ ++ kidL ps).map ndU := ⟨_, rfl⟩;rw [← hO2] at hOn2 hf1;refine EvC.frz 1 (by simp only [go_sem, hbl, hbn] <;> rfl) ?_;refine EvC.snapE 0 n (by simp only [go_sem, g1, s1, hbl] <;> rfl) ?_;refine EvC.b ?_ (hok := by exact inI64_of (by omega) (by omega));exact ⟨[(0, 0)], (n + 1, out.set n ⟨S, w, brsF ps L⟩ ++ kidL ps), rfl, (by rw [← hM, ← hO2]; simp only [go_sem, hf1, hOn2, Int.natCast_add, Int.natCast_one] <;> rfl), ⟨hstep, hF, hWs⟩, by simp only; omega⟩
 have hkl : k < ps.length := by simpa using hc
 clear hc;have hpe : ps[k]? = some ps[k] := List.getElem?_eq_getElem hkl;have hKs := kidsU_succ (out := out) hpe;have hBs := brT_succ (L := L) hpe;generalize ps[k] = p at hpe hKs hBs;obtain ⟨px, pw⟩ := p;have hpg : (ps.map (partC (kN : List Int → List AV)))[k]? = some [.sl false (pw.map intC) .unk] := by rw [List.getElem?_map, hpe]; rfl
 have hpr : (ps.map keyR)[k]? = some [.sl px.isEmpty (px.map intC) .unk] := by rw [List.getElem?_map, hpe]; rfl
 simp only at hKs hBs;obtain ⟨kZ, hkZ⟩ : ∃ z : Int, z = (k : Int) := ⟨_, rfl⟩;have hkt : kZ.toNat = k := by omega
 rw [← hkZ];have hnM : n < L := by omega
 refine EvC.skip ?_;refine EvC.seq ?_;refine EvC.block ?_;have hOi : ∀ c : List AV, (kidsU out ps k).set n c ++ [[.sl false (pw.map intC) .unk, .sl true [] .zer, .sl true [] .zer]] = (kidsU out ps (k + 1)).set n c := fun c => by
  rw [← hKs, List.set_append_left _ _ (by omega)]
 have hnf := fun j => set_refs (n := n) (kidsU out ps (k + 1)) (by have := hKl (k + 1) hkl; omega) (.sl false (S.map intC) .unk) (.sl false (w.map intC) .unk) j;have hnr := fun K => set_ren (n := n) (K := K) (kidsU_norefs out ps (k + 1)) (S.map intC) (w.map intC) (norefs_intC S) (norefs_intC w);cases k with
 | zero =>
   rw [dgM];obtain ⟨O0, hO0⟩ : ∃ O, O = kidsU out ps 0 := ⟨_, rfl⟩;rw [← hO0] at hOi hkk ⊢;have g1 : ∀ c1 : List AV, (O0.set n c1)[n]? = some c1 := fun c1 => by rw [List.getElem?_set_self (by omega)]
   have hl1 : ∀ c1 : List AV, (O0.set n c1).length = L := fun c1 => by rw [List.length_set, hkk]; omega
   have s1 : ∀ c1 c2 : List AV, (O0.set n c1).set n c2 = O0.set n c2 := fun c1 c2 => by rw [List.set_set]
   apply EvC.seq;apply EvC.drwA mixed
   ·apply Tr.done
    ·simp only [go_sem, g1, hl1, s1, hnt, hkt, hpr, hRl, hpg, Nat.add_zero] <;> rfl
    ·simp [room_eq]; omega
   ·exact confAllA_slots (by simp [rdOk, slotsOf, opSlots, memless, Op.operands, Call.operands]) (by kernel_rfl)
   refine EvC.b ?_ (by simp only [go_sem, hpg, hPl, hkt, hl1, hOi, Nat.add_zero] <;> rfl) (by simp [room_eq]; omega);refine EvC.b ?_ (hok := by exact inI64_of (by omega) (by omega));have hB0 : brT ps L 1 = [[.sl px.isEmpty (px.map intC) .unk, .sc (.int .i64 L)]] := by rw [← hBs]; rfl
   have hl2 : ∀ c : List AV, ((kidsU out ps 1).set n c).length = L + 1 := fun c => by rw [List.length_set, hKl 1 hkl]; omega
   refine ⟨[(0, 0), (21, 1)], 1, rfl, ?_, hkl, by omega⟩;simp only [go_sem, dgM, hnf, hnr, hB0, hl2, Nat.zero_add, hkZ, Int.natCast_zero, Int.zero_add, Int.natCast_one] <;> rfl
 | succ k =>
   rw [dgM];obtain ⟨O0, hO0⟩ : ∃ O, O = kidsU out ps (k + 1) := ⟨_, rfl⟩;rw [← hO0] at hOi hkk ⊢;have g1 : ∀ c1 : List AV, (O0.set n c1)[n]? = some c1 := fun c1 => by rw [List.getElem?_set_self (by omega)]
   have hl1 : ∀ c1 : List AV, (O0.set n c1).length = L + (k + 1) := fun c1 => by rw [List.length_set, hkk]; omega
   have s1 : ∀ c1 c2 : List AV, (O0.set n c1).set n c2 = O0.set n c2 := fun c1 c2 => by rw [List.set_set]
   have hbl := brT_len (ps := ps) (L := L) (k := k + 1) (by omega);obtain ⟨B0, hB0⟩ : ∃ B, B = brT ps L (k + 1) := ⟨_, rfl⟩;rw [← hB0] at hbl hBs ⊢;simp only [Int.natCast_add] at hBs;apply EvC.seq;apply EvC.drwA mixed
   ·apply Tr.done
    ·simp only [go_sem, g1, hl1, s1, hnt, hkt, hpr, hRl, hpg, hbl, hBs, Int.natCast_add] <;> rfl
    ·simp [room_eq]; omega
   ·exact confAllA_slots (by simp [rdOk, slotsOf, opSlots, memless, Op.operands, Call.operands]) (by kernel_rfl)
   refine EvC.b ?_ (by simp only [go_sem, hpg, hPl, hkt, hl1, hOi] <;> rfl) (by simp [room_eq]; omega);refine EvC.b ?_ (hok := by exact inI64_of (by omega) (by omega));have hl2 : ∀ c : List AV, ((kidsU out ps (k + 1 + 1)).set n c).length = L + (k + 1 + 1) := fun c => by rw [List.length_set, hKl (k + 1 + 1) hkl]; omega
   have hbl2 := brT_len (ps := ps) (L := L) (k := k + 1 + 1) hkl;have hbn2 := brT_norefs ps L (k + 1 + 1);refine ⟨[(0, 0), (1, 1)], k + 1 + 1, rfl, ?_, hkl, by omega⟩;simp only [go_sem, dgM, hnf, hnr, hl2, hbl2, hbn2, hkZ, Int.natCast_add, Int.natCast_one] <;> rfl
def Apart (out : List Nd) : Prop := ∀ (j1 j2 : Nat) (d1 d2 : Nd), out[j1]? = some d1 → out[j2]? = some d2 → d1.word = [] → d2.word = [] → ∀ i : Int, i ∈ d1.sus → i ∈ d2.sus → j1 = j2
theorem Apart.start (N : Nat) : Apart [⟨idL N, [], []⟩] := fun j1 j2 d1 d2 h1 h2 _ _ _ _ _ => by
 have k1 := (List.getElem?_eq_some_iff.1 h1).1;have k2 := (List.getElem?_eq_some_iff.1 h2).1;simp only [List.length_cons, List.length_nil] at k1 k2;omega
theorem Apart.step {X : List Mach} {n : Nat} {out : List Nd} (h : Apart out) (hn : n < out.length) (hw : (out[n]).word = []) : Apart (dgStep X out n) := by
 have hd := List.getElem?_eq_getElem hn;unfold dgStep;rw [hd];simp only;generalize out[n] = d at hd hw;split
 ·exact h
 obtain ⟨w, hwe⟩ : ∃ w, w = wordX X d.sus := ⟨_, rfl⟩;rename_i hw0;rw [← hwe] at hw0 ⊢;have hkey := dvI_key (K := respK X w) d.sus;have hsub := dvL_sub (eqB := eqI) (K := respK X w) d.sus;have hnd := dvI_nodup (K := respK X w) d.sus [] List.nodup_nil;rw [show dvL eqI (respK X w) d.sus [] = partsX X d.sus w from rfl] at hkey hsub hnd;generalize partsX X d.sus w = ps at hkey hsub hnd;intro j1 j2 d1 d2 h1 h2 w1 w2 i i1 i2;have kind : ∀ (j : Nat) (e : Nd), (out.set n ⟨d.sus, w, brsF ps out.length⟩ ++ kidL ps)[j]? = some e → e.word = [] → (j < out.length ∧ j ≠ n ∧ out[j]? = some e) ∨ ∃ q p, j = out.length + q ∧ ps[q]? = some p ∧ e.sus = p.2 := fun j e he hwe => by
  by_cases hj : j < out.length
  ·rw [List.getElem?_append_left (by rw [List.length_set]; exact hj)] at he;by_cases hjn : j = n
   ·subst hjn;rw [List.getElem?_set_self hn] at he;cases he;exact absurd hwe hw0
   ·rw [List.getElem?_set_ne (fun e => hjn e.symm)] at he;exact .inl ⟨hj, hjn, he⟩
  ·obtain ⟨q, rfl⟩ : ∃ q, j = out.length + q := ⟨j - out.length, by omega⟩;rw [List.getElem?_append_right (by rw [List.length_set]; omega), List.length_set, Nat.add_sub_cancel_left, kidL, List.getElem?_map, Option.map_eq_some_iff] at he;obtain ⟨p, hp, rfl⟩ := he;exact .inr ⟨q, p, rfl, hp, rfl⟩
 rcases kind j1 d1 h1 w1 with ⟨a1, a2, a3⟩ | ⟨q1, p1, a1, a2, a3⟩
 ·rcases kind j2 d2 h2 w2 with ⟨b1, b2, b3⟩ | ⟨q2, p2, b1, b2, b3⟩
  ·exact h j1 j2 d1 d2 a3 b3 w1 w2 i i1 i2
  ·rw [b3] at i2;exact absurd (h j1 n d1 d a3 hd w1 hw i i1 (hsub p2 (List.mem_of_getElem? b2) i i2)) a2
 ·rcases kind j2 d2 h2 w2 with ⟨b1, b2, b3⟩ | ⟨q2, p2, b1, b2, b3⟩
  ·rw [a3] at i1;exact absurd (h n j2 d d2 hd b3 hw w2 i (hsub p1 (List.mem_of_getElem? a2) i i1) i2).symm b2
  ·rw [a3] at i1;rw [b3] at i2;have e1 := hkey p1 (List.mem_of_getElem? a2) i i1;have e2 := hkey p2 (List.mem_of_getElem? b2) i i2;have hl := (List.getElem?_eq_some_iff.1 a2).1;have e3 : (ps.map (·.1))[q1]? = (ps.map (·.1))[q2]? := by
    rw [List.getElem?_map, List.getElem?_map, a2, b2];simp only [Option.map_some, ← e1, e2]
   have := (List.getElem?_inj (by rw [List.length_map]; exact hl) hnd).1 e3;omega
theorem dgF_apart {X : List Mach} {N : Nat} : ∀ (f n : Nat) (out : List Nd), TInv X N n out → Apart out → Apart (dgF X f out n)
 | 0, _, _, _, h => h
 | f + 1, n, out, hT, h => by
   rw [dgF];split
   ·rename_i hn;exact dgF_apart f (n + 1) _ (hT.step hn) (h.step hn (hT.un n _ (Nat.le_refl _) (List.getElem?_eq_getElem hn)).1)
   ·exact h
theorem diagL_apart (X : List Mach) (N : Nat) : Apart (diagL X N) := dgF_apart _ _ _ (.start X N) (.start N)
theorem leaf_cls {X : List Mach} {N : Nat} {k : Int} (hX : XOk X N k) (hN : 1 ≤ N) {i : Int} (hi : 0 ≤ i ∧ i < N) : ∃ (n : Nat) (d : Nd), (diagL X N)[n]? = some d ∧ d.word = [] ∧ d.sus = clsF X N i := by
 obtain ⟨d, h1, h2⟩ := (diagL_inv hX hN).2.root;obtain ⟨n', d', _, _, a2, a3, a4, _⟩ := walk_leaf hX hN hi (diagL X N).length 0 d [] h1 (by omega) (fun w h => by cases h) (by rw [h2]; exact (List.filter_eq_self.2 fun _ _ => rfl).symm);exact ⟨n', d', a2, a3, a4⟩
theorem clsF_self {X : List Mach} {N : Nat} {k : Int} (hX : XOk X N k) {i : Int} (hi : 0 ≤ i ∧ i < N) : i ∈ clsF X N i := List.mem_filter.2 ⟨idL_mem.2 hi, (eqM_on hX).refl i (idL_mem.2 hi)⟩
theorem cls_mem {X : List Mach} {N : Nat} {k : Int} (hX : XOk X N k) {i : Int} (hi : 0 ≤ i ∧ i < N) : clsF X N i ∈ classL X N := by
 have hP := dvL_inv (eqM_on hX);obtain ⟨p, hp, he⟩ := hP.cov i (idL_mem.2 hi);have hm : p.2 ∈ classL X N := List.mem_map_of_mem hp;have : i ∈ p.2 := by rw [hP.fil p hp, List.mem_filter]; exact ⟨idL_mem.2 hi, he⟩
 rw [← classL_mem hX hm this]; exact hm
theorem leaf_sus {X : List Mach} {N : Nat} {k : Int} (hX : XOk X N k) (hN : 1 ≤ N) {d : Nd} (hd : d ∈ diagL X N) (hw : d.word = []) : ∃ i : Int, (0 ≤ i ∧ i < N) ∧ d.sus = clsF X N i := by
 obtain ⟨n, hn, rfl⟩ := List.getElem_of_mem hd;have hg := List.getElem?_eq_getElem hn;have hO := diagL_node hX hN hg;obtain ⟨i, hi⟩ := List.exists_mem_of_ne_nil _ hO.ne;have hir := hO.rng i hi;obtain ⟨n', d', h1, h2, h3⟩ := leaf_cls hX hN hir;have he := diagL_apart X N n n' _ d' hg h1 hw h2 i hi (by rw [h3]; exact clsF_self hX hir);subst he;rw [hg] at h1;cases h1;exact ⟨i, hir, h3⟩
def leafB (d : Nd) : Bool := d.word.isEmpty
theorem leafB_iff {d : Nd} : leafB d = true ↔ d.word = [] := List.isEmpty_iff
theorem classL_nodup {X : List Mach} {N : Nat} {k : Int} (hX : XOk X N k) : (classL X N).Nodup := by
 have hP := dvL_inv (eqM_on hX);unfold classL;have h := hP.pw;rw [List.pairwise_map] at h;refine List.pairwise_map.2 (h.imp_of_mem fun {a b} ha hb hab e => ?_);obtain ⟨i, hi, hk⟩ := hP.key a ha;obtain ⟨j, hj, hk2⟩ := hP.key b hb;have hi2 : j ∈ b.2 := by rw [hP.fil b hb, List.mem_filter, hk2]; exact ⟨hj, (eqM_on hX).refl j hj⟩
 rw [← e, hP.fil a ha, List.mem_filter, ← hk2] at hi2;rw [hi2.2] at hab;cases hab
theorem leaves_nodup {X : List Mach} {N : Nat} {k : Int} (hX : XOk X N k) (hN : 1 ≤ N) : (((diagL X N).filter leafB).map (·.sus)).Nodup := by
 have h : (diagL X N).Pairwise fun a b => a.word = [] → b.word = [] → ∀ i, i ∈ a.sus → i ∈ b.sus → False := List.pairwise_iff_getElem.2 fun i j hi hj hij h1 h2 x x1 x2 => by
  have := diagL_apart X N i j _ _ (List.getElem?_eq_getElem hi) (List.getElem?_eq_getElem hj) h1 h2 x x1 x2;omega
 refine List.pairwise_map.2 ((h.filter leafB).imp_of_mem fun {a b} ha hb hab e => ?_);rw [List.mem_filter, leafB_iff] at ha hb;obtain ⟨i, hi, he⟩ := leaf_sus hX hN ha.1 ha.2;have h1 : i ∈ a.sus := by rw [he]; exact clsF_self hX hi
 exact hab ha.2 hb.2 i h1 (by rw [← e]; exact h1)
theorem leaves_len {X : List Mach} {N : Nat} {k : Int} (hX : XOk X N k) (hN : 1 ≤ N) : ((diagL X N).filter leafB).length = (classL X N).length := by
 have h := ((List.perm_ext_iff_of_nodup (leaves_nodup hX hN) (classL_nodup hX)).2 fun c => ?_).length_eq
 ·rw [List.length_map] at h; exact h
 constructor
 ·intro hc;obtain ⟨d, hd, rfl⟩ := List.mem_map.1 hc;rw [List.mem_filter, leafB_iff] at hd;obtain ⟨i, hi, he⟩ := leaf_sus hX hN hd.1 hd.2;rw [he]; exact cls_mem hX hi
 ·intro hc;have hP := dvL_inv (eqM_on hX);obtain ⟨p, hp, rfl⟩ := List.mem_map.1 hc;obtain ⟨j, hj, hk⟩ := hP.key p hp;have hjp : j ∈ p.2 := by rw [hP.fil p hp, List.mem_filter, hk]; exact ⟨hj, (eqM_on hX).refl j hj⟩
  obtain ⟨n, d, h1, h2, h3⟩ := leaf_cls hX hN (idL_mem.1 hj);rw [classL_mem hX hc hjp, ← h3];exact List.mem_map_of_mem (List.mem_filter.2 ⟨List.mem_of_getElem? h1, leafB_iff.2 h2⟩)
theorem xok_of {m : Mach} (hv : Valid m) {fs : List FA} (hf : ∀ f ∈ fs, checkF m f = 0) : XOk (fs.map (mutF m)) fs.length m.ins := ⟨fun x hx => by
 obtain ⟨f, h, rfl⟩ := List.mem_map.1 hx;exact ⟨mutF_valid hv (hf f h), rfl⟩, List.length_map _⟩
theorem node_ok {X : List Mach} {N : Nat} {k : Int} (hX : XOk X N k) (hN : 1 ≤ N) (hN2 : N ≤ 100000) {n : Nat} {d : Nd} (hd : (diagL X N)[n]? = some d) : NGok (ndG d) ∧ NGnil (ndG d) := by
 have hO := diagL_node hX hN hd;have hTl := (diagL_inv hX hN).1.len;have hsl := hO.sub.length_le;rw [idL_len] at hsl;have hwl := hO.wl.1;have hbl : d.br.length < 1000000 := by
  by_cases hw : d.word = []
  ·rw [hO.leaf hw]; decide
  ·obtain ⟨off, o1, o2, o3, o4, o5⟩ := hO.kids hw;rw [o4, brsF_len]; omega
 refine ⟨⟨by show d.sus.length < 1000000; omega, by show d.word.length < 1000000; omega, by show (d.br.map _).length < 1000000; rw [List.length_map]; exact hbl, fun b hb => ?_⟩, ⟨(fun h => by cases h), fun h => List.isEmpty_iff.1 h⟩⟩;obtain ⟨y, hy, rfl⟩ := List.mem_map.1 hb;show y.1.length < 1000000;have hw : d.word ≠ [] := fun hw => by rw [hO.leaf hw] at hy; cases hy
 obtain ⟨off, o1, o2, o3, o4, o5⟩ := hO.kids hw;have hk : y.1 ∈ (partsX X d.sus d.word).map (·.1) := by
  rw [← brsF_keys _ off, ← o4]; exact List.mem_map_of_mem hy
 obtain ⟨p, hp, hpe⟩ := List.mem_map.1 hk;have hI : PInv eqI (respK X d.word) d.sus (partsX X d.sus d.word) := dvL_inv (eqI_on _ _);obtain ⟨i, _, hi⟩ := hI.key p hp;rw [← hpe, hi, respK, runR_len]; omega
theorem node_sm {X : List Mach} {N : Nat} {k : Int} (hX : XOk X N k) (hN : 1 ≤ N) (hN2 : N ≤ 100000) {d : Nd} (hd : d ∈ diagL X N) : NdSm d := by
 obtain ⟨n, hn, rfl⟩ := List.getElem_of_mem hd;obtain ⟨h, _⟩ := node_ok hX hN hN2 (List.getElem?_eq_getElem hn);obtain ⟨h1, h2, h3, h4⟩ := h;refine ⟨h1, h2, by simpa [ndG] using h3, fun b hb => ?_⟩;exact h4 ((false, b.1, .full), b.2) (List.mem_map_of_mem hb)
def leafN (T : List Nd) (i : Nat) : Nat := ((T.take i).filter leafB).length
theorem leafN_succ {T : List Nd} {i : Nat} {d : Nd} (h : T[i]? = some d) : leafN T (i + 1) = leafN T i + if d.word = [] then 1 else 0 := by
 obtain ⟨hi, he⟩ := List.getElem?_eq_some_iff.1 h;unfold leafN;rw [List.take_succ_eq_append_getElem hi, he, List.filter_append, List.length_append];congr 1;by_cases hw : d.word = []
 ·rw [if_pos hw, List.filter_cons_of_pos (leafB_iff.2 hw)]; rfl
 ·rw [if_neg hw, List.filter_cons_of_neg (fun h => hw (leafB_iff.1 h))]; rfl
theorem leafN_le (T : List Nd) (i : Nat) : leafN T i ≤ i := by
 unfold leafN;have := List.length_filter_le leafB (T.take i);have := List.length_take_le i T;omega
set_option maxHeartbeats 8000000 in
theorem culpritsTree_is {x : LM} (hx : x.Ok) (ln : Bool) (ls : List Int) (lc : Cp) (hls : ∀ v ∈ ls, 0 ≤ v ∧ v < 65536) :
  PureIs prog 3 [.ag (x.cells ++ [.sl ln (ls.map u16C) lc])] (.sc (.bool true)) := by
 have va := LM.valid hx;have q0 := sOf19_is hx ln ls lc hls;have hfv := sOfL_ok hx ls;have hfl := sOfL_len x ls;have hcl : x.cells ++ [AV.sl ln (ls.map u16C) lc] = [.sc (.int .u8 x.st), .sc (.int .u8 x.ins), .sc (.int .u8 x.outs), .sc (.bool x.part), .sl x.nl (x.es.map u16C) x.cap, .sl ln (ls.map u16C) lc] := rfl;rw [hcl] at q0 ⊢;have hnn := LM.noNil x;generalize sOfL x ls = fs at q0 hfv hfl;generalize x.mach = m at va q0 hfv hnn;have hn := fas_norefs fs;have hfl2 : (fs.map FA.cells).length = fs.length := List.length_map _;have q9 := lives_is;have qd := diagnose_is m va.small hnn fs.isEmpty fs .unk (by omega);rw [diagA, if_neg (by rw [mutErr_ok2 va hfv (by omega)]; simp)] at qd;by_cases h0 : fs.length = 0
 ·rw [if_pos h0] at qd;generalize fs.map FA.cells = FS at q0 qd hn hfl2;rw [Mach.cells] at q0 qd;refine PureIs.of1 12 [25, 58, 65, 74, 80, 97] func3 ntmps3 results3 fun _ => ?_;refine EvC.a ?_;refine EvC.z 0 ?_;refine EvC.k1 ?_ (c1 := .ca q0);refine EvC.z 7 ?_;refine EvC.k1 ?_ (c1 := .ca qd) (h2 := by simp only [go_sem, hn] <;> rfl) (k2 := by simp [hn]);refine EvC.seq ?_;refine EvC.a ?_ (by simp only [go_sem, hfl2] <;> rfl);refine EvC.ct ?_ (by simp only [go_sem, decide_eq_true (show (fs.length : Int) = 0 by omega)] <;> rfl);refine EvC.k1 ?_ (c1 := .cg q9);refine EvC.rz ?_;simp only [go_sem]
 have hX := xok_of va hfv;have hN : 1 ≤ fs.length := by omega
 rw [if_neg h0] at qd;have hval := diagL_valid hX hN va.ins;have hTl := (diagL_inv hX hN).1.len;have hsm : ∀ d ∈ diagL (fs.map (mutF m)) fs.length, NdSm d := fun d hd => node_sm hX hN (by omega) hd;have hnode : ∀ d ∈ diagL (fs.map (mutF m)) fs.length, NGok (ndG d) ∧ NGnil (ndG d) := fun d hd => by
  obtain ⟨j, hj, rfl⟩ := List.getElem_of_mem hd;exact node_ok hX hN (by omega) (List.getElem?_eq_getElem hj)
 have hll := leaves_len hX hN;have hlc : ∀ d ∈ diagL (fs.map (mutF m)) fs.length, d.word = [] → d.sus ∈ classL (fs.map (mutF m)) fs.length := fun d hd hw => by
  obtain ⟨i, hi, he⟩ := leaf_sus hX hN hd hw;rw [he]; exact cls_mem hX hi
 have qr := refdiag_is m va fs.isEmpty fs .unk hfv (by omega) hN;have qs := treeSame_is (diagL (fs.map (mutF m)) fs.length) hsm (by omega);have qv := refvalid_is false ((diagL (fs.map (mutF m)) fs.length).map ndG) .full m va (fun d hd => by obtain ⟨e, he, rfl⟩ := List.mem_map.1 hd; exact (hnode e he).1) (by rw [List.length_map]; omega);rw [show ((diagL (fs.map (mutF m)) fs.length).map ndG).map ngC = (diagL (fs.map (mutF m)) fs.length).map ndC by rw [List.map_map, show ngC ∘ ndG = ndC from funext ndG_cells], show ((diagL (fs.map (mutF m)) fs.length).map ndG).map NG.nd = diagL (fs.map (mutF m)) fs.length by rw [List.map_map, show NG.nd ∘ ndG = id from funext ndG_nd, List.map_id], hval] at qv;have qc := refclasses_is m va fs.isEmpty fs .unk hfv (by omega);obtain ⟨C, hC⟩ : ∃ C, C = dvL eqM (atM (fs.map (mutF m))) (idL fs.length) [] := ⟨_, rfl⟩;have hCc : classL (fs.map (mutF m)) fs.length = C.map (·.2) := by rw [hC]; rfl
 rw [hCc] at hll hlc;rw [List.length_map] at hll;rw [← hC] at qc;have hbd := dvL_bd2 eqM (atM (fs.map (mutF m))) (idL fs.length);rw [← hC, idL_len] at hbd;have hCn := partC_norefs (kc := (kN : Mach → List AV)) kN_norefs C;have hCl : (C.map (partC (kN : Mach → List AV))).length = C.length := List.length_map _;have hCg : ∀ (k : Nat) (p : Mach × List Int), C[k]? = some p → (C.map (partC (kN : Mach → List AV)))[k]? = some [AV.sl false (p.2.map intC) .unk] := fun k p h => by rw [List.getElem?_map, h]; rfl
 generalize C.map (partC (kN : Mach → List AV)) = CC at qc hCn hCl hCg;generalize diagL (fs.map (mutF m)) fs.length = T at qd hval hTl hsm hll hlc qr qs qv;have hTn := nds_norefs T;have hUn := ndUs_norefs T;have hTcl : (T.map ndC).length = T.length := List.length_map _;have hTg : ∀ (k : Nat) (d : Nd), T[k]? = some d → (T.map ndC)[k]? = some (ndC d) := fun k d h => by rw [List.getElem?_map, h]; rfl
 generalize T.map ndC = TC at qd qs qv hTn hTcl hTg;generalize T.map ndU = TU at qr qs hUn;generalize fs.map FA.cells = FS at q0 qd qr qc hn hfl2;rw [Mach.cells] at q0 qd qr qv qc;refine PureIs.of1 12 [25, 58, 65, 74, 80, 97] func3 ntmps3 results3 fun _ => ?_;refine EvC.a ?_;refine EvC.z 0 ?_;refine EvC.k1 ?_ (c1 := .ca q0);refine EvC.z 7 ?_;refine EvC.k1 ?_ (c1 := .ca qd) (h2 := by simp only [go_sem, hn] <;> rfl) (k2 := by simp [hn, hTn]);refine EvC.seq ?_;refine EvC.a ?_ (by simp only [go_sem, hfl2] <;> rfl);refine EvC.cs ?_ (by simp only [go_sem, decide_eq_false (show ¬ (fs.length : Int) = 0 by omega)] <;> rfl);refine EvC.seq ?_;refine EvC.k3 ?_ (h1 := by simp only [go_sem, hTn, hUn, hn, hTcl] <;> rfl) (k1 := by simp [hTn, hUn, hn]) (c1 := .cg qr) (h2 := by simp only [go_sem, hTn, hUn, hn, hTcl] <;> rfl) (k2 := by simp [hTn, hUn, hn]) (c2 := .cg qs) (h3 := by simp only [go_sem, hTn, hUn, hn, hTcl] <;> rfl) (k3 := by simp [hTn, hUn, hn]) (c3 := .cg qv);refine EvC.cs ?_;refine EvC.k1 ?_ (c1 := .ca qc) (h2 := by simp only [go_sem, hn, hCn, hTn] <;> rfl) (k2 := by simp [hn, hCn, hTn]);refine EvC.a ?_;refine EvC.seq ?_;refine EvC.a ?_;refine EvC.block ?_;refine EvC.loopS (σ := Nat) (fun i => ⟨[(5, .sl false TC .full), (7, .sl fs.isEmpty CC .unk), (8, .sc (.int .i64 (leafN T i))), (9, .sc (.int .i64 i))], [], [], 0⟩) (fun i => T.length - i) (fun i => i ≤ T.length) [5, 7, 8, 9] 0 ?_ ?_
 ·refine ⟨[], 0, rfl, (by simp only [go_sem, Int.natCast_zero, hCn, hTn, show leafN T 0 = 0 from rfl] <;> rfl), Nat.zero_le _⟩
 intro i hi;have hle := leafN_le T i;refine EvC.seq ?_;refine EvC.a ?_ (by simp only [go_sem, hTcl] <;> rfl);refine EvC.cond (by simp only [go_sem] <;> rfl) (fun hc => ?_) (fun hc => ?_);rotate_left
 ·refine EvC.exit ?_;obtain rfl : i = T.length := by have : ¬ i < T.length := (by simpa using hc); omega
  clear hc;have hlN : leafN T T.length = C.length := by rw [← hll, leafN, List.take_length]
  rw [hlN];refine EvC.k1 ?_ (h1 := by simp only [go_sem, hCl] <;> rfl) (c1 := .cg q9);refine EvC.rz ?_;simp only [go_sem]
 have hil : i < T.length := by simpa using hc
 clear hc;have hge := List.getElem?_eq_getElem hil;have hdm := List.getElem_mem hil;generalize T[i] = d at hge hdm;have hg := hTg i d hge;have hls := leafN_succ hge;obtain ⟨s1, s2, s3, s4⟩ := hsm d hdm;have hlc := hlc d hdm;obtain ⟨S, wd, bd⟩ := d;simp only at hls s1 s2 s3 s4 hlc;simp only [ndC, wAV, bAV] at hg;generalize (if wd.isEmpty = true then Cp.zer else Cp.full) = c1 at hg;generalize (if bd.isEmpty = true then Cp.zer else Cp.full) = c2 at hg;have hwl : (wd.map intC).length = wd.length := List.length_map _;obtain ⟨iZ, hiZ⟩ : ∃ z : Int, z = (i : Int) := ⟨_, rfl⟩;have hit : iZ.toNat = i := by omega
 obtain ⟨LN, hLN⟩ : ∃ z : Int, z = (leafN T i : Int) := ⟨_, rfl⟩;rw [← hiZ, ← hLN];refine EvC.skip ?_;refine EvC.seq ?_;refine EvC.block ?_;refine EvC.seq ?_;refine EvC.a ?_ (by simp only [go_sem, hg, hit, hTcl, hwl] <;> rfl) (by simp; try omega);by_cases hw : wd = [];rotate_left
 ·have hwp := List.length_pos_iff.2 hw;refine EvC.ct ?_ (by simp only [go_sem, decide_eq_true (show (0 : Int) < wd.length by omega)] <;> rfl);refine EvC.exit ?_;refine EvC.b ?_ (hok := by exact inI64_of (by omega) (by omega));rw [if_neg hw] at hls;exact ⟨[], i + 1, rfl, (by rw [hls, hLN, hiZ]; simp only [go_sem, hCn, hTn, Int.natCast_add, Int.natCast_one, Nat.add_zero] <;> rfl), hil, by omega⟩
 rw [if_pos hw] at hls;have hlc2 := hlc hw;subst hw;refine EvC.cs ?_ (by simp only [go_sem, List.length_nil, Int.natCast_zero] <;> rfl);refine EvC.a ?_ (hok := by exact inI64_of (by omega) (by omega));refine EvC.a ?_;refine EvC.seq ?_;refine EvC.a ?_;refine EvC.block ?_;obtain ⟨LM, hLM⟩ : ∃ z : Int, z = LN + 1 := ⟨_, rfl⟩;rw [← hLM];refine EvC.loopS (σ := Nat) (fun k => ⟨[(5, .sl false TC .full), (7, .sl fs.isEmpty CC .unk), (9, .sc (.int .i64 iZ)), (8, .sc (.int .i64 LM)), (10, .sc (.bool ((C.take k).any fun p => decide (p.2 = S)))), (11, .sc (.int .i64 k))], [], [], 0⟩) (fun k => C.length - k) (fun k => k ≤ C.length) [5, 7, 9, 8, 10, 11] 0 ?_ ?_
 ·exact ⟨[], 0, rfl, (by simp only [go_sem, Int.natCast_zero, hCn, hTn, List.take_zero, List.any_nil] <;> rfl), Nat.zero_le _⟩
 intro k hk;refine EvC.seq ?_;refine EvC.a ?_ (by simp only [go_sem, hCl] <;> rfl);by_cases hkl : k < C.length;rotate_left
 ·refine EvC.cf ?_ (by simp only [go_sem, decide_eq_false (show ¬ (k : Int) < C.length by omega)] <;> rfl);refine EvC.exit ?_;have hany : ((C.take k).any fun p => decide (p.2 = S)) = true := by
   rw [List.take_of_length_le (by omega), List.any_eq_true];obtain ⟨p, hp, he⟩ := List.mem_map.1 hlc2;exact ⟨p, hp, decide_eq_true he⟩
  rw [hany];refine EvC.a ?_;refine EvC.cs ?_;refine EvC.b ?_ (hok := by exact inI64_of (by omega) (by omega));exact ⟨[], i + 1, rfl, (by rw [hls, hLM, hLN, hiZ]; simp only [go_sem, hCn, hTn, Int.natCast_add, Int.natCast_one] <;> rfl), hil, by omega⟩
 have hke := List.getElem?_eq_getElem hkl;have hkm := List.getElem_mem hkl;have hts : ∀ P : Mach × List Int → Bool, (C.take (k + 1)).any P = ((C.take k).any P || P C[k]) := fun P => by
  rw [List.take_succ_eq_append_getElem hkl, List.any_append]; simp
 generalize C[k] = p at hke hkm hts;obtain ⟨px, l⟩ := p;have hkg := hCg k _ hke;have hll2 := hbd.2 _ hkm;have hts := hts fun p => decide (p.2 = S);simp only at hkg hll2 hts;obtain ⟨kZ, hkZ⟩ : ∃ z : Int, z = (k : Int) := ⟨_, rfl⟩;have hkt : kZ.toNat = k := by omega
 rw [← hkZ];refine EvC.cr ?_ (by simp only [go_sem, decide_eq_true (show kZ < (C.length : Int) by omega)] <;> rfl);refine EvC.seq ?_;refine EvC.block ?_;have q1 := same_is false l .unk false S .full (by omega);generalize hb : ((C.take k).any fun p => decide (p.2 = S)) = b at hts ⊢;cases b with
 | true =>
   apply EvC.drw mixed
   ·apply Tr.run
    ·simp only [go_sem, hkg, hkt, hCl, hg, hit, hTcl] <;> rfl
    ·simp; try omega
    apply Tr.cons
    ·exact .skipv (.sc (.bool true)) rfl rfl (by simp only [go_sem] <;> rfl) (by simp only [go_sem] <;> rfl)
    apply Tr.done
    ·simp only [go_sem, hkg, hkt, hCl, hg, hit, hTcl] <;> rfl
    ·simp; try omega
   ·kernel_rfl
   refine EvC.b ?_ (hok := by exact inI64_of (by omega) (by omega));exact ⟨[], k + 1, rfl, (by rw [hts, hkZ]; simp only [go_sem, hCn, hTn, Int.natCast_add, Int.natCast_one] <;> rfl), hkl, by omega⟩
 | false =>
   refine EvC.k1LD mixed ?_ (h1 := by simp only [go_sem, hkg, hkt, hCl, hg, hit, hTcl] <;> rfl) (k1 := by simp; try omega) (c1 := .cg q1) (h2 := by simp only [go_sem, hkg, hkt, hCl, hg, hit, hTcl] <;> rfl) (k2 := by simp; try omega);refine EvC.b ?_ (hok := by exact inI64_of (by omega) (by omega));exact ⟨[], k + 1, rfl, (by rw [hts, hkZ]; simp only [go_sem, hCn, hTn, Int.natCast_add, Int.natCast_one] <;> rfl), hkl, by omega⟩
end Go.Avl
