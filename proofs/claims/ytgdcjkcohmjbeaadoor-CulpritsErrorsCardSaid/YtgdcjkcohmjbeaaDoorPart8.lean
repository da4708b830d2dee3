/-
  Lemmas.
-/
import Derived.Test.YtgdcjkcohmjbeaaDoorPart7
set_option linter.unusedSimpArgs false
set_option linter.unusedVariables false
set_option linter.unnecessarySimpa false
set_option linter.deprecated false
namespace Go.Avl
open Go Go.Proofs.Tryd
set_option maxRecDepth 10000
def keyI (x : List Int) : List AV := [.sl false (x.map intC) .unk]
def eqI (a b : List Int) : Bool := decide (a = b)
theorem keyI_norefs (x : List Int) : AV.norefs (keyI x) = true := by
 have : (x.map intC).all AV.norefs = true := by simp [List.all_eq_true, intC, AV.norefs, AV.noref]
 simp [keyI, AV.norefs, AV.noref, this]
section
variable {κ : Type} {kc : κ → List AV}
theorem deep_norefs {M : Mem} {cs : List AV} (h : AV.norefs cs = true) : cs.map (AV.deep (snap M)) = cs := by
 have : ∀ c ∈ cs, AV.deep (snap M) c = c := by
  intro c hc
  obtain ⟨i, hi, rfl⟩ := List.getElem_of_mem hc
  exact deep_fix (snap_fix M) _ _ (Nat.le_refl _) (norefs_get cs h i hi)
 conv => rhs; rw [← List.map_id cs]
 exact List.map_congr_left this
theorem dcA_snap (hk : ∀ x, AV.norefs (kc x) = true) {M : Mem} : ∀ {ps : List (κ × List Int)} {s : Nat}, (∀ j p, ps[j]? = some p → mlook M (2000000 + (s + j)) = some (.arr 1 (p.2.map intC) true)) → (dcA kc ps s).map (fun c => c.map (AV.deep (snap M))) = ps.map (partC kc)
 | [], _, _ => rfl
 | p :: ps, s, h => by
   have h1 := h 0 p rfl
   have h2 := dcA_snap hk (M := M) (ps := ps) (s := s + 1) fun j q hq => by
    have := h (j + 1) q (by simpa using hq)
    rwa [show s + (j + 1) = s + 1 + j by omega] at this
   rw [Nat.add_zero] at h1
   rw [dcA, List.map_cons, h2, List.map_append, deep_norefs (hk p.1)]
   simp only [List.map_cons, List.map_nil, AV.deep, snap, h1, List.length_map, if_true]; rfl
theorem partC_norefs (hk : ∀ x, AV.norefs (kc x) = true) (ps : List (κ × List Int)) : (ps.map (partC kc)).all AV.norefs = true := by
 have app : ∀ cs : List AV, AV.norefs cs = true → ∀ d : AV, d.noref = true → AV.norefs (cs ++ [d]) = true := by
  intro cs
  induction cs with
  | nil => intro _ d hd; simp [AV.norefs, hd]
  | cons c cs ih =>
    intro h d hd
    simp only [AV.norefs, Bool.and_eq_true, List.cons_append] at h ⊢
    exact ⟨h.1, ih h.2 d hd⟩
 rw [List.all_eq_true]
 intro c hc
 obtain ⟨p, _, rfl⟩ := List.mem_map.1 hc
 refine app _ (hk p.1) _ ?_
 have : (p.2.map intC).all AV.norefs = true := by simp [List.all_eq_true, intC, AV.norefs, AV.noref]
 simp [AV.noref, this]
end
theorem dvPut_ne {κ : Type} {eqB : κ → κ → Bool} {x : κ} {i : Int} (ps : List (κ × List Int)) : (dvPut eqB x i ps).isEmpty = false := by
 cases ps with
 | nil => rfl
 | cons p ps => rw [dvPut]; split <;> rfl
theorem dvL_ne {κ : Type} {eqB : κ → κ → Bool} {K : Int → κ} : ∀ (is : List Int) {ps : List (κ × List Int)}, ps.isEmpty = false → (dvL eqB K is ps).isEmpty = false
 | [], _, h => h
 | i :: is, ps, _ => dvL_ne is (dvPut_ne ps)
theorem dvL_empty {κ : Type} (eqB : κ → κ → Bool) (K : Int → κ) (who : List Int) : (dvL eqB K who []).isEmpty = who.isEmpty := by
 cases who with
 | nil => rfl
 | cons i is => exact dvL_ne is (dvPut_ne [])
set_option maxHeartbeats 4000000 in
theorem divided83_is (nl : Bool) (who : List Int) (c : Cp) (hw : who.length < 1000000) {g : FuncId} {caps : List AV} (hcn : AV.norefs caps = true) (K : Int → List Int)
  (hK : ∀ i ∈ who, PureIs prog g (.sc (.int .i64 i) :: caps) (.sl false ((K i).map intC) .unk)) (hKl : ∀ i ∈ who, (K i).length < 1000000) :
  PureIs prog 83 [.sl nl (who.map intC) c, .fn g caps, .fn 66 []] (.sl who.isEmpty ((dvL eqI K who []).map (partC keyI)) .unk) := by
 refine PureIs.of1 3 [6, 7, 9, 10, 11, 12, 13, 14, 15, 22, 23, 24, 33, 50, 52] func83 ntmps83 results83 fun _ => ?_
 refine EvC.a ?_
 refine EvC.scope ?_
 refine EvC.a ?_
 refine EvC.seq ?_
 refine EvC.label ?_
 refine EvC.seq ?_
 refine EvC.a ?_
 refine EvC.thaw 1 (by simp only [go_sem] <;> rfl) ?_
 refine EvC.block ?_
 refine EvC.loopS (σ := Nat × List (List Int × List Int)) (fun g2 => ⟨[(1, .fn g caps), (2, .fn 66 []), (7, .tl 0 g2.2.length g2.2.isEmpty), (12, .sl nl (who.map intC) c), (13, .sc (.int .i64 who.length)), (14, .sc (.int .i64 g2.1))], [], dM keyI 2 g2.2, 3000000⟩) (fun g2 => who.length - g2.1)
  (fun g2 => g2.1 ≤ who.length ∧ dvL eqI K who [] = dvL eqI K (who.drop g2.1) g2.2 ∧ g2.2.length ≤ g2.1 ∧ ∀ q ∈ g2.2, q.1.length < 1000000 ∧ q.2.length ≤ g2.1) [1, 2, 7, 12, 13, 14] 3000000 ?_ ?_
 ·exact ⟨[(1, 0)], (0, []), rfl, (by simp only [go_sem, Int.natCast_zero, dM, dRows, dcA, msegA, List.map_nil, List.length_nil, List.isEmpty_nil, hcn] <;> rfl), Nat.zero_le _, rfl, Nat.le_refl _, fun _ h => by cases h⟩
 rintro ⟨i, ps⟩ ⟨hi, hdv, hpl, hpq⟩
 simp only at hi hdv hpl hpq ⊢
 refine EvC.a ?_
 refine EvC.seq ?_
 refine EvC.cond (by simp only [go_sem] <;> rfl) (fun hc => ?_) (fun hc => ?_)
 rotate_left
 ·refine EvC.exit ?_
  obtain rfl : who.length = i := by have : ¬ i < who.length := (by simpa using hc); omega
  rw [List.drop_length] at hdv
  have hdv : dvL eqI K who [] = ps := hdv
  have hp6 : ps.length ≤ 1000000 := by omega
  have hie : ps.isEmpty = who.isEmpty := by rw [← hdv]; exact dvL_empty eqI K who
  rw [hdv]
  have hrl : ∀ j p, ps[j]? = some p → mlook (dM keyI 2 ps) (2000000 + j) = some (.arr 1 (p.2.map intC) false) := fun j p hj => dM_lookR hj
  refine EvC.ofzAll ps.length (fun j hj => ⟨1, _, false, hrl j _ (List.getElem?_eq_getElem hj), by simp [List.all_eq_true, intC, AV.norefs, AV.noref]⟩) ?_
  have hfz : ofzAll ps.length (dM keyI 2 ps) = (0, .arr 2 (dcA keyI ps 0) false) :: dRowsF ps := by rw [dM, ofzAll_cons hp6 0 rfl, dRows_fz]
  have hsn : (dcA keyI ps 0).map (fun c => c.map (AV.deep (snap ((0, .arr 2 (dcA keyI ps 0) false) :: dRowsF ps)))) = ps.map (partC keyI) := dcA_snap keyI_norefs fun j p hj => by
   rw [Nat.zero_add]
   simp only [mlook]
   rw [if_neg (by omega), dRowsF_look hj]
  have hnr := partC_norefs (kc := keyI) keyI_norefs ps
  have hpl2 : (ps.map (partC keyI)).length = ps.length := List.length_map _
  have hmm := fun f => dRowsF_memMap f ps
  refine EvC.snapA 0 (by simp only [go_sem, hfz, hsn] <;> rfl) ?_
  rw [hie]
  generalize ps.map (partC keyI) = L at hnr hpl2 ⊢
  refine EvC.frz 0 (by simp only [go_sem, hnr, hpl2] <;> rfl) ?_
  refine EvC.a ?_ (by simp only [go_sem, hpl2] <;> rfl)
  refine EvC.rz ?_
  simp only [go_sem]
 have hil : i < who.length := by simpa using hc
 have he : who[i]? = some who[i] := List.getElem?_eq_getElem hil
 have hdr : who.drop i = who[i] :: who.drop (i + 1) := List.drop_eq_getElem_cons hil
 have hmem := List.getElem_mem hil
 have q := hK _ hmem
 have hkl := hKl _ hmem
 generalize who[i] = w at he hdr q hkl
 clear hmem
 rw [hdr, dvL] at hdv
 generalize hx : K w = x at q hkl hdv
 obtain ⟨iZ, hiZ⟩ : ∃ z : Int, z = (i : Int) := ⟨_, rfl⟩
 have hit : iZ.toNat = i := by omega
 rw [← hiZ]
 refine EvC.skip ?_
 refine EvC.seq ?_
 refine EvC.block ?_
 refine EvC.a ?_ (by simp only [go_sem, he, hit, intC] <;> rfl) (by simp; omega)
 apply EvC.s1
 ·apply Tr.run
  ·simp only [go_sem] <;> rfl
  ·simp
  apply Tr.cons
  ·exact .call rfl rfl (by simp only [go_sem] <;> rfl) (by simp only [go_sem] <;> rfl) (by simp only [go_sem] <;> rfl) (by simp only [go_sem, hcn] <;> rfl) (by simp only [go_sem] <;> rfl) (q)
  apply Tr.done
  ·simp only [go_sem] <;> rfl
  ·simp
 refine EvC.seq ?_
 have hp6 : ps.length < 1000000 := by omega
 have hl0 := dM_look0 (kc := keyI) (e := 2) (ps := ps)
 have hdl := dcA_len keyI ps 0
 refine EvC.a ?_ (by simp only [go_sem, hl0, hdl] <;> rfl)
 have hgk := dK_ok (n := ps.length) (by omega)
 have hhi := dK_hi (n := ps.length) (by omega)
 have hgc0 := dM_gc (e := 2) (M := dM keyI 2 ps) keyI_norefs (Nat.le_of_lt hp6) hl0 fun j p hj => dM_lookR hj
 refine EvC.block ?_
 refine EvC.loopS (σ := Nat) (fun n => ⟨[(1, .fn g caps), (2, .fn 66 []), (7, .tl 0 ps.length ps.isEmpty), (9, .sc (.int .i64 w)), (10, .sl false (x.map intC) .unk), (12, .sl nl (who.map intC) c), (13, .sc (.int .i64 who.length)), (14, .sc (.int .i64 iZ)), (22, .sc (.int .i64 ps.length)), (23, .sc (.int .i64 n))], [], dM keyI 2 ps, 3000000⟩) (fun n => ps.length - n)
  (fun n => n ≤ ps.length ∧ ∀ j q, j < n → ps[j]? = some q → eqI q.1 x = false) [1, 2, 7, 9, 10, 12, 13, 14, 22, 23] 3000000 ?_ ?_
 ·exact ⟨dK ps.length, 0, hgk, (by simp only [go_sem, Int.natCast_zero, hhi, hcn, hgc0] <;> rfl), Nat.zero_le _, fun j q h => absurd h (Nat.not_lt_zero _)⟩
 rintro n ⟨hn, hno⟩
 refine EvC.a ?_
 refine EvC.seq ?_
 refine EvC.cond (by simp only [go_sem] <;> rfl) (fun hc => ?_) (fun hc => ?_)
 rotate_left
 ·refine EvC.exit ?_
  obtain rfl : ps.length = n := by have : ¬ n < ps.length := (by simpa using hc); omega
  have hnew := dvPut_new (eqB := eqI) (x := x) (i := w) (ps := ps) fun q hq => by
   obtain ⟨j, hj, rfl⟩ := List.getElem_of_mem hq
   exact hno j _ hj (List.getElem?_eq_getElem hj)
  rw [hnew] at hdv
  have hr2 : room (ps.length + 1) 48 = true := by simp only [room_eq, decide_eq_true_eq]; omega
  refine EvC.b ?_ (by simp only [go_sem, hl0, hdl] <;> rfl) (by simp [hr2])
  obtain ⟨MM, hMM⟩ : ∃ MM : Mem, MM = (3000006, RObj.arr 2 [[.sl false (x.map intC) .unk, .tl 3000004 1 false]] false) :: (3000004, .arr 1 [[.sc (.int .i64 w)]] false) :: mset (dM keyI 2 ps) 0 (.arr 2 (dcA keyI ps 0 ++ [[.sl false (x.map intC) .unk, .tl 3000004 1 false]]) false) := ⟨_, rfl⟩
  rw [← hMM]
  refine EvC.b ?_ (hok := by exact inI64_of (by omega) (by omega))
  have hgk1 := dK1_ok (n := ps.length) (k := 3000004) hp6 rfl (by omega)
  have hhi1 := dK1_hi (n := ps.length) (k0 := 3000004) (by omega)
  have hgc1 := dM_gc1 (e := 2) (M := MM) (k := 3000004) (x := x) (l := [w]) keyI_norefs hp6 rfl (by omega) (by
   rw [hMM]; simp only [mlook]; rw [if_neg (by omega), if_neg (by omega), mlook_mset, if_pos rfl]; rfl) (fun j p hj => by
   have hjl := (List.getElem?_eq_some_iff.1 hj).1
   rw [hMM]; simp only [mlook]; rw [if_neg (by omega), if_neg (by omega), mlook_mset, if_neg (by omega), dM_lookR hj]) (by
   rw [hMM]; rfl)
  have hsl : ps.length + 1 = (ps ++ [(x, [w])]).length := by simp
  have hse : (ps ++ [(x, [w])]).isEmpty = false := by simp
  have hqq : ∀ q ∈ ps ++ [(x, [w])], q.1.length < 1000000 ∧ q.2.length ≤ i + 1 := fun q hq => by
   rcases List.mem_append.1 hq with hq | hq
   ·have := hpq q hq; omega
   ·obtain rfl := List.mem_singleton.1 hq
    exact ⟨hkl, by simp⟩
  generalize ps ++ [(x, [w])] = T at hgc1 hsl hse hdv hqq
  exact ⟨dK1 ps.length 3000004, (i + 1, T), hgk1, (by rw [hiZ]; simp only [go_sem, hhi1, hgc1, hcn, hsl, hse, Int.natCast_add, Int.natCast_one] <;> rfl), ⟨hil, hdv, by simp only; omega, hqq⟩, by simp only; omega⟩
 have hnl : n < ps.length := by simpa using hc
 clear hc
 have hpe : ps[n]? = some ps[n] := List.getElem?_eq_getElem hnl
 have hpm := hpq _ (List.getElem_mem hnl)
 generalize ps[n] = p at hpe hpm
 obtain ⟨px, pw⟩ := p
 simp only at hpm
 have hg := dcA_get keyI (s := 0) hpe
 rw [Nat.zero_add] at hg
 simp only [keyI, List.cons_append, List.nil_append] at hg
 obtain ⟨nZ, hnZ⟩ : ∃ z : Int, z = (n : Int) := ⟨_, rfl⟩
 have hnt : nZ.toNat = n := by omega
 rw [← hnZ]
 refine EvC.skip ?_
 refine EvC.seq ?_
 refine EvC.block ?_
 refine EvC.a ?_
 have q2 := equal53_is false false px x .unk .unk hpm.1
 apply EvC.s1
 ·apply Tr.run
  ·simp only [go_sem, hl0, hdl, hg, hnt] <;> rfl
  ·simp; omega
  apply Tr.cons
  ·exact .ca (q2)
  apply Tr.done
  ·simp only [go_sem] <;> rfl
  ·simp
 by_cases hpx : px = x
 rotate_left
 ·refine EvC.cs ?_ (by simp only [go_sem, decide_eq_false hpx] <;> rfl)
  refine EvC.b ?_ (hok := by exact inI64_of (by omega) (by omega))
  refine ⟨dK ps.length, n + 1, hgk, (by rw [hnZ]; simp only [go_sem, hhi, hcn, hgc0, Int.natCast_add, Int.natCast_one] <;> rfl), ⟨hnl, fun j q hj hq => ?_⟩, by omega⟩
  by_cases hjn : j = n
  ·subst hjn; rw [hpe] at hq; cases hq; exact decide_eq_false hpx
  ·exact hno j q (by omega) hq
 refine EvC.ct ?_ (by simp only [go_sem, decide_eq_true hpx] <;> rfl)
 have hset := dvPut_set (eqB := eqI) (x := x) (i := w) (ps := ps) (n := n) hno hpe (decide_eq_true hpx)
 rw [hset] at hdv
 have hn6 : n < 1000000 := by omega
 have hlr := dM_lookR (kc := keyI) (e := 2) hpe
 have hr3 : room (pw.length + 1) 8 = true := by simp only [room_eq, decide_eq_true_eq]; omega
 have hl00 : ∀ o, mlook (mset (dM keyI 2 ps) (2000000 + n) o) 0 = some (.arr 2 (dcA keyI ps 0) false) := fun o => by rw [mlook_mset, if_neg (by omega)]; exact hl0
 have hlrs : ∀ o, mlook (mset (dM keyI 2 ps) (2000000 + n) o) (2000000 + n) = some o := fun o => by rw [mlook_mset, if_pos rfl]
 have hds := dcA_set keyI (s := 0) (pw ++ [w]) hpe
 have hpl3 : (pw ++ [w]).length = pw.length + 1 := by simp
 rw [Nat.zero_add, hpl3] at hds
 simp only [keyI, List.cons_append, List.nil_append] at hds
 have hnl2 : notO (2000000 + n) = false := by unfold notO; simp; omega
 refine EvC.a ?_ (by simp only [go_sem, hl0, hl00, hlrs, hdl, hg, hnt, hlr, o_ne hn6, List.length_map, hds] <;> rfl) (by simp [hr3, acell, hnl, hlrs]; try omega)
 obtain ⟨MM, hMM⟩ : ∃ MM : Mem, MM = mset (mset (dM keyI 2 ps) (2000000 + n) (.arr 1 (pw.map intC ++ [[.sc (.int .i64 w)]]) false)) 0 (.arr 2 (dcA keyI (ps.set n (px, pw ++ [w])) 0) false) := ⟨_, rfl⟩
 rw [← hMM]
 refine EvC.exit ?_
 have hTl : (ps.set n (px, pw ++ [w])).length = ps.length := List.length_set
 have hM0 : mlook MM 0 = some (.arr 2 (dcA keyI (ps.set n (px, pw ++ [w])) 0) false) := by rw [hMM, mlook_mset, if_pos rfl]
 have hMr : ∀ j p, (ps.set n (px, pw ++ [w]))[j]? = some p → mlook MM (2000000 + j) = some (.arr 1 (p.2.map intC) false) := fun j p hj => by
  rw [hMM, mlook_mset, if_neg (by omega), mlook_mset]
  rw [List.getElem?_set] at hj
  by_cases e : n = j
  ·subst e
   rw [if_pos rfl, if_pos hnl] at hj
   cases hj
   rw [if_pos rfl]; simp [intC]
  ·rw [if_neg e] at hj
   rw [if_neg (by omega), dM_lookR hj]
 have hTe : (ps.set n (px, pw ++ [w])).isEmpty = ps.isEmpty := by
  cases ps with
  | nil => rfl
  | cons a b => cases n <;> rfl
 have hTq : ∀ q ∈ ps.set n (px, pw ++ [w]), q.1.length < 1000000 ∧ q.2.length ≤ i + 1 := fun q hq => by
  rcases List.mem_or_eq_of_mem_set hq with hq | rfl
  ·have := hpq q hq; omega
  ·refine ⟨hpm.1, ?_⟩
   simp only [List.length_append, List.length_cons, List.length_nil]; omega
 have hgcT := dM_gc (e := 2) (M := MM) (ps := ps.set n (px, pw ++ [w])) keyI_norefs (by omega) hM0 hMr
 rw [hTl] at hgcT
 clear hMM
 generalize ps.set n (px, pw ++ [w]) = T at hTl hgcT hTe hdv hTq
 refine EvC.b ?_ (hok := by exact inI64_of (by omega) (by omega))
 exact ⟨dK ps.length, (i + 1, T), hgk, (by rw [hiZ]; simp only [go_sem, hhi, hgcT, hcn, hTl, hTe, Int.natCast_add, Int.natCast_one] <;> rfl), ⟨hil, hdv, by simp only; omega, hTq⟩, by simp only; omega⟩
def eqM (a b : Mach) : Bool := (equalR a b).1
set_option maxHeartbeats 4000000 in
theorem divided43_is (nl : Bool) (who : List Int) (c : Cp) (hw : who.length < 1000000) {g : FuncId} {caps : List AV} (hcn : AV.norefs caps = true) (K : Int → Mach)
  (hK : ∀ i ∈ who, PureIs prog g (.sc (.int .i64 i) :: caps) (.ag (K i).cells)) (hKl : ∀ i ∈ who, ∀ r ∈ (K i).rows, r.2.length < 1000000) :
  PureIs prog 43 [.sl nl (who.map intC) c, .fn g caps, .fn 46 []] (.sl who.isEmpty ((dvL eqM K who []).map (partC Mach.cells)) .unk) := by
 refine PureIs.of1 3 [6, 7, 9, 10, 11, 12, 13, 14, 15, 22, 23, 24, 33, 50, 52] func43 ntmps43 results43 fun _ => ?_
 refine EvC.a ?_
 refine EvC.scope ?_
 refine EvC.a ?_
 refine EvC.seq ?_
 refine EvC.label ?_
 refine EvC.seq ?_
 refine EvC.a ?_
 refine EvC.thaw 1 (by simp only [go_sem] <;> rfl) ?_
 refine EvC.block ?_
 refine EvC.loopS (σ := Nat × List (Mach × List Int)) (fun g2 => ⟨[(1, .fn g caps), (2, .fn 46 []), (7, .tl 0 g2.2.length g2.2.isEmpty), (12, .sl nl (who.map intC) c), (13, .sc (.int .i64 who.length)), (14, .sc (.int .i64 g2.1))], [], dM Mach.cells 4 g2.2, 3000000⟩) (fun g2 => who.length - g2.1)
  (fun g2 => g2.1 ≤ who.length ∧ dvL eqM K who [] = dvL eqM K (who.drop g2.1) g2.2 ∧ g2.2.length ≤ g2.1 ∧ ∀ q ∈ g2.2, (∀ r ∈ q.1.rows, r.2.length < 1000000) ∧ q.2.length ≤ g2.1) [1, 2, 7, 12, 13, 14] 3000000 ?_ ?_
 ·exact ⟨[(1, 0)], (0, []), rfl, (by simp only [go_sem, Int.natCast_zero, dM, dRows, dcA, msegA, List.map_nil, List.length_nil, List.isEmpty_nil, hcn] <;> rfl), Nat.zero_le _, rfl, Nat.le_refl _, fun _ h => by cases h⟩
 rintro ⟨i, ps⟩ ⟨hi, hdv, hpl, hpq⟩
 simp only at hi hdv hpl hpq ⊢
 refine EvC.a ?_
 refine EvC.seq ?_
 refine EvC.cond (by simp only [go_sem] <;> rfl) (fun hc => ?_) (fun hc => ?_)
 rotate_left
 ·refine EvC.exit ?_
  obtain rfl : who.length = i := by have : ¬ i < who.length := (by simpa using hc); omega
  rw [List.drop_length] at hdv
  have hdv : dvL eqM K who [] = ps := hdv
  have hp6 : ps.length ≤ 1000000 := by omega
  have hie : ps.isEmpty = who.isEmpty := by rw [← hdv]; exact dvL_empty eqM K who
  rw [hdv]
  have hrl : ∀ j p, ps[j]? = some p → mlook (dM Mach.cells 4 ps) (2000000 + j) = some (.arr 1 (p.2.map intC) false) := fun j p hj => dM_lookR hj
  refine EvC.ofzAll ps.length (fun j hj => ⟨1, _, false, hrl j _ (List.getElem?_eq_getElem hj), by simp [List.all_eq_true, intC, AV.norefs, AV.noref]⟩) ?_
  have hfz : ofzAll ps.length (dM Mach.cells 4 ps) = (0, .arr 4 (dcA Mach.cells ps 0) false) :: dRowsF ps := by rw [dM, ofzAll_cons hp6 0 rfl, dRows_fz]
  have hsn : (dcA Mach.cells ps 0).map (fun c => c.map (AV.deep (snap ((0, .arr 4 (dcA Mach.cells ps 0) false) :: dRowsF ps)))) = ps.map (partC Mach.cells) := dcA_snap norefs_mcells fun j p hj => by
   rw [Nat.zero_add]
   simp only [mlook]
   rw [if_neg (by omega), dRowsF_look hj]
  have hnr := partC_norefs (kc := Mach.cells) norefs_mcells ps
  have hpl2 : (ps.map (partC Mach.cells)).length = ps.length := List.length_map _
  have hmm := fun f => dRowsF_memMap f ps
  refine EvC.snapA 0 (by simp only [go_sem, hfz, hsn] <;> rfl) ?_
  rw [hie]
  generalize ps.map (partC Mach.cells) = L at hnr hpl2 ⊢
  refine EvC.frz 0 (by simp only [go_sem, hnr, hpl2] <;> rfl) ?_
  refine EvC.a ?_ (by simp only [go_sem, hpl2] <;> rfl)
  refine EvC.rz ?_
  simp only [go_sem]
 have hil : i < who.length := by simpa using hc
 have he : who[i]? = some who[i] := List.getElem?_eq_getElem hil
 have hdr : who.drop i = who[i] :: who.drop (i + 1) := List.drop_eq_getElem_cons hil
 have hmem := List.getElem_mem hil
 have q := hK _ hmem
 have hkl := hKl _ hmem
 generalize who[i] = w at he hdr q hkl
 clear hmem
 rw [hdr, dvL] at hdv
 generalize hx : K w = x at q hkl hdv
 obtain ⟨iZ, hiZ⟩ : ∃ z : Int, z = (i : Int) := ⟨_, rfl⟩
 have hit : iZ.toNat = i := by omega
 rw [← hiZ]
 refine EvC.skip ?_
 refine EvC.seq ?_
 refine EvC.block ?_
 refine EvC.a ?_ (by simp only [go_sem, he, hit, intC] <;> rfl) (by simp; omega)
 have hdn := dM_none (kc := Mach.cells) (e := 4) (ps := ps) (k := 3000007) (by omega) rfl (by omega)
 have hdm : ∀ o, mdel (mset (dM Mach.cells 4 ps) 3000007 o) 3000007 = dM Mach.cells 4 ps := fun o => mdel_mset_none hdn
 have hlm : ∀ o, mlook (mset (dM Mach.cells 4 ps) 3000007 o) 3000007 = some o := fun o => by rw [mlook_mset, if_pos rfl]
 apply EvC.s1
 ·apply Tr.run
  ·simp only [go_sem] <;> rfl
  ·simp
  apply Tr.cons
  ·exact .call rfl rfl (by simp only [go_sem] <;> rfl) (by simp only [go_sem] <;> rfl) (by simp only [go_sem] <;> rfl) (by simp only [go_sem, hcn] <;> rfl) (by simp only [go_sem] <;> rfl) (q)
  apply Tr.done
  ·simp only [go_sem, Mach.cells, hlm, mset_mset_same] <;> rfl
  ·simp
 refine EvC.z 3000007 ?_ (by simp only [go_sem, hlm, hdm] <;> rfl)
 refine EvC.seq ?_
 have hp6 : ps.length < 1000000 := by omega
 have hl0 := dM_look0 (kc := Mach.cells) (e := 4) (ps := ps)
 have hdl := dcA_len Mach.cells ps 0
 refine EvC.a ?_ (by simp only [go_sem, hl0, hdl] <;> rfl)
 have hgk := dK_ok (n := ps.length) (by omega)
 have hhi := dK_hi (n := ps.length) (by omega)
 have hgc0 := dM_gc (e := 4) (M := dM Mach.cells 4 ps) norefs_mcells (Nat.le_of_lt hp6) hl0 fun j p hj => dM_lookR hj
 refine EvC.block ?_
 refine EvC.loopS (σ := Nat) (fun n => ⟨[(1, .fn g caps), (2, .fn 46 []), (7, .tl 0 ps.length ps.isEmpty), (9, .sc (.int .i64 w)), (10, .ia x.cells), (12, .sl nl (who.map intC) c), (13, .sc (.int .i64 who.length)), (14, .sc (.int .i64 iZ)), (22, .sc (.int .i64 ps.length)), (23, .sc (.int .i64 n))], [], dM Mach.cells 4 ps, 3000000⟩) (fun n => ps.length - n)
  (fun n => n ≤ ps.length ∧ ∀ j q, j < n → ps[j]? = some q → eqM q.1 x = false) [1, 2, 7, 9, 10, 12, 13, 14, 22, 23] 3000000 ?_ ?_
 ·exact ⟨dK ps.length, 0, hgk, (by simp only [go_sem, Int.natCast_zero, hhi, hcn, hgc0, deeps_toIa hcn, Mach.cells] <;> rfl), Nat.zero_le _, fun j q h => absurd h (Nat.not_lt_zero _)⟩
 rintro n ⟨hn, hno⟩
 refine EvC.a ?_
 refine EvC.seq ?_
 refine EvC.cond (by simp only [go_sem] <;> rfl) (fun hc => ?_) (fun hc => ?_)
 rotate_left
 ·refine EvC.exit ?_
  obtain rfl : ps.length = n := by have : ¬ n < ps.length := (by simpa using hc); omega
  have hnew := dvPut_new (eqB := eqM) (x := x) (i := w) (ps := ps) fun q hq => by
   obtain ⟨j, hj, rfl⟩ := List.getElem_of_mem hq
   exact hno j _ hj (List.getElem?_eq_getElem hj)
  rw [hnew] at hdv
  have hr2 : room (ps.length + 1) 64 = true := by simp only [room_eq, decide_eq_true_eq]; omega
  refine EvC.b ?_ (by simp only [go_sem, hl0, hdl, Mach.cells] <;> rfl) (by simp [hr2])
  obtain ⟨MM, hMM⟩ : ∃ MM : Mem, MM = (3000006, RObj.arr 4 [[.sc (.int .i64 x.ins), .sc (.int .i64 x.outs), .sl x.nl (x.rows.map rowC) .unk, .tl 3000004 1 false]] false) :: (3000004, .arr 1 [[.sc (.int .i64 w)]] false) :: mset (dM Mach.cells 4 ps) 0 (.arr 4 (dcA Mach.cells ps 0 ++ [[.sc (.int .i64 x.ins), .sc (.int .i64 x.outs), .sl x.nl (x.rows.map rowC) .unk, .tl 3000004 1 false]]) false) := ⟨_, rfl⟩
  rw [← hMM]
  refine EvC.b ?_ (hok := by exact inI64_of (by omega) (by omega))
  have hgk1 := dK1_ok (n := ps.length) (k := 3000004) hp6 rfl (by omega)
  have hhi1 := dK1_hi (n := ps.length) (k0 := 3000004) (by omega)
  have hgc1 := dM_gc1 (e := 4) (M := MM) (k := 3000004) (x := x) (l := [w]) norefs_mcells hp6 rfl (by omega) (by
   rw [hMM]; simp only [mlook]; rw [if_neg (by omega), if_neg (by omega), mlook_mset, if_pos rfl]; rfl) (fun j p hj => by
   have hjl := (List.getElem?_eq_some_iff.1 hj).1
   rw [hMM]; simp only [mlook]; rw [if_neg (by omega), if_neg (by omega), mlook_mset, if_neg (by omega), dM_lookR hj]) (by
   rw [hMM]; rfl)
  have hsl : ps.length + 1 = (ps ++ [(x, [w])]).length := by simp
  have hse : (ps ++ [(x, [w])]).isEmpty = false := by simp
  have hqq : ∀ q ∈ ps ++ [(x, [w])], (∀ r ∈ q.1.rows, r.2.length < 1000000) ∧ q.2.length ≤ i + 1 := fun q hq => by
   rcases List.mem_append.1 hq with hq | hq
   ·exact ⟨(hpq q hq).1, by have := (hpq q hq).2; omega⟩
   ·obtain rfl := List.mem_singleton.1 hq
    exact ⟨hkl, by simp⟩
  generalize ps ++ [(x, [w])] = T at hgc1 hsl hse hdv hqq
  exact ⟨dK1 ps.length 3000004, (i + 1, T), hgk1, (by rw [hiZ]; simp only [go_sem, hhi1, hgc1, hcn, hsl, hse, Int.natCast_add, Int.natCast_one] <;> rfl), ⟨hil, hdv, by simp only; omega, hqq⟩, by simp only; omega⟩
 have hnl : n < ps.length := by simpa using hc
 clear hc
 have hpe : ps[n]? = some ps[n] := List.getElem?_eq_getElem hnl
 have hpm := hpq _ (List.getElem_mem hnl)
 generalize ps[n] = p at hpe hpm
 obtain ⟨px, pw⟩ := p
 simp only at hpm
 have hg := dcA_get Mach.cells (s := 0) hpe
 rw [Nat.zero_add] at hg
 simp only [Mach.cells, List.cons_append, List.nil_append] at hg
 obtain ⟨nZ, hnZ⟩ : ∃ z : Int, z = (n : Int) := ⟨_, rfl⟩
 have hnt : nZ.toNat = n := by omega
 rw [← hnZ]
 refine EvC.skip ?_
 refine EvC.seq ?_
 refine EvC.block ?_
 refine EvC.a ?_
 have q2 := alike_is px x hpm.1 hkl
 apply EvC.seq
 apply EvC.drw mixed
 ·apply Tr.run
  ·simp only [go_sem, hl0, hdl, hg, hnt, Mach.cells] <;> rfl
  ·simp; omega
  apply Tr.cons
  ·exact .ca (q2)
  apply Tr.done
  ·simp only [go_sem] <;> rfl
  ·simp
 ·kernel_rfl
 obtain hpx | hpx : eqM px x = false ∨ eqM px x = true := by cases eqM px x <;> simp
 ·refine EvC.cs ?_ (by simp only [go_sem, show (equalR px x).1 = false from hpx] <;> rfl)
  refine EvC.b ?_ (hok := by exact inI64_of (by omega) (by omega))
  refine ⟨dK ps.length, n + 1, hgk, (by rw [hnZ]; simp only [go_sem, hhi, hcn, hgc0, Int.natCast_add, Int.natCast_one] <;> rfl), ⟨hnl, fun j q hj hq => ?_⟩, by omega⟩
  by_cases hjn : j = n
  ·subst hjn; rw [hpe] at hq; cases hq; exact hpx
  ·exact hno j q (by omega) hq
 refine EvC.ct ?_ (by simp only [go_sem, show (equalR px x).1 = true from hpx] <;> rfl)
 have hset := dvPut_set (eqB := eqM) (x := x) (i := w) (ps := ps) (n := n) hno hpe hpx
 rw [hset] at hdv
 have hn6 : n < 1000000 := by omega
 have hlr := dM_lookR (kc := Mach.cells) (e := 4) hpe
 have hr3 : room (pw.length + 1) 8 = true := by simp only [room_eq, decide_eq_true_eq]; omega
 have hl00 : ∀ o, mlook (mset (dM Mach.cells 4 ps) (2000000 + n) o) 0 = some (.arr 4 (dcA Mach.cells ps 0) false) := fun o => by rw [mlook_mset, if_neg (by omega)]; exact hl0
 have hlrs : ∀ o, mlook (mset (dM Mach.cells 4 ps) (2000000 + n) o) (2000000 + n) = some o := fun o => by rw [mlook_mset, if_pos rfl]
 have hds := dcA_set Mach.cells (s := 0) (pw ++ [w]) hpe
 have hpl3 : (pw ++ [w]).length = pw.length + 1 := by simp
 rw [Nat.zero_add, hpl3] at hds
 simp only [Mach.cells, List.cons_append, List.nil_append] at hds
 have hnl2 : notO (2000000 + n) = false := by unfold notO; simp; omega
 refine EvC.a ?_ (by simp only [go_sem, hl0, hl00, hlrs, hdl, hg, hnt, hlr, o_ne hn6, List.length_map, hds] <;> rfl) (by simp [hr3, acell, hnl, hlrs]; try omega)
 obtain ⟨MM, hMM⟩ : ∃ MM : Mem, MM = mset (mset (dM Mach.cells 4 ps) (2000000 + n) (.arr 1 (pw.map intC ++ [[.sc (.int .i64 w)]]) false)) 0 (.arr 4 (dcA Mach.cells (ps.set n (px, pw ++ [w])) 0) false) := ⟨_, rfl⟩
 rw [← hMM]
 refine EvC.exit ?_
 have hTl : (ps.set n (px, pw ++ [w])).length = ps.length := List.length_set
 have hM0 : mlook MM 0 = some (.arr 4 (dcA Mach.cells (ps.set n (px, pw ++ [w])) 0) false) := by rw [hMM, mlook_mset, if_pos rfl]
 have hMr : ∀ j p, (ps.set n (px, pw ++ [w]))[j]? = some p → mlook MM (2000000 + j) = some (.arr 1 (p.2.map intC) false) := fun j p hj => by
  rw [hMM, mlook_mset, if_neg (by omega), mlook_mset]
  rw [List.getElem?_set] at hj
  by_cases e : n = j
  ·subst e
   rw [if_pos rfl, if_pos hnl] at hj
   cases hj
   rw [if_pos rfl]; simp [intC]
  ·rw [if_neg e] at hj
   rw [if_neg (by omega), dM_lookR hj]
 have hTe : (ps.set n (px, pw ++ [w])).isEmpty = ps.isEmpty := by
  cases ps with
  | nil => rfl
  | cons a b => cases n <;> rfl
 have hTq : ∀ q ∈ ps.set n (px, pw ++ [w]), (∀ r ∈ q.1.rows, r.2.length < 1000000) ∧ q.2.length ≤ i + 1 := fun q hq => by
  rcases List.mem_or_eq_of_mem_set hq with hq | rfl
  ·exact ⟨(hpq q hq).1, by have := (hpq q hq).2; omega⟩
  ·refine ⟨hpm.1, ?_⟩
   simp only [List.length_append, List.length_cons, List.length_nil]; omega
 have hgcT := dM_gc (e := 4) (M := MM) (ps := ps.set n (px, pw ++ [w])) norefs_mcells (by omega) hM0 hMr
 rw [hTl] at hgcT
 clear hMM
 generalize ps.set n (px, pw ++ [w]) = T at hTl hgcT hTe hdv hTq
 refine EvC.b ?_ (hok := by exact inI64_of (by omega) (by omega))
 exact ⟨dK ps.length, (i + 1, T), hgk, (by rw [hiZ]; simp only [go_sem, hhi, hgcT, hcn, hTl, hTe, Int.natCast_add, Int.natCast_one] <;> rfl), ⟨hil, hdv, by simp only; omega, hTq⟩, by simp only; omega⟩
def m00 : Mach := ⟨0, 0, true, []⟩
def atM (X : List Mach) (i : Int) : Mach := X.getD i.toNat m00
theorem atM_get {X : List Mach} {i : Int} (h : i.toNat < X.length) : (X.map Mach.cells)[i.toNat]? = some (atM X i).cells := by
 rw [List.getElem?_map, List.getElem?_eq_getElem h, atM, List.getD_eq_getElem?_getD, List.getElem?_eq_getElem h]; rfl
theorem responses1_is (xn : Bool) (X : List Mach) (xc : Cp) (wn : Bool) (w : List Int) (wc : Cp) (i : Int) (hi : 0 ≤ i ∧ i < X.length) (hv : Valid (atM X i)) (hw : wordErr (atM X i).ins w = 0) (hl : w.length < 1000000) :
  PureIs prog 82 [.sc (.int .i64 i), .ia [.sl xn (X.map Mach.cells) xc], .ia [.sl wn (w.map intC) wc]] (.sl false ((runR (atM X i) 0 w).map intC) .unk) := by
 have hx := atM_get (X := X) (i := i) (by omega)
 have hr := hv.rows
 have q := run52_is hv 0 ⟨by omega, by omega⟩ wn w wc hw hl
 generalize atM X i = m at hx q
 refine PureIs.of1 3 [4, 5, 6, 7] func82 ntmps82 results82 fun _ => ?_
 refine EvC.a ?_
 apply EvC.seq
 apply EvC.drw mixed
 ·apply Tr.run
  ·simp only [go_sem, hx, Mach.cells, List.length_map] <;> rfl
  ·simp; omega
  apply Tr.cons
  ·exact .ca (q)
  apply Tr.done
  ·simp only [go_sem] <;> rfl
  ·simp
 ·kernel_rfl
 refine EvC.a ?_
 refine EvC.rz ?_
 simp only [go_sem]
def respK (X : List Mach) (w : List Int) (i : Int) : List Int := runR (atM X i) 0 w
theorem responses_is (xn : Bool) (X : List Mach) (xc : Cp) (whn : Bool) (who : List Int) (whc : Cp) (wn : Bool) (w : List Int) (wc : Cp) (hwho : ∀ i ∈ who, 0 ≤ i ∧ i < X.length) (hv : ∀ m ∈ X, Valid m) (hw : ∀ m ∈ X, wordErr m.ins w = 0) (hl : w.length < 1000000) (hwl : who.length < 1000000) :
  PureIs prog 53 [.sl xn (X.map Mach.cells) xc, .sl whn (who.map intC) whc, .sl wn (w.map intC) wc] (.sl who.isEmpty ((dvL eqI (respK X w) who []).map (partC keyI)) .unk) := by
 have hXn := norefs_machs X
 have hin : ∀ i ∈ who, atM X i ∈ X := fun i hi => by
  have h := hwho i hi
  rw [atM, List.getD_eq_getElem?_getD, List.getElem?_eq_getElem (show i.toNat < X.length by omega)]
  exact List.getElem_mem _
 have q := divided83_is whn who whc hwl (g := 82) (caps := [.ia [.sl xn (X.map Mach.cells) xc], .ia [.sl wn (w.map intC) wc]]) (by simp [AV.norefs, AV.noref, hXn, intC]) (respK X w)
  (fun i hi => responses1_is xn X xc wn w wc i (hwho i hi) (hv _ (hin i hi)) (hw _ (hin i hi)) hl) (fun i hi => by rw [respK, runR_len]; exact hl)
 refine PureIs.of1 3 [3, 5, 6, 7] func53 ntmps53 results53 fun _ => ?_
 refine EvC.a ?_
 refine EvC.z 0 ?_ (by simp only [go_sem, hXn] <;> rfl)
 refine EvC.z 1 ?_
 refine EvC.a ?_
 apply EvC.s1
 ·apply Tr.run
  ·simp only [go_sem] <;> rfl
  ·simp
  apply Tr.cons
  ·exact .call rfl rfl (by simp only [go_sem] <;> rfl) (by simp only [go_sem] <;> rfl) (by simp only [go_sem] <;> rfl) (by simp only [go_sem, hXn] <;> rfl) (by simp only [go_sem] <;> rfl) (q)
  apply Tr.done
  ·simp only [go_sem] <;> rfl
  ·simp
 refine EvC.rz ?_
 simp only [go_sem]
section
variable (F : Nat → List AV) (d : List AV)
def fillC (n k : Nat) : List (List AV) := (List.range n).map fun i => if i < k then F i else d
theorem fillC_zero (n : Nat) : fillC F d n 0 = List.replicate n d := by
 apply List.ext_getElem
 ·simp [fillC]
 ·intro i h1 h2; simp [fillC]
theorem fillC_len (n k : Nat) : (fillC F d n k).length = n := by simp [fillC]
theorem fillC_get {n k : Nat} (h : k < n) : (fillC F d n k)[k]? = some d := by
 rw [List.getElem?_eq_getElem (by rw [fillC_len]; exact h)]
 simp [fillC]
theorem fillC_set {n k : Nat} (h : k < n) : (fillC F d n k).set k (F k) = fillC F d n (k + 1) := by
 apply List.ext_getElem
 ·simp [fillC]
 ·intro i h1 h2
  simp only [fillC, List.getElem_set, List.getElem_map, List.getElem_range]
  by_cases e : k = i
  ·subst e; simp
  ·rw [if_neg e]
   by_cases h3 : i < k
   ·rw [if_pos h3, if_pos (by omega)]
   ·rw [if_neg h3, if_neg (by omega)]
theorem fillC_all (n : Nat) : fillC F d n n = (List.range n).map F := List.map_congr_left fun i hi => by rw [if_pos (List.mem_range.1 hi)]
theorem fillC_norefs {F : Nat → List AV} {d : List AV} (hF : ∀ i, AV.norefs (F i) = true) (hd : AV.norefs d = true) (n k : Nat) : (fillC F d n k).all AV.norefs = true := by
 rw [List.all_eq_true]
 intro c hc
 obtain ⟨i, _, rfl⟩ := List.mem_map.1 hc
 split
 ·exact hF i
 ·exact hd
end
theorem range_getD {α : Type} (l : List α) (x : α) : (List.range l.length).map (fun i => l.getD i x) = l := by
 apply List.ext_getElem
 ·simp
 ·intro i h1 h2
  have : i < l.length := by simpa using h1
  simp [List.getElem?_eq_getElem this]
theorem dvL_len {κ : Type} {eqB : κ → κ → Bool} {K : Int → κ} : ∀ (is : List Int) (ps : List (κ × List Int)), (dvL eqB K is ps).length ≤ ps.length + is.length
 | [], ps => Nat.le_refl _
 | i :: is, ps => by
   have h1 := dvL_len (eqB := eqB) (K := K) is (dvPut eqB (K i) i ps)
   have h2 := dvPut_len (eqB := eqB) (x := K i) (i := i) (ps := ps)
   rw [dvL, List.length_cons]; omega
def classL (X : List Mach) (n : Nat) : List (List Int) := (dvL eqM (atM X) (idL n) []).map (·.2)
def clsA (m : Mach) (fs : List FA) : AV :=
 if mutErr m fs = 0 then .tu [.sl false ((classL (fs.map (mutF m)) fs.length).map fun l => [.sl false (l.map intC) .full]) .full, .sc (.int .i64 0)] else .tu [.sl true [] .unk, .sc (.int .i64 (mutErr m fs))]
theorem mutsA_valid {m : Mach} {fs : List FA} (h : mutErr m fs = 0) : ∀ x ∈ fs.map (mutF m), Valid x := by
 obtain ⟨h1, h2, h3⟩ := mutErr_ok h
 intro x hx
 obtain ⟨f, hf, rfl⟩ := List.mem_map.1 hx
 exact mutF_valid (Valid.of h1) (errFs_zero h3 f hf)
theorem classes_is (m : Mach) (hm : ∀ r ∈ m.rows, r.2.length < 1000000) (hnn : NoNil m) (fn : Bool) (fs : List FA) (fc : Cp) (hfl : fs.length < 1000000) :
  PureIs prog 16 [.ag m.cells, .sl fn (fs.map FA.cells) fc] (clsA m fs) := by
 refine PureIs.of1 3 [4, 5, 6, 7, 8, 9, 10, 11, 19, 28, 29, 30, 31, 32] func16 ntmps16 results16 fun _ => ?_
 refine EvC.a ?_ (by simp only [go_sem, Mach.cells] <;> rfl)
 refine EvC.z 0 ?_
 have q := mutants_is m hm hnn fn fs fc hfl
 unfold mutsA at q
 unfold clsA
 by_cases h0 : mutErr m fs = 0
 rotate_left
 ·rw [if_neg h0] at q ⊢
  apply EvC.s1
  ·apply Tr.run
   ·simp only [go_sem, Mach.cells] <;> rfl
   ·simp
   apply Tr.cons
   ·exact .ca (q)
   apply Tr.done
   ·simp only [go_sem] <;> rfl
   ·simp
  refine EvC.seq ?_
  refine EvC.a ?_
  refine EvC.ct ?_ (by simp only [go_sem, decide_eq_false h0] <;> rfl)
  refine EvC.a ?_
  refine EvC.rz ?_
  simp only [go_sem]
 rw [if_pos h0] at q ⊢
 have hXv := mutsA_valid h0
 have hXl : (fs.map (mutF m)).length = fs.length := List.length_map _
 generalize fs.map (mutF m) = X at q hXv hXl ⊢
 have hXn := norefs_machs X
 have hfl2 := (mutErr_ok h0).2.1
 apply EvC.s1
 ·apply Tr.run
  ·simp only [go_sem, Mach.cells] <;> rfl
  ·simp
  apply Tr.cons
  ·exact .ca (q)
  apply Tr.done
  ·simp only [go_sem, hXn] <;> rfl
  ·simp
 refine EvC.z 9 ?_ (by simp only [go_sem, hXn] <;> rfl)
 refine EvC.seq ?_
 refine EvC.a ?_
 refine EvC.cs ?_
 have hidm : ∀ i ∈ idL fs.length, 0 ≤ i ∧ i < fs.length := fun i hi => by
  obtain ⟨j, hj, rfl⟩ := List.mem_map.1 hi
  have := List.mem_range.1 hj
  exact ⟨Int.natCast_nonneg j, Int.ofNat_lt.2 this⟩
 have hidl : (idL fs.length).length = fs.length := by simp [idL]
 have hin : ∀ i ∈ idL fs.length, atM X i ∈ X := fun i hi => by
  have h := hidm i hi
  rw [atM, List.getD_eq_getElem?_getD, List.getElem?_eq_getElem (show i.toNat < X.length by omega)]
  exact List.getElem_mem _
 have q1 := everybody_is fs.length (by omega)
 have q2 := divided43_is false (idL fs.length) .full (by omega) (g := 45) (caps := [.ia [.sl fs.isEmpty (X.map Mach.cells) .unk]]) (by simp [AV.norefs, AV.noref, hXn]) (atM X) (fun i hi => by
  have h := hidm i hi
  obtain ⟨j, rfl⟩ : ∃ j : Nat, i = (j : Int) := ⟨i.toNat, by omega⟩
  have hj : j < X.length := by omega
  have := class1_is fs.isEmpty X .unk j hj
  have e : atM X (j : Int) = X[j] := by rw [atM, List.getD_eq_getElem?_getD, Int.toNat_natCast, List.getElem?_eq_getElem hj]; rfl
  rw [e]; exact this) (fun i hi => (hXv _ (hin i hi)).small)
 apply EvC.s1
 ·apply Tr.run
  ·simp only [go_sem, List.length_map] <;> rfl
  ·simp
  apply Tr.cons
  ·exact .call rfl rfl (by simp only [go_sem] <;> rfl) (by simp only [go_sem] <;> rfl) (by simp only [go_sem] <;> rfl) (by simp only [go_sem, hXn] <;> rfl) (by simp only [go_sem] <;> rfl) (q1)
  apply Tr.run
  ·simp only [go_sem, List.length_map] <;> rfl
  ·simp
  apply Tr.cons
  ·exact .call rfl rfl (by simp only [go_sem] <;> rfl) (by simp only [go_sem] <;> rfl) (by simp only [go_sem] <;> rfl) (by simp only [go_sem, hXn] <;> rfl) (by simp only [go_sem] <;> rfl) (q2)
  apply Tr.done
  ·simp only [go_sem] <;> rfl
  ·simp
 have hpl := dvL_len (eqB := eqM) (K := atM X) (idL fs.length) []
 have hcl : classL X fs.length = (dvL eqM (atM X) (idL fs.length) []).map (·.2) := rfl
 rw [hcl]
 simp only [List.length_nil, Nat.zero_add] at hpl
 generalize dvL eqM (atM X) (idL fs.length) [] = ps at hpl ⊢
 have hr : room ps.length 24 = true := by simp only [room_eq, decide_eq_true_eq]; omega
 refine EvC.a ?_ (by simp only [go_sem, List.length_map] <;> rfl) (by simp [hr]; try omega)
 obtain ⟨F, hF⟩ : ∃ F : Nat → List AV, F = fun i => [.sl false (((ps.map (·.2)).getD i []).map intC) .full] := ⟨_, rfl⟩
 have hz := fillC_zero F [.sl true [] .zer] ps.length
 have hFn : ∀ k, (fillC F [.sl true [] .zer] ps.length k).all AV.norefs = true := fillC_norefs (fun i => by rw [hF]; simp [AV.norefs, AV.noref, intC]) rfl ps.length
 have hrl : (List.replicate ps.length [AV.sl true [] .zer]).length = ps.length := List.length_replicate
 have hnr : (List.replicate ps.length [AV.sl true [] .zer]).all AV.norefs = true := by rw [← hz]; exact hFn 0
 refine EvC.seq ?_
 refine EvC.a ?_ (by simp only [go_sem, List.length_map, hrl] <;> rfl)
 have hpn := partC_norefs (kc := Mach.cells) norefs_mcells ps
 refine EvC.block ?_
 refine EvC.loopS (σ := Nat) (fun k => ⟨[(9, .tv 0 ps.length 0 ps.length (.val ps.length)), (29, .sl (idL fs.length).isEmpty (ps.map (partC Mach.cells)) .unk), (30, .sc (.int .i64 ps.length)), (31, .sc (.int .i64 k))], [], [(0, .arr 1 (fillC F [.sl true [] .zer] ps.length k) false)], 1⟩) (fun k => ps.length - k) (fun k => k ≤ ps.length) [9, 29, 30, 31] 1 ?_ ?_
 ·exact ⟨[(22, 0)], 0, rfl, (by rw [hz]; simp only [go_sem, hnr, Int.natCast_zero] <;> rfl), Nat.zero_le _⟩
 intro k hk
 refine EvC.a ?_
 refine EvC.seq ?_
 refine EvC.cond (by simp only [go_sem] <;> rfl) (fun hc => ?_) (fun hc => ?_)
 rotate_left
 ·refine EvC.exit ?_
  obtain rfl : ps.length = k := by have : ¬ k < ps.length := (by simpa using hc); omega
  have hfe : fillC F [.sl true [] .zer] ps.length ps.length = (ps.map (·.2)).map fun l => [.sl false (l.map intC) .full] := by
   rw [fillC_all, hF]
   have := range_getD ((ps.map (·.2)).map fun l => [AV.sl false (l.map intC) .full]) [.sl false [] .full]
   rw [← this]
   simp only [List.length_map]
   refine List.map_congr_left fun i hi => ?_
   have hi := List.mem_range.1 hi
   simp [List.getD_eq_getElem?_getD, List.getElem?_eq_getElem hi]
  have hn2 := hFn ps.length
  have hl2 := fillC_len F [.sl true [] .zer] ps.length ps.length
  rw [← hfe]
  generalize fillC F [.sl true [] .zer] ps.length ps.length = L at hn2 hl2 ⊢
  refine EvC.frz 0 (by simp only [go_sem, hn2, hl2] <;> rfl) ?_
  refine EvC.a ?_ (by simp only [go_sem, hl2] <;> rfl)
  refine EvC.rz ?_
  simp only [go_sem]
 have hkl : k < ps.length := by simpa using hc
 clear hc
 have hpe : ps[k]? = some ps[k] := List.getElem?_eq_getElem hkl
 have hget := fillC_get F [.sl true [] .zer] hkl
 have hset := fillC_set F [.sl true [] .zer] hkl
 have hl1 := fillC_len F [.sl true [] .zer] ps.length k
 have hn1 := hFn (k + 1)
 have hl3 := fillC_len F [.sl true [] .zer] ps.length (k + 1)
 have hFk : F k = [.sl false (ps[k].2.map intC) .full] := by rw [hF]; simp [List.getD_eq_getElem?_getD, hpe]
 rw [hFk] at hset
 generalize ps[k] = p at hpe hset
 obtain ⟨px, pw⟩ := p
 simp only at hset
 generalize fillC F [.sl true [] .zer] ps.length k = L at hget hset hl1 ⊢
 generalize hL1 : fillC F [.sl true [] .zer] ps.length (k + 1) = L1 at hset hn1 hl3
 obtain ⟨kZ, hkZ⟩ : ∃ z : Int, z = (k : Int) := ⟨_, rfl⟩
 have hkt : kZ.toNat = k := by omega
 rw [← hkZ]
 have hp2 : (ps.map (partC Mach.cells))[k]? = some (partC Mach.cells (px, pw)) := by rw [List.getElem?_map, hpe]; rfl
 simp only [partC, Mach.cells, List.cons_append, List.nil_append] at hp2
 have q3 := clipI_is false (pw.map intC) .unk (by simp [List.all_eq_true, intC])
 refine EvC.skip ?_
 refine EvC.seq ?_
 refine EvC.block ?_
 refine EvC.a ?_ (by simp only [go_sem, hp2, hkt, List.length_map, partC] <;> rfl) (by simp; omega)
 refine EvC.z 5 ?_
 apply EvC.tr
 ·apply Tr.run
  ·simp only [go_sem, hkt, hget, hl1] <;> rfl
  ·simp
  apply Tr.cons
  ·exact .ca (q3)
  apply Tr.done
  ·simp only [go_sem, hkt, hget, hl1, hset] <;> rfl
  ·simp; omega
 refine EvC.b ?_ (hok := by exact inI64_of (by omega) (by omega))
 exact ⟨[(0, 0)], k + 1, rfl, (by rw [hkZ, hL1]; simp only [go_sem, hn1, Int.natCast_add, Int.natCast_one] <;> rfl), hkl, by omega⟩
def sumK (k : Nat) : Nat → Nat
 | 0 => 0
 | n + 1 => sumK k n + k ^ n
def rank (k : Nat) : List Int → Nat
 | [] => 0
 | a :: w => (a.toNat + 1) * k ^ w.length + rank k w
def WOk (k : Nat) (w : List Int) : Prop := ∀ a ∈ w, 0 ≤ a ∧ a < k
theorem WOk.tail {k : Nat} {a : Int} {w : List Int} (h : WOk k (a :: w)) : WOk k w := fun x hx => h x (List.mem_cons_of_mem _ hx)
theorem WOk.head {k : Nat} {a : Int} {w : List Int} (h : WOk k (a :: w)) : 0 ≤ a ∧ a < k := h a List.mem_cons_self
theorem WOk.cons {k : Nat} {a : Int} {w : List Int} (ha : 0 ≤ a ∧ a < k) (h : WOk k w) : WOk k (a :: w) := fun x hx => by
 rcases List.mem_cons.1 hx with rfl | hx
 ·exact ha
 ·exact h x hx
theorem rank_ge {k : Nat} : ∀ (w : List Int), sumK k w.length ≤ rank k w
 | [] => Nat.le_refl _
 | a :: w => by
   have h1 := rank_ge (k := k) w
   have h2 : 1 * k ^ w.length ≤ (a.toNat + 1) * k ^ w.length := Nat.mul_le_mul_right _ (by omega)
   simp only [rank, List.length_cons, sumK]
   omega
theorem rank_lt {k : Nat} : ∀ {w : List Int}, WOk k w → rank k w < sumK k (w.length + 1)
 | [], _ => by simp [rank, sumK]
 | a :: w, h => by
   have h1 := rank_lt h.tail
   have h2 : (a.toNat + 1) * k ^ w.length ≤ k * k ^ w.length := Nat.mul_le_mul_right _ (by have := h.head; omega)
   have h3 : k ^ (w.length + 1) = k * k ^ w.length := by rw [Nat.pow_succ, Nat.mul_comm]
   rw [List.length_cons, sumK, h3]
   simp only [rank]
   omega
theorem sumK_mono {k : Nat} : ∀ {a b : Nat}, a ≤ b → sumK k a ≤ sumK k b
 | a, 0, h => by obtain rfl : a = 0 := by omega
                 exact Nat.le_refl _
 | a, b + 1, h => by
   by_cases h1 : a = b + 1
   ·rw [h1]; exact Nat.le_refl _
   ·have := sumK_mono (k := k) (show a ≤ b by omega)
    simp only [sumK]; omega
theorem rank_len {k : Nat} {w v : List Int} (hw : WOk k w) (h : w.length < v.length) : rank k w < rank k v :=
 Nat.lt_of_lt_of_le (rank_lt hw) (Nat.le_trans (sumK_mono h) (rank_ge v))
theorem rank_lt_len {k : Nat} {v w : List Int} (hw : WOk k w) (h : rank k v ≤ rank k w) : v.length ≤ w.length := by
 by_cases h1 : w.length < v.length
 ·have := rank_len hw h1; omega
 ·omega
def Alike (m : Mach) (k s t : Nat) : Prop := ∀ v, WOk m.ins.toNat v → v.length ≤ k → runR m s v = runR m t v
theorem alike_succ {m : Mach} (hv : WV m) {k : Nat} (hk : ∀ s t, s < m.rows.length → t < m.rows.length → Alike m k s t → Alike m (k + 1) s t) {s t : Nat} (hs : s < m.rows.length) (ht : t < m.rows.length) (h : Alike m k s t) : ∀ j, Alike m (k + j) s t
 | 0 => h
 | j + 1 => by
   intro v hvo hvl
   have h1 := hk s t hs ht h
   match v, hvo with
   | [], _ => rfl
   | b :: v, hvo =>
     have hb := hvo.head
     obtain ⟨b, rfl⟩ : ∃ n : Nat, b = (n : Int) := ⟨b.toNat, by omega⟩
     have hbl : b < m.ins.toNat := by omega
     have ho : (ex (rowN m s) b).2 = (ex (rowN m t) b).2 := by
      have := h1 [(b : Int)] (fun x hx => by simp at hx; omega) (by simp)
      rw [run_cons, run_cons] at this
      exact (List.cons.inj this).1
     rw [run_cons, run_cons, ho]
     congr 1
     rcases ex_bothW hv hs ht hbl ho with ⟨e1, e2⟩ | ⟨p, q, e1, e2, hp, hq⟩
     ·rw [e1, e2]
     ·rw [e1, e2]
      have h2 : Alike m k p q := fun u hu hul => by
       have := h1 ((b : Int) :: u) (hu.cons (by omega)) (by simp; omega)
       rw [run_cons, run_cons, e1, e2] at this
       exact (List.cons.inj this).2
      exact alike_succ hv hk hp hq h2 j v hvo.tail (by simp at hvl; omega)
theorem countP_lt {α : Type} {p q : α → Bool} : ∀ {l : List α}, (∀ x ∈ l, p x = true → q x = true) → (∃ x ∈ l, q x = true ∧ p x = false) → l.countP p < l.countP q
 | [], _, ⟨x, h, _⟩ => by cases h
 | y :: l, hpq, ⟨x, hx, h1, h2⟩ => by
   have hm : l.countP p ≤ l.countP q := List.countP_mono_left fun x hx => hpq x (List.mem_cons_of_mem _ hx)
   rw [List.countP_cons, List.countP_cons]
   rcases List.mem_cons.1 hx with rfl | hx
   ·rw [h1, h2]; simp; omega
   ·have := countP_lt (fun x hx => hpq x (List.mem_cons_of_mem _ hx)) ⟨x, hx, h1, h2⟩
    have h3 := hpq y List.mem_cons_self
    by_cases h4 : p y = true
    ·rw [if_pos h4, if_pos (h3 h4)]; omega
    ·rw [if_neg h4]; split <;> omega
open Classical in
noncomputable def leadB (m : Mach) (k : Nat) (s : Nat) : Bool := decide (∀ t < s, ¬ Alike m k t s)
noncomputable def cntL (m : Mach) (k : Nat) : Nat := (List.range m.rows.length).countP (leadB m k)
theorem Alike.symm {m : Mach} {k s t : Nat} (h : Alike m k s t) : Alike m k t s := fun v h1 h2 => (h v h1 h2).symm
theorem Alike.trans {m : Mach} {k s t u : Nat} (h : Alike m k s t) (h' : Alike m k t u) : Alike m k s u := fun v h1 h2 => (h v h1 h2).trans (h' v h1 h2)
theorem Alike.le {m : Mach} {k j s t : Nat} (h : Alike m k s t) (hj : j ≤ k) : Alike m j s t := fun v h1 h2 => h v h1 (by omega)
theorem lead_of (m : Mach) (k : Nat) : ∀ s, ∃ c, c ≤ s ∧ Alike m k c s ∧ leadB m k c = true := fun s => by
 induction s using Nat.strongRecOn with
 | _ s ih =>
   by_cases h : ∃ t, t < s ∧ Alike m k t s
   ·obtain ⟨t, h1, h2⟩ := h
    obtain ⟨c, h3, h4, h5⟩ := ih t h1
    exact ⟨c, by omega, h4.trans h2, h5⟩
   ·exact ⟨s, Nat.le_refl _, fun _ _ _ => rfl, by simp only [leadB, decide_eq_true_eq]; exact fun t h1 h2 => h ⟨t, h1, h2⟩⟩
theorem cntL_grows {m : Mach} {k : Nat} (h : ¬ ∀ s t, s < m.rows.length → t < m.rows.length → Alike m k s t → Alike m (k + 1) s t) : cntL m k < cntL m (k + 1) := by
 refine countP_lt (fun s _ hs => ?_) ?_
 ·simp only [leadB, decide_eq_true_eq] at hs ⊢
  exact fun t h1 h2 => hs t h1 (h2.le (by omega))
 ·simp only [Classical.not_forall] at h
  obtain ⟨s, t, hs, ht, h1, h2⟩ := h
  obtain ⟨c, c1, c2, c3⟩ := lead_of m k s
  have : ∃ u, u < m.rows.length ∧ Alike m k c u ∧ ¬ Alike m (k + 1) c u := by
   by_cases h3 : Alike m (k + 1) c s
   ·exact ⟨t, ht, c2.trans h1, fun h4 => h2 (h3.symm.trans h4)⟩
   ·exact ⟨s, hs, c2, h3⟩
  obtain ⟨u, hu, u1, u2⟩ := this
  obtain ⟨d, d1, d2, d3⟩ := lead_of m (k + 1) u
  have hcd : Alike m k c d := u1.trans (d2.le (by omega)).symm
  have hne : c ≠ d := fun e => u2 (by rw [e]; exact d2)
  refine ⟨d, List.mem_range.2 (by omega), d3, ?_⟩
  have hlt : c < d := by
   by_cases h5 : c < d
   ·exact h5
   ·have h6 : d < c := by omega
    simp only [leadB, decide_eq_true_eq] at c3
    exact absurd hcd.symm (c3 d h6)
  rw [Bool.eq_false_iff]
  intro h7
  simp only [leadB, decide_eq_true_eq] at h7
  exact h7 c hlt hcd
theorem alike_all {m : Mach} (hv : WV m) {k s t : Nat} (hk : m.rows.length ≤ k + 1) (hs : s < m.rows.length) (ht : t < m.rows.length) (h : Alike m k s t) : ∀ v, WOk m.ins.toNat v → runR m s v = runR m t v := by
 have hN := hv.rows
 have hex : ∃ j, j + 1 ≤ m.rows.length ∧ ∀ s t, s < m.rows.length → t < m.rows.length → Alike m j s t → Alike m (j + 1) s t := by
  by_cases hx : ∃ j, j + 1 ≤ m.rows.length ∧ ∀ s t, s < m.rows.length → t < m.rows.length → Alike m j s t → Alike m (j + 1) s t
  ·exact hx
  ·exfalso
   have hg : ∀ j, j ≤ m.rows.length → j + 1 ≤ cntL m j := fun j => by
    induction j with
    | zero =>
      intro _
      have : 0 < cntL m 0 := List.countP_pos_iff.2 ⟨0, List.mem_range.2 (by omega), by simp [leadB]⟩
      omega
    | succ j ih =>
      intro hj
      have h1 := ih (by omega)
      have h2 := cntL_grows (m := m) (k := j) fun h => hx ⟨j, hj, h⟩
      omega
   have h1 := hg m.rows.length (Nat.le_refl _)
   have h2 : cntL m m.rows.length ≤ m.rows.length := by
    have := List.countP_le_length (p := leadB m m.rows.length) (l := List.range m.rows.length)
    simpa [cntL] using this
   omega
 obtain ⟨j, hj, hst⟩ := hex
 intro v hvo
 exact alike_succ hv hst hs ht (h.le (by omega)) v.length v hvo (by omega)
def Least2 (a b : Mach) (w : List Int) : Prop :=
 WOk a.ins.toNat w ∧ runR a 0 w ≠ runR b 0 w ∧ ∀ v, WOk a.ins.toNat v → runR a 0 v ≠ runR b 0 v → rank a.ins.toNat w ≤ rank a.ins.toNat v
theorem rank_snoc {k : Nat} : ∀ (w : List Int) (c : Int), rank k (w ++ [c]) = k * rank k w + (c.toNat + 1)
 | [], c => by simp [rank]
 | a :: w, c => by
   have h1 := rank_snoc (k := k) w c
   have h2 : (a.toNat + 1) * (k ^ w.length * k) = k * ((a.toNat + 1) * k ^ w.length) := by
    rw [← Nat.mul_assoc, Nat.mul_comm k]
   rw [List.cons_append]
   simp only [rank, h1, List.length_append, List.length_cons, List.length_nil, Nat.zero_add, Nat.pow_succ, Nat.mul_add] at h2 ⊢
   omega
theorem runR_app (m : Mach) : ∀ (s : Int) (u v : List Int), runR m s (u ++ v) = runR m s u ++ runR m (afterR m s u) v
 | _, [], _ => rfl
 | s, a :: u, v => by simp only [List.cons_append, runR, afterR, runR_app m _ u v]
theorem afterR_app (m : Mach) : ∀ (s : Int) (u v : List Int), afterR m s (u ++ v) = afterR m (afterR m s u) v
 | _, [], _ => rfl
 | s, a :: u, v => by simp only [List.cons_append, afterR, afterR_app m _ u v]
theorem stepR_dead (m : Mach) (a : Int) : stepR m (-1) a = (-1, -1) := by unfold stepR; rw [if_pos (by omega)]
theorem stepR_ends {m : Mach} (hv : Valid m) {s a : Int} (h0 : 0 ≤ s) (hs : s < m.rows.length) (ha : 0 ≤ a ∧ a < m.ins) : ((stepR m s a).1 = -1 ∧ (stepR m s a).2 = -1) ∨ (0 ≤ (stepR m s a).1 ∧ (stepR m s a).1 < m.rows.length ∧ 0 ≤ (stepR m s a).2) := by
 obtain ⟨r, e, _, _, h3, h4⟩ := stepR_get hv h0 hs ha
 rw [h3]
 rcases fits_cases h4 with h | h
 ·exact .inl h
 ·exact .inr ⟨h.1, h.2.1, h.2.2.1⟩
structure BInv (a b : Mach) (l : List Arr) (W : Nat → List Int) (at' i : Nat) : Prop where
 z : W 0 = []
 z0 : ∃ c, l[0]? = some ((0, 0), -1, c)
 par : ∀ j p, 1 ≤ j → l[j]? = some p → ∃ q c : Nat, p.2.1 = (q : Int) ∧ p.2.2 = (c : Int) ∧ q < j ∧ c < a.ins.toNat ∧ (q < at' ∨ (q = at' ∧ c < i)) ∧ W j = W q ++ [(c : Int)]
 ok : ∀ j, j < l.length → WOk a.ins.toNat (W j)
 mono : ∀ j k, j < k → k < l.length → rank a.ins.toNat (W j) < rank a.ins.toNat (W k)
 path : ∀ j p, l[j]? = some p → afterR a 0 (W j) = p.1.1 ∧ afterR b 0 (W j) = p.1.2 ∧ runR a 0 (W j) = runR b 0 (W j)
 done : ∀ j p, l[j]? = some p → ∀ c : Nat, c < a.ins.toNat → (j < at' ∨ (j = at' ∧ c < i)) →
  (stepR a p.1.1 c).2 = (stepR b p.1.2 c).2 ∧ ((stepR a p.1.1 c).1 ≠ -1 → (stepR b p.1.2 c).1 ≠ -1 →
   ∃ (k : Nat) (q : Arr), l[k]? = some q ∧ q.1 = ((stepR a p.1.1 c).1, (stepR b p.1.2 c).1) ∧ rank a.ins.toNat (W k) ≤ a.ins.toNat * rank a.ins.toNat (W j) + (c + 1))
theorem BInv.start (a b : Mach) : BInv a b arr0 (fun _ => []) 0 0 where
 z := rfl
 z0 := ⟨0, rfl⟩
 par := fun j p hj h => by
  obtain ⟨k, rfl⟩ : ∃ k, j = k + 1 := ⟨j - 1, by omega⟩
  simp [arr0] at h
 ok := fun j _ x hx => by cases hx
 mono := fun j k h1 h2 => by simp [arr0] at h2; omega
 path := fun j p h => by
  cases j with
  | zero => simp only [arr0, List.getElem?_cons_zero, Option.some.injEq] at h; subst h; exact ⟨rfl, rfl, rfl⟩
  | succ k => simp [arr0] at h
 done := fun j p h c hc hd => by omega
theorem nextL_new {at' i : Int} {x y : Int × Int} {l : List Arr} : nextL at' i x y l = l ∨ (nextL at' i x y l = l ++ [((x.1, y.1), at', i)] ∧ x.1 ≠ -1 ∧ y.1 ≠ -1) := by
 unfold nextL
 split
 ·rename_i h; exact .inr ⟨rfl, h.1, h.2.1⟩
 ·exact .inl rfl
theorem nextL_in {at' i : Int} {x y : Int × Int} {l : List Arr} (h1 : x.1 ≠ -1) (h2 : y.1 ≠ -1) (h3 : nextL at' i x y l = l) : ∃ (k : Nat) (q : Arr), l[k]? = some q ∧ q.1 = (x.1, y.1) := by
 by_cases hm : (x.1, y.1) ∈ l.map (·.1)
 ·obtain ⟨q, hq, he⟩ := List.mem_map.1 hm
  obtain ⟨k, hk, rfl⟩ := List.getElem_of_mem hq
  exact ⟨k, _, List.getElem?_eq_getElem hk, he⟩
 ·unfold nextL at h3
  rw [if_pos ⟨h1, h2, hm⟩] at h3
  have := congrArg List.length h3
  simp at this
theorem mul_gap {k r s : Nat} (h : r < s) : k * r + k ≤ k * s := by
 have := Nat.mul_le_mul_left k (show r + 1 ≤ s from h)
 rwa [Nat.mul_add, Nat.mul_one] at this
section
variable {a b : Mach} {l : List Arr} {W : Nat → List Int} {at' i : Nat}
theorem BInv.bound (h : BInv a b l W at' i) {j : Nat} (hj : j < l.length) (hat : at' < l.length) : rank a.ins.toNat (W j) < a.ins.toNat * rank a.ins.toNat (W at') + (i + 1) := by
 by_cases h0 : j = 0
 ·subst h0; rw [h.z]; simp only [rank]; omega
 obtain ⟨q, c, _, _, h1, h2, h3, h4⟩ := h.par j _ (by omega) (List.getElem?_eq_getElem hj)
 rw [h4, rank_snoc, Int.toNat_natCast]
 rcases h3 with h3 | ⟨rfl, h3⟩
 ·have := mul_gap (k := a.ins.toNat) (h.mono q at' h3 hat); omega
 ·omega
theorem BInv.step (ha : Valid a) (h : BInv a b l W at' i) {p : Arr} (hp : l[at']? = some p) (hi : i < a.ins.toNat) (ho : (stepR a p.1.1 i).2 = (stepR b p.1.2 i).2) :
  ∃ W', BInv a b (nextL at' i (stepR a p.1.1 i) (stepR b p.1.2 i) l) W' at' (i + 1) ∧ W' at' = W at' := by
 have hat := (List.getElem?_eq_some_iff.1 hp).1
 have hw : ∀ {j c : Nat} {x : Nat}, (j < at' ∨ (j = at' ∧ c < i)) → (j < at' ∨ (j = at' ∧ c < i + 1)) := fun h => by omega
 rcases nextL_new (at' := at') (i := i) (x := stepR a p.1.1 i) (y := stepR b p.1.2 i) (l := l) with e | ⟨e, n1, n2⟩
 ·have hin := nextL_in (at' := at') (i := i) (x := stepR a p.1.1 i) (y := stepR b p.1.2 i) (l := l)
  rw [e]
  refine ⟨W, ⟨h.z, h.z0, fun j q hj hq => ?_, h.ok, h.mono, h.path, fun j q hq c hc hd => ?_⟩, rfl⟩
  ·obtain ⟨u, c, h1, h2, h3, h4, h5, h6⟩ := h.par j q hj hq
   exact ⟨u, c, h1, h2, h3, h4, by omega, h6⟩
  ·by_cases hd' : j < at' ∨ (j = at' ∧ c < i)
   ·exact h.done j q hq c hc hd'
   ·obtain ⟨rfl, rfl⟩ : j = at' ∧ c = i := by omega
    rw [hp] at hq; cases hq
    refine ⟨ho, fun k1 k2 => ?_⟩
    obtain ⟨k, q, hk, hq⟩ := hin k1 k2 e
    exact ⟨k, q, hk, hq, Nat.le_of_lt (h.bound (List.getElem?_eq_some_iff.1 hk).1 hat)⟩
 ·rw [e]
  have hold : ∀ {j : Nat} {q : Arr}, l[j]? = some q → (l ++ [(((stepR a p.1.1 i).1, (stepR b p.1.2 i).1), (at' : Int), (i : Int))])[j]? = some q := fun hq => by
   rw [List.getElem?_append_left (List.getElem?_eq_some_iff.1 hq).1]; exact hq
  have hnew : ∀ {j : Nat} {q : Arr}, (l ++ [(((stepR a p.1.1 i).1, (stepR b p.1.2 i).1), (at' : Int), (i : Int))])[j]? = some q → (j < l.length ∧ l[j]? = some q) ∨ (j = l.length ∧ q = (((stepR a p.1.1 i).1, (stepR b p.1.2 i).1), (at' : Int), (i : Int))) := fun {j q} hq => by
   by_cases hj : j < l.length
   ·rw [List.getElem?_append_left hj] at hq; exact .inl ⟨hj, hq⟩
   ·have h1 := (List.getElem?_eq_some_iff.1 hq).1
    simp only [List.length_append, List.length_cons, List.length_nil] at h1
    obtain rfl : j = l.length := by omega
    rw [List.getElem?_append_right (Nat.le_refl _), Nat.sub_self] at hq
    simp only [List.getElem?_cons_zero, Option.some.injEq] at hq
    exact .inr ⟨rfl, hq.symm⟩
  obtain ⟨p1, p2, p3⟩ := h.path at' p hp
  have hV : ∀ j, j < l.length → (if j = l.length then W at' ++ [(i : Int)] else W j) = W j := fun j hj => if_neg (by omega)
  have hVl : (if l.length = l.length then W at' ++ [(i : Int)] else W l.length) = W at' ++ [(i : Int)] := if_pos rfl
  refine ⟨fun j => if j = l.length then W at' ++ [(i : Int)] else W j, ⟨?_, ?_, fun j q hj hq => ?_, fun j hj => ?_, fun j k hjk hk => ?_, fun j q hq => ?_, fun j q hq c hc hd => ?_⟩, hV _ hat⟩
  ·simp only [hV 0 (by omega)]; exact h.z
  ·obtain ⟨c, hc⟩ := h.z0; exact ⟨c, hold hc⟩
  ·rcases hnew hq with ⟨h1, h2⟩ | ⟨rfl, rfl⟩
   ·obtain ⟨u, c, k1, k2, k3, k4, k5, k6⟩ := h.par j q hj h2
    exact ⟨u, c, k1, k2, k3, k4, by omega, by simp only [hV j h1, hV u (by omega)]; exact k6⟩
   ·exact ⟨at', i, rfl, rfl, hat, hi, .inr ⟨rfl, by omega⟩, by simp only [if_true, hV at' hat]⟩
  ·simp only [List.length_append, List.length_cons, List.length_nil] at hj
   by_cases e2 : j = l.length
   ·subst e2; simp only [if_true]
    intro x hx
    rcases List.mem_append.1 hx with hx | hx
    ·exact h.ok at' hat x hx
    ·simp only [List.mem_singleton] at hx; omega
   ·simp only [hV j (by omega)]; exact h.ok j (by omega)
  ·simp only [List.length_append, List.length_cons, List.length_nil] at hk
   by_cases e2 : k = l.length
   ·subst e2; simp only [if_true, hV j (by omega), rank_snoc, Int.toNat_natCast]
    exact h.bound (by omega) hat
   ·simp only [hV j (by omega), hV k (by omega)]; exact h.mono j k hjk (by omega)
  ·rcases hnew hq with ⟨h1, h2⟩ | ⟨rfl, rfl⟩
   ·simp only [hV j h1]; exact h.path j q h2
   ·simp only [if_true, afterR_app, runR_app, p1, p2, p3, afterR, runR, ho, and_self]
  ·by_cases hd' : j < at' ∨ (j = at' ∧ c < i)
   ·rcases hnew hq with ⟨h1, h2⟩ | ⟨rfl, rfl⟩
    ·obtain ⟨k1, k2⟩ := h.done j q h2 c hc hd'
     refine ⟨k1, fun k3 k4 => ?_⟩
     obtain ⟨k, q', k5, k6, k7⟩ := k2 k3 k4
     exact ⟨k, q', hold k5, k6, by simp only [hV j h1, hV k (List.getElem?_eq_some_iff.1 k5).1]; exact k7⟩
    ·omega
   ·obtain ⟨rfl, rfl⟩ : j = at' ∧ c = i := by omega
    rcases hnew hq with ⟨h1, h2⟩ | ⟨h1, _⟩
    ·rw [hp] at h2; cases h2
     refine ⟨ho, fun _ _ => ⟨l.length, (((stepR a p.1.1 c).1, (stepR b p.1.2 c).1), (j : Int), (c : Int)), ?_, rfl, ?_⟩⟩
     ·rw [List.getElem?_append_right (Nat.le_refl _), Nat.sub_self]; rfl
     ·simp only [if_true, hV j h1, rank_snoc, Int.toNat_natCast]; exact Nat.le_refl _
    ·omega
theorem BInv.agree (ha : Valid a) (hb : Valid b) (hab : a.ins = b.ins) (hg : GoodL a b l) (h : BInv a b l W at' i) : ∀ (n : Nat) (v : List Int), v.length = n → WOk a.ins.toNat v →
  (∀ j c : Nat, j < l.length → c < a.ins.toNat → a.ins.toNat * rank a.ins.toNat (W j) + (c + 1) ≤ rank a.ins.toNat v → (j < at' ∨ (j = at' ∧ c < i))) →
  runR a 0 v = runR b 0 v ∧ ((afterR a 0 v = -1 ∧ afterR b 0 v = -1) ∨ ∃ (k : Nat) (q : Arr), l[k]? = some q ∧ q.1 = (afterR a 0 v, afterR b 0 v) ∧ rank a.ins.toNat (W k) ≤ rank a.ins.toNat v)
 | 0, v, hv, _, _ => by
   obtain rfl : v = [] := List.length_eq_zero_iff.1 hv
   obtain ⟨c, hc⟩ := h.z0
   exact ⟨rfl, .inr ⟨0, _, hc, rfl, by rw [h.z]; exact Nat.le_refl _⟩⟩
 | n + 1, v, hv, ho, hp => by
   have hins := ha.ins
   obtain ⟨u, c, rfl⟩ : ∃ u c, v = u ++ [c] := ⟨v.dropLast, v.getLast (by intro e; simp [e] at hv), (List.dropLast_concat_getLast _).symm⟩
   have hu : WOk a.ins.toNat u := fun x hx => ho x (List.mem_append_left _ hx)
   have hc := ho c (by simp)
   obtain ⟨c, rfl⟩ : ∃ d : Nat, c = (d : Int) := ⟨c.toNat, by omega⟩
   have hul : u.length = n := by simp at hv; omega
   rw [rank_snoc, Int.toNat_natCast] at hp ⊢
   have hca : (0 : Int) ≤ c ∧ (c : Int) < a.ins := by omega
   have hcb : (0 : Int) ≤ c ∧ (c : Int) < b.ins := by omega
   have hcn : c < a.ins.toNat := by omega
   have hK : rank a.ins.toNat u ≤ a.ins.toNat * rank a.ins.toNat u := Nat.le_mul_of_pos_left _ (by omega)
   obtain ⟨e1, e2⟩ := BInv.agree ha hb hab hg h n u hul hu fun j d hj hd hr => hp j d hj hd (by omega)
   rw [runR_app, runR_app, afterR_app, afterR_app, e1]
   rcases e2 with ⟨e2, e3⟩ | ⟨k, q, k1, k2, k3⟩
   ·rw [e2, e3]
    simp only [runR, afterR, stepR_dead]
    exact ⟨trivial, .inl ⟨trivial, trivial⟩⟩
   ·have hm := Nat.mul_le_mul_left a.ins.toNat k3
    have hm2 : a.ins.toNat * rank a.ins.toNat (W k) + (c + 1) ≤ a.ins.toNat * rank a.ins.toNat u + (c + 1) := by omega
    obtain ⟨d1, d2⟩ := h.done k q k1 c hcn (hp k c (List.getElem?_eq_some_iff.1 k1).1 hcn hm2)
    have hr := hg.rng q (List.mem_of_getElem? k1)
    have e3 : q.1.1 = afterR a 0 u := by rw [k2]
    have e4 : q.1.2 = afterR b 0 u := by rw [k2]
    rw [e3] at d1 d2 hr
    rw [e4] at d1 d2 hr
    have f1 := stepR_ends ha hr.1 hr.2.1 hca
    have f2 := stepR_ends hb hr.2.2.1 hr.2.2.2 hcb
    simp only [runR, afterR, d1, true_and]
    by_cases g1 : (stepR a (afterR a 0 u) c).1 = -1
    ·exact .inl ⟨g1, by omega⟩
    ·have g2 : (stepR b (afterR b 0 u) c).1 ≠ -1 := by omega
     obtain ⟨k', q', j1, j2, j3⟩ := d2 g1 g2
     have j4 : rank a.ins.toNat (W k') ≤ a.ins.toNat * rank a.ins.toNat u + (c + 1) := Nat.le_trans j3 hm2
     exact .inr ⟨k', q', j1, j2, j4⟩
theorem BInv.word (h : BInv a b l W at' i) : ∀ (n j : Nat) (acc : List Int), j < l.length → j < n → wordR l n j acc = W j ++ acc
 | 0, _, _, _, h2 => by omega
 | n + 1, j, acc, h1, h2 => by
   rw [wordR, Int.toNat_natCast]
   have hj := List.getElem?_eq_getElem h1
   rw [hj]
   by_cases h0 : j = 0
   ·subst h0
    obtain ⟨c, hc⟩ := h.z0
    rw [hj] at hc
    simp only [Option.some.injEq] at hc
    simp only [hc, if_true, h.z, List.nil_append]
   ·obtain ⟨q, c, k1, k2, k3, k4, k5, k6⟩ := h.par j _ (by omega) hj
    simp only
    rw [if_neg (by omega), k1, k2, BInv.word h n q _ (by omega) (by omega), k6]
    simp
theorem BInv.found (ha : Valid a) (hb : Valid b) (hab : a.ins = b.ins) (hg : GoodL a b l) (h : BInv a b l W at' i) {p : Arr} (hp : l[at']? = some p) (hi : i < a.ins.toNat) (ho : (stepR a p.1.1 i).2 ≠ (stepR b p.1.2 i).2) :
  Least2 a b (wordR l l.length at' [(i : Int)]) := by
 have hat := (List.getElem?_eq_some_iff.1 hp).1
 rw [h.word _ _ _ hat hat]
 obtain ⟨p1, p2, p3⟩ := h.path at' p hp
 refine ⟨fun x hx => ?_, fun he => ?_, fun v hv hd => ?_⟩
 ·rcases List.mem_append.1 hx with hx | hx
  ·exact h.ok at' hat x hx
  ·simp only [List.mem_singleton] at hx; omega
 ·rw [runR_app, runR_app, p1, p2, p3] at he
  have := List.append_cancel_left he
  simp only [runR, List.cons.injEq] at this
  exact ho this.1
 ·by_cases hr : rank a.ins.toNat (W at' ++ [(i : Int)]) ≤ rank a.ins.toNat v
  ·exact hr
  ·exfalso
   refine hd (h.agree ha hb hab hg v.length v rfl hv fun j c hj hc hjc => ?_).1
   rw [rank_snoc, Int.toNat_natCast] at hr
   by_cases h1 : j < at'
   ·exact .inl h1
   by_cases h2 : j = at'
   ·subst h2; exact .inr ⟨rfl, by omega⟩
   ·have := mul_gap (k := a.ins.toNat) (h.mono at' j (by omega) hj); omega
end
def difP (z : Yld) : Bool := decide (z.x.2 ≠ z.y.2)
def wordZ (z : Yld) : List Int := wordR z.l z.l.length z.at' [z.inp]
theorem inR_find {a b : Mach} (ha : Valid a) (hb : Valid b) (hab : a.ins = b.ins) {at' : Nat} {p : Arr} : ∀ (n i : Nat) (l : List Arr) (W : Nat → List Int), GoodL a b l → BInv a b l W at' i → l[at']? = some p → n + i = a.ins.toNat →
  (∃ z, (inR a b at' p.1.1 p.1.2 n i l).1.find? difP = some z ∧ Least2 a b (wordZ z)) ∨
  ((inR a b at' p.1.1 p.1.2 n i l).1.find? difP = none ∧ ∃ W', BInv a b (inR a b at' p.1.1 p.1.2 n i l).2 W' at' a.ins.toNat)
 | 0, i, l, W, _, h, _, hn => by
   obtain rfl : i = a.ins.toNat := by omega
   exact .inr ⟨rfl, W, h⟩
 | n + 1, i, l, W, hg, h, hp, hn => by
   simp only [inR, List.find?_cons]
   by_cases ho : (stepR a p.1.1 i).2 = (stepR b p.1.2 i).2
   ·rw [show difP ⟨at', i, stepR a p.1.1 i, stepR b p.1.2 i, l⟩ = false by simp [difP, ho]]
    obtain ⟨W', hW, _⟩ := h.step ha hp (by omega) ho
    have hr := hg.rng p (List.mem_of_getElem? hp)
    have hg' := (hg.next ha hb (List.getElem?_eq_some_iff.1 hp).1 (i := (i : Int)) ⟨hr.1, hr.2.1⟩ ⟨hr.2.2.1, hr.2.2.2⟩ (by omega) hab).1
    exact inR_find ha hb hab n (i + 1) _ W' hg' hW (nextL_get hp) (by omega)
   ·rw [show difP ⟨at', i, stepR a p.1.1 i, stepR b p.1.2 i, l⟩ = true by simp [difP, ho]]
    exact .inl ⟨_, rfl, h.found ha hb hab hg hp (by omega) ho⟩
theorem outR_find {a b : Mach} (ha : Valid a) (hb : Valid b) (hab : a.ins = b.ins) : ∀ (n at' : Nat) (l : List Arr) (W : Nat → List Int), GoodL a b l → BInv a b l W at' 0 → n + at' = 5000 → at' ≤ l.length →
  (∃ z, (outR a b n at' l).find? difP = some z ∧ Least2 a b (wordZ z)) ∨
  ((outR a b n at' l).find? difP = none ∧ ∀ v, WOk a.ins.toNat v → runR a 0 v = runR b 0 v)
 | 0, at', l, _, hg, _, hn, hat => by have := hg.len ha hb; omega
 | n + 1, at', l, W, hg, h, hn, hat => by
   simp only [outR]
   cases hp : l[at']? with
   | none =>
     have hl : l.length ≤ at' := by simpa using hp
     exact .inr ⟨rfl, fun v hv => (h.agree ha hb hab hg v.length v rfl hv fun j c hj _ _ => .inl (by omega)).1⟩
   | some p =>
     simp only [List.find?_append]
     have hpl := (List.getElem?_eq_some_iff.1 hp).1
     rcases inR_find ha hb hab a.ins.toNat 0 l W hg h hp rfl with ⟨z, h1, h2⟩ | ⟨h1, W', h2⟩
     ·exact .inl ⟨z, by rw [h1]; rfl, h2⟩
     ·rw [h1, Option.none_or]
      obtain ⟨_, h4, h5⟩ := inR_good ha hb hab a.ins.toNat 0 l hg hp rfl
      refine outR_find ha hb hab n (at' + 1) _ W' h4 ⟨h2.z, h2.z0, fun j q hj hq => ?_, h2.ok, h2.mono, h2.path, fun j q hq c hc hd => h2.done j q hq c hc (by omega)⟩ (by omega) (by have := (List.getElem?_eq_some_iff.1 h5).1; omega)
      obtain ⟨u, c, k1, k2, k3, k4, k5, k6⟩ := h2.par j q hj hq
      exact ⟨u, c, k1, k2, k3, k4, by omega, k6⟩
theorem diff_least {a b : Mach} (ha : Valid a) (hb : Valid b) (hab : a.ins = b.ins) :
  ((diffO a b).isSome = true ∧ Least2 a b (diffW a b)) ∨ (diffO a b = none ∧ diffW a b = [] ∧ ∀ v, WOk a.ins.toNat v → runR a 0 v = runR b 0 v) := by
 have he : diffO a b = (outR a b 5000 0 arr0).find? difP := rfl
 rcases outR_find ha hb hab 5000 0 arr0 _ (.zero ha hb) (.start a b) rfl (Nat.zero_le _) with ⟨z, h1, h2⟩ | ⟨h1, h2⟩
 ·rw [← he] at h1
  refine .inl ⟨by rw [h1]; rfl, ?_⟩
  unfold diffW; rw [h1]; exact h2
 ·rw [← he] at h1
  exact .inr ⟨h1, by unfold diffW; rw [h1], h2⟩
def besRow (n : Int) (r : Row) : Row := (false, r.2.map fun e => if 0 ≤ e.1 then (e.1 + n, e.2) else e)
def besM (a b : Mach) : Mach := ⟨a.ins, max a.outs b.outs, false, a.rows ++ b.rows.map (besRow a.rows.length)⟩
theorem besM_len (a b : Mach) : (besM a b).rows.length = a.rows.length + b.rows.length := by simp [besM]
theorem besM_wv {a b : Mach} (ha : Valid a) (hb : Valid b) (hab : a.ins = b.ins) : WV (besM a b) := by
 have h1 := ha.rows
 have h2 := hb.rows
 refine ⟨ha.ins, by rw [besM_len]; omega, fun r hr => ?_⟩
 rw [besM_len]
 simp only [besM] at hr ⊢
 rcases List.mem_append.1 hr with hr | hr
 ·obtain ⟨k1, k2⟩ := ha.row r hr
  refine ⟨k1, fun e he => ?_⟩
  have := fits_cases (k2 e he)
  unfold fitsR; simp; omega
 ·obtain ⟨r', hr', rfl⟩ := List.mem_map.1 hr
  obtain ⟨k1, k2⟩ := hb.row r' hr'
  refine ⟨by simp only [besRow, List.length_map]; omega, fun e he => ?_⟩
  obtain ⟨e', he', rfl⟩ := List.mem_map.1 he
  have := fits_cases (k2 e' he')
  split <;> (unfold fitsR; simp; omega)
theorem bes_a (a b : Mach) {s i : Int} (hs : s < a.rows.length) : stepR (besM a b) s i = stepR a s i := by
 unfold stepR
 by_cases h0 : s < 0
 ·rw [if_pos h0, if_pos h0]
 ·rw [if_neg h0, if_neg h0]
  simp only [besM]
  rw [List.getElem?_append_left (by omega)]
theorem bes_b (a b : Mach) {t i : Int} (h0 : 0 ≤ t) : stepR (besM a b) (a.rows.length + t) i = if 0 ≤ (stepR b t i).1 then ((stepR b t i).1 + a.rows.length, (stepR b t i).2) else stepR b t i := by
 have hb' : stepR b t i = (((b.rows[t.toNat]?).map (·.2)).getD [])[i.toNat]?.getD (-1, -1) := by unfold stepR; rw [if_neg (by omega)]
 rw [hb']
 unfold stepR
 rw [if_neg (by omega)]
 simp only [besM]
 rw [List.getElem?_append_right (by omega), show ((a.rows.length : Int) + t).toNat - a.rows.length = t.toNat by omega, List.getElem?_map]
 cases hr : b.rows[t.toNat]? with
 | none => simp
 | some r =>
   simp only [Option.map_some, Option.getD_some, besRow, List.getElem?_map]
   cases he : r.2[i.toNat]? with
   | none => simp
   | some e => simp
theorem bes_runa {a : Mach} (ha : Valid a) (b : Mach) : ∀ (w : List Int) (s : Int), s < a.rows.length → (∀ i ∈ w, 0 ≤ i ∧ i < a.ins) → runR (besM a b) s w = runR a s w
 | [], _, _, _ => rfl
 | i :: w, s, hs, hw => by
   simp only [runR, bes_a a b hs]
   rw [bes_runa ha b w _ (stepR_lt ha hs (hw i List.mem_cons_self)) fun j hj => hw j (List.mem_cons_of_mem _ hj)]
theorem runR_deadR (m : Mach) : ∀ (w : List Int), runR m (-1) w = w.map fun _ => -1
 | [] => rfl
 | a :: w => by simp only [runR, stepR_dead, runR_deadR m w, List.map_cons]
theorem bes_runb (a : Mach) {b : Mach} (hb : Valid b) : ∀ (w : List Int) (t : Int), 0 ≤ t → t < b.rows.length → (∀ i ∈ w, 0 ≤ i ∧ i < b.ins) → runR (besM a b) (a.rows.length + t) w = runR b t w
 | [], _, _, _, _ => rfl
 | i :: w, t, h0, ht, hw => by
   have hw' : ∀ j ∈ w, 0 ≤ j ∧ j < b.ins := fun j hj => hw j (List.mem_cons_of_mem _ hj)
   simp only [runR, bes_b a b h0]
   rcases stepR_ends hb h0 ht (hw i List.mem_cons_self) with h | h
   ·rw [if_neg (by omega), h.1, runR_deadR, runR_deadR]
   ·rw [if_pos h.1]
    simp only
    rw [Int.add_comm, bes_runb a hb w _ h.1 h.2.1 hw']
def fewN (K : Nat) : Nat → Nat → Bool
 | 0, _ => true
 | r + 1, n => if 4096 < n * K then false else fewN K r (n * K)
theorem few_is (K most : Nat) (hK : K ≤ 16) (hm : most ≤ 1000000) : PureIs prog 51 [.sc (.int .i64 K), .sc (.int .i64 most)] (.sc (.bool (fewN K most 1))) := by
 refine PureIs.of1 2 [4, 5, 6, 7, 8, 13] func51 ntmps51 results51 fun _ => ?_
 refine EvC.a ?_
 refine EvC.a ?_
 refine EvC.seq ?_
 refine EvC.a ?_
 refine EvC.block ?_
 refine EvC.loopS (σ := Nat × Nat) (fun p => ⟨[(0, .sc (.int .i64 K)), (5, .sc (.int .i64 p.2)), (6, .sc (.int .i64 most)), (7, .sc (.int .i64 p.1))], [], [], 0⟩) (fun p => most - p.1) (fun p => p.1 ≤ most ∧ p.2 ≤ 4096 ∧ fewN K most 1 = fewN K (most - p.1) p.2) [0, 5, 6, 7] 0 ?_ ?_
 ·exact ⟨[], (0, 1), rfl, (by simp only [go_sem, Int.natCast_zero, Int.natCast_one] <;> rfl), Nat.zero_le _, by simp only; omega, rfl⟩
 rintro ⟨i, n⟩ ⟨h1, h2, h3⟩
 simp only at h1 h2 h3 ⊢
 refine EvC.a ?_
 refine EvC.seq ?_
 refine EvC.cond (by simp only [go_sem] <;> rfl) (fun hc => ?_) (fun hc => ?_)
 rotate_left
 ·refine EvC.exit ?_
  obtain rfl : i = most := by have : ¬ i < most := (by simpa using hc); omega
  rw [Nat.sub_self] at h3
  refine EvC.a ?_
  refine EvC.rz ?_
  simp only [go_sem]
  rw [h3]; rfl
 have hil : i < most := by simpa using hc
 clear hc
 rw [show most - i = (most - (i + 1)) + 1 by omega, fewN] at h3
 have hb : n * K ≤ 4096 * 16 := Nat.mul_le_mul h2 hK
 have hb2 : ((n * K : Nat) : Int) = (n : Int) * (K : Int) := Int.natCast_mul n K
 obtain ⟨z, hz⟩ : ∃ z : Int, z = (n : Int) * (K : Int) := ⟨_, rfl⟩
 have hI : inI64 ((n : Int) * (K : Int)) = true := inI64_of (by omega) (by omega)
 refine EvC.skip ?_
 refine EvC.seq ?_
 refine EvC.block ?_
 refine EvC.a ?_ (hok := by exact hI)
 rw [← hz]
 refine EvC.a ?_
 by_cases hlt : 4096 < n * K
 ·refine EvC.ct ?_ (by simp only [go_sem, decide_eq_true (show (4096 : Int) < z by omega)] <;> rfl)
  refine EvC.a ?_
  refine EvC.rz ?_
  simp only [go_sem]
  rw [h3, if_pos hlt]
 ·refine EvC.cs ?_ (by simp only [go_sem, decide_eq_false (show ¬ (4096 : Int) < z by omega)] <;> rfl)
  refine EvC.b ?_ (hok := by exact inI64_of (by omega) (by omega))
  refine ⟨[], (i + 1, n * K), rfl, (by rw [hb2, ← hz]; simp only [go_sem, Int.natCast_add, Int.natCast_one] <;> rfl), ⟨hil, by simp only; omega, ?_⟩, by simp only; omega⟩
  rw [h3, if_neg hlt]
def dig (K : Nat) : Nat → Nat → List Int
 | 0, _ => []
 | n + 1, j => dig K n (j / K) ++ [((j % K : Nat) : Int)]
def wdl (K n : Nat) : List (List Int) := (List.range (K ^ n)).map (dig K n)
def upL (K : Nat) : Nat → List (List Int)
 | 0 => []
 | n + 1 => upL K n ++ wdl K (n + 1)
theorem dig_len (K : Nat) : ∀ n j, (dig K n j).length = n
 | 0, _ => rfl
 | n + 1, j => by rw [dig, List.length_append, dig_len K n]; rfl
theorem dig_in {K : Nat} (hK : 1 ≤ K) : ∀ n j, ∀ a ∈ dig K n j, 0 ≤ a ∧ a < K
 | 0, _, a, h => by cases h
 | n + 1, j, a, h => by
   rw [dig] at h
   rcases List.mem_append.1 h with h | h
   ·exact dig_in hK n _ a h
   ·simp only [List.mem_singleton] at h
    have := Nat.mod_lt j (show 0 < K by omega)
    omega
theorem wdl_len (K n : Nat) : (wdl K n).length = K ^ n := by simp [wdl]
theorem wdl_get {K n j : Nat} (h : j < K ^ n) : (wdl K n)[j]? = some (dig K n j) := by rw [wdl, List.getElem?_map, List.getElem?_range h]; rfl
theorem upL_mem {K : Nat} (hK : 1 ≤ K) : ∀ {m : Nat} {w : List Int}, w ∈ upL K m → 1 ≤ w.length ∧ w.length ≤ m ∧ ∀ a ∈ w, 0 ≤ a ∧ a < K
 | 0, w, h => by cases h
 | m + 1, w, h => by
   rw [upL] at h
   rcases List.mem_append.1 h with h | h
   ·obtain ⟨h1, h2, h3⟩ := upL_mem hK h
    exact ⟨h1, by omega, h3⟩
   ·obtain ⟨j, _, rfl⟩ := List.mem_map.1 h
    rw [dig_len]
    exact ⟨by omega, Nat.le_refl _, dig_in hK _ _⟩
theorem upL_pre {K : Nat} : ∀ {m n : Nat}, n ≤ m → ∃ r, upL K m = upL K n ++ r
 | 0, n, h => by obtain rfl : n = 0 := by omega
                 exact ⟨[], rfl⟩
 | m + 1, n, h => by
   by_cases e : n = m + 1
   ·subst e; exact ⟨[], (List.append_nil _).symm⟩
   ·obtain ⟨r, hr⟩ := upL_pre (K := K) (show n ≤ m by omega)
    exact ⟨r ++ wdl K (m + 1), by rw [upL, hr, List.append_assoc]⟩
theorem upL_at {K m n j : Nat} (hn : n < m) (hj : j < K ^ (n + 1)) : (upL K m)[(upL K n).length + j]? = some (dig K (n + 1) j) := by
 obtain ⟨r, hr⟩ := upL_pre (K := K) (show n + 1 ≤ m by omega)
 rw [hr, upL, List.append_assoc, List.getElem?_append_right (Nat.le_add_right _ _), Nat.add_sub_cancel_left, List.getElem?_append_left (by rw [wdl_len]; exact hj), wdl_get hj]
theorem mul_gapK {k r s : Nat} (h : r < s) : k * r + k ≤ k * s := by
 have := Nat.mul_le_mul_left k (show r + 1 ≤ s from h)
 rwa [Nat.mul_add, Nat.mul_one] at this
def incR (K : Nat) : List Int → Option (List Int)
 | [] => none
 | a :: r => if a + 1 < K then some ((a + 1) :: r) else (incR K r).map (0 :: ·)
theorem incR_dig {K : Nat} (hK : 1 ≤ K) : ∀ n j, j < K ^ n → incR K (dig K n j).reverse = if j + 1 < K ^ n then some (dig K n (j + 1)).reverse else none
 | 0, j, h => by
   have hj : ¬ j + 1 < K ^ 0 := by simp
   rw [if_neg hj]; rfl
 | n + 1, j, h => by
   have e1 := Nat.div_add_mod j K
   have e2 := Nat.mod_lt j (show 0 < K by omega)
   have hp : K ^ (n + 1) = K * K ^ n := by rw [Nat.pow_succ, Nat.mul_comm]
   rw [hp] at h ⊢
   have hq : j / K < K ^ n := Nat.div_lt_of_lt_mul h
   have hq2 := mul_gapK (k := K) hq
   simp only [dig, List.reverse_append, List.reverse_cons, List.reverse_nil, List.nil_append, List.singleton_append, incR]
   generalize j / K = q at *
   generalize j % K = r at *
   by_cases hr : r + 1 < K
   ·have d1 : (j + 1) / K = q := by rw [← e1, Nat.add_assoc, Nat.mul_add_div (by omega), Nat.div_eq_of_lt hr]; rfl
    have d2 : (j + 1) % K = r + 1 := by rw [← e1, Nat.add_assoc, Nat.mul_add_mod, Nat.mod_eq_of_lt hr]
    rw [if_pos (by omega), if_pos (by omega), d1, d2]; simp
   ·obtain rfl : K = r + 1 := by omega
    have d1 : (j + 1) / (r + 1) = q + 1 := by rw [← e1, Nat.add_assoc, Nat.mul_add_div (by omega), Nat.div_self (by omega)]
    have d2 : (j + 1) % (r + 1) = 0 := by rw [← e1, Nat.add_assoc, Nat.mul_add_mod, Nat.mod_self]
    rw [if_neg (by omega), incR_dig hK n q hq, d1, d2]
    by_cases hl : q + 1 < (r + 1) ^ n
    ·have := mul_gapK (k := r + 1) hl
     rw [Nat.mul_add, Nat.mul_one] at this
     rw [if_pos hl, if_pos (by omega)]; rfl
    ·have : q + 1 = (r + 1) ^ n := by omega
     rw [if_neg hl, if_neg (by rw [← this, Nat.mul_add, Nat.mul_one]; omega)]; rfl
theorem upto_is (K most : Int) : PureIs prog 52 [.sc (.int .i64 K), .sc (.int .i64 most)] (.fn 81 [.ia [.sc (.int .i64 most)], .ia [.sc (.int .i64 K)]]) := by
 refine PureIs.of1 5 [] func52 ntmps52 results52 fun _ => ?_
 refine EvC.a ?_
 refine EvC.z 0 ?_
 refine EvC.z 1 ?_
 refine EvC.a ?_
 refine EvC.rz ?_
 simp only [go_sem]
theorem map_lent (l : List Int) : l.map lentC = l.map intC := rfl
theorem dig_zero (K : Nat) : ∀ n, dig K n 0 = List.replicate n 0
 | 0 => rfl
 | n + 1 => by rw [dig, Nat.zero_div, dig_zero K n, Nat.zero_mod, List.replicate_succ']; rfl
set_option maxHeartbeats 4000000 in
theorem upto1_seq (K most : Nat) (hK : 1 ≤ K) (hK2 : K ≤ 16) (hm : most ≤ 1000) : SeqIsT prog 81 [.ia [.sc (.int .i64 most)], .ia [.sc (.int .i64 K)]] (upL K most) := by
 refine SeqIsG.of (nv := 3) (hid := [4, 5, 6, 7, 10, 14, 15, 19, 27, 41]) func81 rfl (by kernel_rfl) (by simp [ntmps81]) (by rw [results81]) fun lp J h0 hJ hy => ?_
 rw [ntmps81]
 refine EvY.seqL hJ (EvC.rg (by simp only [go_sem] <;> rfl) (by simp) ?_)
 refine EvY.block ?_
 refine EvY.loopS hJ (σ := Nat) (fun n => ⟨[(0, .sc (yv lp)), (1, .ia [.sc (.int .i64 most)]), (2, .ia [.sc (.int .i64 K)]), (4, .sc (.int .i64 ((n : Int) + 1)))], [], [], 0⟩) (fun n => (upL K n).length) (fun n => most - n) (fun n => n ≤ most) [0, 1, 2, 4] 0 ?_ ?_
 ·exact ⟨[], 0, rfl, (by simp only [go_sem, Int.natCast_zero] <;> rfl), Nat.zero_le _, rfl⟩
 intro n hn
 refine EvY.seq ?_
 refine EvY.seqL hJ (EvC.rg (by simp only [go_sem] <;> rfl) (by simp) ?_)
 refine EvY.cond (by simp only [go_sem] <;> rfl) (fun hc => ?_) (fun hc => ?_)
 rotate_left
 ·refine EvY.exit ⟨.inr rfl, .inl ?_⟩
  obtain rfl : n = most := by have : ¬ (n : Int) + 1 ≤ most := (by simpa using hc); omega
  rfl
 have hnm : n < most := by have : (n : Int) + 1 ≤ most := (by simpa using hc); omega
 clear hc
 obtain ⟨N, hN⟩ : ∃ N : Int, N = (n : Int) + 1 := ⟨_, rfl⟩
 have hNt : N.toNat = n + 1 := by omega
 rw [← hN]
 refine EvY.skip ?_
 refine EvY.seq ?_
 refine EvY.block ?_
 have hr : room (n + 1) 8 = true := by simp only [room_eq, decide_eq_true_eq]; omega
 refine EvY.seqL hJ (EvC.rg (by simp only [go_sem] <;> rfl) (by simp [hNt, hr]; try omega) ?_)
 refine EvY.seqL hJ (EvC.rg (by simp only [go_sem] <;> rfl) (by simp) ?_)
 have hz : (List.replicate N.toNat [AV.sc (.int .i64 0)]) = (dig K (n + 1) 0).map intC := by
  rw [hNt, dig_zero]; simp [intC]
 have hzn : ((dig K (n + 1) 0).map intC).all AV.norefs = true := by simp [List.all_eq_true, intC, AV.norefs, AV.noref]
 refine EvY.block ?_
 refine EvY.loopS hJ (σ := Nat × List Int) (fun g => ⟨[(0, .sc (yv lp)), (1, .ia [.sc (.int .i64 most)]), (2, .ia [.sc (.int .i64 K)]), (4, .sc (.int .i64 N)), (5, .tv 0 (n + 1) 0 (n + 1) (.val (n + 1))), (6, .sc (.bool (decide (g.1 < K ^ (n + 1)))))], [], [(0, .arr 1 (g.2.map intC) false)], 1⟩) (fun g => (upL K n).length + g.1) (fun g => K ^ (n + 1) - g.1) (fun g => g.1 ≤ K ^ (n + 1) ∧ g.2.length = n + 1 ∧ (g.1 < K ^ (n + 1) → g.2 = dig K (n + 1) g.1)) [0, 1, 2, 4, 5, 6] 1 ?_ ?_
 ·have hp : decide (0 < K ^ (n + 1)) = true := decide_eq_true (Nat.pow_pos (by omega))
  exact ⟨[(4, 0)], (0, dig K (n + 1) 0), rfl, (by rw [hz]; simp only [go_sem, hp, hNt, hzn] <;> rfl), ⟨Nat.zero_le _, dig_len _ _ _, fun _ => rfl⟩, rfl⟩
 rintro ⟨j, w⟩ ⟨hj, hw1, hw2⟩
 simp only at hj hw1 hw2 ⊢
 refine EvY.seq ?_
 refine EvY.seqL hJ (EvC.rg (by simp only [go_sem] <;> rfl) (by simp) ?_)
 by_cases hjl : j < K ^ (n + 1)
 rotate_left
 ·refine EvY.cond_false (by simp only [go_sem, decide_eq_false hjl] <;> rfl) ?_
  refine EvY.exit ?_
  refine EvY.lift hJ (EvC.rg (by simp only [go_sem] <;> rfl) (inI64_of (by omega) (by omega)) ?_)
  refine ⟨[], n + 1, rfl, (by simp only [go_sem, hN, Int.natCast_add, Int.natCast_one] <;> rfl), hnm, ?_, by omega⟩
  rw [upL, List.length_append, wdl_len, show j = K ^ (n + 1) by omega]
 have hwe := hw2 hjl
 refine EvY.cond_true (by simp only [go_sem, decide_eq_true hjl] <;> rfl) ?_
 refine EvY.skip ?_
 refine EvY.block ?_
 refine EvY.seq ?_
 refine EvY.seq (EvY.region ?_)
 have hat := upL_at (m := most) hnm hjl
 have hlt := (List.getElem?_eq_some_iff.1 hat).1
 have hget : (upL K most)[(upL K n).length + j] = w := by rw [hwe]; exact (List.getElem?_eq_some_iff.1 hat).2
 refine XRY.run hJ (by simp only [go_sem] <;> rfl) (by simp) ?_
 refine XRY.yieldT (fz := false) hlt hy rfl rfl (by simp only [go_sem] <;> rfl) (by simp only [go_sem] <;> rfl) (by simp only [go_sem] <;> rfl) (by rw [hget]; simp only [go_sem, map_lent] <;> rfl) (by rw [hget]; exact hw1.symm) (by omega) fun b => ?_
 refine XRY.done hJ (by simp only [go_sem] <;> rfl) rfl ?_
 refine EvY.cond (by simp only [go_sem] <;> rfl) (fun hb => ?_) (fun hb => ?_)
 ·have hb : b = false := by simpa using hb
  subst hb
  exact EvY.ret ⟨.inl rfl, .inr rfl⟩
 have hb : b = true := by simpa using hb
 subst hb
 refine EvY.skip ?_
 refine EvY.seqL hJ (EvC.rg (by simp only [go_sem] <;> rfl) (by simp) ?_)
 refine EvY.seqL hJ (EvC.rg (by simp only [go_sem] <;> rfl) (inI64_of (by omega) (by omega)) ?_)
 have hrl : w.reverse.length = n + 1 := by rw [List.length_reverse, hw1]
 have hinc := incR_dig hK (n + 1) j hjl
 rw [← hwe] at hinc
 refine EvY.lift hJ ?_
 refine EvC.block ?_
 have hwin : ∀ x ∈ w.reverse, 0 ≤ x ∧ x < K := fun x hx => by rw [List.mem_reverse, hwe] at hx; exact dig_in hK _ _ x hx
 refine EvC.loopS (σ := List Int × List Int × Bool) (fun g => ⟨[(0, .sc (yv lp)), (1, .ia [.sc (.int .i64 most)]), (2, .ia [.sc (.int .i64 K)]), (4, .sc (.int .i64 N)), (5, .tv 0 (n + 1) 0 (n + 1) (.val (n + 1))), (6, .sc (.bool g.2.2)), (7, .sc (.int .i64 ((g.1.length : Int) - 1)))], [], [(0, .arr 1 ((g.1.reverse ++ g.2.1).map intC) false)], 1⟩) (fun g => g.1.length)
  (fun g => (g.1.reverse ++ g.2.1).length = n + 1 ∧ (∀ x ∈ g.1, 0 ≤ x ∧ x < K) ∧ (g.2.2 = false → ∃ m, g.2.1 = List.replicate m 0 ∧ incR K w.reverse = (incR K g.1).map (List.replicate m 0 ++ ·)) ∧ (g.2.2 = true → ∃ r, incR K w.reverse = some r ∧ g.1.reverse ++ g.2.1 = r.reverse)) [0, 1, 2, 4, 5, 6, 7] 1 ?_ ?_
 ·have hN1 : N - 1 = (w.reverse.length : Int) - 1 := by omega
  refine ⟨[(0, 0)], (w.reverse, [], false), rfl, (by simp only [go_sem, hN1, List.append_nil, List.reverse_reverse] <;> rfl), by simp [hw1], hwin, fun _ => ⟨0, rfl, ?_⟩, fun h => by cases h⟩
  simp
 rintro ⟨r, tl, more⟩ ⟨c1, c2, c3, c4⟩
 simp only at c1 c2 c3 c4 ⊢
 refine EvC.seq ?_
 cases more with
 | true =>
   obtain ⟨r2, d1, d2⟩ := c4 rfl
   obtain ⟨kZ, hkZ⟩ : ∃ z : Int, z = (r.length : Int) - 1 := ⟨_, rfl⟩
   rw [← hkZ]
   obtain ⟨bz, hbz⟩ : ∃ b, decide (0 ≤ kZ) = b := ⟨_, rfl⟩
   have hj1 : j + 1 < K ^ (n + 1) ∧ r2 = (dig K (n + 1) (j + 1)).reverse := by
    rw [d1] at hinc
    by_cases h : j + 1 < K ^ (n + 1)
    ·rw [if_pos h] at hinc; exact ⟨h, by simpa using hinc⟩
    ·rw [if_neg h] at hinc; cases hinc
   have hcon : r.reverse ++ tl = dig K (n + 1) (j + 1) := by rw [d2, hj1.2, List.reverse_reverse]
   have hd : decide (j + 1 < K ^ (n + 1)) = true := decide_eq_true hj1.1
   have hn2 : ((dig K (n + 1) (j + 1)).map intC).all AV.norefs = true := by simp [List.all_eq_true, intC, AV.norefs, AV.noref]
   rw [hcon]
   cases bz
   ·apply EvC.seq
    apply EvC.trd
    ·simp only [go_sem, hbz] <;> rfl
    ·simp
    refine EvC.cf ?_
    refine EvC.exit ?_
    exact ⟨[(0, 0)], (j + 1, dig K (n + 1) (j + 1)), rfl, (by simp only [go_sem, hd, hn2] <;> rfl), ⟨Nat.le_of_lt hj1.1, dig_len _ _ _, fun _ => rfl⟩, rfl, by simp only; omega⟩
   ·apply EvC.seq
    apply EvC.trd
    ·simp only [go_sem, hbz] <;> rfl
    ·simp
    refine EvC.cf ?_
    refine EvC.exit ?_
    exact ⟨[(0, 0)], (j + 1, dig K (n + 1) (j + 1)), rfl, (by simp only [go_sem, hd, hn2] <;> rfl), ⟨Nat.le_of_lt hj1.1, dig_len _ _ _, fun _ => rfl⟩, rfl, by simp only; omega⟩
 | false =>
   obtain ⟨m, d1, d2⟩ := c3 rfl
   clear c3 c4
   cases r with
   | nil =>
     have hj1 : ¬ j + 1 < K ^ (n + 1) := fun h => by rw [d2, if_pos h] at hinc; cases hinc
     have hd : decide (j + 1 < K ^ (n + 1)) = false := decide_eq_false hj1
     simp only [List.length_nil, List.reverse_nil, List.nil_append] at c1 ⊢
     have hn2 : (tl.map intC).all AV.norefs = true := by simp [List.all_eq_true, intC, AV.norefs, AV.noref]
     apply EvC.seq
     apply EvC.trd
     ·simp only [go_sem] <;> rfl
     ·simp
     refine EvC.cf ?_
     refine EvC.exit ?_
     exact ⟨[(0, 0)], (j + 1, tl), rfl, (by simp only [go_sem, hd, hn2] <;> rfl), ⟨hjl, c1, fun h => absurd h hj1⟩, rfl, by simp only; omega⟩
   | cons a r =>
     have ha := c2 a List.mem_cons_self
     obtain ⟨kZ, hkZ⟩ : ∃ z : Int, z = ((a :: r).length : Int) - 1 := ⟨_, rfl⟩
     have hkr : kZ = (r.length : Int) := by rw [hkZ]; simp
     have hkt : kZ.toNat = r.length := by omega
     have hk00 : 0 ≤ kZ := by omega
     have hk0 : decide (0 ≤ kZ) = true := decide_eq_true (by omega)
     rw [← hkZ]
     have hcon : (a :: r).reverse ++ tl = r.reverse ++ a :: tl := by simp
     have hrn : r.length < n + 1 := by simp only [List.length_append, List.length_reverse, List.length_cons] at c1; omega
     rw [hcon] at c1 ⊢
     obtain ⟨C0, hC0⟩ : ∃ C, C = (r.reverse ++ a :: tl).map intC := ⟨_, rfl⟩
     obtain ⟨C1, hC1⟩ : ∃ C, C = (r.reverse ++ (a + 1) :: tl).map intC := ⟨_, rfl⟩
     obtain ⟨C2, hC2⟩ : ∃ C, C = (r.reverse ++ 0 :: tl).map intC := ⟨_, rfl⟩
     have hrr : (r.reverse.map intC).length = r.length := by simp
     have g0 : C0[r.length]? = some [.sc (.int .i64 a)] := by
      rw [hC0, List.map_append, List.getElem?_append_right (by omega), hrr, Nat.sub_self]; rfl
     have g1 : C1[r.length]? = some [.sc (.int .i64 (a + 1))] := by
      rw [hC1, List.map_append, List.getElem?_append_right (by omega), hrr, Nat.sub_self]; rfl
     have s1 : C0.set r.length [.sc (.int .i64 (a + 1))] = C1 := by
      have := set_mid (r.reverse.map intC) (tl.map intC) (intC a) (intC (a + 1))
      rw [hrr] at this
      rw [hC0, hC1, List.map_append, List.map_append]; exact this
     have s2 : C1.set r.length [.sc (.int .i64 0)] = C2 := by
      have := set_mid (r.reverse.map intC) (tl.map intC) (intC (a + 1)) (intC 0)
      rw [hrr] at this
      rw [hC2, hC1, List.map_append, List.map_append]; exact this
     have l0 : C0.length = n + 1 := by rw [hC0, List.length_map]; exact c1
     have l1 : C1.length = n + 1 := by rw [hC1, List.length_map]; simpa using c1
     have l2 : C2.length = n + 1 := by rw [hC2, List.length_map]; simpa using c1
     have n1 : C1.all AV.norefs = true := by rw [hC1]; simp [List.all_eq_true, intC, AV.norefs, AV.noref]
     have n2 : C2.all AV.norefs = true := by rw [hC2]; simp [List.all_eq_true, intC, AV.norefs, AV.noref]
     have hk1 : kZ - 1 = (r.length : Int) - 1 := by omega
     have hIa : inI64 (a + 1) = true := inI64_of (by omega) (by omega)
     have hIk : inI64 ((r.length : Int) - 1) = true := inI64_of (by omega) (by simp only [List.length_append, List.length_reverse, List.length_cons] at c1; omega)
     rw [← hC0]
     apply EvC.seq
     apply EvC.trd
     ·simp only [go_sem, hk0] <;> rfl
     ·simp
     refine EvC.cr ?_
     refine EvC.seq ?_
     refine EvC.block ?_
     refine EvC.a ?_ (by simp only [go_sem, hkt, l0, g0, s1] <;> rfl) (by simp [hIa, hk00, hrn])
     apply EvC.seq
     apply EvC.drd mixed
     ·simp only [go_sem, hkt, l1, g1] <;> rfl
     ·simp [hk00, hrn]
     ·kernel_rfl
     by_cases hlt : a + 1 < (K : Int)
     ·refine EvC.ct ?_ (by simp only [go_sem, decide_eq_true hlt] <;> rfl)
      refine EvC.b ?_
      refine EvC.b ?_ (by simp only [go_sem, hk1] <;> rfl) (by simp [hIk])
      refine ⟨[(0, 0)], (r, (a + 1) :: tl, true), rfl, (by rw [← hC1]; simp only [go_sem, n1, hk1] <;> rfl), ⟨by simpa using c1, fun x hx => c2 x (List.mem_cons_of_mem _ hx), fun h => (by cases h), fun _ => ?_⟩, by simp⟩
      rw [d2, incR, if_pos hlt]
      exact ⟨_, rfl, by simp [d1]⟩
     ·refine EvC.cf ?_ (by simp only [go_sem, decide_eq_false hlt] <;> rfl)
      refine EvC.b ?_ (by simp only [go_sem, hkt, l1, g1, s2] <;> rfl) (by simp [hk00, hrn])
      refine EvC.b ?_ (by simp only [go_sem, hk1] <;> rfl) (by simp [hIk])
      refine ⟨[(0, 0)], (r, 0 :: tl, false), rfl, (by rw [← hC2]; simp only [go_sem, n2, hk1] <;> rfl), ⟨by simpa using c1, fun x hx => c2 x (List.mem_cons_of_mem _ hx), fun _ => ⟨m + 1, by rw [d1]; rfl, ?_⟩, fun h => (by cases h)⟩, by simp⟩
      rw [d2, incR, if_neg hlt, Option.map_map]
      congr 1
      funext x
      simp [List.replicate_succ']
theorem norefs_intC (l : List Int) : (l.map intC).all AV.norefs = true := by simp [List.all_eq_true, intC, AV.norefs, AV.noref]
theorem cloneI_new (es : List Int) (c : Cp) (hl : es.length < 1000000) (h0 : es.length ≠ 0) : PureNew prog 54 [.sl false (es.map intC) c] 1 (es.map intC) := by
 refine PureNew.of (nv := 1) (hid := [2, 4]) func54 rfl (by kernel_rfl) (by simp [ntmps54]) fun _ => ?_
 rw [ntmps54, results54]
 refine EvC.a ?_
 refine EvC.seq ?_
 refine EvC.a ?_
 refine EvC.cs ?_
 have hr1 : room es.length 8 = true := by simp only [room_eq, decide_eq_true_eq]; omega
 have hr3 : ∀ a : Int, a ∈ es → (intC a).length = 1 := fun _ _ => rfl
 refine EvC.a ?_ (by simp only [go_sem, List.length_map] <;> rfl) (by simp [hr1]; try exact hr3)
 refine EvC.ret ⟨.inl rfl, _, 5, (by simp only [go_sem, List.length_map] <;> rfl), .inl ?_, ?_, by simpa using h0, norefs_intC es⟩
 ·simp only [List.length_map]
 ·rfl
theorem cloneI_is (nl : Bool) (xs : List Int) (c : Cp) (hl : xs.length < 1000000) (hn : nl = true → xs = []) : PureIs prog 54 [.sl nl (xs.map intC) c] (.sl nl (xs.map intC) .unk) := by
 refine PureIs.of1 1 [2, 4] func54 ntmps54 results54 fun _ => ?_
 refine EvC.a ?_
 refine EvC.seq ?_
 refine EvC.a ?_
 cases nl with
 | true =>
   rw [hn rfl]
   refine EvC.ct ?_
   refine EvC.a ?_
   refine EvC.rz ?_
   simp only [go_sem]
 | false =>
   refine EvC.cs ?_
   have hr1 : room xs.length 8 = true := by simp only [room_eq, decide_eq_true_eq]; omega
   have hr3 : ∀ a : Int, a ∈ xs → (intC a).length = 1 := fun _ _ => rfl
   refine EvC.a ?_ (by simp only [go_sem, List.length_map] <;> rfl) (by simp [hr1]; try exact hr3)
   have hnn := norefs_intC xs
   refine EvC.frz 5 (by simp only [go_sem, List.length_map] <;> rfl) ?_
   refine EvC.rz ?_
   simp only [go_sem]
def lgL : List (List Int × List Int) → Nat
 | [] => 0
 | p :: ps => max p.2.length (lgL ps)
def lgA (a : Nat) : List (List Int × List Int) → Nat
 | [] => a
 | p :: ps => lgA (max a p.2.length) ps
theorem lgA_eq (a : Nat) : ∀ ps, lgA a ps = max a (lgL ps)
 | [] => by simp [lgA, lgL]
 | p :: ps => by rw [lgA, lgA_eq, lgL]; omega
theorem lgL_le {N : Nat} : ∀ {ps : List (List Int × List Int)}, (∀ p ∈ ps, p.2.length ≤ N) → lgL ps ≤ N
 | [], _ => Nat.zero_le _
 | p :: ps, h => by
   have := h p List.mem_cons_self
   have := lgL_le fun q hq => h q (List.mem_cons_of_mem _ hq)
   rw [lgL]; omega
theorem dvL_bd {κ : Type} {eqB : κ → κ → Bool} {K : Int → κ} : ∀ (is : List Int) (ps : List (κ × List Int)) (N : Nat), (∀ p ∈ ps, p.2.length ≤ N) → ∀ p ∈ dvL eqB K is ps, p.2.length ≤ N + is.length
 | [], _, _, h, p, hp => h p hp
 | i :: is, ps, N, h, p, hp => by
   have := dvL_bd is (dvPut eqB (K i) i ps) (N + 1) (dvPut_bd h) p hp
   rw [List.length_cons]; omega
def lgW (X : List Mach) (n : Nat) (w : List Int) : Nat := lgL (dvL eqI (respK X w) (idL n) [])
theorem lgW_le (X : List Mach) (n : Nat) (w : List Int) : lgW X n w ≤ n := by
 have h := lgL_le (dvL_bd (eqB := eqI) (K := respK X w) (idL n) [] 0 fun _ h => by cases h)
 have hl : (idL n).length = n := by simp [idL]
 rw [hl] at h
 unfold lgW; omega
def nextF (X : List Mach) (n : Nat) : List (List Int) → List Int → Nat → List Int × Nat
 | [], b, l => (b, l)
 | w :: ws, b, l => if lgW X n w < l then nextF X n ws w (lgW X n w) else nextF X n ws b l
def nextA (m : Mach) (fs : List FA) (most : Int) : AV :=
 if mutErr m fs ≠ 0 then .tu [.sl true [] .unk, .sc (.int .i64 0), .sc (.int .i64 (mutErr m fs))]
 else if most < 1 ∨ 256 < most ∨ fs.length = 0 then .tu [.sl true [] .unk, .sc (.int .i64 0), .sc (.int .i64 1)]
 else if fewN m.ins.toNat most.toNat 1 = false then .tu [.sl true [] .unk, .sc (.int .i64 0), .sc (.int .i64 3)]
 else .tu [.sl false ((nextF (fs.map (mutF m)) fs.length (upL m.ins.toNat most.toNat) [] (fs.length + 1)).1.map intC) .full, .sc (.int .i64 (nextF (fs.map (mutF m)) fs.length (upL m.ins.toNat most.toNat) [] (fs.length + 1)).2), .sc (.int .i64 0)]
set_option maxHeartbeats 4000000 in
theorem next_is (m : Mach) (hm : ∀ r ∈ m.rows, r.2.length < 1000000) (hnn : NoNil m) (fn : Bool) (fs : List FA) (fc : Cp) (hfl : fs.length < 1000000) (most : Int) :
  PureIs prog 19 [.ag m.cells, .sl fn (fs.map FA.cells) fc, .sc (.int .i64 most)] (nextA m fs most) := by
 refine PureIs.of1 5 [6, 7, 8, 9, 10, 11, 12, 13, 14, 16, 24, 36, 41, 48, 49, 55, 56, 57, 58, 69] func19 ntmps19 results19 fun _ => ?_
 refine EvC.a ?_ (by simp only [go_sem, Mach.cells] <;> rfl)
 refine EvC.z 0 ?_
 refine EvC.z 1 ?_
 have q := mutants_is m hm hnn fn fs fc hfl
 unfold mutsA at q
 unfold nextA
 by_cases h0 : mutErr m fs = 0
 rotate_left
 ·rw [if_neg h0] at q
  rw [if_pos h0]
  apply EvC.s1
  ·apply Tr.run
   ·simp only [go_sem, Mach.cells] <;> rfl
   ·simp
   apply Tr.cons
   ·exact .ca (q)
   apply Tr.done
   ·simp only [go_sem] <;> rfl
   ·simp
  refine EvC.seq ?_
  refine EvC.a ?_
  refine EvC.ct ?_ (by simp only [go_sem, decide_eq_false h0] <;> rfl)
  refine EvC.a ?_
  refine EvC.rz ?_
  simp only [go_sem]
 rw [if_pos h0] at q
 rw [if_neg (show ¬ mutErr m fs ≠ 0 from fun h => h h0)]
 have hXv := mutsA_valid h0
 have hXl : (fs.map (mutF m)).length = fs.length := List.length_map _
 have hXi : ∀ x ∈ fs.map (mutF m), x.ins = m.ins := fun x hx => by obtain ⟨f, _, rfl⟩ := List.mem_map.1 hx; rfl
 generalize fs.map (mutF m) = X at q hXv hXl hXi ⊢
 have hXn := norefs_machs X
 have hfl2 := (mutErr_ok h0).2.1
 apply EvC.s1
 ·apply Tr.run
  ·simp only [go_sem, Mach.cells] <;> rfl
  ·simp
  apply Tr.cons
  ·exact .ca (q)
  apply Tr.done
  ·simp only [go_sem, hXn] <;> rfl
  ·simp
 refine EvC.z 11 ?_ (by simp only [go_sem, hXn] <;> rfl)
 refine EvC.seq ?_
 refine EvC.a ?_
 refine EvC.cs ?_
 refine EvC.seq ?_
 by_cases c1 : most < 1
 ·rw [if_pos (show most < 1 ∨ 256 < most ∨ fs.length = 0 from .inl c1)]
  apply EvC.seq
  apply EvC.trd
  ·simp only [go_sem, decide_eq_true c1, List.length_map] <;> rfl
  ·simp
  refine EvC.ct ?_
  refine EvC.a ?_
  refine EvC.rz ?_
  simp only [go_sem]
 by_cases c2 : 256 < most
 ·rw [if_pos (show most < 1 ∨ 256 < most ∨ fs.length = 0 from .inr (.inl c2))]
  apply EvC.seq
  apply EvC.trd
  ·simp only [go_sem, decide_eq_false c1, decide_eq_true c2, List.length_map] <;> rfl
  ·simp
  refine EvC.ct ?_
  refine EvC.a ?_
  refine EvC.rz ?_
  simp only [go_sem]
 by_cases c3 : (fs.length : Int) = 0
 ·rw [if_pos (show most < 1 ∨ 256 < most ∨ fs.length = 0 from .inr (.inr (by omega)))]
  apply EvC.seq
  apply EvC.trd
  ·simp only [go_sem, decide_eq_false c1, decide_eq_false c2, decide_eq_true c3, List.length_map] <;> rfl
  ·simp
  refine EvC.ct ?_
  refine EvC.a ?_
  refine EvC.rz ?_
  simp only [go_sem]
 rw [if_neg (show ¬ (most < 1 ∨ 256 < most ∨ fs.length = 0) by omega)]
 apply EvC.seq
 apply EvC.trd
 ·simp only [go_sem, decide_eq_false c1, decide_eq_false c2, decide_eq_false c3, List.length_map] <;> rfl
 ·simp
 refine EvC.cs ?_
 have hv := Valid.of (mutErr_ok h0).1
 have hins := hv.ins
 obtain ⟨K, hK⟩ : ∃ K : Nat, K = m.ins.toNat := ⟨_, rfl⟩
 obtain ⟨N, hN⟩ : ∃ N : Nat, N = most.toNat := ⟨_, rfl⟩
 have hKi : m.ins = (K : Int) := by omega
 obtain rfl : most = (N : Int) := by omega
 rw [← hK, ← hN]
 have q1 := few_is K N (by omega) (by omega)
 rw [← hKi] at q1
 refine EvC.seq ?_
 apply EvC.s1
 ·apply Tr.run
  ·simp only [go_sem, Mach.cells] <;> rfl
  ·simp
  apply Tr.cons
  ·exact .ca (q1)
  apply Tr.done
  ·simp only [go_sem] <;> rfl
  ·simp
 obtain hfw | hfw : fewN K N 1 = false ∨ fewN K N 1 = true := by cases fewN K N 1 <;> simp
 ·rw [if_pos hfw]
  refine EvC.ct ?_ (by simp only [go_sem, hfw] <;> rfl)
  refine EvC.a ?_
  refine EvC.rz ?_
  simp only [go_sem]
 rw [if_neg (show ¬ fewN K N 1 = false by rw [hfw]; simp)]
 refine EvC.cs ?_ (by simp only [go_sem, hfw] <;> rfl)
 refine EvC.a ?_
 refine EvC.a ?_ (by simp only [go_sem, List.length_map] <;> rfl) (by exact inI64_of (by omega) (by omega))
 have q2 := upto_is m.ins N
 refine EvC.ownC 32 0 1 (by simp only [go_sem] <;> rfl) ?_
 refine EvC.thaw 38 (by simp only [go_sem] <;> rfl) ?_
 refine EvC.seq ?_
 apply EvC.s1
 ·apply Tr.run
  ·simp only [go_sem, Mach.cells] <;> rfl
  ·simp
  apply Tr.cons
  ·exact .ca (q2)
  apply Tr.done
  ·simp only [go_sem] <;> rfl
  ·simp
 refine EvC.gcTo ⟨[(4, .ia [.sl fn (fs.map FA.cells) fc]), (9, .ia [.sl fs.isEmpty (X.map Mach.cells) .unk]), (11, .rf 0 0), (12, .rf 2 0), (48, .fn 81 [.ia [.sc (.int .i64 N)], .ia [.sc (.int .i64 m.ins)]])], [], [(0, .cells [.tl 1 0 true]), (2, .cells [.sc (.int .i64 ((fs.length : Int) + 1))]), (1, .arr 1 [] false)], 3⟩ [4, 9, 11, 12, 48] [(32, 0), (36, 2), (38, 1)] rfl (by simp only [go_sem] <;> rfl) ?_
 have hpk : ∀ p ∈ (#[49] : Array Nat), p < 76 := by decide
 have hseq := upto1_seq K N (by omega) (by omega) (by omega)
 rw [← hKi] at hseq
 have hmem : ∀ w ∈ upL K N, 1 ≤ w.length ∧ w.length ≤ N ∧ ∀ a ∈ w, 0 ≤ a ∧ a < K := fun w hw => upL_mem (by omega) hw
 have hne : upL K N ≠ [] := by
  obtain ⟨N', rfl⟩ : ∃ k, N = k + 1 := ⟨N - 1, by omega⟩
  intro e
  have h1 := congrArg List.length e
  have h2 : 0 < K ^ (N' + 1) := Nat.pow_pos (by omega)
  rw [upL, List.length_append, wdl_len] at h1
  simp only [List.length_nil] at h1
  omega
 generalize upL K N = W at hseq hmem hne ⊢
 obtain ⟨n, hn⟩ : ∃ n, n = fs.length := ⟨_, rfl⟩
 rw [← hn] at hXl hfl2 ⊢
 refine EvC.block ?_
 refine EvC.rangeN rfl (fun _ => rfl) (gf := 81) (caps := [.ia [.sc (.int .i64 N)], .ia [.sc (.int .i64 m.ins)]]) (xs := W) (σ := List Int × Nat × Nat) (by simp only [go_sem] <;> rfl) rfl hseq (fun x hx e => by have := hmem x hx; rw [e] at this; simp at this) rfl hpk (Nat.zero_le _) 4 (by simp)
  (fun _ s => [(0, .cells [.tl s.2.2 s.1.length s.1.isEmpty]), (2, .cells [.sc (.int .i64 s.2.1)]), (s.2.2, .arr 1 (s.1.map intC) false)]) (fun k s => nextF X n (W.drop k) s.1 s.2.1 = nextF X n W [] (n + 1) ∧ s.2.1 ≤ n + 1 ∧ s.1.length ≤ 256 ∧ (k = 0 → s.2.1 = n + 1) ∧ (0 < k → s.1.isEmpty = false) ∧ (s.2.2 = 1 ∨ s.2.2 = 3)) ?_ ?_ ?_ ?_
 ·intro k s _
  simp [memFf, RObj.ff, AV.ffs, AV.ff, intC, List.all_eq_true]
 ·exact ⟨([], n + 1, 1), (by simp only [go_sem, List.map_nil, List.length_nil, List.isEmpty_nil, Int.natCast_add, Int.natCast_one] <;> rfl), rfl, Nat.le_refl _, by simp, fun _ => rfl, fun h => by omega, .inl rfl⟩
 rotate_left
 ·rintro ⟨b, l, id⟩ ⟨e1, e2, e3, e4, e5, e6⟩
  simp only at e1 e2 e3 e4 e5 e6 ⊢
  have hWl : 0 < W.length := List.length_pos_iff.2 hne
  have e5 := e5 hWl
  rw [List.drop_length, nextF] at e1
  rw [← e1]
  simp only
  have q5 := clipI_is false (b.map intC) .unk (by simp [List.all_eq_true, intC])
  rcases e6 with rfl | rfl
  ·refine EvC.frzD 1 (by simp only [go_sem, List.length_map] <;> rfl) ?_
   apply EvC.seq
   apply EvC.drw mixed
   ·apply Tr.run
    ·simp only [go_sem, List.length_map, e5] <;> rfl
    ·simp
    apply Tr.cons
    ·exact .ca (q5)
    apply Tr.done
    ·simp only [go_sem] <;> rfl
    ·simp
   ·kernel_rfl
   refine EvC.rz ?_
   simp only [go_sem]
  ·refine EvC.frzD 3 (by simp only [go_sem, List.length_map] <;> rfl) ?_
   apply EvC.seq
   apply EvC.drw mixed
   ·apply Tr.run
    ·simp only [go_sem, List.length_map, e5] <;> rfl
    ·simp
    apply Tr.cons
    ·exact .ca (q5)
    apply Tr.done
    ·simp only [go_sem] <;> rfl
    ·simp
   ·kernel_rfl
   refine EvC.rz ?_
   simp only [go_sem]
 rintro j ⟨b, l, id⟩ lp hj ⟨e1, e2, e3, e4, e5, e6⟩
 simp only at e1 e2 e3 e4 e5 e6 ⊢
 have hwm := hmem _ (List.getElem_mem hj)
 have hdr : W.drop j = W[j] :: W.drop (j + 1) := List.drop_eq_getElem_cons hj
 rw [hdr, nextF] at e1
 clear hdr
 generalize W[j] = w at hwm e1 ⊢
 rw [map_lent]
 refine EvC.b ?_
 refine ⟨rfl, ?_⟩
 refine EvC.block ?_
 refine EvC.a ?_
 refine EvC.seq ?_
 have hidm : ∀ i ∈ idL n, 0 ≤ i ∧ i < X.length := fun i hi => by
  obtain ⟨j, hj, rfl⟩ := List.mem_map.1 hi
  have := List.mem_range.1 hj
  exact ⟨Int.natCast_nonneg j, by rw [hXl]; exact Int.ofNat_lt.2 this⟩
 have hidl : (idL n).length = n := by simp [idL]
 have q3 := everybody_is n (by omega)
 have q4 := responses_is fs.isEmpty X .unk false (idL n) .full false w .unk hidm hXv (fun x hx => by
  have := hXi x hx
  exact wordErr_of (by omega) (by omega) fun a ha => by have := hwm.2.2 a ha; omega) (by omega) (by omega)
 apply EvC.seq
 apply EvC.drw mixed
 ·apply Tr.run
  ·simp only [go_sem, List.length_map, ← hn] <;> rfl
  ·simp
  apply Tr.cons
  ·exact .call rfl rfl (by simp only [go_sem] <;> rfl) (by simp only [go_sem] <;> rfl) (by simp only [go_sem] <;> rfl) (by simp only [go_sem, hXn] <;> rfl) (by simp only [go_sem] <;> rfl) (q3)
  apply Tr.run
  ·simp only [go_sem, List.length_map, ← hn] <;> rfl
  ·simp
  apply Tr.cons
  ·exact .call rfl rfl (by simp only [go_sem] <;> rfl) (by simp only [go_sem] <;> rfl) (by simp only [go_sem] <;> rfl) (by simp only [go_sem, hXn] <;> rfl) (by simp only [go_sem] <;> rfl) (q4)
  apply Tr.done
  ·simp only [go_sem, List.length_map] <;> rfl
  ·simp
 ·kernel_rfl
 have hlgW : lgW X n w = lgL (dvL eqI (respK X w) (idL n) []) := rfl
 have hlg := lgW_le X n w
 have hpl := dvL_len (eqB := eqI) (K := respK X w) (idL n) []
 simp only [List.length_nil, Nat.zero_add] at hpl
 rw [hlgW] at e1 hlg
 generalize dvL eqI (respK X w) (idL n) [] = ps at e1 hlg hpl ⊢
 have hpn := partC_norefs (kc := keyI) keyI_norefs ps
 refine EvC.block ?_
 refine EvC.loopS (σ := Nat × Nat) (fun g => ⟨[(4, .ia [.sl fn (fs.map FA.cells) fc]), (9, .ia [.sl fs.isEmpty (X.map Mach.cells) .unk]), (11, .rf 0 0), (12, .rf 2 0), (13, .sl false (w.map intC) .unk), (14, .sc (.int .i64 g.2)), (48, .fn 81 [.ia [.sc (.int .i64 N)], .ia [.sc (.int .i64 m.ins)]]), (55, .sl (idL n).isEmpty (ps.map (partC keyI)) .unk), (56, .sc (.int .i64 ps.length)), (57, .sc (.int .i64 g.1))], [], [(0, .cells [.tl id b.length b.isEmpty]), (2, .cells [.sc (.int .i64 l)]), (id, .arr 1 (b.map intC) false)], 4⟩) (fun g => ps.length - g.1) (fun g => g.1 ≤ ps.length ∧ lgA g.2 (ps.drop g.1) = lgL ps) [4, 9, 11, 12, 13, 14, 48, 55, 56, 57] 4 ?_ ?_
 ·refine ⟨[(0, 0), (2, 2), (id, id)], (0, 0), ?_, ?_, Nat.zero_le _, by simp [lgA_eq]⟩
  ·rcases e6 with rfl | rfl <;> rfl
  ·rcases e6 with rfl | rfl <;> simp only [go_sem, Int.natCast_zero, List.length_map] <;> rfl
 rintro ⟨i, lg⟩ ⟨i1, i2⟩
 simp only at i1 i2 ⊢
 refine EvC.a ?_
 refine EvC.seq ?_
 refine EvC.cond (by simp only [go_sem] <;> rfl) (fun hc => ?_) (fun hc => ?_)
 rotate_left
 ·refine EvC.exit ?_
  obtain rfl : i = ps.length := by have : ¬ i < ps.length := (by simpa using hc); omega
  rw [List.drop_length, lgA] at i2
  subst i2
  clear hc
  refine EvC.a ?_
  by_cases hlt : lgL ps < l
  ·have hlt2 : (lgL ps : Int) < l := by omega
   rw [if_pos hlt] at e1
   have q6 := cloneI_new w .unk (by omega) (by omega)
   have hwe : w.isEmpty = false := by cases w with
    | nil => simp at hwm
    | cons a w => rfl
   refine EvC.ct ?_ (by simp only [go_sem, decide_eq_true hlt2] <;> rfl)
   rcases e6 with rfl | rfl
   ·apply EvC.tr
    ·apply Tr.run
     ·simp only [go_sem] <;> rfl
     ·simp
     apply Tr.cons
     ·exact .callN rfl rfl (by simp only [go_sem] <;> rfl) (by simp only [go_sem] <;> rfl) (by simp only [go_sem] <;> rfl) (by simp only [go_sem] <;> rfl) (by simp only [go_sem] <;> rfl) q6
     apply Tr.done
     ·simp only [go_sem, List.length_map] <;> rfl
     ·simp
    exact ⟨[(0, 0), (2, 2), (9, 3)], (w, lgL ps, 3), rfl, (by simp only [go_sem, hwe, List.length_map] <;> rfl), e1, by simp only; omega, by simp only; omega, fun h => by omega, fun _ => hwe, .inr rfl⟩
   ·apply EvC.tr
    ·apply Tr.run
     ·simp only [go_sem] <;> rfl
     ·simp
     apply Tr.cons
     ·exact .callN rfl rfl (by simp only [go_sem] <;> rfl) (by simp only [go_sem] <;> rfl) (by simp only [go_sem] <;> rfl) (by simp only [go_sem] <;> rfl) (by simp only [go_sem] <;> rfl) q6
     apply Tr.done
     ·simp only [go_sem, List.length_map] <;> rfl
     ·simp
    exact ⟨[(0, 0), (2, 2), (9, 3)], (w, lgL ps, 3), rfl, (by simp only [go_sem, hwe, List.length_map] <;> rfl), e1, by simp only; omega, by simp only; omega, fun h => by omega, fun _ => hwe, .inr rfl⟩
  ·have hlt2 : ¬ (lgL ps : Int) < l := by omega
   rw [if_neg hlt] at e1
   refine EvC.cs ?_ (by simp only [go_sem, decide_eq_false hlt2] <;> rfl)
   refine ⟨[(0, 0), (2, 2), (id, id)], (b, l, id), ?_, ?_, ⟨e1, e2, e3, fun h => by omega, fun _ => ?_, e6⟩⟩
   ·rcases e6 with rfl | rfl <;> rfl
   ·rcases e6 with rfl | rfl <;> simp only [go_sem] <;> rfl
   ·by_cases hj0 : 0 < j
    ·exact e5 hj0
    ·have := e4 (by omega); omega
 have hil : i < ps.length := by simpa using hc
 clear hc
 have hpe : ps[i]? = some ps[i] := List.getElem?_eq_getElem hil
 have hdr : ps.drop i = ps[i] :: ps.drop (i + 1) := List.drop_eq_getElem_cons hil
 generalize ps[i] = p at hpe hdr
 obtain ⟨px, pw⟩ := p
 rw [hdr, lgA] at i2
 simp only at i2
 have hp2 : (ps.map (partC keyI))[i]? = some (partC keyI (px, pw)) := by rw [List.getElem?_map, hpe]; rfl
 simp only [partC, keyI, List.cons_append, List.nil_append] at hp2
 obtain ⟨kZ, hkZ⟩ : ∃ z : Int, z = (i : Int) := ⟨_, rfl⟩
 have hkt : kZ.toNat = i := by omega
 rw [← hkZ]
 refine EvC.skip ?_
 refine EvC.seq ?_
 refine EvC.block ?_
 refine EvC.a ?_ (by simp only [go_sem, hp2, hkt, List.length_map] <;> rfl) (by simp; omega)
 have hmx : (if (lg : Int) ≤ (pw.length : Int) then (pw.length : Int) else (lg : Int)) = ((max lg pw.length : Nat) : Int) := by split <;> omega
 refine EvC.b ?_ (by simp only [go_sem, List.length_map, hmx] <;> rfl)
 refine EvC.b ?_ (hok := by exact inI64_of (by omega) (by omega))
 refine ⟨[(0, 0), (2, 2), (id, id)], (i + 1, max lg pw.length), ?_, ?_, ⟨hil, i2⟩, by simp only; omega⟩
 ·rcases e6 with rfl | rfl <;> rfl
 ·rw [hkZ]
  rcases e6 with rfl | rfl <;> simp only [go_sem, hmx, List.length_map, Int.natCast_add, Int.natCast_one] <;> rfl
theorem bothR_zero {a b : Mach} (ha : Valid a) (hb : Valid b) (hab : a.ins = b.ins) : bothR a b = 0 := by
 unfold bothR
 rw [if_neg (fun h => h (checkM_of ha)), if_neg (fun h => h (checkM_of hb)), if_neg (fun h => h hab)]
def firstD (X : List Mach) (a : Int) : List Int → List Int
 | [] => []
 | i :: r => if (diffO (atM X a) (atM X i)).isSome = true then diffW (atM X a) (atM X i) else firstD X a r
def wordX (X : List Mach) : List Int → List Int
 | [] => []
 | a :: r => firstD X a r
theorem diffW_empty (a b : Mach) : (diffW a b).isEmpty = (diffO a b).isNone := by
 have := diffW_pos a b
 cases h : diffO a b with
 | none => unfold diffW; rw [h]; rfl
 | some z =>
   rw [h] at this
   cases hw : diffW a b with
   | nil => rw [hw] at this; simp at this
   | cons x w => rfl
theorem word59_is (xn : Bool) (X : List Mach) (xc : Cp) (a : Int) (r : List Int) (k : Int) (hX : ∀ m ∈ X, Valid m ∧ m.ins = k) (hwho : ∀ i ∈ a :: r, 0 ≤ i ∧ i < X.length) (hl : r.length < 1000000) :
  PureIs prog 59 [.sl xn (X.map Mach.cells) xc, .sl false ((a :: r).map intC) .full] (.sl (wordX X (a :: r)).isEmpty ((wordX X (a :: r)).map intC) .unk) := by
 have hXn := norefs_machs X
 have ha := hwho a List.mem_cons_self
 have hxa := atM_get (X := X) (i := a) (by omega)
 have hva : Valid (atM X a) ∧ (atM X a).ins = k := hX _ (by rw [atM, List.getD_eq_getElem?_getD, List.getElem?_eq_getElem (show a.toNat < X.length by omega)]; exact List.getElem_mem _)
 refine PureIs.of1 10 [11, 12, 13, 14, 32] func59 ntmps59 results59 fun _ => ?_
 refine EvC.a ?_
 refine EvC.seq ?_
 refine EvC.a ?_ (by simp only [go_sem, List.map_cons, List.length_cons, List.length_map] <;> rfl) (by simp [intC]; try omega)
 refine EvC.block ?_
 refine EvC.loopS (σ := Nat) (fun i => ⟨[(0, .sl xn (X.map Mach.cells) xc), (1, .sl false (intC a :: r.map intC) .full), (11, .sl false (r.map intC) .full), (12, .sc (.int .i64 r.length)), (13, .sc (.int .i64 i))], [], [], 0⟩) (fun i => r.length - i) (fun i => i ≤ r.length ∧ firstD X a r = firstD X a (r.drop i)) [0, 1, 11, 12, 13] 0 ?_ ?_
 ·exact ⟨[], 0, rfl, (by simp only [go_sem, Int.natCast_zero, List.length_map] <;> rfl), Nat.zero_le _, rfl⟩
 rintro i ⟨h1, h2⟩
 refine EvC.a ?_
 refine EvC.seq ?_
 refine EvC.cond (by simp only [go_sem] <;> rfl) (fun hc => ?_) (fun hc => ?_)
 rotate_left
 ·refine EvC.exit ?_
  obtain rfl : i = r.length := by have : ¬ i < r.length := (by simpa using hc); omega
  rw [List.drop_length] at h2
  have h2 : firstD X a r = [] := h2
  rw [wordX, h2]
  refine EvC.a ?_
  refine EvC.rz ?_
  simp only [go_sem]
 have hil : i < r.length := by simpa using hc
 clear hc
 have he : r[i]? = some r[i] := List.getElem?_eq_getElem hil
 have hdr : r.drop i = r[i] :: r.drop (i + 1) := List.drop_eq_getElem_cons hil
 have hb := hwho _ (List.mem_cons_of_mem _ (List.getElem_mem hil))
 generalize r[i] = b at he hdr hb
 rw [hdr, firstD] at h2
 have hxb := atM_get (X := X) (i := b) (by omega)
 have hvb : Valid (atM X b) ∧ (atM X b).ins = k := hX _ (by rw [atM, List.getD_eq_getElem?_getD, List.getElem?_eq_getElem (show b.toNat < X.length by omega)]; exact List.getElem_mem _)
 have hit : ((i : Int)).toNat = i := Int.toNat_natCast i
 have q := equals_differ_is (atM X a) (atM X b) hva.1.small hvb.1.small
 have hwe := diffW_empty (atM X a) (atM X b)
 rw [differA, if_pos (bothR_zero hva.1 hvb.1 (by rw [hva.2, hvb.2]))] at q
 have q := q.weakR
 simp only [AV.unk, AV.unks, unkss_map intC (fun _ => rfl)] at q
 generalize atM X a = ma at hxa q hwe h2
 generalize atM X b = mb at hxb q hwe h2
 refine EvC.skip ?_
 refine EvC.seq ?_
 refine EvC.block ?_
 refine EvC.a ?_ (by simp only [go_sem, he, intC, hit, List.length_map] <;> rfl) (by simp; try omega)
 apply EvC.seq
 apply EvC.drw mixed
 ·apply Tr.run
  ·simp only [go_sem, intC, hxa, hxb, Mach.cells, List.length_map, List.length_cons] <;> rfl
  ·simp; try omega
  apply Tr.cons
  ·exact .ca (q)
  apply Tr.done
  ·simp only [go_sem] <;> rfl
  ·simp
 ·kernel_rfl
 refine EvC.a ?_
 obtain hd | hd : (diffO ma mb).isSome = true ∨ (diffO ma mb).isSome = false := by cases diffO ma mb <;> simp
 ·have hn : (diffO ma mb).isNone = false := by cases h : diffO ma mb <;> simp [h] at hd ⊢
  rw [if_pos hd] at h2
  rw [wordX, h2, hwe, hn]
  refine EvC.ct ?_ (by simp only [go_sem, hd] <;> rfl)
  refine EvC.a ?_
  refine EvC.rz ?_
  simp only [go_sem]
 ·rw [if_neg (by rw [hd]; simp)] at h2
  refine EvC.cs ?_ (by simp only [go_sem, hd] <;> rfl)
  refine EvC.b ?_ (hok := by exact inI64_of (by omega) (by omega))
  exact ⟨[], i + 1, rfl, (by simp only [go_sem, Int.natCast_add, Int.natCast_one, intC] <;> rfl), ⟨hil, h2⟩, by omega⟩
section
variable {κ : Type} {eqB : κ → κ → Bool} {K : Int → κ}
def sumP (ps : List (κ × List Int)) : Nat := (ps.map fun p => p.2.length).sum
theorem dvPut_sum (x : κ) (i : Int) : ∀ (ps : List (κ × List Int)), sumP (dvPut eqB x i ps) = sumP ps + 1
 | [] => rfl
 | p :: ps => by
   rw [dvPut]
   split
   ·simp only [sumP, List.map_cons, List.sum_cons, List.length_append, List.length_cons, List.length_nil]; omega
   ·have := dvPut_sum x i ps
    simp only [sumP, List.map_cons, List.sum_cons] at this ⊢; omega
theorem dvL_sum : ∀ (is : List Int) (ps : List (κ × List Int)), sumP (dvL eqB K is ps) = sumP ps + is.length
 | [], _ => rfl
 | i :: is, ps => by rw [dvL, dvL_sum is, dvPut_sum, List.length_cons]; omega
theorem dvPut_all {Q : κ → List Int → Prop} (x : κ) (i : Int) (h1 : Q x [i]) (h2 : ∀ k l, Q k l → eqB k x = true → Q k (l ++ [i])) : ∀ (ps : List (κ × List Int)), (∀ p ∈ ps, Q p.1 p.2) → ∀ p ∈ dvPut eqB x i ps, Q p.1 p.2
 | [], _, p, hp => by rw [dvPut, List.mem_singleton] at hp; subst hp; exact h1
 | q :: ps, h, p, hp => by
   rw [dvPut] at hp
   split at hp
   ·rename_i he
    rcases List.mem_cons.1 hp with rfl | hp
    ·exact h2 _ _ (h q List.mem_cons_self) he
    ·exact h p (List.mem_cons_of_mem _ hp)
   ·rcases List.mem_cons.1 hp with rfl | hp
    ·exact h _ List.mem_cons_self
    ·exact dvPut_all x i h1 h2 ps (fun r hr => h r (List.mem_cons_of_mem _ hr)) p hp
theorem dvL_all {Q : κ → List Int → Prop} : ∀ (is : List Int), (∀ i ∈ is, Q (K i) [i] ∧ ∀ k l, Q k l → eqB k (K i) = true → Q k (l ++ [i])) → ∀ (ps : List (κ × List Int)), (∀ p ∈ ps, Q p.1 p.2) → ∀ p ∈ dvL eqB K is ps, Q p.1 p.2
 | [], _, _, h, p, hp => h p hp
 | i :: is, hs, ps, h, p, hp => by
   obtain ⟨h1, h2⟩ := hs i List.mem_cons_self
   exact dvL_all is (fun j hj => hs j (List.mem_cons_of_mem _ hj)) _ (dvPut_all _ _ h1 h2 ps h) p hp
theorem dvPut_mem (x : κ) (i : Int) : ∀ (ps : List (κ × List Int)), ∃ p ∈ dvPut eqB x i ps, i ∈ p.2
 | [] => ⟨(x, [i]), by simp [dvPut], by simp⟩
 | q :: ps => by
   rw [dvPut]
   split
   ·exact ⟨(q.1, q.2 ++ [i]), List.mem_cons_self, by simp⟩
   ·obtain ⟨p, h1, h2⟩ := dvPut_mem x i ps
    exact ⟨p, List.mem_cons_of_mem _ h1, h2⟩
theorem dvPut_keep {x : κ} {i j : Int} : ∀ {ps : List (κ × List Int)}, (∃ p ∈ ps, j ∈ p.2) → ∃ p ∈ dvPut eqB x i ps, j ∈ p.2
 | [], ⟨p, h, _⟩ => by cases h
 | q :: ps, ⟨p, h, hj⟩ => by
   rw [dvPut]
   split
   ·rcases List.mem_cons.1 h with rfl | h
    ·exact ⟨(p.1, p.2 ++ [i]), List.mem_cons_self, List.mem_append_left _ hj⟩
    ·exact ⟨p, List.mem_cons_of_mem _ h, hj⟩
   ·rcases List.mem_cons.1 h with rfl | h
    ·exact ⟨p, List.mem_cons_self, hj⟩
    ·obtain ⟨p', h1, h2⟩ := dvPut_keep (x := x) (i := i) ⟨p, h, hj⟩
     exact ⟨p', List.mem_cons_of_mem _ h1, h2⟩
theorem dvL_keep {j : Int} : ∀ (is : List Int) {ps : List (κ × List Int)}, (∃ p ∈ ps, j ∈ p.2) → ∃ p ∈ dvL eqB K is ps, j ∈ p.2
 | [], _, h => h
 | i :: is, ps, h => dvL_keep is (dvPut_keep h)
theorem dvL_mem {j : Int} : ∀ (is : List Int) (ps : List (κ × List Int)), j ∈ is → ∃ p ∈ dvL eqB K is ps, j ∈ p.2
 | i :: is, ps, h => by
   rcases List.mem_cons.1 h with rfl | h
   ·exact dvL_keep is (dvPut_mem _ _ ps)
   ·exact dvL_mem is _ h
theorem dvL_ne2 (is : List Int) : ∀ p ∈ dvL eqB K is [], p.2 ≠ [] :=
 dvL_all (Q := fun _ l => l ≠ []) is (fun i _ => ⟨by simp, fun k l _ _ => by simp⟩) [] (fun p h => by cases h)
theorem dvL_sub (is : List Int) : ∀ p ∈ dvL eqB K is [], ∀ i ∈ p.2, i ∈ is := by
 refine dvL_all (Q := fun _ l => ∀ i ∈ l, i ∈ is) is (fun i hi => ⟨fun j hj => ?_, fun k l h _ j hj => ?_⟩) [] (fun p h => by cases h)
 ·rw [List.mem_singleton] at hj; subst hj; exact hi
 ·rcases List.mem_append.1 hj with hj | hj
  ·exact h j hj
  ·rw [List.mem_singleton] at hj; subst hj; exact hi
end
theorem dvI_key {K : Int → List Int} (is : List Int) : ∀ p ∈ dvL eqI K is [], ∀ i ∈ p.2, K i = p.1 := by
 refine dvL_all (Q := fun k l => ∀ i ∈ l, K i = k) is (fun i _ => ⟨fun j hj => ?_, fun k l h he j hj => ?_⟩) [] (fun p h => by cases h)
 ·rw [List.mem_singleton] at hj; subst hj; rfl
 ·rcases List.mem_append.1 hj with hj | hj
  ·exact h j hj
  ·rw [List.mem_singleton] at hj; subst hj
   simp only [eqI, decide_eq_true_eq] at he; exact he.symm
theorem dvI_two {K : Int → List Int} {is : List Int} {i j : Int} (hi : i ∈ is) (hj : j ∈ is) (h : K i ≠ K j) : 2 ≤ (dvL eqI K is []).length := by
 obtain ⟨p, h1, h2⟩ := dvL_mem (eqB := eqI) (K := K) is [] hi
 obtain ⟨q, h3, h4⟩ := dvL_mem (eqB := eqI) (K := K) is [] hj
 have k1 := dvI_key is p h1 i h2
 have k2 := dvI_key is q h3 j h4
 match hp : dvL eqI K is [] with
 | [] => rw [hp] at h1; cases h1
 | [r] =>
   rw [hp] at h1 h3
   rw [List.mem_singleton] at h1 h3
   subst h1; subst h3
   exact absurd (k1.trans k2.symm) h
 | _ :: _ :: _ => simp
theorem diffW_bd {a b : Mach} (ha : Valid a) (hb : Valid b) (hab : a.ins = b.ins) : (diffW a b).length ≤ 127 ∧ ∀ i ∈ diffW a b, 0 ≤ i ∧ i < a.ins := by
 have h1 := ha.rows
 have h2 := hb.rows
 have h3 := ha.ins
 rcases diff_least ha hb hab with ⟨_, hL⟩ | ⟨_, h, _⟩
 ·refine ⟨?_, fun i hi => by have := hL.1 i hi; omega⟩
  have hw := besM_wv ha hb hab
  have hl := besM_len a b
  obtain ⟨N, hN⟩ : ∃ N, N = a.rows.length + b.rows.length - 1 := ⟨_, rfl⟩
  have e : ∀ v, WOk a.ins.toNat v → runR (besM a b) ((0 : Nat) : Int) v = runR a 0 v ∧ runR (besM a b) (a.rows.length : Int) v = runR b 0 v := fun v hv => by
   have q1 := bes_runa ha b v 0 (by omega) fun i hi => by have := hv i hi; omega
   have q2 := bes_runb a hb v 0 (by omega) (by omega) fun i hi => by have := hv i hi; omega
   rw [Int.add_zero] at q2
   exact ⟨q1, q2⟩
  have hna : ¬ Alike (besM a b) N 0 a.rows.length := fun hal => by
   have := alike_all hw (k := N) (by omega) (by omega) (by omega) hal _ hL.1
   rw [(e _ hL.1).1, (e _ hL.1).2] at this
   exact hL.2.1 this
  simp only [Alike, Classical.not_forall] at hna
  obtain ⟨v, v1, v2, v3⟩ := hna
  have v1 : WOk a.ins.toNat v := v1
  rw [(e v v1).1, (e v v1).2] at v3
  have := rank_lt_len v1 (hL.2.2 v v1 v3)
  omega
 ·rw [h]; exact ⟨by simp, fun i hi => by cases hi⟩
theorem firstD_spec {X : List Mach} {a : Int} : ∀ {r : List Int}, (firstD X a r = [] ∧ ∀ i ∈ r, diffO (atM X a) (atM X i) = none) ∨ ∃ i ∈ r, (diffO (atM X a) (atM X i)).isSome = true ∧ firstD X a r = diffW (atM X a) (atM X i) ∧ firstD X a r ≠ []
 | [] => .inl ⟨rfl, fun i h => by cases h⟩
 | i :: r => by
   rw [firstD]
   split
   ·rename_i h
    refine .inr ⟨i, List.mem_cons_self, h, rfl, fun e => ?_⟩
    have := diffW_empty (atM X a) (atM X i)
    rw [e] at this
    cases hd : diffO (atM X a) (atM X i) <;> simp [hd] at h this
   ·rename_i h
    rcases firstD_spec (X := X) (a := a) (r := r) with ⟨h1, h2⟩ | ⟨j, h1, h2⟩
    ·refine .inl ⟨h1, fun j hj => ?_⟩
     rcases List.mem_cons.1 hj with rfl | hj
     ·cases hd : diffO (atM X a) (atM X j) <;> simp [hd] at h ⊢
     ·exact h2 j hj
    ·exact .inr ⟨j, List.mem_cons_of_mem _ h1, h2⟩
structure Nd where
 sus : List Int
 word : List Int
 br : List (List Int × Int)
def brC (b : List Int × Int) : List AV := [.sl false (b.1.map intC) .full, .sc (.int .i64 b.2)]
def wAV (w : List Int) : AV := .sl w.isEmpty (w.map intC) (if w.isEmpty then .zer else .full)
def bAV (bs : List (List Int × Int)) : AV := .sl bs.isEmpty (bs.map brC) (if bs.isEmpty then .zer else .full)
def ndC (d : Nd) : List AV := [.sl false (d.sus.map intC) .full, wAV d.word, bAV d.br]
def kidL (ps : List (List Int × List Int)) : List Nd := ps.map fun p => ⟨p.2, [], []⟩
def brsF : List (List Int × List Int) → Nat → List (List Int × Int)
 | [], _ => []
 | p :: ps, t => (p.1, (t : Int)) :: brsF ps (t + 1)
def partsX (X : List Mach) (s w : List Int) : List (List Int × List Int) := dvL eqI (respK X w) s []
def dgStep (X : List Mach) (out : List Nd) (n : Nat) : List Nd :=
 match out[n]? with
 | none => out
 | some d => if wordX X d.sus = [] then out else out.set n ⟨d.sus, wordX X d.sus, brsF (partsX X d.sus (wordX X d.sus)) out.length⟩ ++ kidL (partsX X d.sus (wordX X d.sus))
def dgF (X : List Mach) : Nat → List Nd → Nat → List Nd
 | 0, out, _ => out
 | f + 1, out, n => if n < out.length then dgF X f (dgStep X out n) (n + 1) else out
def diagL (X : List Mach) (N : Nat) : List Nd := dgF X (2 * N) [⟨idL N, [], []⟩] 0
theorem brsF_len : ∀ (ps : List (List Int × List Int)) (t : Nat), (brsF ps t).length = ps.length
 | [], _ => rfl
 | p :: ps, t => by rw [brsF, List.length_cons, brsF_len ps, List.length_cons]
theorem brsF_get : ∀ {ps : List (List Int × List Int)} {t k : Nat} {p : List Int × List Int}, ps[k]? = some p → (brsF ps t)[k]? = some (p.1, ((t + k : Nat) : Int))
 | [], _, _, _, h => by simp at h
 | q :: ps, t, 0, p, h => by
   simp only [List.getElem?_cons_zero, Option.some.injEq] at h
   subst h; rfl
 | q :: ps, t, k + 1, p, h => by
   have := brsF_get (t := t + 1) (show ps[k]? = some p by simpa using h)
   rw [brsF, List.getElem?_cons_succ, this, show t + 1 + k = t + (k + 1) by omega]
def wgt (l : List Nd) : Nat := (l.map fun d => 2 * (d.sus.length - 1)).sum
theorem wgt_app (a b : List Nd) : wgt (a ++ b) = wgt a + wgt b := by simp [wgt]
theorem wgt_kids : ∀ {ps : List (List Int × List Int)}, (∀ p ∈ ps, p.2 ≠ []) → wgt (kidL ps) + 2 * ps.length = 2 * sumP ps
 | [], _ => rfl
 | p :: ps, h => by
   have h1 := wgt_kids fun q hq => h q (List.mem_cons_of_mem _ hq)
   have h2 := List.length_pos_iff.2 (h p List.mem_cons_self)
   simp only [wgt, kidL, sumP, List.map_cons, List.sum_cons, List.length_cons] at h1 ⊢
   omega
structure DInv (X : List Mach) (N : Nat) (n : Nat) (out : List Nd) : Prop where
 le : n ≤ out.length
 wg : out.length + wgt (out.drop n) ≤ 2 * N - 1
 ne : ∀ d ∈ out, d.sus ≠ []
 rng : ∀ d ∈ out, ∀ i ∈ d.sus, 0 ≤ i ∧ i < N
theorem DInv.start (X : List Mach) {N : Nat} (hN : 1 ≤ N) : DInv X N 0 [⟨idL N, [], []⟩] where
 le := Nat.zero_le _
 wg := by
  have hl : (idL N).length = N := by simp [idL]
  simp only [List.drop_zero, wgt, List.map_cons, List.map_nil, List.sum_cons, List.sum_nil, List.length_cons, List.length_nil, hl]; omega
 ne := fun d hd e => by
  rw [List.mem_singleton] at hd; subst hd
  have hl : (idL N).length = N := by simp [idL]
  simp only at e
  rw [e] at hl; simp at hl; omega
 rng := fun d hd i hi => by
  rw [List.mem_singleton] at hd; subst hd
  obtain ⟨j, hj, rfl⟩ := List.mem_map.1 hi
  have := List.mem_range.1 hj
  exact ⟨Int.natCast_nonneg j, Int.ofNat_lt.2 this⟩
theorem wordX_two {X : List Mach} {k : Int} (hX : ∀ m ∈ X, Valid m ∧ m.ins = k) {s : List Int} (hs : ∀ i ∈ s, 0 ≤ i ∧ i < X.length) (hw : wordX X s ≠ []) :
  2 ≤ (partsX X s (wordX X s)).length ∧ (wordX X s).length ≤ 127 ∧ ∀ i ∈ wordX X s, 0 ≤ i ∧ i < k := by
 have hin : ∀ i ∈ s, Valid (atM X i) ∧ (atM X i).ins = k := fun i hi => hX _ (by
  have h := hs i hi
  rw [atM, List.getD_eq_getElem?_getD, List.getElem?_eq_getElem (show i.toNat < X.length by omega)]
  exact List.getElem_mem _)
 cases s with
 | nil => exact absurd rfl hw
 | cons a r =>
   rcases firstD_spec (X := X) (a := a) (r := r) with ⟨h1, _⟩ | ⟨i, h1, h2, h3, _⟩
   ·exact absurd h1 hw
   ·have va := hin a List.mem_cons_self
    have vi := hin i (List.mem_cons_of_mem _ h1)
    have hab : (atM X a).ins = (atM X i).ins := by rw [va.2, vi.2]
    have hbd := diffW_bd va.1 vi.1 hab
    have e : wordX X (a :: r) = diffW (atM X a) (atM X i) := h3
    rw [e]
    refine ⟨?_, hbd.1, fun j hj => by have := hbd.2 j hj; omega⟩
    refine dvI_two (i := a) (j := i) List.mem_cons_self (List.mem_cons_of_mem _ h1) ?_
    rcases diff_least va.1 vi.1 hab with ⟨_, hL⟩ | ⟨h, _⟩
    ·exact hL.2.1
    ·rw [h] at h2; cases h2
theorem DInv.step {X : List Mach} {N n : Nat} {out : List Nd} {k : Int} (hX : ∀ m ∈ X, Valid m ∧ m.ins = k) (hXN : X.length = N) (h : DInv X N n out) (hn : n < out.length) : DInv X N (n + 1) (dgStep X out n) := by
 have hd := List.getElem?_eq_getElem hn
 have hm := List.getElem_mem hn
 have hdrop : out.drop n = out[n] :: out.drop (n + 1) := List.drop_eq_getElem_cons hn
 have hw := h.wg
 rw [hdrop, show wgt (out[n] :: out.drop (n + 1)) = 2 * (out[n].sus.length - 1) + wgt (out.drop (n + 1)) by simp only [wgt, List.map_cons, List.sum_cons]] at hw
 have hne := h.ne _ hm
 have hrg := h.rng _ hm
 unfold dgStep
 rw [hd]
 simp only
 generalize out[n] = d at hd hm hw hne hrg
 split
 ·exact ⟨hn, by omega, h.ne, h.rng⟩
 ·rename_i hwd
  obtain ⟨t1, t2, t3⟩ := wordX_two hX (fun i hi => by have := hrg i hi; omega) hwd
  obtain ⟨w, hwe⟩ : ∃ w, w = wordX X d.sus := ⟨_, rfl⟩
  rw [← hwe] at t1 t2 t3 ⊢
  have hps := dvL_sum (eqB := eqI) (K := respK X w) d.sus []
  have hpn := dvL_ne2 (eqB := eqI) (K := respK X w) d.sus
  have hpb := dvL_sub (eqB := eqI) (K := respK X w) d.sus
  rw [show dvL eqI (respK X w) d.sus [] = partsX X d.sus w from rfl] at hps hpn hpb
  rw [show sumP ([] : List (List Int × List Int)) = 0 from rfl, Nat.zero_add] at hps
  generalize partsX X d.sus w = ps at t1 hps hpn hpb
  have hk := wgt_kids hpn
  have hl := List.length_pos_iff.2 hne
  have hml : ∀ e ∈ out.set n ⟨d.sus, w, brsF ps out.length⟩ ++ kidL ps, e ∈ out ∨ e.sus = d.sus ∨ ∃ p ∈ ps, e.sus = p.2 := fun e he => by
   rcases List.mem_append.1 he with he | he
   ·rcases List.mem_or_eq_of_mem_set he with he | rfl
    ·exact .inl he
    ·exact .inr (.inl rfl)
   ·obtain ⟨p, hp, rfl⟩ := List.mem_map.1 he
    exact .inr (.inr ⟨p, hp, rfl⟩)
  refine ⟨by simp only [List.length_append, List.length_set]; omega, ?_, fun e he => ?_, fun e he => ?_⟩
  ·rw [List.drop_append_of_le_length (by rw [List.length_set]; omega), wgt_app, List.length_append, List.length_set, List.drop_set_of_lt (by omega)]
   have : (kidL ps).length = ps.length := by simp [kidL]
   rw [hps] at hk
   omega
  ·rcases hml e he with h1 | h1 | ⟨p, h1, h2⟩
   ·exact h.ne e h1
   ·rw [h1]; exact hne
   ·rw [h2]; exact hpn p h1
  ·rcases hml e he with h1 | h1 | ⟨p, h1, h2⟩
   ·exact h.rng e h1
   ·rw [h1]; exact hrg
   ·rw [h2]; exact fun i hi => hrg i (hpb p h1 i hi)
theorem clipN_is (nl : Bool) (es : List (List AV)) (c : Cp) (h : (es.all fun y => decide (y.length = 3)) = true) : PureIs prog 60 [.sl nl es c] (.sl nl es .full) := by
 refine PureIs.of1 1 [2] func60 ntmps60 results60 fun _ => ?_
 refine EvC.a ?_
 refine EvC.a ?_ (hok := by simpa using h)
 refine EvC.rz ?_
 simp only [go_sem]
theorem ndC_norefs (d : Nd) : AV.norefs (ndC d) = true := rfl
theorem nds_norefs (l : List Nd) : (l.map ndC).all AV.norefs = true := by
 rw [List.all_eq_true]
 intro c hc
 obtain ⟨d, _, rfl⟩ := List.mem_map.1 hc
 exact ndC_norefs d
def diagA (m : Mach) (fs : List FA) : AV :=
 if mutErr m fs ≠ 0 then .tu [.sl true [] .unk, .sc (.int .i64 (mutErr m fs))]
 else if fs.length = 0 then .tu [.sl true [] .unk, .sc (.int .i64 1)]
 else .tu [.sl false ((diagL (fs.map (mutF m)) fs.length).map ndC) .full, .sc (.int .i64 0)]
theorem DInv.len {X : List Mach} {N n : Nat} {out : List Nd} (h : DInv X N n out) : out.length ≤ 2 * N - 1 := by have := h.wg; omega
theorem dgF_end (X : List Mach) : ∀ (f : Nat) (out : List Nd), dgF X f out out.length = out
 | 0, _ => rfl
 | f + 1, out => by rw [dgF, if_neg (by omega)]
theorem dgF_step {X : List Mach} {f n : Nat} {out : List Nd} (hf : 0 < f) (hn : n < out.length) : dgF X f out n = dgF X (f - 1) (dgStep X out n) (n + 1) := by
 obtain ⟨g, rfl⟩ : ∃ g, f = g + 1 := ⟨f - 1, by omega⟩
 rw [dgF, if_pos hn, Nat.add_sub_cancel]
def kidsTo (out : List Nd) (ps : List (List Int × List Int)) (k : Nat) : List (List AV) := (out ++ kidL (ps.take k)).map ndC
theorem kidsTo_succ {out : List Nd} {ps : List (List Int × List Int)} {k : Nat} {p : List Int × List Int} (h : ps[k]? = some p) : kidsTo out ps k ++ [[.sl false (p.2.map intC) .full, .sl true [] .zer, .sl true [] .zer]] = kidsTo out ps (k + 1) := by
 obtain ⟨hi, he⟩ := List.getElem?_eq_some_iff.1 h
 unfold kidsTo kidL
 rw [List.take_succ_eq_append_getElem hi, he]
 simp only [List.map_append, List.append_assoc]; rfl
theorem kidsTo_len {out : List Nd} {ps : List (List Int × List Int)} {k : Nat} (h : k ≤ ps.length) : (kidsTo out ps k).length = out.length + k := by simp [kidsTo, kidL]; omega
theorem kidsTo_norefs (out : List Nd) (ps : List (List Int × List Int)) (k : Nat) : (kidsTo out ps k).all AV.norefs = true := nds_norefs _
def brV (ps : List (List Int × List Int)) (L : Nat) (i : Nat) : List AV := brC ((ps.getD i ([], [])).1, ((L + i : Nat) : Int))
theorem brV_all (ps : List (List Int × List Int)) (L : Nat) (d : List AV) : fillC (brV ps L) d ps.length ps.length = (brsF ps L).map brC := by
 rw [fillC_all]
 apply List.ext_getElem
 ·simp [brsF_len]
 ·intro i h1 h2
  have hi : i < ps.length := by simpa using h1
  have h3 := brsF_get (t := L) (List.getElem?_eq_getElem hi)
  have h4 : i < (brsF ps L).length := by rw [brsF_len]; exact hi
  rw [List.getElem?_eq_getElem h4] at h3
  simp only [List.getElem_map, List.getElem_range, Option.some.inj h3, brV, List.getD_eq_getElem?_getD, List.getElem?_eq_getElem hi, Option.getD_some]
set_option maxHeartbeats 4000000 in
theorem diagnose_is (m : Mach) (hm : ∀ r ∈ m.rows, r.2.length < 1000000) (hnn : NoNil m) (fn : Bool) (fs : List FA) (fc : Cp) (hfl : fs.length < 1000000) :
  PureIs prog 22 [.ag m.cells, .sl fn (fs.map FA.cells) fc] (diagA m fs) := by
 refine PureIs.of1 3 [4, 5, 6, 7, 8, 9, 10, 11, 12, 13, 14, 22, 26, 31, 35, 47, 58, 59, 60, 61, 62] func22 ntmps22 results22 fun _ => ?_
 refine EvC.a ?_ (by simp only [go_sem, Mach.cells] <;> rfl)
 refine EvC.z 0 ?_
 have q := mutants_is m hm hnn fn fs fc hfl
 unfold mutsA at q
 unfold diagA
 by_cases h0 : mutErr m fs = 0
 rotate_left
 ·rw [if_neg h0] at q
  rw [if_pos h0]
  apply EvC.s1
  ·apply Tr.run
   ·simp only [go_sem, Mach.cells] <;> rfl
   ·simp
   apply Tr.cons
   ·exact .ca (q)
   apply Tr.done
   ·simp only [go_sem] <;> rfl
   ·simp
  refine EvC.seq ?_
  refine EvC.a ?_
  refine EvC.ct ?_ (by simp only [go_sem, decide_eq_false h0] <;> rfl)
  refine EvC.a ?_
  refine EvC.rz ?_
  simp only [go_sem]
 rw [if_pos h0] at q
 rw [if_neg (show ¬ mutErr m fs ≠ 0 from fun h => h h0)]
 have hXv := mutsA_valid h0
 have hXl : (fs.map (mutF m)).length = fs.length := List.length_map _
 have hXi : ∀ x ∈ fs.map (mutF m), x.ins = m.ins := fun x hx => by obtain ⟨f, _, rfl⟩ := List.mem_map.1 hx; rfl
 generalize fs.map (mutF m) = X at q hXv hXl hXi ⊢
 have hXn := norefs_machs X
 have hfl2 := (mutErr_ok h0).2.1
 apply EvC.s1
 ·apply Tr.run
  ·simp only [go_sem, Mach.cells] <;> rfl
  ·simp
  apply Tr.cons
  ·exact .ca (q)
  apply Tr.done
  ·simp only [go_sem, hXn] <;> rfl
  ·simp
 refine EvC.seq ?_
 refine EvC.a ?_
 refine EvC.cs ?_
 refine EvC.seq ?_
 refine EvC.a ?_ (by simp only [go_sem, List.length_map] <;> rfl)
 by_cases c3 : (fs.length : Int) = 0
 ·rw [if_pos (show fs.length = 0 by omega)]
  refine EvC.ct ?_ (by simp only [go_sem, decide_eq_true c3] <;> rfl)
  refine EvC.a ?_
  refine EvC.rz ?_
  simp only [go_sem]
 rw [if_neg (show ¬ fs.length = 0 by omega)]
 refine EvC.cs ?_ (by simp only [go_sem, decide_eq_false c3] <;> rfl)
 obtain ⟨N, hN⟩ : ∃ N, N = fs.length := ⟨_, rfl⟩
 rw [← hN] at hfl2 hXl c3 ⊢
 have hX : ∀ x ∈ X, Valid x ∧ x.ins = m.ins := fun x hx => ⟨hXv x hx, hXi x hx⟩
 have q1 := everybody_is N (by omega)
 apply EvC.s1
 ·apply Tr.run
  ·simp only [go_sem, List.length_map, ← hN] <;> rfl
  ·simp
  apply Tr.cons
  ·exact .ca (q1)
  apply Tr.done
  ·simp only [go_sem] <;> rfl
  ·simp
 refine EvC.seq ?_
 refine EvC.a ?_
 refine EvC.block ?_
 refine EvC.loopS (σ := Nat × List Nd) (fun g => ⟨[(6, .sl fs.isEmpty (X.map Mach.cells) .unk), (8, .tl 0 g.2.length false), (9, .sc (.int .i64 g.1))], [], [(0, .arr 3 (g.2.map ndC) false)], 1⟩) (fun g => 2 * N - g.1) (fun g => DInv X N g.1 g.2 ∧ dgF X (2 * N - g.1) g.2 g.1 = diagL X N) [6, 8, 9] 1 ?_ ?_
 ·exact ⟨[(20, 0)], (0, [⟨idL N, [], []⟩]), rfl, (by simp only [go_sem, Int.natCast_zero, List.map_cons, List.map_nil, ndC, wAV, bAV, List.isEmpty_nil, List.length_cons, List.length_nil] <;> rfl), .start X (by omega), rfl⟩
 rintro ⟨n, out⟩ ⟨hD, hF⟩
 simp only at hD hF ⊢
 have hlen := hD.len
 have hnl := hD.le
 refine EvC.seq ?_
 refine EvC.a ?_ (by simp only [go_sem, List.length_map] <;> rfl)
 refine EvC.cond (by simp only [go_sem] <;> rfl) (fun hc => ?_) (fun hc => ?_)
 rotate_left
 ·refine EvC.exit ?_
  obtain rfl : n = out.length := by have : ¬ n < out.length := (by simpa using hc); omega
  rw [dgF_end] at hF
  rw [← hF]
  have hn1 := nds_norefs out
  have hl1 : (out.map ndC).length = out.length := List.length_map _
  have h3 : ((out.map ndC).all fun y => decide (y.length = 3)) = true := by simp [List.all_eq_true, ndC]
  generalize out.map ndC = O at hn1 hl1 h3 ⊢
  refine EvC.frz 0 (by simp only [go_sem, hn1, hl1] <;> rfl) ?_
  apply EvC.s1
  ·apply Tr.run
   ·simp only [go_sem, hl1] <;> rfl
   ·simp
   apply Tr.cons
   ·exact .ca (clipN_is false O .unk h3)
   apply Tr.done
   ·simp only [go_sem] <;> rfl
   ·simp
  refine EvC.rz ?_
  simp only [go_sem]
 have hlt : n < out.length := by simpa using hc
 clear hc
 have hstep := hD.step hX hXl hlt
 rw [dgF_step (by omega) hlt, show 2 * N - n - 1 = 2 * N - (n + 1) by omega] at hF
 have hge : out[n]? = some out[n] := List.getElem?_eq_getElem hlt
 have hmem := List.getElem_mem hlt
 have hne := hD.ne _ hmem
 have hrg := hD.rng _ hmem
 have hrl := hD.wg
 rw [List.drop_eq_getElem_cons hlt, show wgt (out[n] :: out.drop (n + 1)) = 2 * (out[n].sus.length - 1) + wgt (out.drop (n + 1)) by simp only [wgt, List.map_cons, List.sum_cons]] at hrl
 unfold dgStep at hstep hF
 rw [hge] at hstep hF
 simp only at hstep hF
 generalize out[n] = d at hge hne hrg hstep hF hrl
 obtain ⟨sus, wd, bd⟩ := d
 simp only at hne hrg hstep hF hrl
 obtain ⟨a, r, rfl⟩ : ∃ a r, sus = a :: r := by
  cases sus with
  | nil => exact absurd rfl hne
  | cons a r => exact ⟨a, r, rfl⟩
 have hrg2 : ∀ i ∈ a :: r, 0 ≤ i ∧ i < X.length := fun i hi => by have := hrg i hi; omega
 have hsl : (a :: r).length ≤ 1000 := by omega
 have q2 := word59_is fs.isEmpty X .unk a r m.ins hX hrg2 (by simp only [List.length_cons] at hsl; omega)
 have hw2 := wordX_two hX hrg2
 have hOl : (out.map ndC).length = out.length := List.length_map _
 have hOg : (out.map ndC)[n]? = some [.sl false ((a :: r).map intC) .full, wAV wd, bAV bd] := by rw [List.getElem?_map, hge]; rfl
 obtain ⟨S, hS⟩ : ∃ S, S = a :: r := ⟨_, rfl⟩
 rw [← hS] at hrg2 hsl q2 hw2 hOg hstep hF
 have hnt : ((n : Int)).toNat = n := Int.toNat_natCast n
 obtain ⟨w, hw⟩ : ∃ w, w = wordX X S := ⟨_, rfl⟩
 rw [← hw] at q2 hw2 hstep hF
 refine EvC.skip ?_
 refine EvC.seq ?_
 refine EvC.block ?_
 apply EvC.s1
 ·apply Tr.run
  ·simp only [go_sem, hOg, hOl, hnt] <;> rfl
  ·simp; try omega
  apply Tr.cons
  ·exact .call rfl rfl (by simp only [go_sem] <;> rfl) (by simp only [go_sem] <;> rfl) (by simp only [go_sem] <;> rfl) (by simp only [go_sem, hXn] <;> rfl) (by simp only [go_sem] <;> rfl) (q2)
  apply Tr.done
  ·simp only [go_sem] <;> rfl
  ·simp
 refine EvC.seq ?_
 refine EvC.a ?_ (by simp only [go_sem, List.length_map] <;> rfl)
 by_cases hwe : w = []
 ·rw [if_pos hwe] at hstep hF
  subst hwe
  refine EvC.ct ?_
  refine EvC.exit ?_
  refine EvC.b ?_ (hok := by exact inI64_of (by omega) (by omega))
  have hn1 := nds_norefs out
  exact ⟨[(0, 0)], (n + 1, out), rfl, (by simp only [go_sem, hn1, Int.natCast_add, Int.natCast_one] <;> rfl), ⟨hstep, hF⟩, by simp only; omega⟩
 rw [if_neg hwe] at hstep hF
 obtain ⟨hp2, hwl, hwi⟩ := hw2 hwe
 have hwp := List.length_pos_iff.2 hwe
 have hwb : w.isEmpty = false := by cases w with
  | nil => exact absurd rfl hwe
  | cons x w => rfl
 rw [hwb] at q2
 refine EvC.cs ?_ (by simp only [go_sem, decide_eq_false (show ¬ (w.length : Int) = 0 by omega)] <;> rfl)
 have q3 := responses_is fs.isEmpty X .unk false S .full false w .unk hrg2 hXv (fun x hx => by
  have := hXi x hx
  have := (hXv x hx).ins
  exact wordErr_of (by omega) (by omega) fun a ha => by have := hwi a ha; omega) (by omega) (by omega)
 have hps0 := dvL_sum (eqB := eqI) (K := respK X w) S []
 have hpl := dvL_len (eqB := eqI) (K := respK X w) S []
 rw [show dvL eqI (respK X w) S [] = partsX X S w from rfl] at q3 hpl
 simp only [List.length_nil, Nat.zero_add] at hpl
 generalize partsX X S w = ps at q3 hstep hF hp2 hpl
 have hpn := partC_norefs (kc := keyI) keyI_norefs ps
 have hSe : S.isEmpty = false := by rw [hS]; rfl
 have hps : ps.isEmpty = false := by cases ps with
  | nil => simp at hp2
  | cons x w => rfl
 rw [hSe] at q3
 rw [hwb]
 apply EvC.s1
 ·apply Tr.run
  ·simp only [go_sem, hOg, hOl, hnt] <;> rfl
  ·simp; try omega
  apply Tr.cons
  ·exact .call rfl rfl (by simp only [go_sem] <;> rfl) (by simp only [go_sem] <;> rfl) (by simp only [go_sem] <;> rfl) (by simp only [go_sem, hXn] <;> rfl) (by simp only [go_sem] <;> rfl) (q3)
  apply Tr.done
  ·simp only [go_sem] <;> rfl
  ·simp
 have hr : room ps.length 32 = true := by simp only [room_eq, decide_eq_true_eq]; omega
 refine EvC.a ?_ (by simp only [go_sem, List.length_map] <;> rfl) (by simp [hr]; try omega)
 obtain ⟨L, hL⟩ : ∃ L, L = out.length := ⟨_, rfl⟩
 have hz := fillC_zero (brV ps L) [.sl true [] .zer, .sc (.int .i64 0)] ps.length
 have hFn : ∀ k, (fillC (brV ps L) [.sl true [] .zer, .sc (.int .i64 0)] ps.length k).all AV.norefs = true := fillC_norefs (fun i => by simp [brV, brC, AV.norefs, AV.noref, intC]) rfl ps.length
 have hrl : (List.replicate ps.length [AV.sl true [] .zer, .sc (.int .i64 0)]).length = ps.length := List.length_replicate
 have hnr : (List.replicate ps.length [AV.sl true [] .zer, .sc (.int .i64 0)]).all AV.norefs = true := by rw [← hz]; exact hFn 0
 refine EvC.seq ?_
 refine EvC.a ?_ (by simp only [go_sem, List.length_map, hrl] <;> rfl)
 refine EvC.block ?_
 have hk0 : out.map ndC = kidsTo out ps 0 := by simp [kidsTo, kidL]
 rw [← hL] at hOl ⊢
 refine EvC.loopS (σ := Nat × Nat) (fun g => ⟨[(6, .sl fs.isEmpty (X.map Mach.cells) .unk), (8, .tl 0 g.2 false), (9, .sc (.int .i64 n)), (10, .sl false (w.map intC) .unk), (12, .tv 1 ps.length 0 ps.length (.val ps.length)), (59, .sl false (ps.map (partC keyI)) .unk), (60, .sc (.int .i64 ps.length)), (61, .sc (.int .i64 g.1))], [], [(0, .arr 3 (kidsTo out ps g.1) false), (1, .arr 2 (fillC (brV ps L) [.sl true [] .zer, .sc (.int .i64 0)] ps.length g.1) false)], 2⟩) (fun g => ps.length - g.1) (fun g => g.1 ≤ ps.length ∧ g.2 = L + g.1) [6, 8, 9, 10, 12, 59, 60, 61] 2 ?_ ?_
 ·refine ⟨[(0, 0), (27, 1)], (0, L), rfl, (by rw [hz, hk0]; simp only [go_sem, Int.natCast_zero, hnr, kidsTo_norefs out ps 0] <;> rfl), Nat.zero_le _, rfl⟩
 rintro ⟨k, M⟩ ⟨i1, i2⟩
 simp only at i1 i2 ⊢
 have hKl := kidsTo_len (out := out) i1
 rw [← hL, ← i2] at hKl
 refine EvC.a ?_
 refine EvC.seq ?_
 refine EvC.cond (by simp only [go_sem] <;> rfl) (fun hc => ?_) (fun hc => ?_)
 rotate_left
 ·refine EvC.exit ?_
  obtain rfl : k = ps.length := by have : ¬ k < ps.length := (by simpa using hc); omega
  clear hc
  have hB := brV_all ps L [.sl true [] .zer, .sc (.int .i64 0)]
  have hBn := hFn ps.length
  have hBl := fillC_len (brV ps L) [.sl true [] .zer, .sc (.int .i64 0)] ps.length ps.length
  rw [hB] at hBn hBl ⊢
  have hbe : (brsF ps L).isEmpty = false := by
   have := brsF_len ps L
   cases h : brsF ps L with
   | nil => rw [h] at this; simp at this; omega
   | cons x y => rfl
  have hOn := nds_norefs (out.set n ⟨S, w, brsF ps L⟩ ++ kidL ps)
  have hKe : kidsTo out ps ps.length = (out ++ kidL ps).map ndC := by rw [kidsTo, List.take_length]
  rw [hKe] at hKl ⊢
  have g0 : ((out ++ kidL ps).map ndC)[n]? = some [.sl false (S.map intC) .full, wAV wd, bAV bd] := by
   rw [List.map_append, List.getElem?_append_left (by rw [List.length_map]; exact hlt)]; exact hOg
  have hnM : n < M := by omega
  have s2 : ∀ c : List AV, c = ndC ⟨S, w, brsF ps L⟩ → ((out ++ kidL ps).map ndC).set n c = (out.set n ⟨S, w, brsF ps L⟩ ++ kidL ps).map ndC := fun c hc => by
   rw [hc, ← List.map_set, List.set_append_left _ _ hlt]
  have hM : M = (out.set n ⟨S, w, brsF ps L⟩ ++ kidL ps).length := by simp [kidL]; omega
  rw [← hL] at hstep hF
  obtain ⟨O0, hO0⟩ : ∃ O, O = (out ++ kidL ps).map ndC := ⟨_, rfl⟩
  rw [← hO0] at hKl g0 s2 ⊢
  have s1 : ∀ c1 c2 : List AV, (O0.set n c1).set n c2 = O0.set n c2 := fun c1 c2 => by rw [List.set_set]
  have g1 : ∀ c1 : List AV, (O0.set n c1)[n]? = some c1 := fun c1 => by rw [List.getElem?_set_self (by omega)]
  have hKl2 : ∀ c1 : List AV, (O0.set n c1).length = M := fun c1 => by rw [List.length_set]; exact hKl
  refine EvC.frz 1 (by simp only [go_sem, hBn, hBl] <;> rfl) ?_
  have q5 := clipI_is false (w.map intC) .unk (by simp [List.all_eq_true, intC])
  have s3 := s2 [.sl false (S.map intC) .full, .sl false (w.map intC) .full, .sl false ((brsF ps L).map brC) .full] (by simp [ndC, wAV, bAV, hwb, hbe])
  have hOn2 := hOn
  obtain ⟨O2, hO2⟩ : ∃ O, O = (out.set n ⟨S, w, brsF ps L⟩ ++ kidL ps).map ndC := ⟨_, rfl⟩
  rw [← hO2] at hOn2 s3
  apply EvC.tr
  ·apply Tr.run
   ·simp only [go_sem, hKl, g0, hnt] <;> rfl
   ·simp; try omega
   apply Tr.cons
   ·exact .ca (q5)
   apply Tr.done
   ·simp only [go_sem, hKl, g0, hnt, hKl2, g1, s1, s3] <;> rfl
   ·simp; try omega
  refine EvC.b ?_ (hok := by exact inI64_of (by omega) (by omega))
  exact ⟨[(0, 0)], (n + 1, out.set n ⟨S, w, brsF ps L⟩ ++ kidL ps), rfl, (by rw [← hM, ← hO2]; simp only [go_sem, hOn2, Int.natCast_add, Int.natCast_one] <;> rfl), ⟨hstep, hF⟩, by simp only; omega⟩
 have hkl : k < ps.length := by simpa using hc
 clear hc
 have hpe : ps[k]? = some ps[k] := List.getElem?_eq_getElem hkl
 have hFk : brV ps L k = brC (ps[k].1, ((L + k : Nat) : Int)) := by rw [brV, List.getD_eq_getElem?_getD, hpe]; rfl
 have hKs := kidsTo_succ (out := out) hpe
 generalize ps[k] = p at hpe hFk hKs
 obtain ⟨px, pw⟩ := p
 have hp2 : (ps.map (partC keyI))[k]? = some (partC keyI (px, pw)) := by rw [List.getElem?_map, hpe]; rfl
 simp only [partC, keyI, List.cons_append, List.nil_append] at hp2
 simp only at hFk hKs
 have hBg := fillC_get (brV ps L) [.sl true [] .zer, .sc (.int .i64 0)] hkl
 have hBs := fillC_set (brV ps L) [.sl true [] .zer, .sc (.int .i64 0)] hkl
 have hBl := fillC_len (brV ps L) [.sl true [] .zer, .sc (.int .i64 0)] ps.length k
 have hBl2 := fillC_len (brV ps L) [.sl true [] .zer, .sc (.int .i64 0)] ps.length (k + 1)
 have hBn := hFn (k + 1)
 have hKl2 := kidsTo_len (out := out) (ps := ps) (k := k + 1) hkl
 have hKn2 := kidsTo_norefs out ps (k + 1)
 rw [hFk, ← i2] at hBs
 simp only [brC] at hBs
 rw [← hL] at hKl2
 generalize kidsTo out ps k = O0 at hKl hKs ⊢
 obtain ⟨O1, hO1⟩ : ∃ O, O = kidsTo out ps (k + 1) := ⟨_, rfl⟩
 rw [← hO1] at hKs hKl2 hKn2
 generalize fillC (brV ps L) [.sl true [] .zer, .sc (.int .i64 0)] ps.length k = B0 at hBg hBs hBl ⊢
 obtain ⟨B1, hB1⟩ : ∃ B, B = fillC (brV ps L) [.sl true [] .zer, .sc (.int .i64 0)] ps.length (k + 1) := ⟨_, rfl⟩
 rw [← hB1] at hBs hBl2 hBn
 obtain ⟨kZ, hkZ⟩ : ∃ z : Int, z = (k : Int) := ⟨_, rfl⟩
 have hkt : kZ.toNat = k := by omega
 have hr1 : room (M + 1) 72 = true := by simp only [room_eq, decide_eq_true_eq]; omega
 rw [← hkZ]
 refine EvC.skip ?_
 refine EvC.seq ?_
 refine EvC.block ?_
 refine EvC.a ?_ (by simp only [go_sem, hp2, hkt, List.length_map] <;> rfl) (by simp; try omega)
 have q6 := clipI_is false (px.map intC) .unk (by simp [List.all_eq_true, intC])
 have q7 := clipI_is false (pw.map intC) .unk (by simp [List.all_eq_true, intC])
 apply EvC.s1
 ·apply Tr.run
  ·simp only [go_sem, hkt, hBg, hBl, hKl] <;> rfl
  ·simp
  apply Tr.cons
  ·exact .ca (q6)
  apply Tr.done
  ·simp only [go_sem, hkt, hBg, hBl, hKl, hBs] <;> rfl
  ·simp; try omega
 apply EvC.tr
 ·apply Tr.run
  ·simp only [go_sem, hKl] <;> rfl
  ·simp
  apply Tr.cons
  ·exact .ca (q7)
  apply Tr.done
  ·simp only [go_sem, hKl, hKs] <;> rfl
  ·simp [hr1]
 refine EvC.b ?_ (hok := by exact inI64_of (by omega) (by omega))
 exact ⟨[(0, 0), (1, 1)], (k + 1, M + 1), rfl, (by rw [hkZ, ← hO1, ← hB1]; simp only [go_sem, hBn, hKn2, hKl2, i2, Nat.add_assoc, Int.natCast_add, Int.natCast_one] <;> rfl), ⟨hkl, by simp only; omega⟩, by simp only; omega⟩
def rwA (r : RW) : AV := .sl r.1 (r.2.1.map intC) r.2.2
abbrev BG := RW × Int
def bgC (b : BG) : List AV := [rwA b.1, .sc (.int .i64 b.2)]
structure NG where
 s : RW
 w : RW
 bn : Bool
 bs : List BG
 bc : Cp
def ngC (d : NG) : List AV := [rwA d.s, rwA d.w, .sl d.bn (d.bs.map bgC) d.bc]
def bgB (b : BG) : List Int × Int := (b.1.2.1, b.2)
def NG.nd (d : NG) : Nd := ⟨d.s.2.1, d.w.2.1, d.bs.map bgB⟩
@[go_sem] theorem norefs_ngs (l : List NG) : (l.map ngC).all AV.norefs = true := by simp [List.all_eq_true, ngC, rwA, AV.norefs, AV.noref]
structure NGok (d : NG) : Prop where
 s : d.s.2.1.length < 1000000
 w : d.w.2.1.length < 1000000
 b : d.bs.length < 1000000
 r : ∀ b ∈ d.bs, b.1.2.1.length < 1000000
def ndG (d : Nd) : NG := ⟨(false, d.sus, .full), (d.word.isEmpty, d.word, if d.word.isEmpty then .zer else .full), d.br.isEmpty, d.br.map fun b => ((false, b.1, .full), b.2), if d.br.isEmpty then .zer else .full⟩
theorem ndG_cells (d : Nd) : ngC (ndG d) = ndC d := by
 simp only [ngC, ndG, ndC, rwA, wAV, bAV, List.map_map]; rfl
def findIdxB (p : BG → Bool) : List BG → Int → Int
 | [], _ => -1
 | e :: es, i => if p e = true then i else findIdxB p es (i + 1)
theorem findIdxB_any (p : BG → Bool) : ∀ (es : List BG) (i : Int), 0 ≤ i → decide (0 ≤ findIdxB p es i) = es.any p
 | [], i, _ => by simp [findIdxB]
 | e :: es, i, h => by
   unfold findIdxB
   split
   ·rename_i hp; simp [hp, h]
   ·rename_i hp
    rw [findIdxB_any p es (i + 1) (by omega)]
    simp [hp]
theorem indexB_is (nl : Bool) (xs : List BG) (c : Cp) (f : FuncId) (cs : List AV) (hcs : AV.norefs cs = true) (p : BG → Bool) (hp : ∀ e ∈ xs, PureIs prog f (.ag (bgC e) :: cs) (.sc (.bool (p e)))) (hl : xs.length < 1000000) :
  PureIs prog 64 [.sl nl (xs.map bgC) c, .fn f cs] (.sc (.int .i64 (findIdxB p xs 0))) := by
 refine PureIs.of1 2 [4, 5, 7, 8, 9, 16] func64 ntmps64 results64 fun _ => ?_
 refine EvC.a ?_
 refine EvC.seq ?_
 refine EvC.a ?_ (by simp only [go_sem, List.length_map] <;> rfl)
 refine EvC.block ?_
 refine EvC.loopS (σ := Nat) (fun i => ⟨[(0, .sl nl (xs.map bgC) c), (1, .fn f cs), (7, .sc (.int .i64 xs.length)), (8, .sc (.int .i64 i))], [], [], 0⟩) (fun i => xs.length - i) (fun i => i ≤ xs.length ∧ findIdxB p xs 0 = findIdxB p (xs.drop i) i) [0, 1, 7, 8] 0 ?_ ?_
 ·refine ⟨[], 0, rfl, (by simp only [go_sem, hcs, Int.natCast_zero] <;> rfl), Nat.zero_le _, by simp⟩
 rintro i ⟨h1, h2⟩
 refine EvC.a ?_
 refine EvC.seq ?_
 refine EvC.cond (by simp only [go_sem] <;> rfl) (fun hc => ?_) (fun hc => ?_)
 rotate_left
 ·refine EvC.exit ?_
  have hi : ¬ i < xs.length := by simpa using hc
  refine EvC.a ?_
  refine EvC.rz ?_
  simp only [go_sem]
  rw [h2, List.drop_of_length_le (by omega)]; rfl
 have hi : i < xs.length := by simpa using hc
 have he : xs[i]? = some xs[i] := List.getElem?_eq_getElem hi
 have hd : xs.drop i = xs[i] :: xs.drop (i + 1) := List.drop_eq_getElem_cons hi
 have hm : xs[i] ∈ xs := List.getElem_mem hi
 generalize xs[i] = e at he hd hm
 refine EvC.skip ?_
 refine EvC.seq ?_
 refine EvC.block ?_
 refine EvC.a ?_
 have hq := hp e hm
 obtain ⟨⟨e1, e2, e3⟩, e4⟩ := e
 apply EvC.s1
 ·apply Tr.run
  ·simp only [go_sem, he, bgC, rwA, List.length_map] <;> rfl
  ·simp; try omega
  apply Tr.cons
  ·exact .call rfl rfl (by simp only [go_sem] <;> rfl) (by simp only [go_sem] <;> rfl) (by simp only [go_sem] <;> rfl) (by simp only [go_sem, hcs] <;> rfl) (by simp only [go_sem] <;> rfl) (hq)
  apply Tr.done
  ·simp only [go_sem] <;> rfl
  ·simp
 refine EvC.cond (by simp only [go_sem] <;> rfl) (fun hc => ?_) (fun hc => ?_)
 ·refine EvC.a ?_
  refine EvC.rz ?_
  simp only [go_sem]
  rw [h2, hd, findIdxB, if_pos hc]
 refine EvC.skip ?_
 refine EvC.b ?_ (hok := by exact inI64_of (by omega) (by omega))
 refine ⟨[], i + 1, rfl, (by simp only [go_sem, hcs, Int.natCast_add, Int.natCast_one] <;> rfl), ⟨by omega, ?_⟩, by omega⟩
 rw [h2, hd, findIdxB, if_neg (by simp [hc])]; rfl
theorem containsB_is (nl : Bool) (xs : List BG) (c : Cp) (f : FuncId) (cs : List AV) (hcs : AV.norefs cs = true) (p : BG → Bool) (hp : ∀ e ∈ xs, PureIs prog f (.ag (bgC e) :: cs) (.sc (.bool (p e)))) (hl : xs.length < 1000000) :
  PureIs prog 90 [.sl nl (xs.map bgC) c, .fn f cs] (.sc (.bool (xs.any p))) := by
 refine PureIs.of1 2 [4] func90 ntmps90 results90 fun _ => ?_
 refine EvC.a ?_
 apply EvC.s1
 ·apply Tr.run
  ·simp only [go_sem] <;> rfl
  ·simp
  apply Tr.cons
  ·exact .call rfl rfl (by simp only [go_sem] <;> rfl) (by simp only [go_sem] <;> rfl) (by simp only [go_sem] <;> rfl) (by simp only [go_sem, hcs] <;> rfl) (by simp only [go_sem] <;> rfl) (indexB_is _ _ _ _ _ hcs _ hp hl)
  apply Tr.done
  ·simp only [go_sem] <;> rfl
  ·simp
 refine EvC.rz ?_
 simp only [go_sem]
 rw [findIdxB_any _ _ _ (Int.le_refl 0)]
theorem valid1_is (e : BG) (b : BG) (hl : e.1.2.1.length < 1000000) : PureIs prog 91 [.ag (bgC e), .ia (bgC b)] (.sc (.bool (decide (e.1.2.1 = b.1.2.1)))) := by
 obtain ⟨⟨e1, e2, e3⟩, e4⟩ := e
 obtain ⟨⟨b1, b2, b3⟩, b4⟩ := b
 refine PureIs.of1 4 [] func91 ntmps91 results91 fun _ => ?_
 refine EvC.a ?_ (by simp only [go_sem, bgC, rwA] <;> rfl)
 refine EvC.z 0 ?_
 apply EvC.s1
 ·apply Tr.run
  ·simp only [go_sem, bgC, rwA] <;> rfl
  ·simp
  apply Tr.cons
  ·exact .ca (equal53_is e1 b1 e2 b2 e3 b3 hl)
  apply Tr.done
  ·simp only [go_sem] <;> rfl
  ·simp
 refine EvC.rz ?_
 simp only [go_sem]
theorem walk1_is (e : BG) (rn : Bool) (r : List Int) (rc : Cp) (hl : e.1.2.1.length < 1000000) : PureIs prog 65 [.ag (bgC e), .ia [.sl rn (r.map intC) rc]] (.sc (.bool (decide (e.1.2.1 = r)))) := by
 obtain ⟨⟨e1, e2, e3⟩, e4⟩ := e
 refine PureIs.of1 4 [] func65 ntmps65 results65 fun _ => ?_
 refine EvC.a ?_ (by simp only [go_sem, bgC, rwA] <;> rfl)
 refine EvC.z 0 ?_
 apply EvC.s1
 ·apply Tr.run
  ·simp only [go_sem, bgC, rwA] <;> rfl
  ·simp
  apply Tr.cons
  ·exact .ca (equal53_is e1 rn e2 r e3 rc hl)
  apply Tr.done
  ·simp only [go_sem] <;> rfl
  ·simp
 refine EvC.rz ?_
 simp only [go_sem]
def brOk (N n wl : Nat) (bs : List (List Int × Int)) (k : Nat) : Bool :=
 match bs[k]? with
 | none => true
 | some b => decide ((n : Int) < b.2) && (decide (b.2 < N) && (decide (b.1.length = wl) && !(bs.take k).any fun c => decide (c.1 = b.1)))
def ndOk (N n : Nat) (ins : Int) (d : Nd) : Bool := decide (wordErr ins d.word = 0) && (decide (d.word.length = 0) == decide (d.br.length = 0)) && (List.range d.br.length).all (brOk N n d.word.length d.br)
def validT (ins : Int) (t : List Nd) : Bool := (List.range t.length).all (fun n => match t[n]? with | none => true | some d => ndOk t.length n ins d) && decide (0 < t.length)
theorem all_range_false {n i : Nat} {p : Nat → Bool} (hi : i < n) (hp : p i = false) : (List.range n).all p = false := by
 rw [Bool.eq_false_iff]; intro h
 rw [List.all_eq_true] at h
 rw [h i (List.mem_range.2 hi)] at hp; cases hp
theorem all_range_true {n : Nat} {p : Nat → Bool} (h : ∀ i, i < n → p i = true) : (List.range n).all p = true := List.all_eq_true.2 fun i hi => h i (List.mem_range.1 hi)
end Go.Avl
