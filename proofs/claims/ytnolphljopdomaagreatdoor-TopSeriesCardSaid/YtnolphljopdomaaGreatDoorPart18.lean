/-
  Lemmas.
-/
import Derived.Test.YtnolphljopdomaaGreatDoorPart17
set_option linter.unusedSimpArgs false
set_option linter.unusedVariables false
set_option linter.unnecessarySimpa false
set_option linter.deprecated false
namespace Go.Avl
open Go Go.Proofs.Tryz
set_option maxRecDepth 10000
def dput (L : List Int) (x : Int) : List Int := if x ∈ L then L else L ++ [x]
def dd (p : List Int) : Nat → List Int
 | 0 => []
 | k + 1 => match p[k]? with
   | none => dd p k
   | some x => dput (dd p k) x
def pls (p : List Int) : Nat → List Int
 | 0 => []
 | k + 1 => match p[k]? with
   | none => pls p k
   | some x => if x ∈ dd p k then pls p k else pls p k ++ [(k : Int)]
def ofI (p : List Int) (x : Int) : Int := ((dd p p.length).idxOf x : Nat)
def ofM (p : List Int) (k : Nat) : List Int := (p.take k).map (ofI p) ++ List.replicate (p.length - k) 0
def ofL (p : List Int) : List Int := p.map (ofI p)
theorem dput_pre (L : List Int) (x : Int) : L <+: dput L x := by unfold dput; split; exact List.prefix_refl _; exact List.prefix_append _ _
theorem mem_dput (L : List Int) (x : Int) : x ∈ dput L x := by unfold dput; split; assumption; simp
theorem dd_step (p : List Int) (k : Nat) : dd p k <+: dd p (k + 1) := by simp only [dd]; split; exact List.prefix_refl _; exact dput_pre _ _
theorem dd_mono (p : List Int) {i j : Nat} (h : i ≤ j) : dd p i <+: dd p j := by
 induction h with
 | refl => exact List.prefix_refl _
 | step h ih => exact ih.trans (dd_step _ _)
theorem dd_len (p : List Int) : ∀ k, (dd p k).length ≤ k
 | 0 => Nat.le_refl _
 | k + 1 => by
   have := dd_len p k
   simp only [dd]
   split
   ·omega
   ·unfold dput; split
    ·omega
    ·simp; omega
theorem dd_pos (p : List Int) (h : 1 ≤ p.length) : 1 ≤ (dd p p.length).length := by
 have h1 := (dd_mono p h).length_le
 have h2 : dd p 1 = dput [] (p[0]'(by omega)) := by simp only [dd, List.getElem?_eq_getElem (show 0 < p.length by omega)]
 rw [h2] at h1
 simpa [dput] using h1
theorem pls_len (p : List Int) : ∀ k, (pls p k).length = (dd p k).length
 | 0 => rfl
 | k + 1 => by
   have := pls_len p k
   simp only [pls, dd]
   split
   ·exact this
   ·unfold dput; split
    ·exact this
    ·simp [this]
theorem idxOf_preI {L L' : List Int} (h : L <+: L') {x : Int} (hx : x ∈ L) : L'.idxOf x = L.idxOf x := by
 obtain ⟨t, rfl⟩ := h
 rw [List.idxOf_append, if_pos hx]
theorem ofI_at {p : List Int} {k : Nat} {x : Int} (h : p[k]? = some x) : ofI p x = ((dd p (k + 1)).idxOf x : Nat) := by
 obtain ⟨h1, _⟩ := List.getElem?_eq_some_iff.1 h
 have hm : x ∈ dd p (k + 1) := by simp only [dd, h]; exact mem_dput _ _
 unfold ofI
 rw [idxOf_preI (dd_mono p (show k + 1 ≤ p.length by omega)) hm]
theorem ofM_len (p : List Int) {k : Nat} (h : k ≤ p.length) : (ofM p k).length = p.length := by simp [ofM]; omega
theorem ofM_end (p : List Int) : ofM p p.length = ofL p := by simp [ofM, ofL]
theorem ofM_get (p : List Int) {k : Nat} (h : k < p.length) : (ofM p k)[k]? = some 0 := by
 have hl : ((p.take k).map (ofI p)).length = k := by simp; omega
 rw [ofM, List.getElem?_append_right (by omega), hl, Nat.sub_self, List.getElem?_replicate, if_pos (by omega)]
theorem ofM_set {p : List Int} {k : Nat} {x : Int} (h : p[k]? = some x) : (ofM p k).set k (ofI p x) = ofM p (k + 1) := by
 obtain ⟨h1, h2⟩ := List.getElem?_eq_some_iff.1 h
 have hl : ((p.take k).map (ofI p)).length = k := by simp; omega
 unfold ofM
 rw [List.set_append_right _ _ (by omega), hl, Nat.sub_self, show p.length - k = (p.length - (k + 1)) + 1 by omega, List.replicate_succ, List.set_cons_zero, List.take_succ_eq_append_getElem h1, List.map_append, h2]
 simp
set_option maxHeartbeats 4000000 in
theorem first_is (nl : Bool) (p : List Int) (c : Cp) (h0 : 1 ≤ p.length) (hl : p.length < 1000000) : PureIs prog 125 [.sl nl (p.map intC) c] (.tu [.sl false ((pls p p.length).map intC) .unk, .sl false ((ofL p).map intC) .unk]) := by
 obtain ⟨n, hn⟩ : ∃ n, n = p.length := ⟨_, rfl⟩
 refine PureIs.of1 1 [2, 3, 4, 5, 6, 7, 8, 10, 15, 16, 17, 18, 29] func125 ntmps125 results125 fun _ => ?_
 have hno : ∀ l : List Int, (l.map intC).all AV.norefs = true := fun l => by simp [List.all_eq_true, intC, AV.norefs, AV.noref]
 refine EvC.a ?_
 refine EvC.a ?_
 refine EvC.a ?_
 have hnn : ((n : Nat) : Int).toNat = n := Int.toNat_natCast n
 refine EvC.a ?_ (by simp only [go_sem, List.length_map, ← hn, hnn] <;> rfl) (by simp [room_eq]; omega)
 refine EvC.seq ?_
 refine EvC.a ?_ (by simp only [go_sem, List.length_map, ← hn] <;> rfl)
 have hz : List.replicate n [AV.sc (.int .i64 0)] = (ofM p 0).map intC := by simp [ofM, intC, hn]
 rw [hz]
 refine EvC.block ?_
 refine EvC.loopS (σ := Nat) (fun k => ⟨[(4, .tl 1 (pls p k).length (k == 0)), (5, .mp 0), (6, .tl 2 n false), (15, .sl nl (p.map intC) c), (16, .sc (.int .i64 n)), (17, .sc (.int .i64 k))], [],
  [(0, .map 3 (entsI 0 (dd p k))), (1, .arr 1 ((pls p k).map intC) true), (2, .arr 1 ((ofM p k).map intC) false)], 3⟩) (fun k => n - k) (fun k => k ≤ n) [4, 5, 6, 15, 16, 17] 3 ?_ ?_
 ·have hp0 : pls p 0 = [] := rfl
  have hd0 : dd p 0 = [] := rfl
  refine ⟨[(3, 0), (2, 1), (7, 2)], 0, rfl, (by simp only [go_sem, hp0, hd0, entsI, hno, List.map_nil, List.length_nil, Int.natCast_zero] <;> rfl), Nat.zero_le _⟩
 rintro k hk
 have hml : ((ofM p k).map intC).length = n := by rw [List.length_map, ofM_len p (by omega), hn]
 have hpl : ((pls p k).map intC).length = (pls p k).length := List.length_map _
 have hpd := pls_len p k
 have hdl := dd_len p k
 refine EvC.a ?_
 refine EvC.seq ?_
 refine EvC.cd (fun hc => ?_) (fun hc => ?_)
 rotate_left
 ·
  refine EvC.exit ?_
  obtain rfl : k = n := by have : ¬ k < n := by simpa using hc
                           omega
  have hk0 : (k == 0) = false := beq_eq_false_iff_ne.2 (by omega)
  have hoe : ofM p k = ofL p := by rw [hn]; exact ofM_end p
  refine EvC.frz 2 (by simp only [go_sem, hml, hno] <;> rfl) ?_
  refine EvC.a ?_ (by simp only [go_sem, hk0, hpl] <;> rfl)
  refine EvC.ret ⟨.inl rfl, _, (by simp only [go_sem] <;> rfl), ?_, by simp [AV.noref, AV.norefs, hno]⟩
  rw [← hn, hoe]
  simp only [go_sem]
 have hkl : k < p.length := by have : k < n := by simpa using hc
                               omega
 clear hc
 have he : p[k]? = some p[k] := List.getElem?_eq_getElem hkl
 generalize p[k] = x at he
 have hkn : ((k : Nat) : Int).toNat = k := Int.toNat_natCast k
 have hdk : dd p (k + 1) = dput (dd p k) x := by simp only [dd, he]
 have hpk : pls p (k + 1) = if x ∈ dd p k then pls p k else pls p k ++ [(k : Int)] := by simp only [pls, he]
 have hoI := ofI_at he
 rw [hdk] at hoI
 have hset : ((ofM p k).map intC).set k [.sc (.int .i64 (ofI p x))] = (ofM p (k + 1)).map intC := by rw [← ofM_set he, List.map_set]; rfl
 have hget : ((ofM p k).map intC)[k]? = some [.sc (.int .i64 0)] := by rw [List.getElem?_map, ofM_get p hkl]; rfl
 have hlk := elook_entsI x (dput (dd p k) x) 0
 rw [if_pos (mem_dput _ _), Nat.zero_add, ← hoI] at hlk
 have hlk : elook (entsI 0 (dput (dd p k) x)) (Value.int .i64 x) = some (.sc (.int .i64 (ofI p x))) := hlk
 refine EvC.skip ?_
 refine EvC.seq ?_
 refine EvC.block ?_
 refine EvC.a ?_ (by simp only [go_sem, he, intC, hkn, List.length_map] <;> rfl) (by simp; try omega)
 refine EvC.seq ?_
 by_cases hx : x ∈ dd p k
 ·have hdp : dput (dd p k) x = dd p k := if_pos hx
  rw [hdp] at hdk hlk
  rw [if_pos hx] at hpk
  refine EvC.a ?_ (by simp only [go_sem, hlk] <;> rfl)
  refine EvC.a ?_
  refine EvC.cs ?_
  refine EvC.b ?_ (by simp only [go_sem, hlk, hget, hset, hml, hkn] <;> rfl) (by simp [hml]; try omega)
  refine EvC.bi ?_
  have hk0 : (k == 0) = false := beq_eq_false_iff_ne.2 (fun h => by subst h; cases hx)
  have hk1 : (k + 1 == 0) = false := rfl
  refine ⟨[(0, 0), (1, 1), (2, 2)], k + 1, rfl, (by simp only [go_sem, hdk, hpk, hk0, hk1, hno, Int.natCast_add, Int.natCast_one] <;> rfl), by omega, by omega⟩
 ·have hdp : dput (dd p k) x = dd p k ++ [x] := if_neg hx
  have hes := eset_entsI x (dd p k) 0 hx
  rw [Nat.zero_add, ← hdp, ← hpd] at hes
  have hes : eset (entsI 0 (dd p k)) (Value.int .i64 x) (.sc (.int .i64 (pls p k).length)) = entsI 0 (dput (dd p k) x) := hes
  have hln := elook_entsI x (dd p k) 0
  rw [if_neg hx] at hln
  have hln : elook (entsI 0 (dd p k)) (Value.int .i64 x) = none := hln
  rw [if_neg hx] at hpk
  have hpm : (pls p k).map intC ++ [[.sc (.int .i64 (k : Int))]] = (pls p (k + 1)).map intC := by rw [hpk, List.map_append]; rfl
  refine EvC.a ?_ (by simp only [go_sem, hln] <;> rfl)
  refine EvC.a ?_
  refine EvC.ct ?_
  refine EvC.a ?_ (by simp only [go_sem, hes, hpl] <;> rfl)
  refine EvC.b ?_ (by simp only [go_sem, hpm, hpl] <;> rfl) (by simp [hpl, room_eq]; try omega)
  refine EvC.b ?_ (by simp only [go_sem, hlk, hget, hset, hml, hkn] <;> rfl) (by simp [hml]; try omega)
  refine EvC.bi ?_
  have hk1 : (k + 1 == 0) = false := rfl
  refine ⟨[(0, 0), (1, 1), (2, 2)], k + 1, rfl, (by simp only [go_sem, hdk, hk1, hno, List.length_map, Int.natCast_add, Int.natCast_one] <;> rfl), by omega, by omega⟩
theorem norefs_edg (es : List (Int × Int)) : (es.map edgeC).all AV.norefs = true := by simp [List.all_eq_true, edgeC, AV.norefs, AV.noref]
theorem cloneE_new (es : List (Int × Int)) (c : Cp) (hl : es.length < 1000000) (h0 : es.length ≠ 0) : PureNew prog 126 [.sl false (es.map edgeC) c] 2 (es.map edgeC) := by
 refine PureNew.of (nv := 1) (hid := [2, 4]) func126 rfl (by kernel_rfl) (by simp [ntmps126]) fun _ => ?_
 rw [ntmps126, results126]
 refine EvC.a ?_
 refine EvC.seq ?_
 refine EvC.a ?_
 refine EvC.cs ?_
 have hr1 : room es.length 16 = true := by simp only [room_eq, decide_eq_true_eq]; omega
 have hr3 : ∀ a b : Int, (a, b) ∈ es → (edgeC (a, b)).length = 2 := fun _ _ _ => rfl
 refine EvC.a ?_ (by simp only [go_sem, List.length_map] <;> rfl) (by simp [hr1]; try exact hr3)
 refine EvC.ret ⟨.inl rfl, _, 5, (by simp only [go_sem, List.length_map] <;> rfl), .inl ?_, ?_, by simpa using h0, norefs_edg es⟩
 ·simp only [List.length_map]
 ·rfl
theorem clipE_is (es : List (Int × Int)) (c : Cp) : PureIs prog 127 [.sl false (es.map edgeC) c] (.sl false (es.map edgeC) .unk) := by
 have hr3 : ∀ a b : Int, (a, b) ∈ es → (edgeC (a, b)).length = 2 := fun _ _ _ => rfl
 have key : PureIs prog 127 [.sl false (es.map edgeC) c] (.sl false (es.map edgeC) .full) := by
  refine PureIs.of1 1 [2] func127 ntmps127 results127 fun _ => ?_
  refine EvC.a ?_
  refine EvC.a ?_ (by simp only [go_sem, List.length_map, Int.toNat_natCast, List.drop_zero] <;> rfl) (by simp; try exact hr3)
  refine EvC.ret ⟨.inl rfl, _, (by simp only [go_sem] <;> rfl), ?_, by simp [AV.noref, norefs_edg]⟩
  simp only [go_sem]
  rw [List.take_of_length_le (by simp)]
 have h := key.weakR
 rwa [show (AV.sl false (es.map edgeC) Cp.full).unk = .sl false (es.map edgeC) .unk from by
  simp only [AV.unk]; congr 1; exact unkss_map edgeC (fun x => rfl) es] at h
def mEdge (p : List Int) (e : Int × Int) : Int × Int := if e.1 = -1 then e else (((ofL p)[e.1.toNat]?).getD 0, e.2)
def mRow (m : Mach) (p : List Int) (s : Int) : List (Int × Int) := (List.range m.ins.toNat).map fun i => mEdge p (eAt m s.toNat i)
def mC (m : Mach) (p : List Int) (s : Int) : List AV := rowC (false, mRow m p s)
def mergeM (m : Mach) (p : List Int) : Mach := ⟨m.ins, m.outs, false, (pls p p.length).map fun s => (false, mRow m p s)⟩
def mMid (m : Mach) (p : List Int) (s : Int) (i : Nat) : List (Int × Int) := (List.range m.ins.toNat).map fun j => if j < i then mEdge p (eAt m s.toNat j) else eAt m s.toNat j
theorem mMid_len (m : Mach) (p : List Int) (s : Int) (i : Nat) : (mMid m p s i).length = m.ins.toNat := by simp [mMid]
theorem mMid_end (m : Mach) (p : List Int) (s : Int) : mMid m p s m.ins.toNat = mRow m p s := by
 refine List.map_congr_left fun i hi => ?_
 rw [if_pos (List.mem_range.1 hi)]
theorem mMid_get (m : Mach) (p : List Int) (s : Int) {i : Nat} (h : i < m.ins.toNat) : (mMid m p s i)[i]? = some (eAt m s.toNat i) := by
 rw [mMid, List.getElem?_map, List.getElem?_range h]
 simp
theorem mMid_set (m : Mach) (p : List Int) (s : Int) {i : Nat} (h : i < m.ins.toNat) : (mMid m p s i).set i (mEdge p (eAt m s.toNat i)) = mMid m p s (i + 1) := by
 refine List.ext_getElem? fun j => ?_
 rw [List.getElem?_set, mMid_len]
 by_cases hj : j < m.ins.toNat
 ·simp only [mMid, List.getElem?_map, List.getElem?_range hj, Option.map_some]
  by_cases e : i = j
  ·subst e; rw [if_pos rfl, if_pos hj, if_pos (by omega)]
  ·rw [if_neg e]
   by_cases h2 : j < i
   ·rw [if_pos h2, if_pos (by omega)]
   ·rw [if_neg h2, if_neg (by omega)]
 ·rw [if_neg (by omega), List.getElem?_eq_none (by rw [mMid_len]; omega), List.getElem?_eq_none (by rw [mMid_len]; omega)]
theorem mMid_same (m : Mach) (p : List Int) (s : Int) {i : Nat} (h : (eAt m s.toNat i).1 = -1) : mMid m p s (i + 1) = mMid m p s i := by
 refine List.map_congr_left fun j _ => ?_
 by_cases h1 : j < i
 ·rw [if_pos h1, if_pos (by omega)]
 ·by_cases h2 : j = i
  ·subst h2; rw [if_pos (by omega), if_neg (by omega), mEdge, if_pos h]
  ·rw [if_neg h1, if_neg (by omega)]
theorem pls_in (p : List Int) : ∀ k, k ≤ p.length → ∀ s ∈ pls p k, 0 ≤ s ∧ s < p.length
 | 0, _, s, h => by cases h
 | k + 1, hk, s, h => by
   have ih := pls_in p k (by omega)
   have he : p[k]? = some p[k] := List.getElem?_eq_getElem (by omega)
   simp only [pls, he] at h
   split at h
   ·exact ih s h
   ·rcases List.mem_append.1 h with h | h
    ·exact ih s h
    ·rw [List.mem_singleton.1 h]; omega
set_option maxHeartbeats 4000000 in
theorem merged_is {m : Mach} (hv : Valid m) (hfl : ∀ r ∈ m.rows, r.1 = false) {p : List Int} (hp : p.length = m.rows.length) (nl : Bool) (c : Cp) :
  PureIs prog 78 [.ag m.cells, .sl nl (p.map intC) c] (.tu [.ag (mergeM m p).cells, .sl false ((ofL p).map intC) .unk]) := by
 have hr0 := hv.rows
 have h1 := first_is nl p c (by omega) (by omega)
 clear hr0
 refine PureIs.of1 3 [4, 5, 6, 7, 8, 10, 11, 12, 13, 24, 25, 26, 27, 36, 37, 38, 39, 45] func78 ntmps78 results78 fun _ => ?_
 have hr := hv.rows
 have hi0 := hv.ins
 refine EvC.a ?_ (by simp only [go_sem, Mach.cells] <;> rfl)
 refine EvC.z 0 ?_
 refine EvC.k1 ?_ (c1 := .ca h1)
 refine EvC.a ?_ (by simp only [go_sem, Mach.cells] <;> rfl)
 refine EvC.seq ?_
 refine EvC.a ?_ (by simp only [go_sem, List.length_map] <;> rfl)
 obtain ⟨P, hP⟩ : ∃ P, P = pls p p.length := ⟨_, rfl⟩
 have hPin := pls_in p p.length (Nat.le_refl _)
 have hPl := pls_len p p.length
 have hDl := dd_len p p.length
 have hDp := dd_pos p (by omega)
 have hol : (ofL p).length = p.length := by simp [ofL]
 rw [← hP] at hPin hPl
 have hP0 : 1 ≤ P.length := by omega
 have hres : (mergeM m p).cells = [.sc (.int .i64 m.ins), .sc (.int .i64 m.outs), .sl false (P.map (mC m p)) .unk] := by
  rw [Mach.cells, mergeM, ← hP, List.map_map]; rfl
 rw [hres, ← hP]
 clear hres h1
 refine EvC.block ?_
 refine EvC.ownC 15 2 1 (by simp only [go_sem] <;> rfl) ?_
 refine EvC.loopS (σ := Nat) (fun k => ⟨[(2, .ia m.cells), (4, .rf 0 0), (7, .sl false ((ofL p).map intC) .unk), (8, .rf 1 0), (24, .sl false (P.map intC) .unk), (25, .sc (.int .i64 P.length)), (26, .sc (.int .i64 k))], [],
  [(0, .cells [.sc (.int .i64 0), .sc (.int .i64 0), .sl true [] .zer]), (1, .cells [.sc (.int .i64 m.ins), .sc (.int .i64 m.outs), .tl 2 k (k == 0)]), (2, .arr 1 ((P.take k).map (mC m p)) true)], 3⟩) (fun k => P.length - k) (fun k => k ≤ P.length) [2, 4, 7, 8, 24, 25, 26] 3 ?_ ?_
 ·refine ⟨[(1, 0), (15, 1), (20, 2)], 0, rfl, (by simp only [go_sem, Mach.cells, List.take_zero, List.map_nil, Int.natCast_zero] <;> rfl), Nat.zero_le _⟩
 rintro k hk
 have hnk : ∀ l : List Int, (l.map (mC m p)).all AV.norefs = true := fun l => by
  rw [List.all_eq_true]
  intro x hx
  obtain ⟨s, _, rfl⟩ := List.mem_map.1 hx
  rfl
 have hlk : ((P.take k).map (mC m p)).length = k := by simp; omega
 refine EvC.a ?_
 refine EvC.seq ?_
 refine EvC.cd (fun hc => ?_) (fun hc => ?_)
 rotate_left
 ·
  refine EvC.exit ?_
  obtain rfl : k = P.length := by have : ¬ k < P.length := by simpa using hc
                                  omega
  have hk0 : (P.length == 0) = false := beq_eq_false_iff_ne.2 (by omega)
  refine EvC.frzD 2 (by simp only [go_sem, hnk, hlk, hk0] <;> rfl) ?_
  refine EvC.a ?_
  refine EvC.ret ⟨.inl rfl, _, (by simp only [go_sem] <;> rfl), ?_, by simp [AV.noref, AV.norefs, List.all_eq_true, intC]⟩
  simp only [go_sem, List.take_length]
 have hkl : k < P.length := by simpa using hc
 clear hc
 have he : P[k]? = some (P[k]'hkl) := List.getElem?_eq_getElem hkl
 have hg : P.take (k + 1) = P.take k ++ [P[k]'hkl] := List.take_succ_eq_append_getElem hkl
 have hsi := hPin _ (List.getElem_mem hkl)
 generalize P[k]'hkl = s at he hg hsi
 have hsn : s.toNat < m.rows.length := by omega
 have hre : m.rows[s.toNat]? = some (m.rows[s.toNat]'hsn) := List.getElem?_eq_getElem hsn
 have hrl := (hv.row _ (List.getElem_mem hsn)).1
 have hrf := hfl _ (List.getElem_mem hsn)
 have hra : ∀ i : Nat, (i : Int) < m.ins → (m.rows[s.toNat]'hsn).2[i]? = some (eAt m s.toNat i) := fun i hi => by
  obtain ⟨r', q1, q2, _⟩ := eAt_fit hv (s := s.toNat) (i := i) (by omega) hi
  rw [hre] at q1; cases q1; exact q2
 generalize m.rows[s.toNat]'hsn = r at hre hrl hrf hra
 obtain ⟨rf, re⟩ := r
 simp only at hrl hrf hra
 subst hrf
 obtain ⟨N, hN⟩ : ∃ N : Nat, m.ins = (N : Int) := ⟨m.ins.toNat, by omega⟩
 have hNt : m.ins.toNat = N := by omega
 have hreN : re.length = N := by omega
 have hr0 : re.map edgeC = (mMid m p s 0).map edgeC := by
  congr 1
  refine List.ext_getElem? fun i => ?_
  by_cases hi : i < N
  ·rw [hra i (by omega), mMid, List.getElem?_map, List.getElem?_range (by omega)]; simp
  ·rw [List.getElem?_eq_none (by omega), List.getElem?_eq_none (by rw [mMid_len]; omega)]
 have hcl := cloneE_new re .unk (by omega) (by omega)
 have hkn : ((k : Nat) : Int).toNat = k := Int.toNat_natCast k
 refine EvC.skip ?_
 refine EvC.seq ?_
 refine EvC.block ?_
 refine EvC.a ?_ (by simp only [go_sem, he, intC, hkn, List.length_map] <;> rfl) (by simp; try omega)
 apply EvC.seq
 apply EvC.tr
 ·apply Tr.run
  ·simp only [go_sem, Mach.cells, hre, rowC, List.length_map] <;> rfl
  ·simp; try omega
  apply Tr.cons
  ·exact .callN rfl rfl (by simp only [go_sem] <;> rfl) (by simp only [go_sem] <;> rfl) (by simp only [go_sem] <;> rfl) (by simp only [go_sem] <;> rfl) (by simp only [go_sem] <;> rfl) hcl
  apply Tr.done
  ·simp only [go_sem] <;> rfl
  ·simp
 rw [hr0, hreN]
 have hml : ∀ i, ((mMid m p s i).map edgeC).length = N := fun i => by rw [List.length_map, mMid_len, hNt]
 refine EvC.seq ?_
 refine EvC.a ?_ (by simp only [go_sem, hml] <;> rfl)
 refine EvC.block ?_
 refine EvC.loopS (σ := Nat) (fun i => ⟨[(2, .ia m.cells), (4, .rf 0 0), (7, .sl false ((ofL p).map intC) .unk), (8, .rf 1 0), (11, .tl 3 N false), (24, .sl false (P.map intC) .unk), (25, .sc (.int .i64 P.length)), (26, .sc (.int .i64 k)), (36, .tl 3 N false), (37, .sc (.int .i64 N)), (38, .sc (.int .i64 i))], [],
  [(0, .cells [.sc (.int .i64 0), .sc (.int .i64 0), .sl true [] .zer]), (1, .cells [.sc (.int .i64 m.ins), .sc (.int .i64 m.outs), .tl 2 k (k == 0)]), (2, .arr 1 ((P.take k).map (mC m p)) true), (3, .arr 2 ((mMid m p s i).map edgeC) false)], 4⟩) (fun i => N - i) (fun i => i ≤ N) [2, 4, 7, 8, 11, 24, 25, 26, 36, 37, 38] 4 ?_ ?_
 ·refine ⟨[(0, 0), (1, 1), (2, 2), (12, 3)], 0, rfl, (by simp only [go_sem, Mach.cells, hnk, hml, norefs_edg, Int.natCast_zero] <;> rfl), Nat.zero_le _⟩
 rintro i hi
 refine EvC.a ?_
 refine EvC.seq ?_
 refine EvC.cd (fun hc => ?_) (fun hc => ?_)
 rotate_left
 ·refine EvC.exit ?_
  obtain rfl : i = N := by have : ¬ i < N := by simpa using hc
                           omega
  have hend : mMid m p s i = mRow m p s := by rw [← hNt]; exact mMid_end m p s
  have hcp := clipE_is (mRow m p s) .unk
  have hrwl : ((mRow m p s).map edgeC).length = i := by rw [← hend]; exact hml i
  rw [hend]
  refine EvC.frz 3 (by simp only [go_sem, hrwl, norefs_edg] <;> rfl) ?_
  have hgl : (P.take k).length = k := by rw [List.length_take]; omega
  have hk0 : (k + 1 == 0) = false := rfl
  have hap : (P.take k).map (mC m p) ++ [[.sl false ((mRow m p s).map edgeC) .unk]] = (P.take (k + 1)).map (mC m p) := by rw [hg, List.map_append]; rfl
  refine EvC.k1LD mixed ?_ (c1 := .ca hcp) (h2 := by simp only [go_sem, hlk, hap] <;> rfl) (k2 := by simp [hlk, room_eq, norefs_edg]; try omega)
  refine EvC.bi ?_
  exact ⟨[(0, 0), (1, 1), (2, 2)], k + 1, rfl, (by simp only [go_sem, Mach.cells, hk0, hnk, List.length_take, Nat.min_eq_left hkl, Int.natCast_add, Int.natCast_one] <;> rfl), by omega, by omega⟩
 have hil : i < N := by simpa using hc
 clear hc
 obtain ⟨r', q1, q2, q3⟩ := eAt_fit hv (s := s.toNat) (i := i) hsn (by omega)
 have hmg : ((mMid m p s i).map edgeC)[i]? = some (edgeC (eAt m s.toNat i)) := by rw [List.getElem?_map, mMid_get m p s (by omega)]; rfl
 have hset : ((mMid m p s i).map edgeC).set i (edgeC (mEdge p (eAt m s.toNat i))) = (mMid m p s (i + 1)).map edgeC := by rw [← mMid_set m p s (by omega), List.map_set]
 have hsame := mMid_same m p s (i := i)
 have hin' : ((i : Nat) : Int).toNat = i := Int.toNat_natCast i
 generalize eAt m s.toNat i = ed at hmg hset hsame q3
 obtain ⟨t, o⟩ := ed
 simp only at hsame q3
 have hmli := hml i
 refine EvC.skip ?_
 refine EvC.seq ?_
 refine EvC.block ?_
 refine EvC.a ?_ (by simp only [go_sem, hmg, edgeC, hmli, hin'] <;> rfl) (by simp [hmli]; try omega)
 refine EvC.a ?_
 refine EvC.cd (fun hc => ?_) (fun hc => ?_)
 ·have ht : t ≠ -1 := by simpa using hc
  have q3 : 0 ≤ t ∧ t < m.rows.length := by
   rcases q3 with q3 | q3
   ·simp [isNone] at q3; omega
   ·exact ⟨q3.1, q3.2.1⟩
  obtain ⟨v, hv0⟩ : ∃ v, (ofL p)[t.toNat]? = some v := ⟨_, List.getElem?_eq_getElem (by omega)⟩
  have hvi : ((ofL p).map intC)[t.toNat]? = some (intC v) := by rw [List.getElem?_map, hv0]; rfl
  have hme : mEdge p (t, o) = (v, o) := by simp only [mEdge]; rw [if_neg ht, hv0]; rfl
  rw [hme] at hset
  have hset : ((mMid m p s i).map edgeC).set i [.sc (.int .i64 v), .sc (.int .i64 o)] = (mMid m p s (i + 1)).map edgeC := hset
  have hol2 : ((ofL p).map intC).length = p.length := by rw [List.length_map, hol]
  refine EvC.b ?_ (by simp only [go_sem, hvi, intC, hmg, edgeC, hset, hmli, hin', hol2] <;> rfl) (by simp [hmli]; try omega)
  refine EvC.bi ?_
  refine ⟨[(0, 0), (1, 1), (2, 2), (3, 3)], i + 1, rfl, (by simp only [go_sem, Mach.cells, hnk, norefs_edg, Int.natCast_add, Int.natCast_one] <;> rfl), by omega, by omega⟩
 ·have ht : t = -1 := by simpa using hc
  refine EvC.skip ?_
  refine EvC.bi ?_
  rw [← hsame ht]
  refine ⟨[(0, 0), (1, 1), (2, 2), (3, 3)], i + 1, rfl, (by simp only [go_sem, Mach.cells, hnk, norefs_edg, Int.natCast_add, Int.natCast_one] <;> rfl), by omega, by omega⟩
open Go Go.Proofs Go.Proofs.Tryz
def sorted (zs : List Int) : List Int := zs.mergeSort fun x y => decide (x ≤ y)
theorem sorted_len (zs : List Int) : (sorted zs).length = zs.length := List.length_mergeSort ..
theorem sorted_mem (zs : List Int) (x : Int) : x ∈ sorted zs ↔ x ∈ zs := List.mem_mergeSort ..
theorem sort_to {zs : List Int} {i nx : Nat} (h0 : zs.length ≠ 0) (hl : zs.length < 1000000) :
  CallTo prog 155 [.tl i zs.length false] [(i, .arr 1 (zs.map intC) false)] nx (.tu []) [(i, .arr 1 ((sorted zs).map intC) false)] nx := by
 refine ⟨callable_of Tryz.func155 (by kernel_rfl) (by kernel_rfl), fun G F w vals hm hfr hrv => ?_⟩
 obtain ⟨M, hM⟩ : ∃ M : Mem, M = [(i, .arr 1 (zs.map intC) false)] := ⟨_, rfl⟩
 have ho : mlook M i = some (.arr 1 (zs.map intC) false) := by rw [hM]; simp [mlook]
 have hM2 : [(i, RObj.arr 1 ((sorted zs).map intC) false)] = mset M i (.arr 1 ((sorted zs).map intC) false) := by rw [hM]; simp [mset]
 rw [← hM] at hm hrv ⊢
 rw [hM2]
 obtain ⟨v, rfl⟩ : ∃ v, vals = [v] := by
  match vals, hrv.1 with
  | [v], _ => exact ⟨v, rfl⟩
 have hv : RV G F M w v (.tl i zs.length false) := hrv.2 0 (by simp) (by simp)
 obtain ⟨hG, hnl, va, vc, rfl, hcase⟩ := tl_handle hm hv ho (by simp)
 rcases hcase with ⟨h1, _⟩ | ⟨b, ko, cc, e0, rfl, k2, k3, k4, k5, k6, k7, k8, k9⟩
 ·exact absurd h1 (by simpa using h0)
 rw [List.length_map] at hG k4
 rw [List.length_map]
 have hbs : b < w.heap.size := (Array.getElem?_eq_some_iff.1 k3).1
 have hcell : ∀ j (h : j < zs.length), cc[ko + j]? = some (.int .i64 zs[j]) := fun j h => by
  obtain ⟨v, r1, _, r3⟩ := k7 j 0 (by simpa using h) (by simp [intC])
  rw [show ko + (j * 1 + 0) = ko + j by omega] at r1
  have e : ((zs.map intC)[j]'(by simpa using h))[0]'(by simp [intC]) = .sc (.int .i64 zs[j]) := by simp [intC]
  rw [e] at r3
  rw [r1, r3.inv_sc]
 have hH : Go.Sort.Holds (Value.int .i64) w b ko zs.toArray := fun j hj => by
  have hj' : j < zs.length := by simpa using hj
  refine ⟨?_, frozen_un (a := ⟨b, ko + j, none⟩) k3 rfl⟩
  unfold World.cell?
  simp only [k3]
  rw [hcell j hj']
  simp [hj']
 have hsz := sorted_len zs
 refine callsIn_wide.2 ((sh_slices_Sort_int b ko vc zs w hH hbs (by omega)).mono ?_)
 rintro e w2 ⟨rfl, n', os, rfl⟩
 obtain ⟨w2, hw2⟩ : ∃ w2, w2 = Go.Sort.grow (Go.Sort.putRow (Value.int .i64) (Go.Sort.ahead w n') b ko (sorted zs).toArray) os := ⟨_, rfl⟩
 have hw2' : Go.Sort.grow (Go.Sort.putRow (Value.int .i64) (Go.Sort.ahead w n') b ko ((zs.mergeSort fun x y => decide (x ≤ y)).toArray)) os = w2 := hw2.symm
 rw [hw2']
 have hhp : ∀ k, k < w.heap.size → w2.heap[k]? = if b = k then (w.heap[k]?).map (Go.Sort.onCells (Go.Sort.putCells (Value.int .i64) ko (sorted zs).toArray)) else w.heap[k]? := fun k hk => by
  rw [hw2, Go.Sort.heap_grow_old _ _ (by simpa [Go.Sort.putRow, Go.Sort.mapBlock, Go.Sort.ahead] using hk)]
  simp only [Go.Sort.putRow, Go.Sort.mapBlock, Go.Sort.ahead, Array.getElem?_modify]
 have hsize : w.heap.size ≤ w2.heap.size := by
  rw [hw2]; simp [Go.Sort.putRow, Go.Sort.mapBlock, Go.Sort.ahead]
 have hnF : ∀ o, ¬ F b o := fun o h => by have := (k8 o h).1; cases this
 have hkept : Kept w w2 := by
  refine ⟨by rw [hw2]; rfl, by rw [hw2]; rfl, by rw [hw2]; rfl, fun b' es c hb => ⟨es, c, ?_, List.prefix_refl _⟩⟩
  rw [hhp b' (Array.getElem?_eq_some_iff.1 hb).1, hb]
  split
  ·rfl
  ·rfl
 have hb2 : w2.heap[b]? = some (.cells (Go.Sort.putCells (Value.int .i64) ko (sorted zs).toArray cc) e0 (0, 0)) := by
  rw [hhp b hbs, if_pos rfl, k3]; rfl
 have hpc : ∀ j (h : j < (sorted zs).length), (Go.Sort.putCells (Value.int .i64) ko (sorted zs).toArray cc)[ko + j]? = some (.int .i64 (sorted zs)[j]) := fun j h => by
  unfold Go.Sort.putCells
  rw [Array.getElem?_mapIdx, hcell j (by omega), Option.map_some, if_pos ⟨by omega, by simp; omega⟩]
  simp [show ko + j - ko = j by omega, h]
 obtain ⟨hm', S'⟩ := simM_upd (nx := nx) (F' := F) (w' := w2) (ob' := .arr 1 ((sorted zs).map intC) false) (h' := .slice (some ⟨b, ko, none⟩) zs.length vc) hm ho hG ⟨rfl, .inl ⟨by simp [hsz], rfl⟩⟩ hkept hsize
  (fun k hk hne => by
   rw [hhp k hk, if_neg (fun e => hne (by subst e; simp [blkOf, k2]))])
  (fun _ _ h => h)
  (fun b' o hF => by
   have hne : b ≠ b' := fun e => hnF o (by rw [e]; exact hF)
   unfold World.cell?
   rw [hhp b' (hm.inF b' o hF), if_neg hne])
  (fun _ _ h => .inl h) (fun _ h => .inl h)
  (fun S => by
   refine .inr ⟨b, ko, vc, _, e0, by rw [upG_self, List.length_map, hsz], k2, hb2, by rw [List.length_map, hsz]; exact k4, ?_, fun i h => ?_, fun i j h h' => ?_, fun o h => absurd h (hnF o), fun hz => by cases hz⟩
   ·unfold Go.Sort.putCells; rw [Array.size_mapIdx]; exact k5
   ·rw [List.getElem_map]; rfl
   ·have hi : i < (sorted zs).length := by simpa using h
    have hj0 : j = 0 := by rw [List.getElem_map] at h'; simp [intC] at h'; exact h'
    subst hj0
    refine ⟨.int .i64 (sorted zs)[i], ?_, rfl, ?_⟩
    ·rw [show ko + (i * 1 + 0) = ko + i by omega]; exact hpc i hi
    ·simp only [List.getElem_map, intC, List.getElem_cons_zero]
     exact .imm (.sc _))
 exact ⟨.tuple #[], _, F, rfl, .tu [] [] rfl (fun i h => by simp at h), hm', fun j hj => by
  rw [upG_other G _ (fun e => by
   have h1 := hfr j hj
   rw [e, hG] at h1; cases h1)]
  exact hfr j hj, S'⟩
def iC (x : Int) : AV := .sc (.int .i64 x)
def sgE (p : List Int) (e : Int × Int) : List Int := [e.2, if e.1 = -1 then -1 else (p[e.1.toNat]?).getD 0]
def sgI (m : Mach) (p : List Int) (s k : Nat) : List Int := (List.range 16).flatMap fun j => if j < k then sgE p (eAt m s j) else [0, 0]
theorem flat2_len {f : Nat → List Int} (hf : ∀ j, (f j).length = 2) : ∀ n, ((List.range n).flatMap f).length = 2 * n
 | 0 => rfl
 | n + 1 => by rw [List.range_succ, List.flatMap_append, List.length_append, flat2_len hf n]; simp [hf]; omega
theorem sgI_two (m : Mach) (p : List Int) (s k j : Nat) : (if j < k then sgE p (eAt m s j) else [0, 0]).length = 2 := by split <;> rfl
theorem sgI_len (m : Mach) (p : List Int) (s k : Nat) : (sgI m p s k).length = 32 := flat2_len (sgI_two m p s k) 16
theorem flatL_len {f : Nat → List Int} (hf : ∀ j, (f j).length = 2) : ∀ L : List Nat, (L.flatMap f).length = 2 * L.length
 | [] => rfl
 | a :: L => by rw [List.flatMap_cons, List.length_append, flatL_len hf L, hf, List.length_cons]; omega
def sgA (m : Mach) (p : List Int) (s i : Nat) : List Int := ((List.range 16).take i).flatMap fun j => sgE p (eAt m s j)
def sgB (i : Nat) : List Int := ((List.range 16).drop (i + 1)).flatMap fun _ => [0, 0]
theorem sgA_len (m : Mach) (p : List Int) (s : Nat) {i : Nat} (h : i < 16) : (sgA m p s i).length = i * 2 := by
 rw [sgA, flatL_len (fun _ => rfl), List.length_take, List.length_range]; omega
theorem range16 {i : Nat} (h : i < 16) : List.range 16 = (List.range 16).take i ++ i :: (List.range 16).drop (i + 1) := by
 have h1 : i < (List.range 16).length := by simpa using h
 have h2 := List.drop_eq_getElem_cons h1
 rw [List.getElem_range] at h2
 rw [← h2, List.take_append_drop]
theorem take_lt {i j : Nat} (h : j ∈ (List.range 16).take i) : j < i := by
 obtain ⟨k, hk, rfl⟩ := List.getElem_of_mem h
 rw [List.getElem_take, List.getElem_range]
 rw [List.length_take] at hk; omega
theorem drop_gt {i j : Nat} (h : j ∈ (List.range 16).drop i) : i ≤ j := by
 obtain ⟨k, hk, rfl⟩ := List.getElem_of_mem h
 rw [List.getElem_drop, List.getElem_range]; omega
theorem flat_congr {f g : Nat → List Int} : ∀ {L : List Nat}, (∀ j ∈ L, f j = g j) → L.flatMap f = L.flatMap g
 | [], _ => rfl
 | a :: L, h => by rw [List.flatMap_cons, List.flatMap_cons, h a List.mem_cons_self, flat_congr fun j hj => h j (List.mem_cons_of_mem _ hj)]
theorem sgI_at (m : Mach) (p : List Int) (s : Nat) {i : Nat} (h : i < 16) : sgI m p s i = sgA m p s i ++ ([0, 0] ++ sgB i) := by
 unfold sgI
 conv => lhs; rw [range16 h]
 rw [List.flatMap_append, List.flatMap_cons, if_neg (by omega)]
 congr 1
 ·exact flat_congr fun j hj => if_pos (take_lt hj)
 ·congr 1
  exact flat_congr fun j hj => if_neg (by have := drop_gt hj; omega)
theorem sgI_next (m : Mach) (p : List Int) (s : Nat) {i : Nat} (h : i < 16) : sgI m p s (i + 1) = sgA m p s i ++ (sgE p (eAt m s i) ++ sgB i) := by
 unfold sgI
 conv => lhs; rw [range16 h]
 rw [List.flatMap_append, List.flatMap_cons, if_pos (by omega)]
 congr 1
 ·exact flat_congr fun j hj => if_pos (by have := take_lt hj; omega)
 ·congr 1
  exact flat_congr fun j hj => if_neg (by have := drop_gt hj; omega)
def z32 : List AV := List.replicate 32 (iC 0)
theorem z32_eq : z32 = [iC 0, iC 0, iC 0, iC 0, iC 0, iC 0, iC 0, iC 0, iC 0, iC 0, iC 0, iC 0, iC 0, iC 0, iC 0, iC 0, iC 0, iC 0, iC 0, iC 0, iC 0, iC 0, iC 0, iC 0, iC 0, iC 0, iC 0, iC 0, iC 0, iC 0, iC 0, iC 0] := rfl
theorem sgI_zero (m : Mach) (p : List Int) (s : Nat) : (sgI m p s 0).map iC = z32 := rfl
theorem sign_is {m : Mach} (hv : Valid m) {p : List Int} (hp : p.length = m.rows.length) (nl : Bool) (c : Cp) {s : Nat} (hs : s < m.rows.length) :
  PureIs prog 143 [.ag m.cells, .sl nl (p.map intC) c, .sc (.int .i64 s)] (.ag ((sgI m p s m.ins.toNat).map iC)) := by
 refine PureIs.of1 4 [6, 7, 8, 9, 14, 15, 16, 17, 28] func143 ntmps143 results143 fun _ => ?_
 have hi0 := hv.ins
 obtain ⟨N, hN⟩ : ∃ N : Nat, m.ins = (N : Int) := ⟨m.ins.toNat, by omega⟩
 have hNt : m.ins.toNat = N := by omega
 have hre : m.rows[s]? = some m.rows[s] := List.getElem?_eq_getElem hs
 have hrl := (hv.row _ (List.getElem_mem hs)).1
 have hra : ∀ i : Nat, (i : Int) < m.ins → (m.rows[s]).2[i]? = some (eAt m s i) := fun i hi => by
  obtain ⟨r', q1, q2, _⟩ := eAt_fit hv (s := s) (i := i) hs hi
  rw [hre] at q1; cases q1; exact q2
 have hpx : ∀ i : Nat, (i : Int) < m.ins → (eAt m s i).1 = -1 ∨ (0 ≤ (eAt m s i).1 ∧ (eAt m s i).1 < p.length) := fun i hi => by
  obtain ⟨_, _, _, q3⟩ := eAt_fit hv (s := s) (i := i) hs hi
  rcases q3 with q3 | q3
  ·left; simp [isNone] at q3; exact q3.1
  ·right; omega
 generalize m.rows[s] = r at hre hrl hra
 have hsn : ((s : Nat) : Int).toNat = s := Int.toNat_natCast s
 refine EvC.a ?_ (by simp only [go_sem, Mach.cells] <;> rfl)
 refine EvC.z 0 ?_
 refine EvC.a ?_
 refine EvC.seq ?_
 refine EvC.a ?_ (by simp only [go_sem, Mach.cells, hre, hsn, rowC, List.length_map, hrl, hN] <;> rfl) (by simp; try omega)
 refine EvC.block ?_
 have hno : ∀ l : List Int, AV.norefs (l.map iC) = true := fun l => by
  induction l with
  | nil => rfl
  | cons x l ih => simp only [List.map_cons, AV.norefs, iC, AV.noref, ih, Bool.and_self]
 have hnz : AV.norefs z32 = true := rfl
 have hzl : z32.length = 32 := rfl
 refine EvC.loopS (σ := Nat) (fun i => ⟨[(1, .sl nl (p.map intC) c), (6, .rf 1 0), (7, .rf 2 0), (14, .sl r.1 (r.2.map edgeC) .unk), (15, .sc (.int .i64 N)), (16, .sc (.int .i64 i))], [],
  [(1, .cells z32), (2, .cells ((sgI m p s i).map iC))], 3⟩) (fun i => N - i) (fun i => i ≤ N) [1, 6, 7, 14, 15, 16] 3 ?_ ?_
 ·refine ⟨[(1, 1), (2, 2)], 0, rfl, (by simp only [go_sem, sgI_zero, z32_eq, iC, Int.natCast_zero] <;> rfl), Nat.zero_le _⟩
 rintro i hi
 have hsl : ((sgI m p s i).map iC).length = 32 := by rw [List.length_map, sgI_len]
 refine EvC.a ?_
 refine EvC.seq ?_
 refine EvC.cd (fun hc => ?_) (fun hc => ?_)
 rotate_left
 ·
  refine EvC.exit ?_
  obtain rfl : i = N := by have : ¬ i < N := by simpa using hc
                           omega
  have htk : List.take 32 ((sgI m p s i).map iC) = (sgI m p s i).map iC := List.take_of_length_le (by omega)
  have hdz : List.drop 32 z32 = [] := rfl
  have hac : ∀ (M : Mem) (x : AV), x ∈ (sgI m p s i).map iC → acell M x = true := fun M x hx => by
   obtain ⟨y, _, rfl⟩ := List.mem_map.1 hx
   rfl
  refine EvC.a ?_ (by simp only [go_sem, hsl, hzl, htk, hdz, List.append_nil] <;> rfl) (by rw [List.all_eq_true]; exact hac _)
  refine EvC.ret ⟨.inl rfl, _, (by simp only [go_sem, hsl, htk] <;> rfl), ?_, hno _⟩
  simp only [go_sem]
  rw [hNt]
 have hil : i < N := by simpa using hc
 clear hc
 have hig := hra i (by omega)
 have hi16 : i < 16 := by omega
 refine EvC.skip ?_
 refine EvC.seq ?_
 refine EvC.block ?_
 have hin : ((i : Nat) : Int).toNat = i := Int.toNat_natCast i
 refine EvC.a ?_ (by simp only [go_sem, hig, edgeC, hin, List.length_map, hrl] <;> rfl) (by simp; try omega)
 refine EvC.a ?_ (by simp only [go_sem, hsl, hin] <;> rfl) (by simp [hsl]; try omega)
 have hA := sgA_len m p s hi16
 obtain ⟨A, hAd⟩ : ∃ A, A = (sgA m p s i).map iC := ⟨_, rfl⟩
 obtain ⟨B, hBd⟩ : ∃ B, B = (sgB i).map iC := ⟨_, rfl⟩
 have hAl : A.length = i * 2 := by rw [hAd, List.length_map, hA]
 have h0 : (sgI m p s i).map iC = A ++ ([iC 0, iC 0] ++ B) := by rw [sgI_at m p s hi16, List.map_append, List.map_append, hAd, hBd]; rfl
 have h1 : (sgI m p s (i + 1)).map iC = A ++ ((sgE p (eAt m s i)).map iC ++ B) := by rw [sgI_next m p s hi16, List.map_append, List.map_append, hAd, hBd]
 have q3 := hpx i (by omega)
 generalize eAt m s i = ed at h1 q3 ⊢
 obtain ⟨t, o⟩ := ed
 simp only at q3 ⊢
 obtain ⟨X, hX⟩ : ∃ X, X = A ++ ([iC o, iC (-1)] ++ B) := ⟨_, rfl⟩
 have hw5 : List.take (i * 2) ((sgI m p s i).map iC) ++ [AV.sc (.int .i64 o), .sc (.int .i64 (-1))] ++ List.drop (i * 2 + 2) ((sgI m p s i).map iC) = X := by
  rw [h0, List.take_append_of_le_length (by omega), List.take_of_length_le (by omega), List.drop_append, List.drop_of_length_le (by omega), hAl, hX]
  simp [iC]
 rw [hw5]
 have hXl : X.length = 32 := by
  have := congrArg List.length h0
  rw [hsl] at this
  rw [hX]
  simp only [List.length_append, List.length_cons, List.length_nil] at this ⊢
  omega
 refine EvC.a ?_
 refine EvC.cd (fun hc => ?_) (fun hc => ?_)
 ·have ht : t ≠ -1 := by simpa using hc
  obtain ⟨v, hv0⟩ : ∃ v, p[t.toNat]? = some v := ⟨_, List.getElem?_eq_getElem (by omega)⟩
  have hvi : (p.map intC)[t.toNat]? = some (intC v) := by rw [List.getElem?_map, hv0]; rfl
  have hpl : (p.map intC).length = p.length := List.length_map _
  have hw7 : List.take (i * 2 + 1) X ++ [AV.sc (.int .i64 v)] ++ List.drop (i * 2 + 1 + 1) X = (sgI m p s (i + 1)).map iC := by
   rw [h1, sgE, if_neg ht, hv0, hX, List.take_append, List.take_of_length_le (by omega), hAl, List.drop_append, List.drop_of_length_le (by omega), hAl]
   simp [iC, show i * 2 + 1 - i * 2 = 1 by omega, show i * 2 + 1 + 1 - i * 2 = 2 by omega]
  refine EvC.dL mixed ?_ (h := by simp only [go_sem, hvi, intC, hin, hpl, hXl] <;> rfl) (hok := by simp [hXl]; try omega)
  rw [hw7]
  refine EvC.bi ?_
  refine ⟨[(1, 1), (2, 2)], i + 1, rfl, (by simp only [go_sem, hno, hnz, Int.natCast_add, Int.natCast_one] <;> rfl), by omega, by omega⟩
 ·have ht : t = -1 := by simpa using hc
  refine EvC.skip ?_
  refine EvC.bi ?_
  have hXe : X = (sgI m p s (i + 1)).map iC := by rw [h1, sgE, if_pos ht, hX]; rfl
  rw [hXe]
  refine ⟨[(1, 1), (2, 2)], i + 1, rfl, (by simp only [go_sem, hno, hnz, Int.natCast_add, Int.natCast_one] <;> rfl), by omega, by omega⟩
section
variable {α : Type} [DecidableEq α]
def gidx (l : List α) (x : α) : Nat := l.idxOf x
def gput (L : List α) (x : α) : List α := if x ∈ L then L else L ++ [x]
def gd (p : List α) : Nat → List α
 | 0 => []
 | k + 1 => match p[k]? with
   | none => gd p k
   | some x => gput (gd p k) x
def gI (p : List α) (x : α) : Int := (gidx (gd p p.length) x : Nat)
def gM (p : List α) (k : Nat) : List Int := (p.take k).map (gI p) ++ List.replicate (p.length - k) 0
def gL (p : List α) : List Int := p.map (gI p)
theorem gput_pre (L : List α) (x : α) : L <+: gput L x := by unfold gput; split; exact List.prefix_refl _; exact List.prefix_append _ _
theorem mem_gput (L : List α) (x : α) : x ∈ gput L x := by unfold gput; split; assumption; simp
theorem gd_step (p : List α) (k : Nat) : gd p k <+: gd p (k + 1) := by simp only [gd]; split; exact List.prefix_refl _; exact gput_pre _ _
theorem gd_mono (p : List α) {i j : Nat} (h : i ≤ j) : gd p i <+: gd p j := by
 induction h with
 | refl => exact List.prefix_refl _
 | step h ih => exact ih.trans (gd_step _ _)
theorem gd_len (p : List α) : ∀ k, (gd p k).length ≤ k
 | 0 => Nat.le_refl _
 | k + 1 => by
   have := gd_len p k
   simp only [gd]
   split
   ·omega
   ·unfold gput; split
    ·omega
    ·simp; omega
theorem gidx_pre {L L' : List α} (h : L <+: L') {x : α} (hx : x ∈ L) : gidx L' x = gidx L x := by
 obtain ⟨t, rfl⟩ := h
 unfold gidx
 rw [List.idxOf_append, if_pos hx]
theorem gI_at {p : List α} {k : Nat} {x : α} (h : p[k]? = some x) : gI p x = (gidx (gd p (k + 1)) x : Nat) := by
 obtain ⟨h1, _⟩ := List.getElem?_eq_some_iff.1 h
 have hm : x ∈ gd p (k + 1) := by simp only [gd, h]; exact mem_gput _ _
 unfold gI
 rw [gidx_pre (gd_mono p (show k + 1 ≤ p.length by omega)) hm]
theorem gM_len (p : List α) {k : Nat} (h : k ≤ p.length) : (gM p k).length = p.length := by simp [gM]; omega
theorem gM_end (p : List α) : gM p p.length = gL p := by simp [gM, gL]
theorem gM_get (p : List α) {k : Nat} (h : k < p.length) : (gM p k)[k]? = some 0 := by
 have hl : ((p.take k).map (gI p)).length = k := by simp; omega
 rw [gM, List.getElem?_append_right (by omega), hl, Nat.sub_self, List.getElem?_replicate, if_pos (by omega)]
theorem gM_set {p : List α} {k : Nat} {x : α} (h : p[k]? = some x) : (gM p k).set k (gI p x) = gM p (k + 1) := by
 obtain ⟨h1, h2⟩ := List.getElem?_eq_some_iff.1 h
 have hl : ((p.take k).map (gI p)).length = k := by simp; omega
 unfold gM
 rw [List.set_append_right _ _ (by omega), hl, Nat.sub_self, show p.length - k = (p.length - (k + 1)) + 1 by omega, List.replicate_succ, List.set_cons_zero, List.take_succ_eq_append_getElem h1, List.map_append, h2]
 simp
theorem gL_len (p : List α) : (gL p).length = p.length := List.length_map _
end
def vI (x : Int) : Value := .int .i64 x
def keyK (κ : List Int) : Value := .agg (κ.map vI).toArray
theorem cellVals_iC : ∀ l : List Int, cellVals (l.map iC) = some (l.map vI)
 | [] => rfl
 | x :: l => by simp only [List.map_cons, cellVals, cellVals_iC l, iC, cellVal]; rfl
theorem eqCells_ints : ∀ a b : List Int, eqCells (a.map vI) (b.map vI) = decide (a = b)
 | [], [] => rfl
 | [], _ :: _ => rfl
 | _ :: _, [] => rfl
 | x :: a, y :: b => by
   simp only [List.map_cons, eqCells, eqCells_ints a b, vI, eqCell, List.cons.injEq]
   by_cases h1 : x = y <;> by_cases h2 : a = b <;> simp [h1, h2]
theorem eqVal_keyK (a b : List Int) : eqVal (keyK a) (keyK b) = decide (a = b) := by
 unfold eqVal keyK
 simp only [Value.cells]
 exact eqCells_ints a b
def entK : Nat → List (List Int) → List (Value × AV)
 | _, [] => []
 | i, s :: l => (keyK s, .sc (.int .i64 i)) :: entK (i + 1) l
@[go_sem] theorem norefs_entK : ∀ (l : List (List Int)) (i : Nat), ((entK i l).all fun p => p.2.noref) = true
 | [], _ => rfl
 | c :: l, i => by simp only [entK, List.all_cons, norefs_entK l, AV.noref, Bool.and_self]
theorem entK_len : ∀ (l : List (List Int)) (i : Nat), (entK i l).length = l.length
 | [], _ => rfl
 | c :: l, i => by simp only [entK, List.length_cons, entK_len l]
theorem elook_entK (c : List Int) : ∀ (l : List (List Int)) (i : Nat), elook (entK i l) (keyK c) = if c ∈ l then some (.sc (.int .i64 (i + gidx l c : Nat))) else none
 | [], _ => rfl
 | d :: l, i => by
   simp only [entK, elook, eqVal_keyK, List.mem_cons, gidx, List.idxOf_cons]
   by_cases h : c = d
   ·subst h; simp
   ·rw [if_neg (by simpa using h), elook_entK c l (i + 1)]
    have h' : (@BEq.beq _ (instBEqOfDecidableEq) d c) = false := by simp; exact fun e => h e.symm
    simp only [h, false_or, h', Bool.false_eq_true, if_false, cond_false, gidx]
    by_cases hc : c ∈ l
    ·have e : ∀ a : Nat, i + 1 + a = i + (a + 1) := fun a => by omega
     rw [if_pos hc, if_pos hc, e]
    ·rw [if_neg hc, if_neg hc]
theorem eset_entK (c : List Int) : ∀ (l : List (List Int)) (i : Nat), c ∉ l → eset (entK i l) (keyK c) (.sc (.int .i64 (i + l.length : Nat))) = entK i (l ++ [c])
 | [], _, _ => rfl
 | d :: l, i, h => by
   simp only [List.mem_cons, not_or] at h
   simp only [entK, eset, eqVal_keyK, List.cons_append]
   rw [if_neg (by simpa using h.1)]
   congr 1
   have := eset_entK c l (i + 1) h.2
   rw [show i + 1 + l.length = i + (d :: l).length by simp; omega] at this
   exact this
def kds (n : Nat) : List Kd := List.replicate n (.int .i64)
theorem matchK : ∀ l : List Int, matchKinds (kds l.length) (l.map vI) = true
 | [] => rfl
 | x :: l => by simp only [List.length_cons, kds, List.replicate_succ, List.map_cons, matchKinds, vI, matchKind]; exact matchK l
theorem key229 : isKey prog 229 = keyTest true (kds 33) := isKey_of (by kernel_rfl) (by kernel_rfl)
theorem key229_is (l : List Int) (h : l.length = 33) : isKey prog 229 (keyK l) = true := by
 rw [key229, keyK]
 simp only [keyTest, Bool.true_and]
 rw [← h]; exact matchK l
def kapL (m : Mach) (p : List Int) : List (List Int) := (List.range m.rows.length).map fun s => (p[s]?).getD 0 :: sgI m p s m.ins.toNat
def refL (m : Mach) (p : List Int) : List Int := gL (kapL m p)
theorem kapL_len (m : Mach) (p : List Int) : (kapL m p).length = m.rows.length := by simp [kapL]
theorem kapL_get (m : Mach) {p : List Int} {s : Nat} {b : Int} (h : s < m.rows.length) (hb : p[s]? = some b) : (kapL m p)[s]? = some (b :: sgI m p s m.ins.toNat) := by
 rw [kapL, List.getElem?_map, List.getElem?_range h]; simp [hb]
set_option maxHeartbeats 4000000 in
theorem refined_is {m : Mach} (hv : Valid m) {p : List Int} (hp : p.length = m.rows.length) (nl : Bool) (c : Cp) :
  PureIs prog 107 [.ag m.cells, .sl nl (p.map intC) c] (.sl false ((refL m p).map intC) .unk) := by
 refine PureIs.of1 3 [4, 5, 6, 7, 8, 9, 11, 16, 17, 18, 19, 36] func107 ntmps107 results107 fun _ => ?_
 have hr := hv.rows
 have hi0 := hv.ins
 obtain ⟨n, hn⟩ : ∃ n, n = m.rows.length := ⟨_, rfl⟩
 obtain ⟨ks, hks⟩ : ∃ ks, ks = kapL m p := ⟨_, rfl⟩
 have hkl : ks.length = n := by rw [hks, kapL_len, hn]
 have hno : ∀ l : List Int, (l.map intC).all AV.norefs = true := fun l => by simp [List.all_eq_true, intC, AV.norefs, AV.noref]
 have hnn : ((n : Nat) : Int).toNat = n := Int.toNat_natCast n
 refine EvC.a ?_ (by simp only [go_sem, Mach.cells] <;> rfl)
 refine EvC.z 0 ?_
 refine EvC.a ?_
 refine EvC.a ?_ (by simp only [go_sem, List.length_map, hp, ← hn, hnn] <;> rfl) (by simp [room_eq]; omega)
 refine EvC.seq ?_
 refine EvC.a ?_ (by simp only [go_sem, List.length_map, hp, ← hn] <;> rfl)
 have hz : List.replicate n [AV.sc (.int .i64 0)] = (gM ks 0).map intC := by simp [gM, intC, hkl]
 rw [hz]
 refine EvC.block ?_
 refine EvC.loopS (σ := Nat) (fun k => ⟨[(1, .sl nl (p.map intC) c), (2, .ia m.cells), (5, .mp 0), (6, .tl 1 n false), (16, .sl nl (p.map intC) c), (17, .sc (.int .i64 n)), (18, .sc (.int .i64 k))], [],
  [(0, .map 229 (entK 0 (gd ks k))), (1, .arr 1 ((gM ks k).map intC) false)], 2⟩) (fun k => n - k) (fun k => k ≤ n) [1, 2, 5, 6, 16, 17, 18] 2 ?_ ?_
 ·have hd0 : gd ks 0 = [] := rfl
  refine ⟨[(2, 0), (6, 1)], 0, rfl, (by simp only [go_sem, hd0, entK, hno, Mach.cells, List.map_nil, List.length_nil, Int.natCast_zero] <;> rfl), Nat.zero_le _⟩
 rintro k hk
 have hml : ((gM ks k).map intC).length = n := by rw [List.length_map, gM_len ks (by omega), hkl]
 have hdl := gd_len ks k
 refine EvC.a ?_
 refine EvC.seq ?_
 refine EvC.cd (fun hc => ?_) (fun hc => ?_)
 rotate_left
 ·
  refine EvC.exit ?_
  obtain rfl : k = n := by have : ¬ k < n := by simpa using hc
                           omega
  have hoe : gM ks k = refL m p := by rw [← hkl, gM_end, hks]; rfl
  refine EvC.frz 1 (by simp only [go_sem, hml, hno] <;> rfl) ?_
  refine EvC.a ?_
  refine EvC.ret ⟨.inl rfl, _, (by simp only [go_sem] <;> rfl), ?_, by simp [AV.noref, AV.norefs, hno]⟩
  simp only [go_sem, hoe]
 have hkn : k < n := by simpa using hc
 clear hc
 have heb : p[k]? = some (p[k]'(by omega)) := List.getElem?_eq_getElem (by omega)
 have hsg := sign_is hv hp nl c (s := k) (by omega)
 have hek := kapL_get m (s := k) (by omega) heb
 generalize p[k]'(by omega) = b at heb hek
 rw [← hks] at hek
 have hsl := sgI_len m p k m.ins.toNat
 generalize sgI m p k m.ins.toNat = sg at hsg hek hsl
 have hkt : ((k : Nat) : Int).toNat = k := Int.toNat_natCast k
 have hsgl : (sg.map iC).length = 32 := by rw [List.length_map, hsl]
 rw [Mach.cells] at hsg
 refine EvC.skip ?_
 refine EvC.seq ?_
 refine EvC.block ?_
 refine EvC.a ?_ (by simp only [go_sem, heb, intC, hkt, List.length_map] <;> rfl) (by simp; try omega)
 have hac : ∀ M : Mem, (sg.map iC).all (acell M) = true := fun M => by
  rw [List.all_eq_true]
  intro x hx
  obtain ⟨y, _, rfl⟩ := List.mem_map.1 hx
  rfl
 refine EvC.k1 ?_ (h1 := by simp only [go_sem, Mach.cells] <;> rfl) (c1 := .ca hsg) (h2 := by simp only [go_sem, hsgl, hac] <;> rfl) (k2 := by simp [hsgl, hac])
 obtain ⟨kv, hkv⟩ : ∃ kv, kv = Value.agg (Value.int .i64 b :: sg.map vI).toArray := ⟨_, rfl⟩
 have hkK : kv = keyK (b :: sg) := hkv
 have hky := key229_is (b :: sg) (by simp [hsl])
 rw [← hkK] at hky
 have hcv := cellVals_iC sg
 have htk : List.take 32 (sg.map iC) = sg.map iC := List.take_of_length_le (by omega)
 obtain ⟨D, hD⟩ : ∃ D, D = gd ks k := ⟨_, rfl⟩
 have hDl : (entK 0 D).length = D.length := entK_len D 0
 have hDn : gd ks (k + 1) = gput D (b :: sg) := by rw [hD]; simp only [gd, hek]
 have hoI := gI_at hek
 rw [hDn] at hoI
 have hset : ((gM ks k).map intC).set k [.sc (.int .i64 (gI ks (b :: sg)))] = (gM ks (k + 1)).map intC := by rw [← gM_set hek, List.map_set]; rfl
 have hget : ((gM ks k).map intC)[k]? = some [.sc (.int .i64 0)] := by rw [List.getElem?_map, gM_get ks (by omega)]; rfl
 have hlk := elook_entK (b :: sg) (gput D (b :: sg)) 0
 rw [if_pos (mem_gput _ _), Nat.zero_add, ← hoI, ← hkK] at hlk
 rw [← hD] at hdl ⊢
 refine EvC.seq ?_
 by_cases hx : (b :: sg) ∈ D
 ·have hdp : gput D (b :: sg) = D := if_pos hx
  rw [hdp] at hDn hlk
  refine EvC.a ?_ (by simp only [go_sem, hsgl, hac, htk, hcv, ← hkv, hky, hlk] <;> rfl)
  refine EvC.a ?_
  refine EvC.cs ?_
  refine EvC.b ?_ (by simp only [go_sem, hsgl, hac, htk, hcv, ← hkv, hky, hlk, hget, hset, hml, hkt] <;> rfl) (by simp [hml]; try omega)
  refine EvC.bi ?_
  refine ⟨[(0, 0), (1, 1)], k + 1, rfl, (by simp only [go_sem, hDn, hno, Mach.cells, Int.natCast_add, Int.natCast_one] <;> rfl), by omega, by omega⟩
 ·have hdp : gput D (b :: sg) = D ++ [b :: sg] := if_neg hx
  have hes := eset_entK (b :: sg) D 0 hx
  rw [Nat.zero_add, ← hdp, ← hkK] at hes
  have hln := elook_entK (b :: sg) D 0
  rw [if_neg hx, ← hkK] at hln
  refine EvC.a ?_ (by simp only [go_sem, hsgl, hac, htk, hcv, ← hkv, hky, hln] <;> rfl)
  refine EvC.a ?_
  refine EvC.ct ?_
  refine EvC.b ?_ (by simp only [go_sem, hsgl, hac, htk, hcv, ← hkv, hky, hes, hDl] <;> rfl)
  refine EvC.b ?_ (by simp only [go_sem, hsgl, hac, htk, hcv, ← hkv, hky, hlk, hget, hset, hml, hkt] <;> rfl) (by simp [hml]; try omega)
  refine EvC.bi ?_
  refine ⟨[(0, 0), (1, 1)], k + 1, rfl, (by simp only [go_sem, hDn, hno, Mach.cells, Int.natCast_add, Int.natCast_one] <;> rfl), by omega, by omega⟩
section
variable {α : Type} [DecidableEq α]
theorem gd_mem {p : List α} {s : Nat} {x : α} (h : p[s]? = some x) {k : Nat} (hk : s < k) : x ∈ gd p k := by
 have : x ∈ gd p (s + 1) := by simp only [gd, h]; exact mem_gput _ _
 exact (gd_mono p hk).subset this
theorem gidx_inj {l : List α} {x y : α} (hx : x ∈ l) (hy : y ∈ l) (h : gidx l x = gidx l y) : x = y := by
 unfold gidx at h
 have h1 := List.getElem_idxOf (List.idxOf_lt_length_of_mem hx)
 have h2 := List.getElem_idxOf (List.idxOf_lt_length_of_mem hy)
 rw [← h1, ← h2]
 congr 1
theorem gL_get {p : List α} {s : Nat} {x : α} (h : p[s]? = some x) : (gL p)[s]? = some (gI p x) := by rw [gL, List.getElem?_map, h]; rfl
theorem gI_eq {p : List α} {s t : Nat} {x y : α} (h1 : p[s]? = some x) (h2 : p[t]? = some y) : gI p x = gI p y ↔ x = y := by
 obtain ⟨a1, _⟩ := List.getElem?_eq_some_iff.1 h1
 obtain ⟨a2, _⟩ := List.getElem?_eq_some_iff.1 h2
 constructor
 ·intro h
  unfold gI at h
  exact gidx_inj (gd_mem h1 a1) (gd_mem h2 a2) (by omega)
 ·rintro rfl; rfl
end
section
variable {α β : Type} [DecidableEq α] [DecidableEq β]
theorem num_congr {p : List α} {q : List β} (hl : p.length = q.length) (h : ∀ (s t : Nat) (x y : α) (u v : β), p[s]? = some x → p[t]? = some y → q[s]? = some u → q[t]? = some v → (x = y ↔ u = v)) : gL p = gL q := by
 have key : ∀ k, k ≤ p.length → (gd p k).length = (gd q k).length ∧ ∀ (s : Nat) (x : α) (u : β), s < k → p[s]? = some x → q[s]? = some u → gidx (gd p k) x = gidx (gd q k) u := by
  intro k
  induction k with
  | zero => exact fun _ => ⟨rfl, fun _ _ _ h => absurd h (by omega)⟩
  | succ k ih =>
    intro hk
    obtain ⟨i1, i2⟩ := ih (by omega)
    have hx : p[k]? = some (p[k]'(by omega)) := List.getElem?_eq_getElem (by omega)
    have hu : q[k]? = some (q[k]'(by omega)) := List.getElem?_eq_getElem (by omega)
    generalize p[k]'(by omega) = x at hx
    generalize q[k]'(by omega) = u at hu
    have e1 : gd p (k + 1) = gput (gd p k) x := by simp only [gd, hx]
    have e2 : gd q (k + 1) = gput (gd q k) u := by simp only [gd, hu]
    have mem_of : ∀ {γ : Type} [DecidableEq γ] (r : List γ) (j : Nat) (z : γ), j ≤ r.length → z ∈ gd r j → ∃ s, s < j ∧ r[s]? = some z := by
     intro γ _ r j
     induction j with
     | zero => intro z _ hz; cases hz
     | succ j ih =>
       intro z hj hz
       have hr : r[j]? = some (r[j]'(by omega)) := List.getElem?_eq_getElem (by omega)
       simp only [gd, hr, gput] at hz
       split at hz
       ·obtain ⟨s, h1, h2⟩ := ih z (by omega) hz
        exact ⟨s, by omega, h2⟩
       ·rcases List.mem_append.1 hz with hz | hz
        ·obtain ⟨s, h1, h2⟩ := ih z (by omega) hz
         exact ⟨s, by omega, h2⟩
        ·rw [List.mem_singleton.1 hz]; exact ⟨j, by omega, hr⟩
    by_cases hm : x ∈ gd p k
    ·obtain ⟨s, hs, hsx⟩ := mem_of p k x (by omega) hm
     have hsu : q[s]? = some (q[s]'(by omega)) := List.getElem?_eq_getElem (by omega)
     have hu2 := (h _ _ _ _ _ _ hsx hx hsu hu).1 rfl
     have hmu : u ∈ gd q k := by rw [← hu2]; exact gd_mem hsu hs
     rw [e1, e2, gput, gput, if_pos hm, if_pos hmu]
     refine ⟨i1, fun t y v ht hy hv => ?_⟩
     by_cases htk : t < k
     ·exact i2 t y v htk hy hv
     ·obtain rfl : t = k := by omega
      rw [hx] at hy; cases hy
      rw [hu] at hv; cases hv
      have := i2 s x _ hs hsx hsu
      rw [this, hu2]
    ·have hmu : u ∉ gd q k := fun hmu => by
       obtain ⟨s, hs, hsu⟩ := mem_of q k u (by omega) hmu
       have hsx : p[s]? = some (p[s]'(by omega)) := List.getElem?_eq_getElem (by omega)
       have hx2 := (h _ _ _ _ _ _ hsx hx hsu hu).2 rfl
       exact hm (by rw [← hx2]; exact gd_mem hsx hs)
     rw [e1, e2, gput, gput, if_neg hm, if_neg hmu]
     refine ⟨by rw [List.length_append, List.length_append, i1]; rfl, fun t y v ht hy hv => ?_⟩
     by_cases htk : t < k
     ·rw [gidx_pre (List.prefix_append _ _) (gd_mem hy htk), gidx_pre (List.prefix_append _ _) (gd_mem hv htk)]
      exact i2 t y v htk hy hv
     ·obtain rfl : t = k := by omega
      rw [hx] at hy; cases hy
      rw [hu] at hv; cases hv
      unfold gidx
      rw [List.idxOf_append, List.idxOf_append, if_neg hm, if_neg hmu, i1]
      simp
 obtain ⟨_, k2⟩ := key p.length (Nat.le_refl _)
 refine List.ext_getElem? fun s => ?_
 by_cases hs : s < p.length
 ·have hx : p[s]? = some (p[s]'hs) := List.getElem?_eq_getElem hs
  have hu : q[s]? = some (q[s]'(by omega)) := List.getElem?_eq_getElem (by omega)
  rw [gL_get hx, gL_get hu]
  have := k2 s _ _ hs hx hu
  unfold gI
  rw [this, hl]
 ·rw [List.getElem?_eq_none (by rw [gL_len]; omega), List.getElem?_eq_none (by rw [gL_len]; omega)]
end
def prR (m : Mach) : Nat → List Int
 | 0 => List.replicate m.rows.length 0
 | k + 1 => refL m (prR m k)
theorem prR_len (m : Mach) : ∀ k, (prR m k).length = m.rows.length
 | 0 => by simp [prR]
 | k + 1 => by rw [prR, refL, gL_len, kapL_len]
theorem runR_consE {m : Mach} {s : Nat} {a : Int} (ha : 0 ≤ a) (w : List Int) : runR m s (a :: w) = (eAt m s a.toNat).2 :: runR m (eAt m s a.toNat).1 w := by
 rw [runR, stepR_eAt ha]
theorem flat2_inj {f g : Nat → List Int} (hf : ∀ j, (f j).length = 2) (hg : ∀ j, (g j).length = 2) : ∀ {L : List Nat}, L.flatMap f = L.flatMap g → ∀ j ∈ L, f j = g j
 | [], _, j, h => by cases h
 | a :: L, h, j, hj => by
   rw [List.flatMap_cons, List.flatMap_cons] at h
   have h1 := List.append_inj h (by rw [hf, hg])
   rcases List.mem_cons.1 hj with rfl | hj
   ·exact h1.1
   ·exact flat2_inj hf hg h1.2 j hj
theorem sgI_eq {m : Mach} {p : List Int} {s t N : Nat} (hN : N ≤ 16) : sgI m p s N = sgI m p t N ↔ ∀ i, i < N → sgE p (eAt m s i) = sgE p (eAt m t i) := by
 constructor
 ·intro h i hi
  have := flat2_inj (sgI_two m p s N) (sgI_two m p t N) h i (List.mem_range.2 (by omega))
  rw [if_pos hi, if_pos hi] at this
  exact this
 ·intro h
  exact flat_congr fun j _ => by
   by_cases hj : j < N
   ·rw [if_pos hj, if_pos hj, h j hj]
   ·rw [if_neg hj, if_neg hj]
theorem alike_next {m : Mach} (hv : Valid m) {p : List Int} {k : Nat} (hp : p.length = m.rows.length) (hP : ∀ (s t : Nat) (x y : Int), p[s]? = some x → p[t]? = some y → (x = y ↔ Alike m k s t)) {s t : Nat} (hs : s < m.rows.length) (ht : t < m.rows.length) :
  Alike m (k + 1) s t ↔ (Alike m k s t ∧ ∀ i, i < m.ins.toNat → sgE p (eAt m s i) = sgE p (eAt m t i)) := by
 have hi0 := hv.ins
 have both : ∀ i, i < m.ins.toNat → (eAt m s i).2 = (eAt m t i).2 → ((eAt m s i).1 = -1 ∧ (eAt m t i).1 = -1) ∨ (∃ a b : Nat, (eAt m s i).1 = a ∧ (eAt m t i).1 = b ∧ a < m.rows.length ∧ b < m.rows.length) := fun i hi ho => by
  obtain ⟨_, _, _, f1⟩ := eAt_fit hv (s := s) (i := i) hs (by omega)
  obtain ⟨_, _, _, f2⟩ := eAt_fit hv (s := t) (i := i) ht (by omega)
  simp only [isNone, Bool.and_eq_true, decide_eq_true_eq] at f1 f2
  rcases f1 with f1 | f1 <;> rcases f2 with f2 | f2
  ·exact .inl ⟨f1.1, f2.1⟩
  ·omega
  ·omega
  ·exact .inr ⟨(eAt m s i).1.toNat, (eAt m t i).1.toNat, by omega, by omega, by omega, by omega⟩
 constructor
 ·intro h
  refine ⟨h.le (by omega), fun i hi => ?_⟩
  have h1 := h [(i : Int)] (fun x hx => by simp at hx; omega) (by simp)
  rw [runR_consE (by omega), runR_consE (by omega), Int.toNat_natCast] at h1
  have ho := (List.cons.inj h1).1
  unfold sgE
  rw [ho]
  congr 2
  rcases both i hi ho with ⟨e1, e2⟩ | ⟨a, b, e1, e2, ha, hb⟩
  ·rw [e1, e2]
  ·rw [e1, e2, if_neg (by omega), if_neg (by omega), Int.toNat_natCast, Int.toNat_natCast]
   have hab : Alike m k a b := fun u hu hul => by
    have := h ((i : Int) :: u) (hu.cons (by omega)) (by simp; omega)
    rw [runR_consE (by omega), runR_consE (by omega), Int.toNat_natCast, e1, e2] at this
    exact (List.cons.inj this).2
   have g1 : p[a]? = some (p[a]'(by omega)) := List.getElem?_eq_getElem (by omega)
   have g2 : p[b]? = some (p[b]'(by omega)) := List.getElem?_eq_getElem (by omega)
   rw [g1, g2, (hP _ _ _ _ g1 g2).2 hab]
 ·rintro ⟨_, h⟩ v hvo hvl
  match v, hvo with
  | [], _ => rfl
  | c :: u, hvo =>
    have hc := hvo.head
    obtain ⟨i, rfl⟩ : ∃ n : Nat, c = (n : Int) := ⟨c.toNat, by omega⟩
    have hi : i < m.ins.toNat := by omega
    have hh := h i hi
    simp only [sgE, List.cons.injEq, and_true] at hh
    rw [runR_consE (by omega), runR_consE (by omega), Int.toNat_natCast, hh.1]
    congr 1
    rcases both i hi hh.1 with ⟨e1, e2⟩ | ⟨a, b, e1, e2, ha, hb⟩
    ·rw [e1, e2]
    ·rw [e1, e2]
     have h2 := hh.2
     rw [e1, e2, if_neg (by omega), if_neg (by omega), Int.toNat_natCast, Int.toNat_natCast] at h2
     have g1 : p[a]? = some (p[a]'(by omega)) := List.getElem?_eq_getElem (by omega)
     have g2 : p[b]? = some (p[b]'(by omega)) := List.getElem?_eq_getElem (by omega)
     rw [g1, g2] at h2
     exact (hP _ _ _ _ g1 g2).1 h2 u hvo.tail (by simp at hvl; omega)
theorem kapL_at {m : Mach} {p : List Int} (hp : p.length = m.rows.length) {s : Nat} {x : List Int} (h : (kapL m p)[s]? = some x) : s < m.rows.length ∧ ∃ b, p[s]? = some b ∧ x = b :: sgI m p s m.ins.toNat := by
 obtain ⟨h1, _⟩ := List.getElem?_eq_some_iff.1 h
 rw [kapL_len] at h1
 have hb : p[s]? = some (p[s]'(by omega)) := List.getElem?_eq_getElem (by omega)
 refine ⟨h1, _, hb, ?_⟩
 rw [kapL_get m h1 hb] at h
 exact (Option.some.inj h).symm
theorem prR_rel {m : Mach} (hv : Valid m) : ∀ (k s t : Nat) (x y : Int), (prR m k)[s]? = some x → (prR m k)[t]? = some y → (x = y ↔ Alike m k s t)
 | 0, s, t, x, y, hx, hy => by
   have e : ∀ {s : Nat} {x : Int}, (prR m 0)[s]? = some x → x = 0 := fun {s x} h => by
    rw [prR, List.getElem?_replicate] at h
    split at h
    ·exact (Option.some.inj h).symm
    ·cases h
   rw [e hx, e hy]
   refine ⟨fun _ v _ hl => ?_, fun _ => rfl⟩
   have : v = [] := List.length_eq_zero_iff.1 (by omega)
   rw [this]; rfl
 | k + 1, s, t, x, y, hx, hy => by
   have hi0 := hv.ins
   have hl := prR_len m k
   have h1 : s < m.rows.length := by rw [← prR_len m (k + 1)]; exact (List.getElem?_eq_some_iff.1 hx).1
   have h2 : t < m.rows.length := by rw [← prR_len m (k + 1)]; exact (List.getElem?_eq_some_iff.1 hy).1
   have g1 : (prR m k)[s]? = some ((prR m k)[s]'(by omega)) := List.getElem?_eq_getElem (by omega)
   have g2 : (prR m k)[t]? = some ((prR m k)[t]'(by omega)) := List.getElem?_eq_getElem (by omega)
   have k1 := kapL_get m h1 g1
   have k2 := kapL_get m h2 g2
   rw [prR, refL, gL_get k1] at hx
   rw [prR, refL, gL_get k2] at hy
   cases hx; cases hy
   rw [gI_eq k1 k2, List.cons.injEq, sgI_eq (by omega), prR_rel hv k s t _ _ g1 g2]
   exact (alike_next hv hl (prR_rel hv k) h1 h2).symm
theorem prR_fix {m : Mach} (hv : Valid m) : refL m (prR m m.rows.length) = prR m m.rows.length := by
 have hr := hv.rows
 have hi0 := hv.ins
 obtain ⟨k, hk⟩ : ∃ k, m.rows.length = k + 1 := ⟨m.rows.length - 1, by omega⟩
 have hall : ∀ j, m.rows.length ≤ j + 1 → ∀ s t, s < m.rows.length → t < m.rows.length → Alike m j s t → Alike m (j + 1) s t := fun j hj s t hs ht h v hvo _ => alike_all hv.w hj hs ht h v hvo
 rw [hk]
 show refL m (prR m (k + 1)) = refL m (prR m k)
 refine num_congr (by rw [kapL_len, kapL_len]) fun s t x y u v hx hy hu hw => ?_
 obtain ⟨s1, b1, c1, rfl⟩ := kapL_at (prR_len m (k + 1)) hx
 obtain ⟨t1, b2, c2, rfl⟩ := kapL_at (prR_len m (k + 1)) hy
 obtain ⟨_, b3, c3, rfl⟩ := kapL_at (prR_len m k) hu
 obtain ⟨_, b4, c4, rfl⟩ := kapL_at (prR_len m k) hw
 rw [List.cons.injEq, List.cons.injEq, sgI_eq (by omega), sgI_eq (by omega), prR_rel hv _ s t _ _ c1 c2, prR_rel hv _ s t _ _ c3 c4, ← alike_next hv (prR_len m (k + 1)) (prR_rel hv (k + 1)) s1 t1, ← alike_next hv (prR_len m k) (prR_rel hv k) s1 t1]
 exact ⟨fun h => h.le (by omega), fun h => hall (k + 1) (by omega) s t s1 t1 h⟩
theorem prR_stay {m : Mach} {k : Nat} (h : refL m (prR m k) = prR m k) : ∀ j, prR m (k + j) = prR m k
 | 0 => rfl
 | j + 1 => by rw [← Nat.add_assoc, prR, prR_stay h j, h]
theorem prR_end {m : Mach} (hv : Valid m) {j : Nat} (hj : m.rows.length ≤ j) : refL m (prR m j) = prR m j := by
 obtain ⟨d, rfl⟩ := Nat.exists_eq_add_of_le hj
 rw [prR_stay (prR_fix hv)]; exact prR_fix hv
theorem prR_all {m : Mach} (hv : Valid m) {k : Nat} (h : refL m (prR m k) = prR m k) {s t : Nat} {x y : Int} (hx : (prR m k)[s]? = some x) (hy : (prR m k)[t]? = some y) : x = y ↔ ∀ v, WOk m.ins.toNat v → runR m s v = runR m t v := by
 constructor
 ·intro e v hvo
  rw [← prR_stay h v.length] at hx hy
  exact (prR_rel hv _ s t _ _ hx hy).1 e v hvo (by omega)
 ·intro h2
  exact (prR_rel hv k s t _ _ hx hy).2 fun v hvo _ => h2 v hvo
def rdsF (m : Mach) : Nat → List Int → List (List Int)
 | 0, p => [p]
 | f + 1, p => p :: if refL m p = p then [] else rdsF m f (refL m p)
theorem equal108_is (na nb : Bool) (a b : List Int) (ca cb : Cp) (hl : a.length < 1000000) :
  PureIs prog 108 [.sl na (a.map intC) ca, .sl nb (b.map intC) cb] (.sc (.bool (decide (a = b)))) := by
 refine PureIs.of1 2 [4, 5, 10, 12, 13, 14, 24] func108 ntmps108 results108 fun _ => ?_
 refine EvC.a ?_
 refine EvC.seq ?_
 refine EvC.a ?_ (by simp only [go_sem, List.length_map] <;> rfl)
 by_cases hlen : a.length = b.length
 rotate_left
 ·have hd : decide ((a.length : Int) = (b.length : Int)) = false := decide_eq_false (by omega)
  have hab : decide (a = b) = false := decide_eq_false fun h => hlen (by rw [h])
  rw [hab]
  refine EvC.ct ?_ (by simp only [go_sem, hd] <;> rfl)
  refine EvC.a ?_
  refine EvC.rz ?_
  simp only [go_sem]
 have hd : decide ((a.length : Int) = (b.length : Int)) = true := decide_eq_true (by omega)
 refine EvC.cs ?_ (by simp only [go_sem, hd] <;> rfl)
 refine EvC.seq ?_
 refine EvC.a ?_ (by simp only [go_sem, List.length_map] <;> rfl)
 refine EvC.block ?_
 refine EvC.loopS (σ := Nat) (fun i => ⟨[(0, .sl na (a.map intC) ca), (1, .sl nb (b.map intC) cb), (12, .sc (.int .i64 a.length)), (13, .sc (.int .i64 i))], [], [], 0⟩) (fun i => a.length - i) (fun i => i ≤ a.length ∧ decide (a = b) = decide (a.drop i = b.drop i)) [0, 1, 12, 13] 0 ?_ ?_
 ·exact ⟨[], 0, rfl, (by simp only [go_sem, Int.natCast_zero] <;> rfl), Nat.zero_le _, rfl⟩
 rintro i ⟨hi, hinv⟩
 refine EvC.a ?_
 refine EvC.seq ?_
 refine EvC.cd (fun hc => ?_) (fun hc => ?_)
 rotate_left
 ·
  refine EvC.exit ?_
  obtain rfl : a.length = i := by have : ¬ i < a.length := by simpa using hc
                                  omega
  have h0 : decide (a = b) = true := by rw [hinv, List.drop_length, hlen, List.drop_length]; rfl
  rw [h0]
  refine EvC.a ?_
  refine EvC.rz ?_
  simp only [go_sem]
 have hil : i < a.length := by simpa using hc
 clear hc
 have he : a[i]? = some (a[i]'hil) := List.getElem?_eq_getElem hil
 have hf : b[i]? = some (b[i]'(by omega)) := List.getElem?_eq_getElem (by omega)
 generalize a[i]'hil = x at he
 generalize b[i]'(by omega) = y at hf
 rw [list_step he, list_step hf] at hinv
 have hin : (i : Int).toNat = i := Int.toNat_natCast i
 refine EvC.skip ?_
 refine EvC.seq ?_
 refine EvC.block ?_
 refine EvC.a ?_
 refine EvC.d mixed ?_ (h := by simp only [go_sem, he, hf, intC, hin, List.length_map] <;> rfl) (hok := by simp; try omega)
 by_cases hxy : x = y
 ·subst hxy
  refine EvC.cs ?_
  refine EvC.bi ?_
  exact ⟨[], i + 1, rfl, (by simp only [go_sem, Int.natCast_add, Int.natCast_one] <;> rfl), ⟨hil, by rw [hinv]; simp⟩, by omega⟩
 ·have d1 : decide (x = y) = false := decide_eq_false hxy
  refine EvC.ct ?_ (by simp only [go_sem, d1] <;> rfl)
  refine EvC.a ?_
  rw [hinv]
  refine EvC.rz ?_
  simp only [go_sem]
  simp [hxy]
theorem rounds_is (m : Mach) : PureIs prog 65 [.ag m.cells] (.fn 106 [.ia m.cells]) := by
 refine PureIs.of1 3 [] func65 ntmps65 results65 fun _ => ?_
 refine EvC.a ?_ (by simp only [go_sem, Mach.cells] <;> rfl)
 refine EvC.z 0 ?_
 refine EvC.a ?_
 refine EvC.rz ?_
 simp only [go_sem, Mach.cells]
def yP (p : List Int) : List AV := [.sl false (p.map intC) .unk]
theorem rdsF_head (m : Mach) (f : Nat) (p : List Int) : ∃ t, rdsF m f p = p :: t := by
 cases f with
 | zero => exact ⟨_, rfl⟩
 | succ f => exact ⟨_, rfl⟩
theorem rounds1_seq {m : Mach} (hv : Valid m) : SeqIs prog 106 [.ia m.cells] ((rdsF m 64 (prR m 0)).map yP) := by
 obtain ⟨X, hX⟩ : ∃ X, X = rdsF m 64 (prR m 0) := ⟨_, rfl⟩
 rw [← hX]
 have hXl : (X.map yP).length = X.length := List.length_map _
 refine SeqIs.of (nv := 2) (hid := [3, 4, 11, 17]) func106 rfl (by kernel_rfl) (by simp [ntmps106]) (by rw [results106]) fun lp J h0 hJ hy => ?_
 rw [ntmps106]
 have hr := hv.rows
 have hi0 := hv.ins
 obtain ⟨n, hn⟩ : ∃ n, n = m.rows.length := ⟨_, rfl⟩
 have hno : ∀ l : List Int, (l.map intC).all AV.norefs = true := fun l => by simp [List.all_eq_true, intC, AV.norefs, AV.noref]
 have hnn : ((n : Nat) : Int).toNat = n := Int.toNat_natCast n
 have hz : List.replicate n [AV.sc (.int .i64 0)] = (prR m 0).map intC := by simp [prR, intC, hn]
 have hpl : ∀ k, ((prR m k).map intC).length = n := fun k => by rw [List.length_map, prR_len, hn]
 refine EvY.seqL hJ (EvC.rg (by simp only [go_sem, Mach.cells, List.length_map, ← hn, hnn] <;> rfl) (by simp [room_eq]; omega) ?_)
 rw [hz]
 refine EvY.frz hJ 3 (by simp only [go_sem, hpl, hno] <;> rfl) ?_
 refine EvY.block ?_
 refine EvY.loopS hJ (σ := Nat) (fun k => ⟨[(0, .sc (yv lp)), (1, .ia m.cells), (3, .sl false ((prR m k).map intC) .unk)], [], [], 0⟩) (fun k => k) (fun k => 64 - k) (fun k => k ≤ 64 ∧ ∃ pre, X = pre ++ rdsF m (64 - k) (prR m k) ∧ pre.length = k) [0, 1, 3] 0 ?_ ?_
 ·refine ⟨[], 0, rfl, (by simp only [go_sem, Mach.cells] <;> rfl), ⟨Nat.zero_le _, [], hX, rfl⟩, rfl⟩
 rintro k ⟨hk, pre, hpre, hpk⟩
 obtain ⟨t, ht⟩ := rdsF_head m (64 - k) (prR m k)
 have hlt : k < (X.map yP).length := by rw [hXl, hpre, ht, List.length_append, List.length_cons]; omega
 have hget : (X.map yP)[k] = yP (prR m k) := by
  rw [List.getElem_map]
  congr 1
  simp only [hpre, ht]
  rw [List.getElem_append_right (by omega)]
  simp [hpk]
 refine EvY.seq ?_
 refine EvY.seq (EvY.region ?_)
 refine XRY.run hJ (by simp only [go_sem] <;> rfl) (by simp) ?_
 refine XRY.yield hlt hy rfl rfl (by simp only [go_sem] <;> rfl) (by simp only [go_sem] <;> rfl) (by rw [hget]; simp only [go_sem, yP] <;> rfl) (by rw [hget]; simp only [go_sem, yP]) fun b => ?_
 refine XRY.done hJ (by simp only [go_sem] <;> rfl) rfl ?_
 refine EvY.cond (by simp only [go_sem] <;> rfl) (fun hb => ?_) (fun hb => ?_)
 rotate_left
 ·have hb : b = false := by simpa using hb
  subst hb
  exact EvY.exit ⟨.inr rfl, .inr rfl⟩
 have hb : b = true := by simpa using hb
 subst hb
 have hrf := refined_is hv (prR_len m k) false .unk
 rw [Mach.cells] at hrf
 have hlq := prR_len m (k + 1)
 have heq := equal108_is false false (prR m k) (refL m (prR m k)) .unk .unk (by rw [prR_len]; omega)
 refine EvY.skip ?_
 refine EvY.block ?_
 refine EvY.seqL hJ ?_
 intro _
 refine EvC.k1L ?_ (h1 := by simp only [go_sem, Mach.cells] <;> rfl) (c1 := .ca hrf)
 refine EvY.seq ?_
 refine EvY.seqL hJ ?_
 intro _
 refine EvC.k1L ?_ (c1 := .ca heq)
 refine EvY.cond (by simp only [go_sem] <;> rfl) (fun hb => ?_) (fun hb => ?_)
 ·have hb : prR m k = refL m (prR m k) := by simpa using hb
  refine EvY.ret ⟨.inl rfl, .inl ?_⟩
  have hone : rdsF m (64 - k) (prR m k) = [prR m k] := by
   cases 64 - k with
   | zero => rfl
   | succ f => simp only [rdsF]; rw [if_pos hb.symm]
  rw [hXl, hpre, hone, List.length_append, hpk]; rfl
 have hb : ¬ prR m k = refL m (prR m k) := by simpa using hb
 have hk64 : k < 64 := by
  apply Classical.byContradiction
  intro h
  exact hb (prR_end hv (j := k) (by omega)).symm
 have hstep : rdsF m (64 - k) (prR m k) = prR m k :: rdsF m (64 - (k + 1)) (prR m (k + 1)) := by
  rw [show 64 - k = (64 - (k + 1)) + 1 by omega, rdsF, if_neg (fun h => hb h.symm)]; rfl
 have hqn : (refL m (prR m k)) = prR m (k + 1) := rfl
 refine EvY.skip ?_
 refine EvY.lift hJ (EvC.rg (by simp only [go_sem] <;> rfl) (by simp) ?_)
 refine ⟨[], k + 1, rfl, (by simp only [go_sem, hqn, Mach.cells] <;> rfl), ⟨by omega, pre ++ [prR m k], ?_, ?_⟩, rfl, by omega⟩
 ·rw [hpre, hstep, List.append_assoc]; rfl
 ·rw [List.length_append, hpk]; rfl
theorem rdsF_at (m : Mach) (hv : Valid m) : ∀ f k, m.rows.length ≤ f + k → ∃ j, (rdsF m f (prR m k)).length = j + 1 ∧ (rdsF m f (prR m k))[j]? = some (prR m (k + j)) ∧ refL m (prR m (k + j)) = prR m (k + j) ∧ j ≤ f
 | 0, k, h => ⟨0, rfl, rfl, prR_end hv (by omega), Nat.le_refl _⟩
 | f + 1, k, h => by
   simp only [rdsF]
   by_cases he : refL m (prR m k) = prR m k
   ·rw [if_pos he]
    exact ⟨0, rfl, rfl, he, Nat.zero_le _⟩
   ·rw [if_neg he]
    obtain ⟨j, h1, h2, h3, h4⟩ := rdsF_at m hv f (k + 1) (by omega)
    have e : k + 1 + j = k + (j + 1) := by omega
    rw [e] at h2 h3
    exact ⟨j + 1, by rw [List.length_cons]; exact congrArg (· + 1) h1, by rw [List.getElem?_cons_succ]; exact h2, h3, by omega⟩
theorem classes_is {m : Mach} (hv : Valid m) : ∃ k, refL m (prR m k) = prR m k ∧ PureIs prog 31 [.ag m.cells] (.tu [.sl false ((prR m k).map intC) .unk, .sc (.int .i64 k), .sc (.int .i64 0)]) := by
 have hr := hv.rows
 obtain ⟨k, h1, h2, h3, h4⟩ := rdsF_at m hv 64 0 (by omega)
 rw [Nat.zero_add] at h2 h3
 refine ⟨k, h3, ?_⟩
 have hsq := rounds1_seq hv
 obtain ⟨X, hX⟩ : ∃ X, X = rdsF m 64 (prR m 0) := ⟨_, rfl⟩
 rw [← hX] at h1 h2 hsq
 have hck := check_is m hv.small
 rw [checkM_of hv] at hck
 have hrd := rounds_is m
 clear hX
 refine PureIs.of1 7 [10, 13, 14] func31 ntmps31 results31 fun _ => ?_
 refine EvC.a ?_ (by simp only [go_sem, Mach.cells] <;> rfl)
 refine EvC.seq ?_
 refine EvC.k1 ?_ (h1 := by simp only [go_sem, Mach.cells] <;> rfl) (c1 := .ca hck)
 refine EvC.a ?_
 refine EvC.cd (fun hc => ?_) (fun hc => ?_)
 ·exact absurd hc (by simp)
 refine EvC.skip ?_
 refine EvC.a ?_
 refine EvC.seq ?_
 refine EvC.k1 ?_ (h1 := by simp only [go_sem, Mach.cells] <;> rfl) (c1 := .ca hrd)
 refine EvC.block ?_
 refine EvC.gcTo ⟨[(2, .rf 0 0), (3, .rf 1 0), (13, .fn 106 [.ia m.cells])], [], [(0, .cells [.sl true [] .zer]), (1, .cells [.sc (.int .i64 (-1))])], 2⟩ [2, 3, 13] [(1, 0), (2, 1)] (by rfl) (by simp only [go_sem, Mach.cells] <;> rfl) ?_
 refine EvC.range (σ := Bool × List Int × Cp) (gf := 106) (caps := [.ia m.cells]) (xs := X.map yP) rfl (fun _ => rfl) (by simp only [go_sem] <;> rfl) rfl hsq ?_ (by simp) (Nat.zero_le _)
  (fun j s => [(0, .cells [.sl s.1 (s.2.1.map intC) s.2.2]), (1, .cells [.sc (.int .i64 ((j : Int) - 1))])])
  (fun j s => ∀ i, j = i + 1 → ∃ x, X[i]? = some x ∧ s = (false, x, .unk)) ⟨(true, [], .zer), rfl, fun i h => by omega⟩ ?_ ?_
 ·intro x hx
  obtain ⟨z, _, rfl⟩ := List.mem_map.1 hx
  rfl
 ·rintro j ⟨nl, q, c⟩ lp hj hinv
  have hj' : j < X.length := by simpa using hj
  have hz : (X.map yP)[j] = yP X[j] := by simp
  have hget : X[j]? = some X[j] := List.getElem?_eq_getElem hj'
  rw [hz]
  generalize X[j] = x at hget
  refine EvC.rg (by simp only [go_sem, yP] <;> rfl) (by simp) ⟨rfl, ?_⟩
  refine EvC.block ?_
  refine EvC.a ?_
  refine EvC.b ?_ (hok := by simp; exact inI64_of (by omega) (by omega))
  have e : (j : Int) - 1 + 1 = ((j + 1 : Nat) : Int) - 1 := by omega
  exact ⟨[(0, 0), (1, 1)], (false, x, .unk), rfl, (by simp only [go_sem, e] <;> rfl), fun i hi => ⟨x, by rw [show i = j by omega]; exact hget, rfl⟩⟩
 ·rintro ⟨nl, q, c⟩ hinv
  rw [List.length_map] at hinv ⊢
  obtain ⟨x, hx, he⟩ := hinv k h1
  cases he
  rw [h2] at hx
  cases hx
  have e : (X.length : Int) - 1 = (k : Int) := by omega
  rw [e]
  refine EvC.d mixed ?_
  refine EvC.rz ?_
  simp only [go_sem]
theorem sorted_is (l : List Int) (nl : Bool) (c : Cp) (h0 : l.length ≠ 0) (hl : l.length < 1000000) : PureIs prog 129 [.fn 156 [.ia [.sl nl (l.map intC) c]]] (.sl false ((sorted l).map intC) .unk) := by
 have hcl := collect_new l nl c h0 hl
 have hlm : (l.map intC).length = l.length := List.length_map _
 have hno : ∀ l : List Int, (l.map intC).all AV.norefs = true := fun l => by simp [List.all_eq_true, intC, AV.norefs, AV.noref]
 refine PureIs.of1 1 [2, 3] func129 ntmps129 results129 fun _ => ?_
 refine EvC.a ?_
 apply EvC.seq
 apply EvC.tr
 ·apply Tr.run
  ·simp only [go_sem] <;> rfl
  ·simp
  apply Tr.cons
  ·exact .callN rfl rfl (by simp only [go_sem] <;> rfl) (by simp only [go_sem] <;> rfl) (by simp only [go_sem] <;> rfl) (by simp only [go_sem] <;> rfl) (by simp only [go_sem] <;> rfl) hcl
  apply Tr.done
  ·simp only [go_sem] <;> rfl
  ·simp
 refine EvC.gcTo ⟨[(3, .tl 0 l.length false)], [], [(0, .arr 1 (l.map intC) false)], 1⟩ [3] [(2, 0)] (by rfl) (by simp only [go_sem] <;> rfl) ?_
 refine EvC.seq ?_
 have hst := sort_to (i := 0) (nx := 2) h0 hl
 refine EvC.rt 1 (by simp only [go_sem] <;> rfl) (by simp) ?_
 apply XR.callT (.inl rfl) rfl
 ·simp only [go_sem] <;> rfl
 ·simp only [go_sem] <;> rfl
 ·exact hst
 apply XR.done
 ·simp only [go_sem] <;> rfl
 ·rfl
 have hsl : ((sorted l).map intC).length = l.length := by rw [List.length_map, sorted_len]
 have hS : ∀ x, AV.sl false ((sorted l).map intC) .full = x → True := fun _ _ => trivial
 refine EvC.frz 0 (by simp only [go_sem, hsl, hno] <;> rfl) ?_
 refine EvC.a ?_ (by simp only [go_sem, hsl] <;> rfl)
 refine EvC.rz ?_
 simp only [go_sem]
theorem reach_is {m : Mach} (hv : Valid m) : PureIs prog 81 [.ag m.cells] (.tu [.sl false ((sorted (reachA m)).map intC) .full, .sc (.int .i64 0)]) := by
 have hck := check_is m hv.small
 rw [checkM_of hv] at hck
 have h1 := reached_is hv
 have hlen := reachA_len hv
 have hpos := reachA_pos m
 have hr := hv.rows
 generalize reachA m = A at h1 hlen hpos ⊢
 have h2 := values_is false A .unk
 have h3 := sorted_is A false .unk (by omega) (by omega)
 have h4 := clipI_is false ((sorted A).map intC) .unk (intC_len _)
 have hM : m.cells = [.sc (.int .i64 m.ins), .sc (.int .i64 m.outs), .sl m.nl (m.rows.map rowC) .unk] := rfl
 rw [hM] at hck h1 ⊢
 refine PureIs.of1 5 [8] func81 ntmps81 results81 fun _ => ?_
 refine EvC.a ?_
 refine EvC.z 0 ?_
 refine EvC.seq ?_
 refine EvC.k1 ?_ (c1 := .ca hck)
 refine EvC.a ?_
 refine EvC.cs ?_
 apply EvC.s1
 ·apply Tr.run
  ·simp only [go_sem] <;> rfl
  ·simp
  apply Tr.cons
  ·exact .ca (h1)
  apply Tr.run
  ·simp only [go_sem] <;> rfl
  ·simp
  apply Tr.cons
  ·exact .ca (h2)
  apply Tr.run
  ·simp only [go_sem] <;> rfl
  ·simp
  apply Tr.cons
  ·exact .ca (h3)
  apply Tr.run
  ·simp only [go_sem] <;> rfl
  ·simp
  apply Tr.cons
  ·exact .ca (h4)
  apply Tr.done
  ·simp only [go_sem] <;> rfl
  ·simp
 refine EvC.rz ?_
 simp only [go_sem]
theorem dput_nodup {L : List Int} {x : Int} (h : L.Nodup) : (dput L x).Nodup := by
 unfold dput; split
 ·exact h
 ·rename_i hx
  rw [List.nodup_append]
  exact ⟨h, by simp, fun a ha b hb => by simp at hb; subst hb; exact fun e => hx (e ▸ ha)⟩
theorem dd_nodup (p : List Int) : ∀ k, (dd p k).Nodup
 | 0 => List.nodup_nil
 | k + 1 => by
   have ih := dd_nodup p k
   simp only [dd]; split
   ·exact ih
   ·exact dput_nodup ih
theorem dd_mem {p : List Int} {s : Nat} {x : Int} (h : p[s]? = some x) : x ∈ dd p p.length := by
 obtain ⟨hs, _⟩ := List.getElem?_eq_some_iff.1 h
 refine (dd_mono p (show s + 1 ≤ p.length by omega)).subset ?_
 simp only [dd, h]; exact mem_dput _ _
theorem ofI_lt {p : List Int} {s : Nat} {x : Int} (h : p[s]? = some x) : 0 ≤ ofI p x ∧ ofI p x < (dd p p.length).length := by
 have := List.idxOf_lt_length_of_mem (dd_mem h)
 unfold ofI; omega
theorem pls_at (p : List Int) : ∀ k, k ≤ p.length → ∀ (j : Nat) (s : Int), (pls p k)[j]? = some s → p[s.toNat]? = (dd p k)[j]?
 | 0, _, j, s, h => by simp [pls] at h
 | k + 1, hk, j, s, h => by
   have ih := pls_at p k (by omega)
   have he : p[k]? = some p[k] := List.getElem?_eq_getElem (by omega)
   have hl := pls_len p k
   simp only [pls, dd, he, dput] at h ⊢
   by_cases hm : p[k] ∈ dd p k
   ·rw [if_pos hm] at h ⊢; exact ih j s h
   ·rw [if_neg hm] at h ⊢
    rcases Nat.lt_or_ge j (pls p k).length with hj | hj
    ·rw [List.getElem?_append_left hj] at h
     rw [List.getElem?_append_left (by omega)]
     exact ih j s h
    ·rw [List.getElem?_append_right hj] at h
     rw [List.getElem?_append_right (by omega)]
     have e : j - (pls p k).length = 0 := by
      rcases Nat.eq_zero_or_pos (j - (pls p k).length) with e | e
      ·exact e
      ·rw [List.getElem?_eq_none (by simp; omega)] at h; cases h
     rw [e] at h
     rw [← hl, e]
     simp at h
     subst h
     simpa using he
theorem ofI_pls {p : List Int} {j : Nat} {s x : Int} (hj : (pls p p.length)[j]? = some s) (hx : p[s.toNat]? = some x) : ofI p x = j := by
 have h := pls_at p _ (Nat.le_refl _) j s hj
 rw [hx] at h
 have hm := dd_mem hx
 have hl := List.idxOf_lt_length_of_mem hm
 obtain ⟨h1, h2⟩ := List.getElem?_eq_some_iff.1 h.symm
 have := (List.getElem_inj (dd_nodup p p.length)).1 ((List.getElem_idxOf hl).trans h2.symm)
 unfold ofI; omega
theorem ofL_at {p : List Int} {s : Nat} {x : Int} (h : p[s]? = some x) : (ofL p)[s]? = some (ofI p x) := by rw [ofL, List.getElem?_map, h]; rfl
theorem pls_of {p : List Int} {s : Nat} {x : Int} (h : p[s]? = some x) : ∃ t : Int, (pls p p.length)[(ofI p x).toNat]? = some t ∧ 0 ≤ t ∧ t < p.length ∧ p[t.toNat]? = some x := by
 have hlt := ofI_lt h
 have hl := pls_len p p.length
 have hg : (pls p p.length)[(ofI p x).toNat]? = some ((pls p p.length)[(ofI p x).toNat]'(by omega)) := List.getElem?_eq_getElem _
 have hin := pls_in p _ (Nat.le_refl _) _ (List.mem_of_getElem? hg)
 refine ⟨_, hg, hin.1, hin.2, ?_⟩
 rw [pls_at p _ (Nat.le_refl _) _ _ hg]
 have hm := dd_mem h
 have hi := List.idxOf_lt_length_of_mem hm
 have e : (ofI p x).toNat = (dd p p.length).idxOf x := by unfold ofI; omega
 rw [e, List.getElem?_eq_getElem hi, List.getElem_idxOf hi]
theorem mergeM_len (m : Mach) (p : List Int) : (mergeM m p).rows.length = (dd p p.length).length := by simp [mergeM, pls_len]
theorem mergeM_flag (m : Mach) (p : List Int) : ∀ r ∈ (mergeM m p).rows, r.1 = false := fun r hr => by
 obtain ⟨s, _, rfl⟩ := List.mem_map.1 hr; rfl
theorem mergeM_eAt {m : Mach} {p : List Int} {j i : Nat} {s : Int} (hj : (pls p p.length)[j]? = some s) (hi : i < m.ins.toNat) : eAt (mergeM m p) j i = mEdge p (eAt m s.toNat i) := by
 refine eAt_get (r := (false, mRow m p s)) ?_ ?_
 ·simp only [mergeM, List.getElem?_map, hj, Option.map_some]
 ·simp only [mRow, List.getElem?_map, List.getElem?_range hi, Option.map_some]
theorem mergeM_valid {m : Mach} (hv : Valid m) {p : List Int} (hp : p.length = m.rows.length) : Valid (mergeM m p) := by
 have hr := hv.rows
 have hi := hv.ins
 have h1 := dd_len p p.length
 have h2 := dd_pos p (by omega)
 refine ⟨hi, hv.outs, by rw [mergeM_len]; omega, fun r hr => ?_⟩
 rw [mergeM_len]
 obtain ⟨s, hs, rfl⟩ := List.mem_map.1 hr
 have hin := pls_in p _ (Nat.le_refl _) s hs
 refine ⟨by simp [mRow, mergeM]; omega, fun e he => ?_⟩
 simp only [mRow, List.mem_map, List.mem_range] at he
 obtain ⟨i, hi, rfl⟩ := he
 obtain ⟨_, _, _, f⟩ := eAt_fit hv (s := s.toNat) (i := i) (by omega) (by omega)
 unfold mEdge
 by_cases h0 : (eAt m s.toNat i).1 = -1
 ·rw [if_pos h0]
  rcases f with f | f
  ·simp only [isNone, Bool.and_eq_true, decide_eq_true_eq] at f
   unfold fitsR
   simp [f.1, f.2]
  ·omega
 ·rw [if_neg h0]
  rcases f with f | f
  ·simp only [isNone, Bool.and_eq_true, decide_eq_true_eq] at f
   exact absurd f.1 h0
  ·have hg : p[(eAt m s.toNat i).1.toNat]? = some (p[(eAt m s.toNat i).1.toNat]'(by omega)) := List.getElem?_eq_getElem _
   rw [ofL_at hg, Option.getD_some]
   have := ofI_lt hg
   have e2 : (mergeM m p).outs = m.outs := rfl
   unfold fitsR
   rw [e2]
   simp; omega
theorem mergeM_run {m : Mach} (hv : Valid m) {k : Nat} (hf : refL m (prR m k) = prR m k) : ∀ (w : List Int) (s : Nat) (x : Int), (prR m k)[s]? = some x → WOk m.ins.toNat w →
  runR (mergeM m (prR m k)) (ofI (prR m k) x) w = runR m s w
 | [], _, _, _, _ => rfl
 | a :: w, s, x, hx, hw => by
   have hp := prR_len m k
   obtain ⟨t, ht, t0, tl, hxt⟩ := pls_of hx
   have hall := (prR_all hv hf hx hxt).1 rfl (a :: w) hw
   have ha := hw a List.mem_cons_self
   have hww : WOk m.ins.toNat w := fun y hy => hw y (List.mem_cons_of_mem _ hy)
   have hc := (ofI_lt hx).1
   have e1 : ofI (prR m k) x = ((ofI (prR m k) x).toNat : Nat) := by omega
   have ha1 : a.toNat < m.ins.toNat := by omega
   rw [hall, runR_consE ha.1, e1, runR_consE ha.1, mergeM_eAt ht ha1]
   obtain ⟨_, _, _, f⟩ := eAt_fit hv (s := t.toNat) (i := a.toNat) (by omega) (by omega)
   unfold mEdge
   by_cases h0 : (eAt m t.toNat a.toNat).1 = -1
   ·rw [if_pos h0, h0, runR_neg w (by decide), runR_neg w (by decide)]
   ·rw [if_neg h0]
    rcases f with f | f
    ·simp only [isNone, Bool.and_eq_true, decide_eq_true_eq] at f
     exact absurd f.1 h0
    ·have hg : (prR m k)[(eAt m t.toNat a.toNat).1.toNat]? = some ((prR m k)[(eAt m t.toNat a.toNat).1.toNat]'(by omega)) := List.getElem?_eq_getElem _
     rw [ofL_at hg, Option.getD_some]
     have ih := mergeM_run hv hf w _ _ hg hww
     rw [ih, show (((eAt m t.toNat a.toNat).1.toNat : Nat) : Int) = (eAt m t.toNat a.toNat).1 by omega]
structure Red (m q : Mach) : Prop where
 v : Valid q
 ins : q.ins = m.ins
 outs : q.outs = m.outs
 run : ∀ w, WOk m.ins.toNat w → runR q 0 w = runR m 0 w
 inj : ∀ s t : Int, 0 ≤ s → s < q.rows.length → 0 ≤ t → t < q.rows.length → (∀ w, WOk m.ins.toNat w → runR q s w = runR q t w) → s = t
 len : q.rows.length ≤ m.rows.length
theorem mergeM_red {m : Mach} (hv : Valid m) {k : Nat} (hf : refL m (prR m k) = prR m k) : Red m (mergeM m (prR m k)) := by
 have hr := hv.rows
 have hp := prR_len m k
 have h1 := dd_len (prR m k) (prR m k).length
 have hl := pls_len (prR m k) (prR m k).length
 refine ⟨mergeM_valid hv hp, rfl, rfl, fun w hw => ?_, fun s t s0 s1 t0 t1 h => ?_, by rw [mergeM_len]; omega⟩
 ·have hg : (prR m k)[0]? = some ((prR m k)[0]'(by omega)) := List.getElem?_eq_getElem _
  have := mergeM_run hv hf w 0 _ hg hw
  have e : ofI (prR m k) ((prR m k)[0]'(by omega)) = 0 := by
   rw [ofI_at hg]
   simp [dd, hg, dput]
  rw [e] at this
  exact this
 ·rw [mergeM_len] at s1 t1
  have at' : ∀ s : Int, 0 ≤ s → s < (dd (prR m k) (prR m k).length).length → ∃ (u : Nat) (x : Int), (prR m k)[u]? = some x ∧ ofI (prR m k) x = s := fun s s0 s1 => by
   have hg : (pls (prR m k) (prR m k).length)[s.toNat]? = some ((pls (prR m k) (prR m k).length)[s.toNat]'(by omega)) := List.getElem?_eq_getElem _
   have hin := pls_in _ _ (Nat.le_refl _) _ (List.mem_of_getElem? hg)
   generalize (pls (prR m k) (prR m k).length)[s.toNat]'(by omega) = u at hg hin
   have hx : (prR m k)[u.toNat]? = some ((prR m k)[u.toNat]'(by omega)) := List.getElem?_eq_getElem _
   have := ofI_pls hg hx
   exact ⟨u.toNat, _, hx, by omega⟩
  obtain ⟨u, x, hx, rfl⟩ := at' s s0 s1
  obtain ⟨v, y, hy, rfl⟩ := at' t t0 t1
  have := (prR_all hv hf hx hy).2 fun w hw => by
   have := h w hw
   rw [mergeM_run hv hf w _ _ hx hw, mergeM_run hv hf w _ _ hy hw] at this
   exact this
  rw [this]
def oAt (f g S : List Int) (n : Nat) : Nat → List Int
 | 0 => List.replicate n (-1)
 | i + 1 => (oAt f g S n i).set ((S[i]?).getD 0).toNat ((g[((f[((S[i]?).getD 0).toNat]?).getD 0).toNat]?).getD 0)
theorem oAt_len (f g S : List Int) (n : Nat) : ∀ i, (oAt f g S n i).length = n
 | 0 => by simp [oAt]
 | i + 1 => by simp [oAt, oAt_len f g S n i]
theorem ofL_in {p : List Int} : ∀ x ∈ ofL p, 0 ≤ x ∧ x < (dd p p.length).length := fun x hx => by
 obtain ⟨y, hy, rfl⟩ := List.mem_map.1 hx
 obtain ⟨s, hs⟩ := List.getElem?_of_mem hy
 exact ofI_lt hs
set_option maxHeartbeats 4000000 in
theorem form_is {m : Mach} (hv : Valid m) (hfl : ∀ r ∈ m.rows, r.1 = false) : ∃ (q : Mach) (L : List Int), Red m q ∧ (∀ r ∈ q.rows, r.1 = false) ∧ PureIs prog 37 [.ag m.cells] (.tu [.ag (canM q).cells, .sl false (L.map intC) .full, .sc (.int .i64 0)]) := by
 obtain ⟨k, hfx, h1⟩ := classes_is hv
 have hp := prR_len m k
 have hred := mergeM_red hv hfx
 refine ⟨mergeM m (prR m k), oAt (ofL (prR m k)) (isoL (mergeM m (prR m k))) (sorted (reachA m)) m.rows.length (sorted (reachA m)).length, hred, mergeM_flag _ _, ?_⟩
 have h2 := merged_is hv hfl hp false .unk
 have hq := hred.v
 have h3 := canonical_is hq
 have h4 := isomorphic_is hq
 have h5 := repeat_new (-1) (N := m.rows.length) hv.rows
 have h6 := reach_is hv
 have hr := hv.rows
 have hol : (ofL (prR m k)).length = m.rows.length := by simp [ofL, hp]
 have hoi : ∀ x ∈ ofL (prR m k), 0 ≤ x ∧ x < (mergeM m (prR m k)).rows.length := fun x hx => by rw [mergeM_len]; exact ofL_in x hx
 have hil := isoL_len (mergeM m (prR m k))
 have hin : ∀ s ∈ sorted (reachA m), 0 ≤ s ∧ s < m.rows.length := fun s hs => reachA_in hv s ((sorted_mem _ s).1 hs)
 have hsl := sorted_len (reachA m)
 have hrl := reachA_len hv
 rw [← hsl] at hrl
 clear hsl
 clear hred hfx hq
 generalize isoL (mergeM m (prR m k)) = g at h4 hil ⊢
 generalize canM (mergeM m (prR m k)) = c at h3 h4 ⊢
 generalize ofL (prR m k) = f at h2 hol hoi ⊢
 generalize mergeM m (prR m k) = q at h2 h3 h4 hoi hil ⊢
 generalize prR m k = pp at h1 h2 hp ⊢
 generalize sorted (reachA m) = A at h6 hin hrl ⊢
 obtain ⟨n, hn⟩ : ∃ n, n = m.rows.length := ⟨_, rfl⟩
 rw [← hn] at h5 hr hol hin hrl ⊢
 have hM : m.cells = [.sc (.int .i64 m.ins), .sc (.int .i64 m.outs), .sl m.nl (m.rows.map rowC) .unk] := rfl
 have hC : c.cells = [.sc (.int .i64 c.ins), .sc (.int .i64 c.outs), .sl c.nl (c.rows.map rowC) .unk] := rfl
 have hQ : q.cells = [.sc (.int .i64 q.ins), .sc (.int .i64 q.outs), .sl q.nl (q.rows.map rowC) .unk] := rfl
 have hmr : (m.rows.map rowC).length = n := by rw [List.length_map, hn]
 rw [hM] at h1 h2 h6 ⊢
 rw [hC] at h3 h4 ⊢
 rw [hQ] at h2 h3 h4
 simp only [intC] at h5
 clear hfl hv hM hC hQ
 refine PureIs.of1 6 [7, 8, 9, 10, 11, 13, 14, 16, 24, 39, 50, 63, 64, 65, 66] func37 ntmps37 results37 fun _ => ?_
 refine EvC.a ?_
 refine EvC.z 0 ?_
 refine EvC.k1 ?_ (c1 := .ca h1)
 refine EvC.seq ?_
 refine EvC.a ?_
 refine EvC.cs ?_
 refine EvC.k1 ?_ (c1 := .ca h2)
 refine EvC.k1 ?_ (c1 := .ca h3)
 refine EvC.seq ?_
 refine EvC.a ?_
 refine EvC.cs ?_
 refine EvC.k1 ?_ (c1 := .ca h4)
 refine EvC.seq ?_
 refine EvC.a ?_
 refine EvC.cs ?_
 refine EvC.gcTo ⟨[(1, .ia [.sc (.int .i64 m.ins), .sc (.int .i64 m.outs), .sl m.nl (m.rows.map rowC) .unk]), (2, .rf 0 0), (9, .sl false (f.map intC) .unk), (10, .rf 1 0), (11, .sl false (g.map intC) .full)], [],
  [(0, .cells [.sc (.int .i64 0), .sc (.int .i64 0), .sl true [] .zer]), (1, .cells [.sc (.int .i64 c.ins), .sc (.int .i64 c.outs), .sl c.nl (c.rows.map rowC) .unk])], 2⟩ [1, 2, 9, 10, 11] [(1, 0), (29, 1)] (by rfl) (by simp only [go_sem] <;> rfl) ?_
 apply EvC.seq
 apply EvC.tr
 ·apply Tr.run
  ·simp only [go_sem, List.length_map, ← hn] <;> rfl
  ·simp
  apply Tr.cons
  ·exact .callN rfl rfl (by simp only [go_sem] <;> rfl) (by simp only [go_sem] <;> rfl) (by simp only [go_sem] <;> rfl) (by simp only [go_sem] <;> rfl) (by simp only [go_sem] <;> rfl) h5
  apply Tr.done
  ·simp only [go_sem] <;> rfl
  ·simp
 refine EvC.k1 ?_ (c1 := .ca h6)
 refine EvC.seq ?_
 refine EvC.a ?_ (by simp only [go_sem, List.length_map] <;> rfl)
 refine EvC.block ?_
 have hz : List.replicate n [AV.sc (.int .i64 (-1))] = (oAt f g A n 0).map intC := by simp [oAt, intC]
 have hw0 : ((oAt f g A n 0).map intC).length = n := by rw [List.length_map, oAt_len]
 have hno : ∀ l : List Int, (l.map intC).all AV.norefs = true := fun l => by simp [List.all_eq_true, intC, AV.norefs, AV.noref]
 rw [hz]
 refine EvC.loopS (σ := Nat) (fun i => ⟨[(2, .rf 0 0), (7, .sc (.int .i64 0)), (9, .sl false (f.map intC) .unk), (10, .rf 1 0), (11, .sl false (g.map intC) .full), (13, .tl 2 n false), (63, .sl false (A.map intC) .full), (64, .sc (.int .i64 A.length)), (65, .sc (.int .i64 i))], [],
  [(0, .cells [.sc (.int .i64 0), .sc (.int .i64 0), .sl true [] .zer]), (1, .cells [.sc (.int .i64 c.ins), .sc (.int .i64 c.outs), .sl c.nl (c.rows.map rowC) .unk]), (2, .arr 1 ((oAt f g A n i).map intC) false)], 3⟩) (fun i => A.length - i) (fun i => i ≤ A.length) [2, 7, 9, 10, 11, 13, 63, 64, 65] 3 ?_ ?_
 ·refine ⟨[(0, 0), (1, 1), (6, 2)], 0, rfl, (by simp only [go_sem, hw0, oAt_len, hno, List.length_map, Int.natCast_zero] <;> rfl), Nat.zero_le _⟩
 rintro i hi
 have hwl := oAt_len f g A n i
 refine EvC.a ?_
 refine EvC.seq ?_
 refine EvC.cd (fun hc => ?_) (fun hc => ?_)
 rotate_left
 ·
  refine EvC.exit ?_
  obtain rfl : i = A.length := by have : ¬ i < A.length := by simpa using hc
                                  omega
  have hcl := clipI_is false ((oAt f g A n A.length).map intC) .unk (intC_len _)
  refine EvC.frz 2 (by simp only [go_sem, hno, hwl, List.length_map] <;> rfl) ?_
  refine EvC.gc [2, 7, 10, 13] [(0, 0), (1, 1)] 2 rfl ?_
  refine EvC.k1D mixed ?_ (c1 := .ca hcl)
  refine EvC.ret ⟨.inl rfl, _, (by simp only [go_sem] <;> rfl), ?_, by simp [AV.noref, AV.norefs, hno]⟩
  simp only [go_sem]
 have hil : i < A.length := by simpa using hc
 clear hc
 have heA : A[i]? = some A[i] := List.getElem?_eq_getElem hil
 have hai := hin _ (List.getElem_mem hil)
 generalize A[i] = s at heA hai
 have heF : f[s.toNat]? = some (f[s.toNat]'(by omega)) := List.getElem?_eq_getElem _
 have hfi := hoi _ (List.mem_of_getElem? heF)
 generalize f[s.toNat]'(by omega) = y at heF hfi
 have heG : g[y.toNat]? = some (g[y.toNat]'(by omega)) := List.getElem?_eq_getElem _
 generalize g[y.toNat]'(by omega) = v at heG
 have hws : oAt f g A n (i + 1) = (oAt f g A n i).set s.toNat v := by simp only [oAt, heA, heF, heG, Option.getD_some]
 have hsn : ((oAt f g A n i).map intC).length = n := by rw [List.length_map, hwl]
 have hset : ((oAt f g A n i).map intC).set s.toNat [.sc (.int .i64 v)] = (oAt f g A n (i + 1)).map intC := by rw [hws, List.map_set]; rfl
 have hget : ∃ x, ((oAt f g A n i).map intC)[s.toNat]? = some (intC x) := by
  rw [List.getElem?_map, List.getElem?_eq_getElem (show s.toNat < (oAt f g A n i).length by omega)]
  exact ⟨_, rfl⟩
 obtain ⟨x0, hget⟩ := hget
 have hit : ((i : Nat) : Int).toNat = i := Int.toNat_natCast i
 refine EvC.skip ?_
 refine EvC.seq ?_
 refine EvC.block ?_
 refine EvC.a ?_ (by simp only [go_sem, heA, intC, hit, List.length_map] <;> rfl) (by simp; try omega)
 refine EvC.b ?_ (by simp only [go_sem, heF, heG, intC, hit, hget, hset, hsn, List.length_map] <;> rfl) (by simp [hsn]; try omega)
 refine EvC.bi ?_
 refine ⟨[(0, 0), (1, 1), (2, 2)], i + 1, rfl, (by simp only [go_sem, hno, Int.natCast_add, Int.natCast_one] <;> rfl), by omega, by omega⟩
theorem minimal_is {m : Mach} (hv : Valid m) (hfl : ∀ r ∈ m.rows, r.1 = false) : ∃ q : Mach, Red m q ∧ PureIs prog 14 [.ag m.cells] (.tu [.ag (canM q).cells, .sc (.int .i64 0)]) := by
 obtain ⟨q, L, hred, _, h1⟩ := form_is hv hfl
 refine ⟨q, hred, ?_⟩
 clear hred hfl hv
 generalize canM q = c at h1 ⊢
 have hM : m.cells = [.sc (.int .i64 m.ins), .sc (.int .i64 m.outs), .sl m.nl (m.rows.map rowC) .unk] := rfl
 have hC : c.cells = [.sc (.int .i64 c.ins), .sc (.int .i64 c.outs), .sl c.nl (c.rows.map rowC) .unk] := rfl
 rw [hM] at h1 ⊢
 rw [hC] at h1 ⊢
 refine PureIs.of1 5 [6] func14 ntmps14 results14 fun _ => ?_
 refine EvC.a ?_
 refine EvC.z 0 ?_
 refine EvC.k1 ?_ (c1 := .ca h1)
 refine EvC.a ?_
 refine EvC.rz ?_
 simp only [go_sem]
theorem rows_get {a b : Mach} (h : a.rows.map (·.2) = b.rows.map (·.2)) {i : Nat} {r : Row} (hr : a.rows[i]? = some r) : ∃ n, b.rows[i]? = some (n, r.2) := by
 have h2 := congrArg (fun l => l[i]?) h
 simp only [List.getElem?_map, hr, Option.map_some] at h2
 cases hb : b.rows[i]? with
 | none => rw [hb] at h2; cases h2
 | some q => rw [hb] at h2; simp only [Option.map_some, Option.some.injEq] at h2; exact ⟨q.1, by rw [h2]⟩
theorem sameM_is {a b : Mach} (h1 : a.ins = b.ins) (h2 : a.outs = b.outs) (h3 : a.rows.map (·.2) = b.rows.map (·.2)) (hl : a.rows.length < 1000000) (hr : ∀ r ∈ a.rows, r.2.length < 1000000) : PureIs prog 16 [.ag a.cells, .ag b.cells] (.sc (.bool true)) := by
 have hl2 : b.rows.length = a.rows.length := by have := congrArg List.length h3; simpa using this.symm
 refine PureIs.of1 7 [27, 32, 47, 55, 74] func16 ntmps16 results16 fun _ => ?_
 refine EvC.a ?_ (by simp only [go_sem, Mach.cells] <;> rfl)
 refine EvC.z 0 ?_
 refine EvC.z 1 ?_
 refine EvC.seq ?_
 refine EvC.g ?_ (h := by simp only [go_sem, h1, h2, hl2] <;> rfl)
 refine EvC.cs ?_
 refine EvC.seq ?_
 refine EvC.a ?_
 refine EvC.block ?_
 refine EvC.loopS (σ := Nat) (fun i => ⟨[(2, .ia a.cells), (3, .ia b.cells), (5, .sc (.int .i64 i))], [], [], 0⟩) (fun i => a.rows.length - i) (fun i => i ≤ a.rows.length) [2, 3, 5] 0 ?_ ?_
 ·exact ⟨[], 0, rfl, (by simp only [go_sem, Mach.cells, h1, h2] <;> rfl), Nat.zero_le _⟩
 intro i hi
 refine EvC.seq ?_
 refine EvC.a ?_ (by simp only [go_sem, Mach.cells] <;> rfl)
 refine EvC.cd (fun hc => ?_) (fun hc => ?_)
 rotate_left
 ·refine EvC.exit ?_
  refine EvC.a ?_
  refine EvC.rz ?_
  simp only [go_sem]
 have hi : i < a.rows.length := by simpa using hc
 have he : a.rows[i]? = some a.rows[i] := List.getElem?_eq_getElem hi
 have hm := List.getElem_mem hi
 generalize a.rows[i] = r at he hm
 obtain ⟨n, hb⟩ := rows_get h3 he
 obtain ⟨na, es⟩ := r
 have hes := hr _ hm
 simp only at hb hes
 refine EvC.skip ?_
 refine EvC.seq ?_
 refine EvC.block ?_
 refine EvC.seq ?_
 refine EvC.d mixed ?_ (h := by simp only [go_sem, he, hb, rowC, Mach.cells] <;> rfl)
 refine EvC.cs ?_
 refine EvC.a ?_
 refine EvC.block ?_
 refine EvC.loopS (σ := Nat) (fun k => ⟨[(2, .ia a.cells), (3, .ia b.cells), (5, .sc (.int .i64 i)), (6, .sc (.int .i64 k))], [], [], 0⟩) (fun k => es.length - k) (fun k => k ≤ es.length) [2, 3, 5, 6] 0 ?_ ?_
 ·exact ⟨[], 0, rfl, (by simp only [go_sem, Mach.cells, h1, h2] <;> rfl), Nat.zero_le _⟩
 intro k hk
 refine EvC.seq ?_
 refine EvC.a ?_ (by simp only [go_sem, he, rowC, Mach.cells] <;> rfl)
 refine EvC.cd (fun hc => ?_) (fun hc => ?_)
 rotate_left
 ·refine EvC.exit ?_
  refine EvC.bi ?_
  exact ⟨[], i + 1, rfl, (by simp only [go_sem, Mach.cells] <;> rfl), by omega, by omega⟩
 have hk : k < es.length := by simpa using hc
 have hek : es[k]? = some es[k] := List.getElem?_eq_getElem hk
 generalize es[k] = e at hek
 refine EvC.skip ?_
 refine EvC.seq ?_
 refine EvC.block ?_
 refine EvC.d mixed ?_ (h := by simp only [go_sem, he, hb, rowC, Mach.cells, hek, edgeC] <;> rfl)
 refine EvC.cs ?_
 refine EvC.bi ?_
 exact ⟨[], k + 1, rfl, (by simp only [go_sem, Mach.cells] <;> rfl), by omega, by omega⟩
def InS (m : Mach) (s : Int) : Prop := 0 ≤ s ∧ s < m.rows.length
def Agr (a b : Mach) (s t : Int) : Prop := ∀ w, WOk a.ins.toNat w → runR a s w = runR b t w
theorem agr_step {a b : Mach} (ha : Valid a) (hb : Valid b) (hi : a.ins = b.ins) {s t x : Int} (hs : InS a s) (ht : InS b t) (hx : 0 ≤ x ∧ x < a.ins) (h : Agr a b s t) :
  (stepR a s x).2 = (stepR b t x).2 ∧ Agr a b (stepR a s x).1 (stepR b t x).1 ∧ (((stepR a s x).1 = -1 ∧ (stepR b t x).1 = -1 ∧ (stepR a s x).2 = -1) ∨ (InS a (stepR a s x).1 ∧ InS b (stepR b t x).1 ∧ 0 ≤ (stepR a s x).2)) := by
 have hw : ∀ w, WOk a.ins.toNat w → (stepR a s x).2 = (stepR b t x).2 ∧ runR a (stepR a s x).1 w = runR b (stepR b t x).1 w := fun w hw => by
  have := h (x :: w) (fun y hy => by
   rcases List.mem_cons.1 hy with rfl | hy
   ·omega
   ·exact hw y hy)
  simp only [runR, List.cons.injEq] at this
  exact this
 have h1 := (hw [] (fun y hy => by cases hy)).1
 have f1 := stepR_fit ha hs.1 hs.2 hx
 have f2 := stepR_fit hb ht.1 ht.2 (a := x) (by omega)
 refine ⟨h1, fun w hh => (hw w hh).2, ?_⟩
 unfold InS
 omega
theorem stC_step (m : Mach) {s : Int} (h0 : 0 ≤ s) (i : Nat) : stC m (s, 0) i = if (stepR m s i).1 < 0 then none else some (((stepR m s i).1, 0), (stepR m s i).2) := by
 unfold stC
 rw [eAt_stepR]
 simp only
 rw [Int.toNat_of_nonneg h0]
def AgrR (a b : Mach) (p p' : Pr) : Prop := p.2 = 0 ∧ p'.2 = 0 ∧ InS a p.1 ∧ InS b p'.1 ∧ Agr a b p.1 p'.1
theorem agr_steps {a b : Mach} (ha : Valid a) (hb : Valid b) (hi : a.ins = b.ins) : StepsR (AgrR a b) (stC a) (stC b) a.ins.toNat := by
 rintro ⟨s, s2⟩ ⟨t, t2⟩ i ⟨h1, h2, hs, ht, h⟩ hin
 simp only at h1 h2 hs ht h
 subst h1; subst h2
 have hai := ha.ins
 obtain ⟨e1, e2, e3⟩ := agr_step ha hb hi hs ht (x := (i : Int)) (by omega) h
 rw [stC_step a hs.1, stC_step b ht.1]
 rcases e3 with ⟨k1, k2, k3⟩ | ⟨k1, k2, k3⟩
 ·rw [k1, k2]; exact .inl ⟨rfl, rfl⟩
 ·rw [if_neg (by have := k1.1; omega), if_neg (by have := k2.1; omega), ← e1]
  exact .inr ⟨_, _, _, rfl, rfl, rfl, rfl, k1, k2, e2⟩
theorem agr_inj {a b : Mach} {n : Nat} (hn : a.ins.toNat = n) (hb : b.ins.toNat = n) (ia : ∀ s t : Int, 0 ≤ s → s < a.rows.length → 0 ≤ t → t < a.rows.length → (∀ w, WOk n w → runR a s w = runR a t w) → s = t)
  (ib : ∀ s t : Int, 0 ≤ s → s < b.rows.length → 0 ≤ t → t < b.rows.length → (∀ w, WOk n w → runR b s w = runR b t w) → s = t) : InjR (AgrR a b) := by
 rintro ⟨s, s2⟩ ⟨t, t2⟩ ⟨u, u2⟩ ⟨v, v2⟩ ⟨h1, h2, hs, ht, h⟩ ⟨k1, k2, hu, hv, k⟩
 simp only at h1 h2 hs ht h k1 k2 hu hv k
 subst h1; subst h2; subst k1; subst k2
 simp only [Prod.mk.injEq, and_true]
 unfold Agr at h k
 rw [hn] at h k
 constructor
 ·rintro rfl
  exact ib _ _ ht.1 ht.2 hv.1 hv.2 fun w hw => (h w hw).symm.trans (k w hw)
 ·rintro rfl
  exact ia _ _ hs.1 hs.2 hu.1 hu.2 fun w hw => (h w hw).trans (k w hw).symm
theorem Valid.in0 {m : Mach} (h : Valid m) : InS m 0 := by have := h.rows; unfold InS; omega
theorem red_can {m m' q q' : Mach} (hi : m.ins = m'.ins) (ho : m.outs = m'.outs) (hq : Red m q) (hq' : Red m' q') (h : ∀ w, WOk m.ins.toNat w → runR m 0 w = runR m' 0 w) : canM q = canM q' := by
 have i1 := hq.ins
 have i2 := hq'.ins
 refine canM_eq hq.v hq'.v (by omega) (by rw [hq.outs, hq'.outs, ho]) (agr_inj (n := m.ins.toNat) (by omega) (by omega) hq.inj (by rw [hi]; exact hq'.inj)) (agr_steps hq.v hq'.v (by omega)) ⟨rfl, rfl, hq.v.in0, hq'.v.in0, fun w hw => ?_⟩
 rw [i1] at hw
 show runR q 0 w = runR q' 0 w
 rw [hq.run w hw, h w hw, hq'.run w (by rw [← hi]; exact hw)]
theorem steps_run {a b : Mach} {R : Pr → Pr → Prop} (ha : Valid a) (hb : Valid b) (hi : a.ins = b.ins) (hS : StepsR R (stC a) (stC b) a.ins.toNat) (hR : ∀ p p', R p p' → p.2 = 0 ∧ p'.2 = 0 ∧ InS a p.1 ∧ InS b p'.1) :
  ∀ (w : List Int) (p p' : Pr), R p p' → WOk a.ins.toNat w → runR a p.1 w = runR b p'.1 w
 | [], _, _, _, _ => rfl
 | x :: w, p, p', h, hw => by
   obtain ⟨h1, h2, hs, ht⟩ := hR p p' h
   obtain ⟨s, s2⟩ := p
   obtain ⟨t, t2⟩ := p'
   simp only at h1 h2 hs ht
   subst h1; subst h2
   have hx := hw x List.mem_cons_self
   have hww : WOk a.ins.toNat w := fun y hy => hw y (List.mem_cons_of_mem _ hy)
   have hst := hS _ _ x.toNat h (by omega)
   have hxt : ((x.toNat : Nat) : Int) = x := by omega
   have hai := ha.ins
   have f1 := stepR_fit ha hs.1 hs.2 (a := x) (by omega)
   have f2 := stepR_fit hb ht.1 ht.2 (a := x) (by omega)
   rw [stC_step a hs.1, stC_step b ht.1, hxt] at hst
   simp only [runR]
   rcases hst with ⟨k1, k2⟩ | ⟨q, q', o, k1, k2, k3⟩
   ·have n1 : (stepR a s x).1 < 0 := by
      by_cases n : (stepR a s x).1 < 0
      ·exact n
      ·rw [if_neg n] at k1; cases k1
    have n2 : (stepR b t x).1 < 0 := by
     by_cases n : (stepR b t x).1 < 0
     ·exact n
     ·rw [if_neg n] at k2; cases k2
    rw [runR_neg w n1, runR_neg w n2, show (stepR a s x).2 = (stepR b t x).2 by omega]
   ·have n1 : ¬ (stepR a s x).1 < 0 := fun n => by rw [if_pos n] at k1; cases k1
    have n2 : ¬ (stepR b t x).1 < 0 := fun n => by rw [if_pos n] at k2; cases k2
    rw [if_neg n1] at k1
    rw [if_neg n2] at k2
    cases k1; injection k2 with k2; injection k2 with k2 k4
    subst k2
    have ih := steps_run ha hb hi hS hR w _ _ k3 hww
    simp only at ih
    rw [ih, k4]
theorem canM_red {m q : Mach} (hq : Red m q) : Red m (canM q) := by
 have hcv := canM_valid hq.v
 have hR : ∀ p p', CanR q p p' → p.2 = 0 ∧ p'.2 = 0 ∧ InS q p.1 ∧ InS (canM q) p'.1 := by
  rintro p p' ⟨k, hk, rfl⟩
  obtain ⟨h1, h2, h3⟩ := stC_in hq.v (cQ_RS (List.mem_of_getElem? hk))
  have hl : k < (cQ q).length := (List.getElem?_eq_some_iff.1 hk).1
  exact ⟨h1, rfl, ⟨h2, h3⟩, by unfold InS; rw [canM_len]; simp only; omega⟩
 have hrun := steps_run hq.v hcv rfl (canR_steps hq.v) hR
 have i1 := hq.ins
 refine ⟨hcv, hq.ins, hq.outs, fun w hw => ?_, fun s t s0 s1 t0 t1 h => ?_, by rw [canM_len]; exact Nat.le_trans (cQ_len hq.v) hq.len⟩
 ·rw [← hq.run w hw]
  exact (hrun w (0, 0) (0, 0) ⟨0, cQ_zero q, rfl⟩ (by rw [i1]; exact hw)).symm
 ·rw [canM_len] at s1 t1
  have e1 : (cQ q)[s.toNat]? = some ((cQ q)[s.toNat]'(by omega)) := List.getElem?_eq_getElem _
  have e2 : (cQ q)[t.toNat]? = some ((cQ q)[t.toNat]'(by omega)) := List.getElem?_eq_getElem _
  generalize (cQ q)[s.toNat]'(by omega) = p at e1
  generalize (cQ q)[t.toNat]'(by omega) = p' at e2
  obtain ⟨a1, a2, a3, a4⟩ := hR p _ ⟨s.toNat, e1, rfl⟩
  obtain ⟨b1, b2, b3, b4⟩ := hR p' _ ⟨t.toNat, e2, rfl⟩
  have hpp : p.1 = p'.1 := hq.inj _ _ a3.1 a3.2 b3.1 b3.2 fun w hw => by
   rw [← i1] at hw
   have r1 := hrun w p _ ⟨s.toNat, e1, rfl⟩ hw
   have r2 := hrun w p' _ ⟨t.toNat, e2, rfl⟩ hw
   rw [r1, r2]
   simp only
   rw [Int.toNat_of_nonneg s0, Int.toNat_of_nonneg t0]
   exact h w (by rw [← i1]; exact hw)
  have : p = p' := Prod.ext hpp (by rw [a1, b1])
  subst this
  have := idx_inj (cQ_nodup q) e1 e2
  omega
theorem ser_agree {a b a' b' : Mach} {o o' : Int} (hf : Fit a b 0) (hf' : Fit a' b' 0) (h1 : (jQ a b 0).length ≤ 64) (h2 : (jQ a' b' 0).length ≤ 64) (ra : Red a a') (rb : Red b b') :
  ∀ w, WOk a.ins.toNat w → runR (jM a b 0 o) 0 w = runR (jM a' b' 0 o') 0 w := by
 intro w hw
 have hw1 : ∀ x ∈ w, 0 ≤ x ∧ x < a.ins := fun x hx => by have := hw x hx; have := hf.va.ins; omega
 have e1 := ser_run (outs := o) hf h1 w 0 0 0 (.inr ⟨0, rfl, jQ_zero _ _ _⟩) hw1
 have e2 := ser_run (outs := o') hf' h2 w 0 0 0 (.inr ⟨0, rfl, jQ_zero _ _ _⟩) (by rw [ra.ins]; exact hw1)
 rw [e1, e2]
 unfold serL
 rw [ra.run w hw]
 have hb := hf.vb.ins
 have hso := hf.ser rfl
 have hin := hf.va.in0
 rw [rb.run _ fun x hx => by
  have hm := (List.takeWhile_prefix _).subset hx
  have p0 : 0 ≤ x := by simpa using List.all_eq_true.1 (List.all_takeWhile (l := runR a 0 w) (p := fun x => decide (0 ≤ x))) x hx
  have p1 := runR_fit hf.va w 0 hin.2 hw1 x hm
  omega]
theorem len_of_pre {α β : Type} {L : List α} {L' : List β} {A : α → β → Prop} (hn : L'.Nodup) (h : ∀ y ∈ L', ∃ x ∈ L, A x y) (hu : ∀ x, x ∈ L → ∀ y ∈ L', ∀ z ∈ L', A x y → A x z → y = z) : L'.length ≤ L.length := by
 classical
 cases hL : L with
 | nil =>
   cases hL' : L' with
   | nil => exact Nat.le_refl _
   | cons y t =>
     obtain ⟨x, hx, _⟩ := h y (by rw [hL']; exact List.mem_cons_self)
     rw [hL] at hx; cases hx
 | cons x0 t =>
   rw [← hL]
   have : ∃ f : β → α, ∀ y ∈ L', f y ∈ L ∧ A (f y) y :=
    ⟨fun y => if hy : y ∈ L' then Classical.choose (h y hy) else x0, fun y hy => by
     simp only [dif_pos hy]
     exact Classical.choose_spec (h y hy)⟩
   obtain ⟨f, hf⟩ := this
   have hnd : (L'.map f).Nodup := by
    rw [List.nodup_iff_pairwise_ne, List.pairwise_map]
    refine List.Pairwise.imp_of_mem (fun {p q} hp hq hne e => hne ?_) (List.nodup_iff_pairwise_ne.1 hn)
    have h1 := hf p hp
    have h2 := hf q hq
    rw [← e] at h2
    exact hu _ h1.1 p hp q hq h1.2 h2.2
   have := hnd.length_le_of_subset (l₂ := L) fun x hx => by
    obtain ⟨y, hy, rfl⟩ := List.mem_map.1 hx
    exact (hf y hy).1
   simpa using this
def AgP (a b a' b' : Mach) (p p' : Pr) : Prop := Agr a a' p.1 p'.1 ∧ Agr b b' p.2 p'.2
theorem ser_pre {a b a' b' : Mach} (hf : Fit a b 0) (hf' : Fit a' b' 0) (ra : Red a a') (rb : Red b b') : ∀ p', RS (stOf a' b' 0) a'.ins.toNat p' → ∃ p, RS (stOf a b 0) a.ins.toNat p ∧ AgP a b a' b' p p' := by
 intro p' h
 induction h with
 | zero => exact ⟨(0, 0), .zero, fun w hw => (ra.run w hw).symm, fun w hw => (rb.run w hw).symm⟩
 | @step p' q' o i h hi hs ih =>
   obtain ⟨⟨s, t⟩, hp, g1, g2⟩ := ih
   obtain ⟨s', t'⟩ := p'
   have i1 := RS_in hf hp
   have i2 := RS_in hf' h
   have hai := hf.va.ins
   have eai := ra.ins
   have eao := ra.outs
   have ebi := rb.ins
   have hso := hf.ser rfl
   simp only at g1 g2
   obtain ⟨j1, j2⟩ := i1
   obtain ⟨j3, j4⟩ := i2
   simp only at j1 j2 j3 j4
   obtain ⟨k1, k2, k3⟩ := agr_step hf.va hf'.va eai.symm (x := (i : Int)) j1 j3 (by omega) g1
   have e' := stOf_ser hf' ⟨j3, j4⟩ (i := i) (by omega)
   have e := stOf_ser hf ⟨j1, j2⟩ (i := i) (by omega)
   rw [hs] at e'
   rcases k3 with ⟨m1, m2, _⟩ | ⟨m1, m2, m3⟩
   ·rw [m2] at e'; cases e'
   ·rw [if_neg (by have := m2.1; omega)] at e'
    rw [if_neg (by have := m1.1; omega)] at e
    have hlt := stepR_fit hf.va j1.1 j1.2 (a := (i : Int)) (by omega)
    obtain ⟨l1, l2, l3⟩ := agr_step hf.vb hf'.vb ebi.symm (x := (stepR a s i).2) j2 j4 (by have := m1.1; omega) g2
    rw [← k1] at e'
    rcases l3 with ⟨n1, n2, _⟩ | ⟨n1, n2, n3⟩
    ·rw [n2] at e'; cases e'
    ·rw [if_neg (by have := n2.1; omega)] at e'
     rw [if_neg (by have := n1.1; omega)] at e
     cases e'
     exact ⟨_, .step hp (by omega) e, k2, l2⟩
theorem ser_len {a b a' b' : Mach} (hf : Fit a b 0) (hf' : Fit a' b' 0) (h1 : (jQ a b 0).length ≤ 64) (ra : Red a a') (rb : Red b b') : (jQ a' b' 0).length ≤ (jQ a b 0).length := by
 refine len_of_pre (A := AgP a b a' b') (jQ_nodup _ _ _) (fun y hy => ?_) (fun x hx y hy z hz g k => ?_)
 ·obtain ⟨p, hp, hA⟩ := ser_pre hf hf' ra rb y (jQ_reach y hy)
  exact ⟨p, jQ_all h1 hp, hA⟩
 ·have iy := RS_in hf' (jQ_reach y hy)
  have iz := RS_in hf' (jQ_reach z hz)
  refine Prod.ext ?_ ?_
  ·exact ra.inj _ _ iy.1.1 iy.1.2 iz.1.1 iz.1.2 fun w hw => (g.1 w hw).symm.trans (k.1 w hw)
  ·exact rb.inj _ _ iy.2.1 iy.2.2 iz.2.1 iz.2.2 fun w hw => (g.2 w hw).symm.trans (k.2 w hw)
theorem canM_all {q : Mach} (hv : Valid q) : (cQ (canM q)).length = (canM q).rows.length := by
 have := (canM_corr hv).len
 rw [canM_len]; exact this.symm
theorem par_pre {c : Mach} (hf : Fit c c 1) (hv : Valid c) : ∀ p, RS (stC c) c.ins.toNat p → p.2 = 0 ∧ InS c p.1 ∧ RS (stOf c c 1) c.ins.toNat (p.1, p.1) := by
 intro p h
 induction h with
 | zero => exact ⟨rfl, hv.in0, .zero⟩
 | @step p q o i h hi hs ih =>
   obtain ⟨h1, h2, h3⟩ := ih
   obtain ⟨s, s2⟩ := p
   simp only at h1 h2 h3
   subst h1
   have hai := hv.ins
   have f := stepR_fit hv h2.1 h2.2 (a := (i : Int)) (by omega)
   have ho := hv.outs
   rw [stC_step c h2.1] at hs
   by_cases n : (stepR c s i).1 < 0
   ·rw [if_pos n] at hs; cases hs
   ·rw [if_neg n] at hs
    cases hs
    have hst : stepJ c c 1 (s, s) (i : Int) = (((stepR c s i).1, (stepR c s i).1), (stepR c s i).2 * c.outs + (stepR c s i).2) := by
     unfold stepJ
     simp only
     rw [if_neg n, if_pos trivial, if_neg n]
    have hp : 0 ≤ (stepR c s i).2 * c.outs := Int.mul_nonneg (by omega) (by omega)
    exact ⟨rfl, ⟨by simp only; omega, by simp only; omega⟩, .step h3 hi (stOf_some hst (by simp only; omega))⟩
theorem par_diag {c : Mach} (hf : Fit c c 1) (hv : Valid c) : ∀ p, RS (stOf c c 1) c.ins.toNat p → p.1 = p.2 ∧ InS c p.1 ∧ RS (stC c) c.ins.toNat (p.1, 0) := by
 intro p h
 induction h with
 | zero => exact ⟨rfl, hv.in0, .zero⟩
 | @step p q o i h hi hs ih =>
   obtain ⟨h1, h2, h3⟩ := ih
   obtain ⟨s, t⟩ := p
   simp only at h1 h2 h3
   subst h1
   have hai := hv.ins
   have f := stepR_fit hv h2.1 h2.2 (a := (i : Int)) (by omega)
   obtain ⟨e1, e2⟩ := stOf_eq hs
   unfold stepJ at e1
   simp only at e1
   have e3 := stC_step c h2.1 i
   by_cases n : (stepR c s i).1 < 0
   ·rw [if_pos n] at e1
    cases e1
    exact absurd e2 (by decide)
   ·rw [if_neg n, if_pos trivial, if_neg n] at e1
    rw [if_neg n] at e3
    cases e1
    exact ⟨rfl, ⟨by simp only; omega, by simp only; omega⟩, .step h3 hi e3⟩
theorem par_len {c : Mach} (hf : Fit c c 1) (hv : Valid c) (h64 : (jQ c c 1).length ≤ 64) (hc : (cQ c).length = c.rows.length) : (jQ c c 1).length = c.rows.length := by
 rw [← hc]
 refine Nat.le_antisymm ?_ ?_
 ·refine len_of_pre (A := fun x y => x.1 = y.1) (jQ_nodup _ _ _) (fun y hy => ?_) (fun x hx y hy z hz g k => ?_)
  ·obtain ⟨h1, h2, h3⟩ := par_diag hf hv y (jQ_reach y hy)
   exact ⟨(y.1, 0), cQ_all hv h3, rfl⟩
  ·have h1 := (par_diag hf hv y (jQ_reach y hy)).1
   have h2 := (par_diag hf hv z (jQ_reach z hz)).1
   exact Prod.ext (g.symm.trans k) (by rw [← h1, ← h2, ← g, k])
 ·refine len_of_pre (A := fun x y => x.1 = y.1) (cQ_nodup _) (fun y hy => ?_) (fun x hx y hy z hz g k => ?_)
  ·obtain ⟨h1, h2, h3⟩ := par_pre hf hv y (cQ_RS hy)
   exact ⟨(y.1, y.1), jQ_all h64 h3, rfl⟩
  ·have h1 := (par_pre hf hv y (cQ_RS hy)).1
   have h2 := (par_pre hf hv z (cQ_RS hz)).1
   exact Prod.ext (g.symm.trans k) (by rw [h1, h2])
theorem par2_inj {o a b : Int} (ho : 1 ≤ o) (ha : -1 ≤ a) (hb : -1 ≤ b) (h : par2 o a a = par2 o b b) : a = b := by
 unfold par2 at h
 have pa : 0 ≤ a → 0 ≤ a * o := fun h => Int.mul_nonneg h (by omega)
 have pb : 0 ≤ b → 0 ≤ b * o := fun h => Int.mul_nonneg h (by omega)
 by_cases h1 : 0 ≤ a
 ·rw [if_pos ⟨h1, h1⟩] at h
  by_cases h2 : 0 ≤ b
  ·rw [if_pos ⟨h2, h2⟩] at h
   have e : a * (o + 1) = b * (o + 1) := by rw [Int.mul_add, Int.mul_add, Int.mul_one, Int.mul_one]; exact h
   exact Int.eq_of_mul_eq_mul_right (by omega) e
  ·rw [if_neg (fun h => h2 h.1)] at h
   have := pa h1; omega
 ·rw [if_neg (fun h => h1 h.1)] at h
  by_cases h2 : 0 ≤ b
  ·rw [if_pos ⟨h2, h2⟩] at h
   have := pb h2; omega
  ·omega
theorem zip_inj {o : Int} (ho : 1 ≤ o) : ∀ l l' : List Int, l.length = l'.length → (∀ x ∈ l, -1 ≤ x) → (∀ x ∈ l', -1 ≤ x) → List.zipWith (par2 o) l l = List.zipWith (par2 o) l' l' → l = l'
 | [], [], _, _, _, _ => rfl
 | [], _ :: _, h, _, _, _ => by cases h
 | _ :: _, [], h, _, _, _ => by cases h
 | a :: l, b :: l', h, h1, h2, h3 => by
   simp only [List.zipWith_cons_cons, List.cons.injEq] at h3
   rw [par2_inj ho (h1 a List.mem_cons_self) (h2 b List.mem_cons_self) h3.1, zip_inj ho l l' (by simpa using h) (fun x hx => h1 x (List.mem_cons_of_mem _ hx)) (fun x hx => h2 x (List.mem_cons_of_mem _ hx)) h3.2]
def TwR (q c : Mach) (x y : Pr) : Prop := ∀ w, WOk c.ins.toNat w → runR q x.1 w = List.zipWith (par2 c.outs) (runR c y.1 w) (runR c y.1 w)
theorem tw_pre {m c q : Mach} {o : Int} (hc : Red m c) (hf : Fit c c 1) (h64 : (jQ c c 1).length ≤ 64) (hq : Red (jM c c 1 o) q) : ∀ y, RS (stC c) c.ins.toNat y → ∃ x, RS (stC q) c.ins.toNat x ∧ TwR q c x y := by
 have hqi : q.ins = c.ins := hq.ins
 intro y h
 induction h with
 | zero =>
   refine ⟨(0, 0), .zero, fun w hw => ?_⟩
   have e := par_run (outs := o) hf h64 w 0 0 0 (.inr ⟨0, rfl, jQ_zero _ _ _⟩) (fun x hx => by have := hw x hx; have := hc.v.ins; omega)
   rw [← e]
   exact hq.run w hw
 | @step y y' out i h hi hs ih =>
   obtain ⟨⟨u, u2⟩, hu, hA⟩ := ih
   obtain ⟨h1, h2, h3⟩ := stC_in hc.v h
   obtain ⟨k1, k2, k3⟩ := stC_in hq.v (by rw [hqi]; exact hu)
   obtain ⟨s, s2⟩ := y
   simp only at h1 h2 h3 k1 k2 k3
   subst h1; subst k1
   have hci := hc.v.ins
   have hco := hc.v.outs
   have fc := stepR_fit hc.v h2 h3 (a := (i : Int)) (by omega)
   have fq := stepR_fit hq.v k2 k3 (a := (i : Int)) (by omega)
   rw [stC_step c h2] at hs
   have eq := stC_step q k2 i
   by_cases n : (stepR c s i).1 < 0
   ·rw [if_pos n] at hs; cases hs
   rw [if_neg n] at hs
   cases hs
   have hw : ∀ w, WOk c.ins.toNat w → (stepR q u i).2 = par2 c.outs (stepR c s i).2 (stepR c s i).2 ∧ runR q (stepR q u i).1 w = List.zipWith (par2 c.outs) (runR c (stepR c s i).1 w) (runR c (stepR c s i).1 w) := fun w hw => by
    have := hA ((i : Int) :: w) (fun y hy => by
     rcases List.mem_cons.1 hy with rfl | hy
     ·omega
     ·exact hw y hy)
    simp only [runR, List.zipWith_cons_cons, List.cons.injEq] at this
    exact this
   have ho := (hw [] (fun y hy => by cases hy)).1
   have hp : 0 ≤ (stepR c s i).2 * c.outs := Int.mul_nonneg (by omega) (by omega)
   unfold par2 at ho
   rw [if_pos ⟨by omega, by omega⟩] at ho
   rw [if_neg (by omega)] at eq
   exact ⟨_, .step hu hi eq, fun w hh => (hw w hh).2⟩
theorem tw_len {m c q : Mach} {o : Int} (hc : Red m c) (hca : (cQ c).length = c.rows.length) (hf : Fit c c 1) (h64 : (jQ c c 1).length ≤ 64) (hq : Red (jM c c 1 o) q) : (canM q).rows.length = c.rows.length := by
 have hqi : q.ins = c.ins := hq.ins
 have hmi := hc.ins
 rw [canM_len]
 refine Nat.le_antisymm ?_ ?_
 ·have h1 := cQ_len hq.v
  have h2 := hq.len
  rw [jM_len, par_len hf hc.v h64 hca] at h2
  omega
 ·rw [← hca]
  refine len_of_pre (A := TwR q c) (cQ_nodup _) (fun y hy => ?_) (fun x hx y hy z hz g k => ?_)
  ·obtain ⟨x, h1, h2⟩ := tw_pre hc hf h64 hq y (cQ_RS hy)
   exact ⟨x, cQ_all hq.v (by rw [hqi]; exact h1), h2⟩
  ·obtain ⟨y1, y2, y3⟩ := stC_in hc.v (cQ_RS hy)
   obtain ⟨z1, z2, z3⟩ := stC_in hc.v (cQ_RS hz)
   refine Prod.ext (hc.inj _ _ y2 y3 z2 z3 fun w hw => ?_) (by rw [y1, z1])
   rw [← hmi] at hw
   have hw1 : ∀ x ∈ w, 0 ≤ x ∧ x < c.ins := fun x hx => by have := hw x hx; have := hc.v.ins; omega
   exact zip_inj hc.v.outs.1 _ _ (by rw [runR_len, runR_len]) (fun x hx => (runR_bd hc.v w _ y3 hw1 x hx).1) (fun x hx => (runR_bd hc.v w _ z3 hw1 x hx).1) ((g w hw).symm.trans (k w hw))
theorem jM_flag (a b : Mach) (par outs : Int) : ∀ r ∈ (jM a b par outs).rows, r.1 = false := fun r hr => by
 obtain ⟨p, _, rfl⟩ := List.mem_map.1 hr; rfl
theorem seriesOk {a b : Mach} (hf : Fit a b 0) (h64 : (jQ a b 0).length ≤ 64) : PureIs prog 15 [.ag a.cells, .ag b.cells] (.tu [.ag (jM a b 0 b.outs).cellsF, .sc (.int .i64 0)]) := by
 have h := series_is a b hf.va.small hf.vb.small
 rw [seriesA, if_neg (by simp [bothE_of (checkM_of hf.va) (checkM_of hf.vb)]), if_neg (by simpa using hf.ser rfl), jM_tu b.outs h64] at h
 exact h
theorem parallelOk {a b : Mach} (hf : Fit a b 1) (h64 : (jQ a b 1).length ≤ 64) (h16 : a.outs * b.outs ≤ 16) : PureIs prog 17 [.ag a.cells, .ag b.cells] (.tu [.ag (jM a b 1 (a.outs * b.outs)).cellsF, .sc (.int .i64 0)]) := by
 have h := parallel_is a b hf.va.small hf.vb.small
 rw [parallelA, if_neg (by simp [bothE_of (checkM_of hf.va) (checkM_of hf.vb)]), if_neg (by simpa using hf.par rfl), if_neg (by omega), jM_tu (a.outs * b.outs) h64] at h
 exact h
theorem minimalF_is {m : Mach} (hv : Valid m) (hfl : ∀ r ∈ m.rows, r.1 = false) : ∃ q : Mach, Red m q ∧ PureIs prog 14 [.ag m.cellsF] (.tu [.ag (canM q).cells, .sc (.int .i64 0)]) := by
 obtain ⟨q, hq, h⟩ := minimal_is hv hfl
 refine ⟨q, hq, ?_⟩
 refine PureIs.weak ?_
 simp only [List.map_cons, List.map_nil, AV.unk, Mach.cellsF_unk, Mach.cells_unk]
 exact h
theorem small_mul {a b : Nat} (ha : a ≤ 6) (hb : b ≤ 6) : a * b ≤ 64 := Nat.le_trans (Nat.mul_le_mul ha hb) (by decide)
set_option maxHeartbeats 4000000 in
theorem ts_facts {a b : Mach} (ha : Valid a) (hb : Valid b) (fa : ∀ r ∈ a.rows, r.1 = false) (fb : ∀ r ∈ b.rows, r.1 = false) (hio : a.outs = b.ins) (la : a.rows.length ≤ 6) (lb : b.rows.length ≤ 6) (lo : a.outs ≤ 3) (lp : b.outs ≤ 3) :
  ∃ c d s t u m v : Mach, PureIs prog 14 [.ag a.cells] (.tu [.ag c.cells, .sc (.int .i64 0)]) ∧ PureIs prog 14 [.ag b.cells] (.tu [.ag d.cells, .sc (.int .i64 0)]) ∧
    PureIs prog 15 [.ag a.cells, .ag b.cells] (.tu [.ag s.cellsF, .sc (.int .i64 0)]) ∧ PureIs prog 15 [.ag c.cells, .ag d.cells] (.tu [.ag t.cellsF, .sc (.int .i64 0)]) ∧
    PureIs prog 14 [.ag s.cellsF] (.tu [.ag m.cells, .sc (.int .i64 0)]) ∧ PureIs prog 14 [.ag t.cellsF] (.tu [.ag m.cells, .sc (.int .i64 0)]) ∧
    PureIs prog 16 [.ag m.cells, .ag m.cells] (.sc (.bool true)) ∧ PureIs prog 17 [.ag c.cells, .ag c.cells] (.tu [.ag u.cellsF, .sc (.int .i64 0)]) ∧ PureIs prog 14 [.ag u.cellsF] (.tu [.ag v.cells, .sc (.int .i64 0)]) ∧
    t.rows.length ≤ s.rows.length ∧ u.rows.length = c.rows.length ∧ v.rows.length = c.rows.length := by
 obtain ⟨qa, ra, e1⟩ := minimal_is ha fa
 obtain ⟨qb, rb, e2⟩ := minimal_is hb fb
 have rc := canM_red ra
 have rd := canM_red rb
 have hca := canM_all ra.v
 have lc := rc.len
 have ld := rd.len
 obtain ⟨c, hc⟩ : ∃ c, c = canM qa := ⟨_, rfl⟩
 obtain ⟨d, hd⟩ : ∃ d, d = canM qb := ⟨_, rfl⟩
 rw [← hc] at e1 rc hca lc
 rw [← hd] at e2 rd ld
 have co := rc.outs
 have di := rd.ins
 have dO := rd.outs
 have fab : Fit a b 0 := ⟨ha, hb, .inl rfl, fun _ => hio, fun h => absurd h (by decide)⟩
 have fcd : Fit c d 0 := ⟨rc.v, rd.v, .inl rfl, fun _ => by omega, fun h => absurd h (by decide)⟩
 have fcc : Fit c c 1 := ⟨rc.v, rc.v, .inr rfl, fun h => absurd h (by decide), fun _ => rfl⟩
 have n1 : (jQ a b 0).length ≤ 64 := Nat.le_trans (jQ_le fab) (small_mul la lb)
 have n2 : (jQ c d 0).length ≤ 64 := Nat.le_trans (jQ_le fcd) (small_mul (by omega) (by omega))
 have n3 : (jQ c c 1).length ≤ 64 := Nat.le_trans (jQ_le fcc) (small_mul (by omega) (by omega))
 have hbo := hb.outs
 have hco := rc.v.outs
 have h16 : 1 ≤ c.outs * c.outs ∧ c.outs * c.outs ≤ 16 := by
  have : c.outs = 1 ∨ c.outs = 2 ∨ c.outs = 3 := by omega
  rcases this with h | h | h <;> rw [h] <;> decide
 have vs := jM_valid fab n1 (outs := b.outs) (by rw [if_neg (by decide)]) hb.outs
 have vt := jM_valid fcd n2 (outs := d.outs) (by rw [if_neg (by decide)]) rd.v.outs
 have vu := jM_valid fcc n3 (outs := c.outs * c.outs) (by rw [if_pos rfl]) h16
 obtain ⟨qs, rs, e5⟩ := minimalF_is vs (jM_flag _ _ _ _)
 obtain ⟨qt, rt, e6⟩ := minimalF_is vt (jM_flag _ _ _ _)
 obtain ⟨qu, ru, e7⟩ := minimalF_is vu (jM_flag _ _ _ _)
 have hst : canM qs = canM qt := red_can (m := jM a b 0 b.outs) (m' := jM c d 0 d.outs) (show a.ins = c.ins from rc.ins.symm) (show b.outs = d.outs from rd.outs.symm) rs rt (ser_agree fab fcd n1 n2 rc rd)
 rw [← hst] at e6
 have vm := canM_valid rs.v
 have e3 := seriesOk fab n1
 have e4 := seriesOk fcd n2
 have e9 := parallelOk fcc n3 h16.2
 have e8 := sameM_is (a := canM qs) (b := canM qs) rfl rfl rfl (by have := vm.rows; omega) vm.small
 have l1 : (jM c d 0 d.outs).rows.length ≤ (jM a b 0 b.outs).rows.length := by rw [jM_len, jM_len]; exact ser_len fab fcd n1 rc rd
 have l2 : (jM c c 1 (c.outs * c.outs)).rows.length = c.rows.length := by rw [jM_len]; exact par_len fcc rc.v n3 hca
 have l3 := tw_len rc hca fcc n3 ru
 exact ⟨c, d, jM a b 0 b.outs, jM c d 0 d.outs, jM c c 1 (c.outs * c.outs), canM qs, canM qu, e1, e2, e3, e4, e5, e6, e8, e9, e7, l1, l2, l3⟩
set_option maxHeartbeats 4000000 in
theorem topSeries_of (hlv : PureIs prog 12 [] (.sc (.bool true))) {x y : LM} (hx : x.Ok) (hy : y.Ok) : PureIs prog 4 [.ag x.cells, .ag y.cells] (.sc (.bool true)) := by
 obtain ⟨z, hz⟩ : ∃ z : LM, z = ⟨y.st, x.outs, y.outs, y.part, y.nl, y.es, y.cap⟩ := ⟨_, rfl⟩
 have hzo : z.Ok := by rw [hz]; exact ⟨hy.st, hx.outs, hy.outs, hy.es⟩
 have g1 := mOf_is hx
 have g2 := mOf_is hzo
 have bx := LM.bounds hx
 have bz := LM.bounds hzo
 have hio : x.mach.outs = z.mach.ins := by
  rw [hz]
  show 1 + x.outs % 3 = (((1 + x.outs % 3).toNat : Nat) : Int)
  have := hx.outs
  omega
 obtain ⟨c, d, s, t, u, m, v, e1, e2, e3, e4, e5, e6, e7, e8, e9, l1, l2, l3⟩ := ts_facts (LM.valid hx) (LM.valid hzo) (fun r hr => by
  obtain ⟨i, _, rfl⟩ := List.mem_map.1 hr; rfl) (fun r hr => by
  obtain ⟨i, _, rfl⟩ := List.mem_map.1 hr; rfl) hio (by simp only [LM.mach, List.length_map, List.length_range]; omega) (by simp only [LM.mach, List.length_map, List.length_range]; omega) (by simp only [LM.mach]; omega) (by simp only [LM.mach]; omega)
 have hzc : z.cells = [.sc (.int .u8 y.st), .sc (.int .u8 x.outs), .sc (.int .u8 y.outs), .sc (.bool y.part), .sl y.nl (y.es.map u16C) y.cap] := by rw [hz]; rfl
 rw [hzc] at g2
 generalize x.mach = a at g1 e1 e3
 generalize z.mach = b at g2 e2 e3
 have hX : x.cells = [.sc (.int .u8 x.st), .sc (.int .u8 x.ins), .sc (.int .u8 x.outs), .sc (.bool x.part), .sl x.nl (x.es.map u16C) x.cap] := rfl
 have hY : y.cells = [.sc (.int .u8 y.st), .sc (.int .u8 y.ins), .sc (.int .u8 y.outs), .sc (.bool y.part), .sl y.nl (y.es.map u16C) y.cap] := rfl
 have hC : ∀ c : Mach, c.cells = [.sc (.int .i64 c.ins), .sc (.int .i64 c.outs), .sl c.nl (c.rows.map rowC) .unk] := fun _ => rfl
 have hF : ∀ c : Mach, c.cellsF = [.sc (.int .i64 c.ins), .sc (.int .i64 c.outs), .sl c.nl (c.rows.map rowG) .full] := fun _ => rfl
 rw [hX] at g1 ⊢
 rw [hY]
 simp only [hC, hF] at g1 g2 e1 e2 e3 e4 e5 e6 e7 e8 e9
 clear hX hY hC hF hzc hio hz hzo bx bz
 refine PureIs.of1 23 [74, 96] func4 ntmps4 results4 fun _ => ?_
 refine EvC.a ?_
 refine EvC.a ?_
 refine EvC.k2D mixed ?_ (c1 := .ca g1) (c2 := .ca g2)
 refine EvC.k1 ?_ (c1 := .ca e1)
 refine EvC.k1 ?_ (c1 := .ca e2)
 refine EvC.k1 ?_ (c1 := .ca e3)
 refine EvC.k1 ?_ (c1 := .ca e4)
 refine EvC.gc [7, 8, 10, 11, 12, 13, 14] [(20, 0), (37, 1), (46, 2)] 3 rfl ?_
 have d1 : decide ((s.rows.length : Int) < (t.rows.length : Int)) = false := decide_eq_false (by omega)
 have d2 : decide ((u.rows.length : Int) = (c.rows.length : Int)) = true := decide_eq_true (by omega)
 have d3 : decide ((v.rows.length : Int) = (c.rows.length : Int)) = true := decide_eq_true (by omega)
 refine EvC.seq ?_
 refine EvC.g ?_ (h := by simp only [go_sem, List.length_map, d1] <;> rfl)
 refine EvC.cs ?_
 refine EvC.k1 ?_ (c1 := .ca e5)
 refine EvC.k1 ?_ (c1 := .ca e6)
 refine EvC.seq ?_
 refine EvC.k1 ?_ (c1 := .cg e7)
 refine EvC.cs ?_
 refine EvC.k1 ?_ (c1 := .ca e8)
 refine EvC.k1 ?_ (c1 := .ca e9)
 refine EvC.k1 ?_ (h1 := by simp only [go_sem, List.length_map, d2, d3] <;> rfl) (c1 := .cg hlv) (h2 := by simp only [go_sem, List.length_map, d2, d3] <;> rfl)
 refine EvC.rz ?_
 simp only [go_sem]
theorem topSeries_is {x y : LM} (hx : x.Ok) (hy : y.Ok) : PureIs prog 4 [.ag x.cells, .ag y.cells] (.sc (.bool true)) := topSeries_of live12_is hx hy
end Go.Avl
