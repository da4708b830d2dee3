/-
  Lemmas.
-/
import Derived.Test.YtmmcendgdcmlkaaDoorPart6
set_option linter.unusedSimpArgs false
set_option linter.unusedVariables false
set_option linter.unnecessarySimpa false
set_option linter.deprecated false
namespace Go.Avl
open Go Go.Proofs.Tryd
set_option maxRecDepth 10000
set_option maxHeartbeats 8000000 in
theorem apply55_is {m : Mach} (hv : Valid m) (f : FA) (hf : faultB m f = true) : PureIs prog 15 [.ag m.cells, .ag f.cells] (.ag (mutF m f).cells) := by
 have hfb := hf
 obtain ⟨kd, s, i, t, a, o⟩ := f
 unfold faultB at hfb
 simp only [Bool.and_eq_true] at hfb
 obtain ⟨hp, hd, hkb⟩ := hfb
 obtain ⟨r, h1, h2, he⟩ := step_in hv hd
 obtain ⟨b1, b2, _⟩ := definedB_iff.1 hd
 have hkd := plainB_kind hp
 simp only at hkd
 obtain ⟨S, hS⟩ : ∃ S : Nat, S = s.toNat := ⟨_, rfl⟩
 have hSl : S < m.rows.length := by omega
 rw [← hS] at h1
 have hn1 := hv.rows
 have hrl := (hv.row _ (List.mem_of_getElem? h1)).1
 have hi1 := hv.ins
 refine PureIs.of1 9 [18, 30, 44, 45, 50, 55, 58, 70, 77] func15 ntmps15 results15 fun _ => ?_
 refine EvC.a ?_ (by simp only [go_sem, Mach.cells, FA.cells] <;> rfl)
 refine EvC.z 0 ?_
 refine EvC.z 1 ?_
 refine EvC.a ?_
 refine EvC.ownC 8 2 1 (by simp only [go_sem] <;> rfl) ?_
 refine EvC.thaw 10 (by simp only [go_sem] <;> rfl) ?_
 refine EvC.seq ?_
 refine EvC.a ?_
 refine EvC.block ?_
 obtain ⟨n, hn⟩ : ∃ n, n = r.2.length := ⟨_, rfl⟩
 have hn0 : n ≠ 0 := by omega
 obtain ⟨memK, hmK⟩ : ∃ memK : Nat → Mem, memK = fun k => (0, RObj.cells [.sc (.int .i64 0), .sc (.int .i64 0), .sl true [] .zer]) :: (1, .cells [.sc (.int .i64 m.ins), .sc (.int .i64 m.outs), .tl 2 k (decide (k = 0))]) :: (2, .arr 1 (rowsK m k S (.tl 3 n false)) false) :: (if S < k then [(3, .arr 2 (r.2.map edgeC) false)] else []) := ⟨_, rfl⟩
 have hlo : ∀ k, k ≤ S → memK k = [(0, RObj.cells [.sc (.int .i64 0), .sc (.int .i64 0), .sl true [] .zer]), (1, .cells [.sc (.int .i64 m.ins), .sc (.int .i64 m.outs), .tl 2 k (decide (k = 0))]), (2, .arr 1 (((m.rows.take k).map fun r => ((false, r.2) : Row)).map rowC) false)] := fun k hk => by
  rw [hmK]
  simp only
  rw [if_neg (by omega), rowsK, List.set_eq_of_length_le (by simp; omega)]
 have hhi : ∀ k, S < k → memK k = [(0, RObj.cells [.sc (.int .i64 0), .sc (.int .i64 0), .sl true [] .zer]), (1, .cells [.sc (.int .i64 m.ins), .sc (.int .i64 m.outs), .tl 2 k (decide (k = 0))]), (2, .arr 1 (rowsK m k S (.tl 3 n false)) false), (3, .arr 2 (r.2.map edgeC) false)] := fun k hk => by
  rw [hmK]
  simp only
  rw [if_pos hk]
 refine EvC.loopS (σ := Nat) (fun k => ⟨[(2, .ia [.sc (.int .i64 m.ins), .sc (.int .i64 m.outs), .sl m.nl (m.rows.map rowC) .unk]), (3, .ia [.sc (.int .i64 kd), .sc (.int .i64 s), .sc (.int .i64 i), .sc (.int .i64 t), .sc (.int .i64 a), .sc (.int .i64 o)]), (4, .rf 0 0), (5, .rf 1 0), (6, .sc (.int .i64 k))], [], memK k, 4⟩) (fun k => m.rows.length - k) (fun k => k ≤ m.rows.length) [2, 3, 4, 5, 6] 4 ?_ ?_
 ·exact ⟨[(2, 0), (8, 1), (10, 2)], 0, rfl, (by rw [hlo 0 (by omega)]; simp only [go_sem, Int.natCast_zero, List.take_zero, List.map_nil] <;> rfl), Nat.zero_le _⟩
 intro k hk1
 by_cases hkl : k < m.rows.length
 rotate_left
 ·
  obtain rfl : k = m.rows.length := by omega
  rw [hhi m.rows.length hSl]
  have dk : decide ((m.rows.length : Int) < m.rows.length) = false := decide_eq_false (by omega)
  refine EvC.seq ?_
  refine EvC.a ?_ (by simp only [go_sem, List.length_map] <;> rfl)
  refine EvC.cf ?_ (by simp only [go_sem, dk] <;> rfl)
  refine EvC.exit ?_
  have hNd : decide (m.rows.length = 0) = false := decide_eq_false (by omega)
  have hg := rowsK_get (v := .tl 3 n false) hSl (Nat.le_refl m.rows.length)
  have hRl := rowsK_len (S := S) (v := .tl 3 n false) (Nat.le_refl m.rows.length)
  have hel : (r.2.map edgeC).length = n := by rw [List.length_map]; exact hn.symm
  have hin : i.toNat < n := by omega
  rw [hNd]
  refine EvC.d mixed ?_ (h := by simp only [go_sem, h1, h2, ← hS, rowC, edgeC, List.length_map] <;> rfl) (hok := by simp; try omega)
  have hrowAt : rowAt m s = r.2 := by unfold rowAt; rw [← hS, h1]; rfl
  generalize hE : stepM m s i = e at *
  refine EvC.mergeC (α := (Int × Int) × List (List AV)) (fun p => ⟨[(3, .ia [.sc (.int .i64 kd), .sc (.int .i64 s), .sc (.int .i64 i), .sc (.int .i64 t), .sc (.int .i64 a), .sc (.int .i64 o)]), (4, .rf 0 0), (5, .rf 1 0), (7, .rf 4 0)], [], [(0, .cells [.sc (.int .i64 0), .sc (.int .i64 0), .sl true [] .zer]), (1, .cells [.sc (.int .i64 m.ins), .sc (.int .i64 m.outs), .tl 2 (m.rows.length + p.2.length) false]), (2, .arr 1 (rowsK m m.rows.length S (.tl 3 n false) ++ p.2) false), (3, .arr 2 (r.2.map edgeC) false), (4, .cells [.sc (.int .i64 p.1.1), .sc (.int .i64 p.1.2)])], 5⟩)
   (fun p => p.2.all AV.norefs = true ∧ (∀ c ∈ p.2, c.length = 1) ∧ rowsK m m.rows.length S (.sl false ((r.2.set i.toNat p.1).map edgeC) .unk) ++ p.2 = (mutRows m ⟨kd, s, i, t, a, o⟩).map rowC) ?_ ?_
  rotate_left
  ·
   rintro ⟨e', ex⟩ ⟨hex1, hex2, hraw⟩
   simp only at hex1 hex2 hraw ⊢
   have hRe : (rowsK m m.rows.length S (.tl 3 n false) ++ ex).length = m.rows.length + ex.length := by rw [List.length_append, hRl]
   have hge : (rowsK m m.rows.length S (.tl 3 n false) ++ ex)[S]? = some [.tl 3 n false] := by rw [List.getElem?_append_left (by rw [hRl]; exact hSl)]; exact hg
   have hse : ∀ v, (rowsK m m.rows.length S (.tl 3 n false) ++ ex).set S [v] = rowsK m m.rows.length S v ++ ex := fun v => by
    rw [List.set_append_left _ _ (by rw [hRl]; exact hSl)]
    unfold rowsK
    rw [List.set_set]
   obtain ⟨RR, hRR⟩ : ∃ RR, RR = rowsK m m.rows.length S (.sl false ((r.2.set i.toNat e').map edgeC) .unk) ++ ex := ⟨_, rfl⟩
   have hse1 := hse (.sl false ((r.2.set i.toNat e').map edgeC) .unk)
   rw [← hRR] at hse1 hraw
   generalize rowsK m m.rows.length S (.tl 3 n false) ++ ex = RW at hRe hge hse1
   have hgE : (r.2.map edgeC)[i.toNat]? = some (edgeC e) := by rw [List.getElem?_map, h2]; rfl
   have hsE : ∀ x y : Int, (r.2.map edgeC).set i.toNat [.sc (.int .i64 x), .sc (.int .i64 y)] = (r.2.set i.toNat (x, y)).map edgeC := fun x y => by rw [List.map_set]; rfl
   have hset2 : ((r.2.set i.toNat e').map edgeC).length = n := by rw [List.length_map, List.length_set]; exact hn.symm
   have hmr : (mutRows m ⟨kd, s, i, t, a, o⟩).map rowC = RR := hraw.symm
   have hRR2 : RR.length = m.rows.length + ex.length := by rw [hRR, List.length_append, rowsK_len (Nat.le_refl _)]
   refine EvC.d mixed ?_ (h := by simp only [go_sem, hge, hRe, ← hS, hgE, hsE, edgeC, hel] <;> rfl) (hok := by simp; try omega)
   refine EvC.frz 3 (by simp only [go_sem, hset2] <;> rfl) ?_
   refine EvC.snapE 2 S (by simp only [go_sem, hge, hRe, hse1, hset2] <;> rfl) ?_
   have hRRn : RR.all AV.norefs = true := by
    rw [← hmr]
    simp only [List.all_eq_true]
    intro c hc
    obtain ⟨r, _, rfl⟩ := List.mem_map.1 hc
    exact rowC_norefs r
   have hRR1 : ∀ c ∈ RR, c.length = 1 := by
    rw [← hmr]
    intro c hc
    obtain ⟨r, _, rfl⟩ := List.mem_map.1 hc
    rfl
   have hmc : (mutF m ⟨kd, s, i, t, a, o⟩).cells = [.sc (.int .i64 m.ins), .sc (.int .i64 m.outs), .sl false RR .unk] := by rw [← hmr]; rfl
   rw [hmc]
   clear hse1 hRR hraw hmr hmc
   refine EvC.frzD 2 (by simp only [go_sem, hRRn, hRR2] <;> rfl) ?_
   refine EvC.a ?_ (by simp only [go_sem, hRRn, hRR2] <;> rfl)
   refine EvC.ret ⟨.inl rfl, _, (by simp only [go_sem, hRRn, hRR2] <;> rfl), ?_, by simp [AV.noref, AV.norefs, hRRn]⟩
   simp only [go_sem, hRRn]
  ·
   have hnr : (rowsK m m.rows.length S (.tl 3 n false)).all AV.norefs = false := rowsK_norefs hSl (Nat.le_refl _) rfl
   have hrn := rowsK_ren m m.rows.length S (.tl 3 n false) [(0, 0), (1, 1), (2, 2), (3, 3), (19, 4)]
   have hraw : ∀ e' : Int × Int, rowsK m m.rows.length S (.sl false ((r.2.set i.toNat e').map edgeC) .unk) = (putR m s i e').map rowC := fun e' => by
    unfold rowsK putR copyR
    rw [List.take_length, ← hS, hrowAt]
    show (((m.rows.map fun r => ((false, r.2) : Row)).map rowC).set S (rowC (false, r.2.set i.toNat e'))) = _
    exact List.map_set.symm
   refine EvC.a ?_
   refine EvC.block ?_
   rcases hkd with rfl | rfl | rfl | rfl | rfl
   ·
    refine EvC.a ?_
    refine EvC.ct ?_
    refine EvC.b ?_
    refine ⟨rfl, ((e.1, o), []), ⟨rfl, (fun _ h => by cases h), ?_⟩, fun c Q h => ?_⟩
    ·rw [List.append_nil, hraw, mutRows, if_pos rfl, hE]
    refine EvC.gcE [3, 4, 5, 7] [(0, 0), (1, 1), (2, 2), (3, 3), (19, 4)] 5 rfl (by simp only [go_sem, hnr, hrn, Bool.and_false, List.append_nil, List.length_nil] <;> rfl) h
   ·
    refine EvC.a ?_
    refine EvC.cf ?_
    refine EvC.a ?_
    refine EvC.ct ?_
    refine EvC.b ?_
    refine ⟨rfl, ((t, e.2), []), ⟨rfl, (fun _ h => by cases h), ?_⟩, fun c Q h => ?_⟩
    ·rw [List.append_nil, hraw, mutRows, if_neg (show ¬ (1 : Int) = 0 by decide), if_pos (show (1 : Int) = 1 from rfl), hE]
    refine EvC.gcE [3, 4, 5, 7] [(0, 0), (1, 1), (2, 2), (3, 3), (19, 4)] 5 rfl (by simp only [go_sem, hnr, hrn, Bool.and_false, List.append_nil, List.length_nil] <;> rfl) h
   ·
    refine EvC.a ?_
    refine EvC.cf ?_
    refine EvC.a ?_
    refine EvC.cf ?_
    refine EvC.a ?_
    refine EvC.ct ?_
    refine EvC.b ?_
    refine ⟨rfl, ((-1, -1), []), ⟨rfl, (fun _ h => by cases h), ?_⟩, fun c Q h => ?_⟩
    ·rw [List.append_nil, hraw, mutRows, if_neg (show ¬ (2 : Int) = 0 by decide), if_neg (show ¬ (2 : Int) = 1 by decide), if_pos (show (2 : Int) = 2 from rfl)]
    refine EvC.gcE [3, 4, 5, 7] [(0, 0), (1, 1), (2, 2), (3, 3), (19, 4)] 5 rfl (by simp only [go_sem, hnr, hrn, Bool.and_false, List.append_nil, List.length_nil] <;> rfl) h
   ·
    have htn : 0 ≤ t ∧ t < m.rows.length := by
     unfold kindB at hkb
     rw [if_neg (show ¬ (3 : Int) = 0 by decide), if_neg (show ¬ (3 : Int) = 1 by decide), if_neg (show ¬ (3 : Int) = 2 by decide), if_pos (show (3 : Int) = 3 from rfl)] at hkb
     simpa [inN] using hkb
    have h5 : m.rows[t.toNat]? = some (m.rows[t.toNat]'(by omega)) := List.getElem?_eq_getElem (by omega)
    have h5m := List.getElem_mem (show t.toNat < m.rows.length by omega)
    have h5r := (hv.row _ h5m).1
    have hrt : rowAt m t = (m.rows[t.toNat]'(by omega)).2 := by unfold rowAt; rw [h5]; rfl
    generalize m.rows[t.toNat]'(by omega) = r5 at h5 h5r hrt
    obtain ⟨b5, e5⟩ := r5
    simp only at h5r hrt
    have hr8 : room (m.rows.length + 1) 24 = true := by simp only [room_eq, decide_eq_true_eq]; omega
    have hr16 : room e5.length 16 = true := by simp only [room_eq, decide_eq_true_eq]; omega
    have hl2 : ∀ x : Int × Int, (edgeC x).length = 2 := fun _ => rfl
    have hel5 : (e5.map edgeC).length = e5.length := List.length_map _
    refine EvC.a ?_
    refine EvC.cf ?_
    refine EvC.a ?_
    refine EvC.cf ?_
    refine EvC.a ?_
    refine EvC.cf ?_
    refine EvC.a ?_
    refine EvC.ct ?_
    refine EvC.d mixed ?_ (h := by simp only [go_sem, h5, rowC, hel5, hRl] <;> rfl) (hok := by simp [hr8, hr16, hl2]; try omega)
    refine EvC.frz 40 (by simp only [go_sem, hel5] <;> rfl) ?_
    have hgl : (rowsK m m.rows.length S (.tl 3 n false) ++ [[AV.tl 40 e5.length false]])[m.rows.length]? = some [AV.tl 40 e5.length false] := by rw [List.getElem?_append_right (by omega), hRl, Nat.sub_self]; rfl
    have hsl : ∀ v, (rowsK m m.rows.length S (.tl 3 n false) ++ [[v]]).set m.rows.length [.sl false (e5.map edgeC) .unk] = rowsK m m.rows.length S (.tl 3 n false) ++ [[.sl false (e5.map edgeC) .unk]] := fun v => by rw [List.set_append_right _ _ (by omega), hRl, Nat.sub_self]; rfl
    refine EvC.snapE 2 m.rows.length (by simp only [go_sem, hgl, hsl, hel5, hRl] <;> rfl) ?_
    refine EvC.b ?_ (by simp only [go_sem, List.length_map] <;> rfl)
    have hex1 : ([[.sl false (e5.map edgeC) .unk]] : List (List AV)).all AV.norefs = true := by simp [AV.norefs, AV.noref, norefs_edges]
    have hex3 : ([[.sl false (e5.map edgeC) .unk]] : List (List AV)).map (fun c => c.map (AV.ren [(0, 0), (1, 1), (2, 2), (3, 3), (19, 4)])) = [[.sl false (e5.map edgeC) .unk]] := by simp [AV.ren, AV.noref, norefs_edges]
    have hXr : ([[.sl false (e5.map edgeC) .unk]] : List (List AV)) = [(false, e5)].map rowC := rfl
    generalize hXX : ([[.sl false (e5.map edgeC) .unk]] : List (List AV)) = XX at hex1 hex3 hXr ⊢
    have hXl : XX.length = 1 := by rw [← hXX]; rfl
    refine ⟨rfl, (((m.rows.length : Int), e.2), XX), ⟨hex1, (fun c hc => by subst hXX; simp only [List.mem_singleton] at hc; rw [hc]; rfl), ?_⟩, fun c Q h => ?_⟩
    ·rw [hraw, mutRows, if_neg (show ¬ (3 : Int) = 0 by decide), if_neg (show ¬ (3 : Int) = 1 by decide), if_neg (show ¬ (3 : Int) = 2 by decide), if_pos (show (3 : Int) = 3 from rfl), hE, hrt, hXr, ← List.map_append]
    simp only [hXl] at h
    refine EvC.gcE [3, 4, 5, 7] [(0, 0), (1, 1), (2, 2), (3, 3), (19, 4)] 5 rfl (by simp only [go_sem, hnr, hrn, List.all_append, Bool.false_and, hex1, hex3, List.map_append] <;> rfl) h
   ·
    have hd2 : definedB m e.1 a = true := by
     unfold kindB at hkb
     rw [if_neg (show ¬ (4 : Int) = 0 by decide), if_neg (show ¬ (4 : Int) = 1 by decide), if_neg (show ¬ (4 : Int) = 2 by decide), if_neg (show ¬ (4 : Int) = 3 by decide)] at hkb
     simp only [Bool.and_eq_true] at hkb
     rw [hE] at hkb
     exact hkb.2.1
    obtain ⟨r5, h5, h5i, _⟩ := step_in hv hd2
    obtain ⟨c1, c2, _⟩ := definedB_iff.1 hd2
    have h5m := List.mem_of_getElem? h5
    have h5r := (hv.row _ h5m).1
    have hrt : rowAt m e.1 = r5.2 := by unfold rowAt; rw [h5]; rfl
    obtain ⟨b5, e5⟩ := r5
    simp only at h5r hrt h5i
    have hr8 : room (m.rows.length + 1) 24 = true := by simp only [room_eq, decide_eq_true_eq]; omega
    have hr16 : room e5.length 16 = true := by simp only [room_eq, decide_eq_true_eq]; omega
    have hl2 : ∀ x : Int × Int, (edgeC x).length = 2 := fun _ => rfl
    have hel5 : (e5.map edgeC).length = e5.length := List.length_map _
    have h5g : (e5.map edgeC)[a.toNat]? = some (edgeC (stepM m e.1 a)) := by rw [List.getElem?_map, h5i]; rfl
    have h5s : ∀ x y : Int, (e5.map edgeC).set a.toNat [.sc (.int .i64 x), .sc (.int .i64 y)] = (e5.set a.toNat (x, y)).map edgeC := fun x y => by rw [List.map_set]; rfl
    have h5l : (e5.set a.toNat ((stepM m e.1 a).1, o)).length = e5.length := List.length_set
    refine EvC.a ?_
    refine EvC.cf ?_
    refine EvC.a ?_
    refine EvC.cf ?_
    refine EvC.a ?_
    refine EvC.cf ?_
    refine EvC.a ?_
    refine EvC.cf ?_
    refine EvC.a ?_
    refine EvC.ct ?_
    refine EvC.a ?_ (by simp only [go_sem, h5, rowC, hel5, hRl] <;> rfl) (by simp [hr8, hr16, hl2]; try omega)
    refine EvC.a ?_ (by simp only [go_sem, h5g, h5s, edgeC, hel5] <;> rfl) (by simp; try omega)
    refine EvC.frz 40 (by simp only [go_sem, List.length_map, h5l] <;> rfl) ?_
    refine EvC.a ?_ (by simp only [go_sem, hRl, hr8] <;> rfl)
    refine EvC.b ?_ (by simp only [go_sem, List.length_map] <;> rfl)
    obtain ⟨E5, hE5⟩ : ∃ E5, E5 = e5.set a.toNat ((stepM m e.1 a).1, o) := ⟨_, rfl⟩
    rw [← hE5]
    have hex1 : ([[.sl false (E5.map edgeC) .unk]] : List (List AV)).all AV.norefs = true := by simp [AV.norefs, AV.noref, norefs_edges]
    have hex3 : ([[.sl false (E5.map edgeC) .unk]] : List (List AV)).map (fun c => c.map (AV.ren [(0, 0), (1, 1), (2, 2), (3, 3), (19, 4)])) = [[.sl false (E5.map edgeC) .unk]] := by simp [AV.ren, AV.noref, norefs_edges]
    have hXr : ([[.sl false (E5.map edgeC) .unk]] : List (List AV)) = [(false, E5)].map rowC := rfl
    generalize hXX : ([[.sl false (E5.map edgeC) .unk]] : List (List AV)) = XX at hex1 hex3 hXr ⊢
    have hXl : XX.length = 1 := by rw [← hXX]; rfl
    refine ⟨rfl, (((m.rows.length : Int), e.2), XX), ⟨hex1, (fun c hc => by subst hXX; simp only [List.mem_singleton] at hc; rw [hc]; rfl), ?_⟩, fun c Q h => ?_⟩
    ·rw [hraw, mutRows, if_neg (show ¬ (4 : Int) = 0 by decide), if_neg (show ¬ (4 : Int) = 1 by decide), if_neg (show ¬ (4 : Int) = 2 by decide), if_neg (show ¬ (4 : Int) = 3 by decide), hE, hrt, hXr, ← List.map_append, hE5]
    simp only [hXl] at h
    refine EvC.gcE [3, 4, 5, 7] [(0, 0), (1, 1), (2, 2), (3, 3), (19, 4)] 5 rfl (by simp only [go_sem, hnr, hrn, List.all_append, Bool.false_and, hex1, hex3, List.map_append] <;> rfl) h
 have dk : decide ((k : Int) < m.rows.length) = true := decide_eq_true (by omega)
 have hk : m.rows[k]? = some (m.rows[k]'hkl) := List.getElem?_eq_getElem hkl
 have hkm := List.getElem_mem hkl
 have hkr := (hv.row _ hkm).1
 generalize m.rows[k]'hkl = rk at hk hkr
 obtain ⟨bk, es⟩ := rk
 simp only at hkr
 have hin : (k : Int).toNat = k := Int.toNat_natCast k
 have hr8 : room (k + 1) 24 = true := by simp only [room_eq, decide_eq_true_eq]; omega
 have hr16 : room es.length 16 = true := by simp only [room_eq, decide_eq_true_eq]; omega
 have hk1d : decide (k + 1 = 0) = false := decide_eq_false (by omega)
 have hel : (es.map edgeC).length = es.length := List.length_map _
 have hkk : k + 1 ≤ m.rows.length := hkl
 have hRl : (((m.rows.take k).map fun r => ((false, r.2) : Row)).map rowC).length = k := by simp; omega
 by_cases hkS : k = S
 ·subst hkS
  have hre : r = (bk, es) := by rw [hk] at h1; exact (Option.some.inj h1).symm
  subst hre
  have hl0 : rowsK m k k (.tl 3 n false) = ((m.rows.take k).map fun r => ((false, r.2) : Row)).map rowC := by rw [rowsK, List.set_eq_of_length_le (by simp; omega)]
  rw [hlo k (by omega)]
  refine EvC.seq ?_
  refine EvC.a ?_ (by simp only [go_sem, List.length_map] <;> rfl)
  refine EvC.cr ?_ (by simp only [go_sem, dk] <;> rfl)
  refine EvC.seq ?_
  refine EvC.block ?_
  have hl2 : ∀ x : Int × Int, (edgeC x).length = 2 := fun _ => rfl
  have hnl : n = es.length := hn
  have hsn := rowsK_self (m := m) (S := k) (v := .tl 17 n false) (w := .tl 3 n false) hk
  rw [hl0] at hsn
  have hRl4 : (rowsK m (k + 1) k (.tl 17 n false)).length = k + 1 := rowsK_len (by omega)
  refine EvC.dL mixed ?_ (h := by simp only [go_sem, hk, hin, rowC, hel, hRl, ← hnl, hsn, hRl4] <;> rfl) (hok := by simp [hr8, hnl, hr16, hl2])
  have hnr : (rowsK m (k + 1) k (.tl 17 n false)).all AV.norefs = false := rowsK_norefs (by omega) hkk rfl
  have hrn := rowsK_ren m (k + 1) k (.tl 17 n false) [(0, 0), (1, 1), (2, 2), (17, 3)]
  refine EvC.b ?_ (hok := by exact inI64_of (by omega) (by omega))
  exact ⟨[(0, 0), (1, 1), (2, 2), (17, 3)], k + 1, rfl, (by rw [hhi (k + 1) (by omega)]; simp only [go_sem, hnr, hrn, hk1d, Bool.and_false, Int.natCast_add, Int.natCast_one] <;> rfl), hkk, by omega⟩
 have hl2 : ∀ x : Int × Int, (edgeC x).length = 2 := fun _ => rfl
 have hsn := rowsK_other (v := .tl 3 n false) hk hkS
 simp only at hsn
 have hRl2 : (rowsK m k S (.tl 3 n false)).length = k := rowsK_len (by omega)
 have hRl3 : (rowsK m (k + 1) S (.tl 3 n false)).length = k + 1 := rowsK_len (by omega)
 rcases Nat.lt_or_ge k S with hlt | hge
 ·have hl0 : rowsK m k S (.tl 3 n false) = ((m.rows.take k).map fun r => ((false, r.2) : Row)).map rowC := by rw [rowsK, List.set_eq_of_length_le (by simp; omega)]
  have hl1 : rowsK m (k + 1) S (.tl 3 n false) = ((m.rows.take (k + 1)).map fun r => ((false, r.2) : Row)).map rowC := by rw [rowsK, List.set_eq_of_length_le (by simp; omega)]
  rw [hl0, hl1] at hsn
  have hsn : List.map rowC (List.map (fun r => (false, r.snd)) (List.take k m.rows)) ++ [[.sl false (es.map edgeC) .unk]] = List.map rowC (List.map (fun r => (false, r.snd)) (List.take (k + 1) m.rows)) := hsn
  rw [hlo k (by omega)]
  refine EvC.seq ?_
  refine EvC.a ?_ (by simp only [go_sem, List.length_map] <;> rfl)
  refine EvC.cr ?_ (by simp only [go_sem, dk] <;> rfl)
  refine EvC.seq ?_
  refine EvC.block ?_
  have hnr : (List.map rowC (List.map (fun r => ((false, r.snd) : Row)) (List.take (k + 1) m.rows))).all AV.norefs = true := by
   simp only [List.all_eq_true]
   intro c hc
   obtain ⟨r, _, rfl⟩ := List.mem_map.1 hc
   exact rowC_norefs r
  obtain ⟨R0, hR0⟩ : ∃ R0, R0 = List.map rowC (List.map (fun r => ((false, r.snd) : Row)) (List.take k m.rows)) := ⟨_, rfl⟩
  rw [← hR0] at hsn hRl ⊢
  refine EvC.dL mixed ?_ (h := by simp only [go_sem, hk, hin, rowC, hel, hRl] <;> rfl) (hok := by simp [hr8, hr16, hl2])
  refine EvC.frz 17 (by simp only [go_sem, hel] <;> rfl) ?_
  have hgl : (R0 ++ [[AV.tl 17 es.length false]])[k]? = some [AV.tl 17 es.length false] := by rw [List.getElem?_append_right (by omega), hRl, Nat.sub_self]; rfl
  have hsl : ∀ v, (R0 ++ [[v]]).set k [.sl false (es.map edgeC) .unk] = R0 ++ [[.sl false (es.map edgeC) .unk]] := fun v => by rw [List.set_append_right _ _ (by omega), hRl, Nat.sub_self]; rfl
  rw [hsn] at hsl
  have hRl1 : (List.map rowC (List.map (fun r => ((false, r.snd) : Row)) (List.take (k + 1) m.rows))).length = k + 1 := by simp; omega
  obtain ⟨R1, hR1⟩ : ∃ R1, R1 = List.map rowC (List.map (fun r => ((false, r.snd) : Row)) (List.take (k + 1) m.rows)) := ⟨_, rfl⟩
  rw [← hR1] at hsl hnr hRl1
  refine EvC.snapE 2 k (by simp only [go_sem, hgl, hsl, hel, hRl] <;> rfl) ?_
  refine EvC.b ?_ (hok := by exact inI64_of (by omega) (by omega))
  exact ⟨[(0, 0), (1, 1), (2, 2)], k + 1, rfl, (by rw [hlo (k + 1) (by omega), ← hR1]; simp only [go_sem, hnr, hk1d, Int.natCast_add, Int.natCast_one] <;> rfl), hkk, by omega⟩
 ·have hSk : S < k := by omega
  rw [hhi k hSk]
  refine EvC.seq ?_
  refine EvC.a ?_ (by simp only [go_sem, List.length_map] <;> rfl)
  refine EvC.cr ?_ (by simp only [go_sem, dk] <;> rfl)
  refine EvC.seq ?_
  refine EvC.block ?_
  have hk0d : decide (k = 0) = false := decide_eq_false (by omega)
  have hnr : (rowsK m (k + 1) S (.tl 3 n false)).all AV.norefs = false := rowsK_norefs (by omega) hkk rfl
  have hrn := rowsK_ren m (k + 1) S (.tl 3 n false) [(0, 0), (1, 1), (2, 2), (3, 3)]
  obtain ⟨R0, hR0⟩ : ∃ R0, R0 = rowsK m k S (.tl 3 n false) := ⟨_, rfl⟩
  rw [← hR0] at hsn hRl2 ⊢
  refine EvC.dL mixed ?_ (h := by simp only [go_sem, hk, hin, rowC, hel, hRl2] <;> rfl) (hok := by simp [hr8, hr16, hl2])
  refine EvC.frz 17 (by simp only [go_sem, hel] <;> rfl) ?_
  have hgl : (R0 ++ [[AV.tl 17 es.length false]])[k]? = some [AV.tl 17 es.length false] := by rw [List.getElem?_append_right (by omega), hRl2, Nat.sub_self]; rfl
  have hsl : ∀ v, (R0 ++ [[v]]).set k [.sl false (es.map edgeC) .unk] = R0 ++ [[.sl false (es.map edgeC) .unk]] := fun v => by rw [List.set_append_right _ _ (by omega), hRl2, Nat.sub_self]; rfl
  have hsn : R0 ++ [[.sl false (es.map edgeC) .unk]] = rowsK m (k + 1) S (.tl 3 n false) := hsn
  rw [hsn] at hsl
  refine EvC.snapE 2 k (by simp only [go_sem, hgl, hsl, hel, hRl2] <;> rfl) ?_
  refine EvC.b ?_ (hok := by exact inI64_of (by omega) (by omega))
  exact ⟨[(0, 0), (1, 1), (2, 2), (3, 3)], k + 1, rfl, (by rw [hhi (k + 1) (by omega)]; simp only [go_sem, hnr, hrn, hk1d, hRl3, Bool.and_false, Int.natCast_add, Int.natCast_one] <;> rfl), hkk, by omega⟩
structure WV (m : Mach) : Prop where
 ins : 1 ≤ m.ins ∧ m.ins ≤ 16
 rows : 1 ≤ m.rows.length ∧ m.rows.length ≤ 1000
 row : ∀ r ∈ m.rows, (r.2.length : Int) = m.ins ∧ ∀ e ∈ r.2, fitsR m.rows.length m.outs e.1 e.2 = true
theorem Valid.w {m : Mach} (h : Valid m) : WV m := ⟨h.ins, ⟨h.rows.1, by have := h.rows.2; omega⟩, h.row⟩
abbrev Mtx := Nat → Nat → Bool
def mrow (cp : Cp) (n : Nat) (M : Mtx) (i : Nat) : List AV := [.sl false (((List.range n).map (M i)).map boolC) cp]
@[go_sem] theorem norefs_mrow (cp : Cp) (n : Nat) (M : Mtx) (l : List Nat) : (l.map (mrow cp n M)).all AV.norefs = true := by
 rw [List.all_eq_true]
 intro y hy
 obtain ⟨i, _, rfl⟩ := List.mem_map.1 hy
 simp only [mrow, AV.norefs, AV.noref, norefs_bool, Bool.and_self]
def mtab (n : Nat) (M : Mtx) (i : Nat) : List (List AV) := (List.range i).map (mrow .unk n M)
@[go_sem] theorem norefs_mtab (n : Nat) (M : Mtx) (i : Nat) : (mtab n M i).all AV.norefs = true := norefs_mrow _ _ _ _
@[go_sem] theorem mtab_ren (n : Nat) (M : Mtx) (i : Nat) (ρ : List (Nat × Nat)) : (mtab n M i).map (fun c => c.map (AV.ren ρ)) = mtab n M i := by
 rw [mtab, List.map_map]
 refine List.map_congr_left fun k _ => ?_
 simp only [Function.comp, mrow, List.map_cons, List.map_nil]
 rfl
def orR : List Int → Int
 | [] => 0
 | x :: xs => if x ≠ 0 then x else orR xs
theorem or_is (nl : Bool) (xs : List Int) (c : Cp) (hl : xs.length < 1000000) : PureIs prog 121 [.sl nl (xs.map intC) c] (.sc (.int .i64 (orR xs))) := by
 refine PureIs.of1 6 [6, 7, 8, 9, 14] func121 ntmps121 results121 fun _ => ?_
 refine EvC.seq (EvC.rg (by simp only [go_sem] <;> rfl) rfl ?_)
 refine EvC.seq (EvC.rg (by simp only [go_sem] <;> rfl) rfl ?_)
 refine EvC.seq ?_
 refine EvC.seq (EvC.rg (by simp only [go_sem] <;> rfl) rfl ?_)
 refine EvC.block (EvC.loopS (σ := Nat) (fun i => ⟨[(3, .sc (.int .i64 0)), (6, .sl nl (xs.map intC) c), (7, .sc (.int .i64 xs.length)), (8, .sc (.int .i64 i))], [], [], 0⟩) (fun i => xs.length - i) (fun i => i ≤ xs.length ∧ orR xs = orR (xs.drop i)) [3, 6, 7, 8] 0 ?_ ?_)
 ·refine ⟨[], 0, rfl, (by simp only [go_sem] <;> rfl), Nat.zero_le _, by simp⟩
 rintro i ⟨h1, h2⟩
 refine EvC.seq (EvC.rg (by simp only [go_sem] <;> rfl) rfl ?_)
 refine EvC.seq (EvC.cond (by simp only [go_sem] <;> rfl) (fun hc => ?_) (fun hc => ?_))
 ·refine EvC.skip ?_
  have hi : i < xs.length := by simpa using hc
  have he : xs[i]? = some xs[i] := List.getElem?_eq_getElem hi
  generalize xs[i] = e at he
  have hd : xs.drop i = e :: xs.drop (i + 1) := by
   rw [List.drop_eq_getElem_cons hi]; congr 1; rw [List.getElem?_eq_getElem hi] at he; simpa using he
  refine EvC.seq ?_
  refine EvC.block (EvC.seq (EvC.rg (by simp only [go_sem, he, intC] <;> rfl) (by simp) ?_))
  refine EvC.a ?_
  refine EvC.cond (by simp only [go_sem] <;> rfl) (fun hc1 => ?_) (fun hc1 => ?_)
  ·refine EvC.seq (EvC.rg (by simp only [go_sem] <;> rfl) rfl ?_)
   refine EvC.rz ?_
   simp only [go_sem]
   rw [h2, hd, orR, if_pos (by simpa using hc1)]
  refine EvC.skip ?_
  refine EvC.rg (by simp only [go_sem] <;> rfl) ?_ ?_
  ·exact inI64_of (by omega) (by omega)
  refine ⟨[], i + 1, rfl, (by simp only [go_sem] <;> rfl), ⟨by omega, ?_⟩, by omega⟩
  rw [h2, hd, orR, if_neg (by simpa using hc1)]
 ·refine EvC.exit ?_
  have hi : ¬ i < xs.length := by simpa using hc
  refine EvC.seq (EvC.rg (by simp only [go_sem] <;> rfl) rfl ?_)
  refine EvC.rz ?_
  simp only [go_sem]
  rw [h2, List.drop_of_length_le (by omega)]; rfl
def bothR (a b : Mach) : Int := if checkM a ≠ 0 then checkM a else if checkM b ≠ 0 then checkM b else if a.ins ≠ b.ins then 5 else 0
theorem both_is (a b : Mach) (ha : ∀ r ∈ a.rows, r.2.length < 1000000) (hb : ∀ r ∈ b.rows, r.2.length < 1000000) : PureIs prog 105 [.ag a.cells, .ag b.cells] (.sc (.int .i64 (bothR a b))) := by
 refine PureIs.of1 6 [20] func105 ntmps105 results105 fun _ => ?_
 refine EvC.seq (EvC.rg (by simp only [go_sem, Mach.cells] <;> rfl) rfl ?_)
 apply EvC.seq
 apply EvC.drw mixed
 ·apply Tr.run
  ·simp only [go_sem] <;> rfl
  ·simp
  apply Tr.cons
  ·exact .ca (check_is a ha)
  apply Tr.run
  ·simp only [go_sem] <;> rfl
  ·simp
  apply Tr.cons
  ·exact .ca (check_is b hb)
  apply Tr.run
  ·simp only [go_sem, List.set_cons_zero, List.set_cons_succ] <;> rfl
  ·simp
  apply Tr.cons
  ·exact .ca (or_is false [checkM a, checkM b] .full (by simp))
  apply Tr.done
  ·simp only [go_sem] <;> rfl
  ·simp
 ·kernel_rfl
 apply EvC.seq
 apply EvC.seq
 apply EvC.trd
 ·simp only [go_sem] <;> rfl
 ·simp
 have ho : orR [checkM a, checkM b] = if checkM a ≠ 0 then checkM a else checkM b := by
  unfold orR orR orR; by_cases h : checkM a = 0 <;> simp [h] <;> omega
 refine EvC.cond (by simp only [go_sem] <;> rfl) (fun hc => ?_) (fun hc => ?_)
 ·refine EvC.rg (by simp only [go_sem] <;> rfl) rfl ?_
  refine EvC.seq (EvC.rg (by simp only [go_sem] <;> rfl) rfl ?_)
  refine EvC.rz ?_
  simp only [go_sem]
  rw [ho] at hc
  have : bothR a b = 5 := by unfold bothR; grind
  rw [this]
 ·refine EvC.skip ?_
  refine EvC.seq (EvC.rg (by simp only [go_sem] <;> rfl) rfl ?_)
  refine EvC.rz ?_
  simp only [go_sem]
  rw [ho] at hc ⊢
  have : bothR a b = if checkM a ≠ 0 then checkM a else checkM b := by unfold bothR; grind
  rw [this]
theorem index49_is (nl : Bool) (xs : List (Int × Int)) (c : Cp) (v : Int × Int) (hl : xs.length < 1000000) :
  PureIs prog 130 [.sl nl (xs.map edgeC) c, edgeA v] (.sc (.int .i64 (findIdxR (fun e => decide (e = v)) xs 0))) := by
 refine PureIs.of1 2 [3, 4, 5, 7, 8, 9, 16] func130 ntmps130 results130 fun _ => ?_
 refine EvC.a ?_ (by simp only [go_sem, edgeA] <;> rfl)
 refine EvC.seq ?_
 refine EvC.a ?_
 refine EvC.block ?_
 refine EvC.loopS (σ := Nat) (fun i => ⟨[(0, .sl nl (xs.map edgeC) c), (3, .rf 0 0), (7, .sc (.int .i64 xs.length)), (8, .sc (.int .i64 i))], [], [(0, .cells (edgeC v))], 1⟩) (fun i => xs.length - i)
  (fun i => i ≤ xs.length ∧ findIdxR (fun e => decide (e = v)) xs 0 = findIdxR (fun e => decide (e = v)) (xs.drop i) i) [0, 3, 7, 8] 1 ?_ ?_
 ·refine ⟨[(0, 0)], 0, rfl, (by simp only [go_sem, edgeC] <;> rfl), Nat.zero_le _, by simp⟩
 rintro i ⟨h1, h2⟩
 refine EvC.a ?_
 refine EvC.seq ?_
 refine EvC.cond (by simp only [go_sem] <;> rfl) (fun hc => ?_) (fun hc => ?_)
 rotate_left
 ·refine EvC.exit ?_
  have hi : ¬ i < xs.length := by simpa using hc
  refine EvC.a ?_
  refine EvC.rz ?_
  simp only [go_sem]
  rw [h2, List.drop_of_length_le (by omega)]; rfl
 refine EvC.skip ?_
 have hi : i < xs.length := by simpa using hc
 have he : xs[i]? = some xs[i] := List.getElem?_eq_getElem hi
 have hd : xs.drop i = xs[i] :: xs.drop (i + 1) := List.drop_eq_getElem_cons hi
 generalize xs[i] = e at he hd
 refine EvC.seq ?_
 refine EvC.block ?_
 refine EvC.a ?_
 apply EvC.seq
 apply EvC.drd mixed
 ·simp only [go_sem, he, edgeC] <;> rfl
 ·simp
 ·kernel_rfl
 have hev : (decide (v.1 = e.1) && (decide (v.2 = e.2) && true)) = decide (e = v) := by
  obtain ⟨a, b⟩ := e; obtain ⟨c, d⟩ := v
  by_cases h1 : a = c <;> by_cases h2 : b = d <;> simp [h1, h2, eq_comm]
 refine EvC.cond (by simp only [go_sem] <;> rfl) (fun hc => ?_) (fun hc => ?_)
 ·refine EvC.a ?_
  refine EvC.rz ?_
  simp only [go_sem]
  have : decide (e = v) = true := by rw [← hev]; simpa using hc
  rw [h2, hd, findIdxR, if_pos this]
 refine EvC.skip ?_
 refine EvC.b ?_ (hok := inI64_of (by omega) (by omega))
 refine ⟨[(0, 0)], i + 1, rfl, (by simp only [go_sem] <;> rfl), ⟨by omega, ?_⟩, by omega⟩
 have : ¬ decide (e = v) = true := by rw [← hev]; simpa using hc
 rw [h2, hd, findIdxR, if_neg this]; rfl
theorem any_mem (xs : List (Int × Int)) (v : Int × Int) : (xs.any fun e => decide (e = v)) = decide (v ∈ xs) := by
 rw [Bool.eq_iff_iff]; simp
theorem contains46_is (nl : Bool) (xs : List (Int × Int)) (c : Cp) (v : Int × Int) (hl : xs.length < 1000000) :
  PureIs prog 124 [.sl nl (xs.map edgeC) c, edgeA v] (.sc (.bool (decide (v ∈ xs)))) := by
 refine PureIs.of1 2 [3, 4] func124 ntmps124 results124 fun _ => ?_
 refine EvC.a ?_ (by simp only [go_sem, edgeA] <;> rfl)
 apply EvC.seq
 apply EvC.tr
 ·apply Tr.run
  ·simp only [go_sem] <;> rfl
  ·simp
  apply Tr.cons
  ·exact .ca (index49_is nl xs c v hl)
  apply Tr.done
  ·simp only [go_sem] <;> rfl
  ·simp
 refine EvC.rz ?_
 simp only [go_sem]
 rw [findIdxR_any _ _ _ (Int.le_refl 0), any_mem]
abbrev Arr := (Int × Int) × Int × Int
def arrC (a : Arr) : List AV := [.sc (.int .i64 a.1.1), .sc (.int .i64 a.1.2), .sc (.int .i64 a.2.1), .sc (.int .i64 a.2.2)]
@[go_sem] theorem norefs_arrs (l : List Arr) : (l.map arrC).all AV.norefs = true := by simp [List.all_eq_true, arrC, AV.norefs, AV.noref]
def wordR (l : List Arr) : Nat → Int → List Int → List Int
 | 0, _, acc => acc
 | n + 1, at', acc => match l[at'.toNat]? with
   | some a => if a.2.1 = -1 then acc else wordR l n a.2.1 (a.2.2 :: acc)
   | none => acc
def WfArr (l : List Arr) : Prop := ∀ (i : Nat) (a : Arr), l[i]? = some a → -1 ≤ a.2.1 ∧ a.2.1 < i
theorem word_is (nl : Bool) (l : List Arr) (c : Cp) (hw : WfArr l) (at' : Int) (h0 : 0 ≤ at') (ha : at' < l.length) (acc : List Int) (c2 : Cp) (hl : l.length + acc.length < 1000000) :
  PureIs prog 123 [.sl nl (l.map arrC) c, .sc (.int .i64 at'), .sl false (acc.map intC) c2] (.sl false ((wordR l l.length at' acc).map intC) .full) := by
 refine PureIs.of1 3 [6, 12] func123 ntmps123 results123 fun _ => ?_
 refine EvC.a ?_
 refine EvC.seq ?_
 refine EvC.block ?_
 refine EvC.loopS (σ := Int × List Int × Cp) (fun g => ⟨[(0, .sl nl (l.map arrC) c), (1, .sc (.int .i64 g.1)), (2, .sl false (g.2.1.map intC) g.2.2)], [], [], 0⟩) (fun g => g.1.toNat)
  (fun g => 0 ≤ g.1 ∧ g.1 < l.length ∧ g.2.1.length + g.1 < 1000000 ∧ ∃ n : Nat, g.1 < n ∧ wordR l l.length at' acc = wordR l n g.1 g.2.1) [0, 1, 2] 0 ?_ ?_
 ·refine ⟨[], (at', acc, c2), rfl, (by simp only [go_sem] <;> rfl), h0, ha, ?_, l.length, by omega, rfl⟩
  simp only; omega
 rintro ⟨t, xs, c3⟩ ⟨h1, h2, h3, n, h4, h5⟩
 simp only at h1 h2 h3 h4 h5
 have hi : t.toNat < l.length := by omega
 have he : l[t.toNat]? = some l[t.toNat] := List.getElem?_eq_getElem hi
 generalize l[t.toNat] = a at he
 obtain ⟨w1, w2⟩ := hw _ _ he
 refine EvC.seq ?_
 refine EvC.a ?_ (by simp only [go_sem, he, arrC] <;> rfl) (by simp [h1])
 refine EvC.cond (by simp only [go_sem] <;> rfl) (fun hc => ?_) (fun hc => ?_)
 rotate_left
 ·refine EvC.exit ?_
  have hc : a.2.1 = -1 := by simpa using hc
  apply EvC.seq
  apply EvC.tr
  ·apply Tr.run
   ·simp only [go_sem] <;> rfl
   ·simp
   apply Tr.cons
   ·exact .ca (clipI_is false (xs.map intC) c3 (by simp [intC]))
   apply Tr.done
   ·simp only [go_sem] <;> rfl
   ·simp
  refine EvC.rz ?_
  simp only [go_sem]
  rw [h5]
  obtain ⟨m, rfl⟩ : ∃ m, n = m + 1 := ⟨n - 1, by omega⟩
  simp only [wordR, he, hc, if_true]
 have hc : a.2.1 ≠ -1 := by simpa using hc
 refine EvC.skip ?_
 refine EvC.block ?_
 refine EvC.seq (EvC.rg (by simp only [go_sem, he, arrC, List.set_cons_zero] <;> rfl) ?_ ?_)
 ·have hx : xs.length < 1000000 := by omega
  simp [h1, room_eq, intC, AV.norefs, AV.noref]; omega
 refine EvC.b ?_ (by simp only [go_sem, he, arrC] <;> rfl) (by simp [h1])
 refine ⟨[], (a.2.1, a.2.2 :: xs, .unk), rfl, (by simp only [go_sem, intC] <;> rfl), ⟨?_, ?_, ?_, n - 1, ?_, ?_⟩, ?_⟩
 all_goals simp only [List.length_cons]
 ·omega
 ·omega
 ·omega
 ·omega
 ·rw [h5]
  obtain ⟨m, rfl⟩ : ∃ m, n = m + 1 := ⟨n - 1, by omega⟩
  simp only [wordR, he, if_neg hc, Nat.add_sub_cancel]
 ·omega
theorem nodup_bound : ∀ (n : Nat) (l : List Nat), l.Nodup → (∀ x ∈ l, x < n) → l.length ≤ n
 | 0, [], _, _ => Nat.le_refl _
 | 0, x :: _, _, h => absurd (h x List.mem_cons_self) (Nat.not_lt_zero _)
 | n + 1, l, hn, h => by
   have h1 := nodup_bound n (l.filter (fun x => decide (x ≠ n))) (hn.filter _) fun x hx => by
    obtain ⟨h2, h3⟩ := List.mem_filter.1 hx
    have := h x h2
    have h3 : x ≠ n := by simpa using h3
    omega
   have h2 : (l.filter (fun x => decide (x = n))).length ≤ 1 := by
    have h3 : ∀ x ∈ l.filter (fun x => decide (x = n)), x = n := fun x hx => by simpa using (List.mem_filter.1 hx).2
    have h4 := hn.filter (fun x => decide (x = n))
    generalize l.filter (fun x => decide (x = n)) = m at h3 h4
    match m, h3, h4 with
    | [], _, _ => simp
    | [_], _, _ => simp
    | x :: y :: m, h3, h4 =>
      have e1 := h3 x (by simp)
      have e2 := h3 y (by simp)
      subst e1; subst e2
      simp at h4
   have h3 : l.length = (l.filter (fun x => decide (x ≠ n))).length + (l.filter (fun x => decide (x = n))).length := by
    clear hn h h1 h2
    induction l with
    | nil => rfl
    | cons x l ih =>
      by_cases hx : x = n <;> simp [List.filter_cons, hx, ih] <;> omega
   omega
theorem pairs_bound (l : List (Int × Int)) (hn : l.Nodup) (h : ∀ p ∈ l, 0 ≤ p.1 ∧ p.1 < 64 ∧ 0 ≤ p.2 ∧ p.2 < 64) : l.length ≤ 4096 := by
 have := nodup_bound 4096 (l.map fun p => p.1.toNat * 64 + p.2.toNat) (by
  refine List.Pairwise.map _ (R := fun a b => a ∈ l ∧ b ∈ l ∧ a ≠ b) ?_ ?_
  ·rintro ⟨a, b⟩ ⟨c, d⟩ ⟨h1, h2, h3⟩ h4
   have k1 := h _ h1
   have k2 := h _ h2
   simp only at k1 k2 h4
   exact h3 (by rw [Prod.mk.injEq]; omega)
  ·exact List.Pairwise.imp_of_mem (fun h1 h2 h3 => ⟨h1, h2, h3⟩) hn) (by
  intro x hx
  obtain ⟨p, hp, rfl⟩ := List.mem_map.1 hx
  have := h p hp; omega)
 simpa using this
structure Yld where
 at' : Int
 inp : Int
 x : Int × Int
 y : Int × Int
 l : List Arr
def meetA (z : Yld) : AV := .ag [.sc (.int .i64 z.at'), .sc (.int .i64 z.inp), .sc (.int .i64 z.x.1), .sc (.int .i64 z.x.2), .sc (.int .i64 z.y.1), .sc (.int .i64 z.y.2)]
def yldC (z : Yld) : List AV := [meetA z, .sl false (z.l.map arrC) .unk]
def nextL (at' i : Int) (x y : Int × Int) (l : List Arr) : List Arr :=
 if x.1 ≠ -1 ∧ y.1 ≠ -1 ∧ (x.1, y.1) ∉ l.map (·.1) then l ++ [((x.1, y.1), at', i)] else l
def inR (a b : Mach) (at' s t : Int) : Nat → Nat → List Arr → List Yld × List Arr
 | 0, _, l => ([], l)
 | n + 1, i, l => (⟨at', i, stepR a s i, stepR b t i, l⟩ :: (inR a b at' s t n (i + 1) (nextL at' i (stepR a s i) (stepR b t i) l)).1, (inR a b at' s t n (i + 1) (nextL at' i (stepR a s i) (stepR b t i) l)).2)
def outR (a b : Mach) : Nat → Nat → List Arr → List Yld
 | 0, _, _ => []
 | n + 1, at', l => match l[at']? with
   | none => []
   | some p => (inR a b at' p.1.1 p.1.2 a.ins.toNat 0 l).1 ++ outR a b n (at' + 1) (inR a b at' p.1.1 p.1.2 a.ins.toNat 0 l).2
def arr0 : List Arr := [((0, 0), -1, 0)]
def meetsR (a b : Mach) : List Yld := outR a b 5000 0 arr0
structure GoodL (a b : Mach) (l : List Arr) : Prop where
 nd : (l.map (·.1)).Nodup
 rng : ∀ p ∈ l, 0 ≤ p.1.1 ∧ p.1.1 < a.rows.length ∧ 0 ≤ p.1.2 ∧ p.1.2 < b.rows.length
 wf : WfArr l
theorem GoodL.len {a b : Mach} (ha : Valid a) (hb : Valid b) {l : List Arr} (h : GoodL a b l) : l.length ≤ 4096 := by
 have := pairs_bound (l.map (·.1)) h.nd fun p hp => by
  obtain ⟨q, hq, rfl⟩ := List.mem_map.1 hp
  have := h.rng q hq
  have h1 := ha.rows; have h2 := hb.rows; omega
 simpa using this
theorem GoodL.zero {a b : Mach} (ha : Valid a) (hb : Valid b) : GoodL a b arr0 := by
 have h1 := ha.rows
 have h2 := hb.rows
 refine ⟨by simp [arr0], ?_, ?_⟩
 ·intro p hp
  simp only [arr0, List.mem_singleton] at hp
  subst hp
  simp only; omega
 ·intro i p hp
  cases i with
  | zero => simp only [arr0, List.getElem?_cons_zero, Option.some.injEq] at hp; subst hp; simp
  | succ i => simp [arr0] at hp
theorem GoodL.next {a b : Mach} (ha : Valid a) (hb : Valid b) {l : List Arr} (h : GoodL a b l) {at' : Nat} (hat : at' < l.length) {i : Int} {s t : Int} (hs : 0 ≤ s ∧ s < a.rows.length) (ht : 0 ≤ t ∧ t < b.rows.length) (hi : 0 ≤ i ∧ i < a.ins) (hab : a.ins = b.ins) :
  GoodL a b (nextL at' i (stepR a s i) (stepR b t i) l) ∧ at' < (nextL at' i (stepR a s i) (stepR b t i) l).length := by
 unfold nextL
 split
 ·rename_i hx
  obtain ⟨h1, h2, h3⟩ := hx
  obtain ⟨_, _, _, _, e1, f1⟩ := stepR_get ha hs.1 hs.2 hi
  obtain ⟨_, _, _, _, e2, f2⟩ := stepR_get hb ht.1 ht.2 (by rw [← hab]; exact hi)
  rw [← e1] at f1
  rw [← e2] at f2
  refine ⟨⟨?_, ?_, ?_⟩, by simp; omega⟩
  ·rw [List.map_append, List.nodup_append]
   refine ⟨h.nd, by simp, ?_⟩
   rintro p hp q hq rfl
   simp only [List.map_cons, List.map_nil, List.mem_singleton] at hq
   subst hq
   exact h3 hp
  ·intro p hp
   rcases List.mem_append.1 hp with hp | hp
   ·exact h.rng p hp
   ·simp only [List.mem_singleton] at hp
    subst hp
    unfold fitsR at f1 f2
    simp at f1 f2
    simp only; omega
  ·intro j p hp
   by_cases hj : j < l.length
   ·rw [List.getElem?_append_left hj] at hp; exact h.wf j p hp
   ·rw [List.getElem?_append_right (by omega)] at hp
    by_cases h0 : j - l.length = 0
    ·rw [h0] at hp
     simp only [List.getElem?_cons_zero, Option.some.injEq] at hp
     subst hp
     simp only; omega
    ·obtain ⟨m, hm⟩ : ∃ m, j - l.length = m + 1 := ⟨j - l.length - 1, by omega⟩
     rw [hm] at hp; simp at hp
 ·exact ⟨h, hat⟩
def pairV (p : Int × Int) : Value := .agg [Value.int .i64 p.1, .int .i64 p.2].toArray
def seenE (a : Arr) : Value × AV := (pairV a.1, .sc (.bool true))
@[go_sem] theorem key183 : isKey prog 183 = keyTest true [.int .i64, .int .i64] := isKey_of (by kernel_rfl) (by kernel_rfl)
@[go_sem] theorem norefs_seen (l : List Arr) : ((l.map seenE).all fun p => p.2.noref) = true := by simp [List.all_eq_true, seenE, AV.noref]
theorem eqVal_pair (p q : Int × Int) : eqVal (pairV p) (pairV q) = decide (p = q) := by
 obtain ⟨a, b⟩ := p; obtain ⟨c, d⟩ := q
 simp [eqVal, pairV, Value.cells, eqCells, eqCell]
theorem elook_seen (l : List Arr) (p : Int × Int) : elook (l.map seenE) (pairV p) = if p ∈ l.map (·.1) then some (.sc (.bool true)) else none := by
 induction l with
 | nil => rfl
 | cons a l ih =>
   simp only [List.map_cons, seenE, elook, eqVal_pair, List.mem_cons]
   by_cases h : p = a.1
   ·simp [h]
   ·simp only [h, decide_false, Bool.false_eq_true, if_false, false_or]; exact ih
theorem eset_seen (l : List Arr) (p : Int × Int) (h : p ∉ l.map (·.1)) (q : Int × Int) : eset (l.map seenE) (pairV p) (.sc (.bool true)) = (l ++ [(p, q)]).map seenE := by
 induction l with
 | nil => rfl
 | cons a l ih =>
   simp only [List.map_cons, List.mem_cons, not_or] at h
   simp only [List.map_cons, List.cons_append, seenE, eset, eqVal_pair]
   rw [if_neg (by simpa using h.1)]
   congr 1
   exact ih h.2
theorem meets1_seq (a b : Mach) (ha : Valid a) (hb : Valid b) (hab : a.ins = b.ins) : SeqIs prog 129 [.ia a.cells, .ia b.cells] ((meetsR a b).map yldC) := by
 refine SeqIs.of (nv := 3) (hid := [4, 5, 6, 7, 8, 9, 10, 11, 12, 17, 21, 37, 38, 39, 65, 84]) func129 rfl (by kernel_rfl) (by simp [ntmps129]) (by rw [results129]) fun lp J h0 hJ hy => ?_
 rw [ntmps129]
 refine EvY.seqL hJ (EvC.rg (by simp only [go_sem] <;> rfl) (by simp [descAgg, matchKinds, matchKind]) ?_)
 refine EvY.seqL hJ (EvC.rg (by simp only [go_sem] <;> rfl) (by simp) ?_)
 refine EvY.fz hJ 6 (by simp only [go_sem] <;> rfl) ?_
 refine EvY.seqL hJ (EvC.rg (by simp only [go_sem] <;> rfl) (by simp) ?_)
 refine EvY.block ?_
 refine EvY.loopS hJ (σ := Nat × Nat × List Arr × List Yld) (fun g => ⟨[(0, .sc (yv lp)), (1, .ia a.cells), (2, .ia b.cells), (4, .mp 0), (5, .tl 1 g.2.2.1.length false), (6, .sc (.int .i64 g.2.1))], [], [(0, .map 183 (g.2.2.1.map seenE)), (1, .arr 4 (g.2.2.1.map arrC) true)], 2⟩) (fun g => g.2.2.2.length) (fun g => 5000 - g.2.1)
  (fun g => GoodL a b g.2.2.1 ∧ g.2.1 ≤ g.2.2.1.length ∧ meetsR a b = g.2.2.2 ++ outR a b g.1 g.2.1 g.2.2.1 ∧ g.1 + g.2.1 = 5000) [0, 1, 2, 4, 5, 6] 2 ?_ ?_
 ·refine ⟨[(0, 0), (6, 1)], (5000, 0, arr0, []), rfl, (by simp only [go_sem, arr0, seenE, pairV, arrC] <;> rfl), ⟨.zero ha hb, Nat.zero_le _, rfl, rfl⟩, rfl⟩
 rintro ⟨n, at', l, pre⟩ ⟨hg, hat, hpre, hn⟩
 simp only at hg hat hpre hn
 have hlen := hg.len ha hb
 have hra := ha.rows
 have hrb := hb.rows
 have hia := ha.ins
 refine EvY.seq ?_
 refine EvY.seqL hJ (EvC.rg (by simp only [go_sem] <;> rfl) (by simp) ?_)
 refine EvY.cond (by simp only [go_sem] <;> rfl) (fun hc => ?_) (fun hc => ?_)
 rotate_left
 ·refine EvY.exit ⟨.inr rfl, .inl ?_⟩
  have hc : ¬ at' < l.length := by simpa using hc
  have : outR a b n at' l = [] := by
   cases n with
   | zero => rfl
   | succ n => simp only [outR, List.getElem?_eq_none (show l.length ≤ at' by omega)]
  rw [hpre, this]; simp
 have hc : at' < l.length := by simpa using hc
 have he : l[at']? = some l[at'] := List.getElem?_eq_getElem hc
 have hmem := List.getElem_mem hc
 generalize l[at'] = p at he hmem
 have hp := hg.rng p hmem
 obtain ⟨n, rfl⟩ : ∃ m, n = m + 1 := ⟨n - 1, by omega⟩
 refine EvY.skip ?_
 refine EvY.seq ?_
 refine EvY.block ?_
 refine EvY.seqL hJ ?_
 intro _
 apply EvC.drd mixed
 ·simp only [go_sem, he, arrC] <;> rfl
 ·simp [hc]
 ·kernel_rfl
 refine EvY.seqL hJ (EvC.rg (by simp only [go_sem, Mach.cells] <;> rfl) (by simp) ?_)
 refine EvY.block ?_
 refine EvY.loopS hJ (σ := Nat × Nat × List Arr × List Yld) (fun g => ⟨[(0, .sc (yv lp)), (1, .ia a.cells), (2, .ia b.cells), (4, .mp 0), (5, .tl 1 g.2.2.1.length false), (6, .sc (.int .i64 at')), (7, .sc (.int .i64 p.1.1)), (8, .sc (.int .i64 p.1.2)), (37, .sc (.int .i64 a.ins)), (38, .sc (.int .i64 g.2.1))], [],
   [(0, .map 183 (g.2.2.1.map seenE)), (1, .arr 4 (g.2.2.1.map arrC) true)], 2⟩) (fun g => g.2.2.2.length) (fun g => g.1)
  (fun g => GoodL a b g.2.2.1 ∧ at' < g.2.2.1.length ∧ meetsR a b = g.2.2.2 ++ ((inR a b at' p.1.1 p.1.2 g.1 g.2.1 g.2.2.1).1 ++ outR a b n (at' + 1) (inR a b at' p.1.1 p.1.2 g.1 g.2.1 g.2.2.1).2) ∧ g.1 + g.2.1 = a.ins.toNat) [0, 1, 2, 4, 5, 6, 7, 8, 37, 38] 2 ?_ ?_
 ·refine ⟨[(0, 0), (1, 1)], (a.ins.toNat, 0, l, pre), rfl, (by simp only [go_sem] <;> rfl), ⟨hg, hc, ?_, rfl⟩, rfl⟩
  simp only
  rw [hpre, outR, he]
 clear hpre hg hlen hc he hmem hat
 rintro ⟨m, i, l, pre⟩ ⟨hg, hat, hpre, hm⟩
 simp only at hg hat hpre hm
 have hlen := hg.len ha hb
 refine EvY.seqL hJ (EvC.rg (by simp only [go_sem] <;> rfl) (by simp) ?_)
 refine EvY.seq ?_
 refine EvY.cond (by simp only [go_sem] <;> rfl) (fun hc => ?_) (fun hc => ?_)
 rotate_left
 ·refine EvY.exit ?_
  have hc : ¬ (i : Int) < a.ins := by simpa using hc
  have hm0 : m = 0 := by omega
  subst hm0
  refine EvY.lift hJ (EvC.rg (by simp only [go_sem] <;> rfl) (inI64_of (by omega) (by omega)) ?_)
  refine ⟨[(0, 0), (1, 1)], (n, at' + 1, l, pre), rfl, (by simp only [go_sem] <;> rfl), ⟨hg, by simp only; omega, ?_, by simp only; omega⟩, rfl, by simp only; omega⟩
  simp only
  rw [hpre, inR]; rfl
 have hc : (i : Int) < a.ins := by simpa using hc
 obtain ⟨m, rfl⟩ : ∃ k, m = k + 1 := ⟨m - 1, by omega⟩
 obtain ⟨r1, e, q1, q2, q3, f1⟩ := stepR_get ha hp.1 hp.2.1 (a := (i : Int)) (by omega)
 obtain ⟨r2, f, q4, q5, q6, f2⟩ := stepR_get hb hp.2.2.1 hp.2.2.2 (a := (i : Int)) (by omega)
 rw [Int.toNat_natCast] at q2 q5
 have hnx := hg.next ha hb hat (s := p.1.1) (t := p.1.2) (i := i) ⟨hp.1, hp.2.1⟩ ⟨hp.2.2.1, hp.2.2.2⟩ (by omega) hab
 rw [inR, q3, q6] at hpre
 rw [q3, q6] at hnx
 refine EvY.skip ?_
 refine EvY.seq ?_
 refine EvY.block ?_
 refine EvY.seqL hJ (EvC.rg (by simp only [go_sem] <;> rfl) (by simp) ?_)
 refine EvY.seqL hJ ?_
 intro _
 apply EvC.drd mixed
 ·simp only [go_sem, Mach.cells, q1, q4, rowC, q2, q5, edgeC] <;> rfl
 ·simp; omega
 ·kernel_rfl
 refine EvY.seq ?_
 refine EvY.seq (EvY.region ?_)
 have hlt : pre.length < ((meetsR a b).map yldC).length := by rw [hpre]; simp
 have hget : ((meetsR a b).map yldC)[pre.length] = yldC ⟨at', i, e, f, l⟩ := by
  simp only [hpre]; simp
 refine XRY.run hJ (by simp only [go_sem] <;> rfl) (by simp) ?_
 refine XRY.yield hlt hy rfl rfl (by simp only [go_sem] <;> rfl) (by simp only [go_sem] <;> rfl) (by rw [hget]; simp only [go_sem, yldC, meetA] <;> rfl) (by rw [hget]; simp only [go_sem, yldC, meetA]) fun b => ?_
 refine XRY.done hJ (by simp only [go_sem] <;> rfl) rfl ?_
 refine EvY.cond (by simp only [go_sem] <;> rfl) (fun hb => ?_) (fun hb => ?_)
 ·have hb : b = false := by simpa using hb
  subst hb
  exact EvY.ret ⟨.inl rfl, .inr rfl⟩
 have hb : b = true := by simpa using hb
 subst hb
 refine EvY.skip ?_
 refine EvY.seqL hJ (EvC.rg (by simp only [go_sem] <;> rfl) (by simp) ?_)
 have hI : inI64 (i + 1 : Int) = true := inI64_of (by omega) (by omega)
 have hel : elook (l.map seenE) (.agg [Value.int .i64 e.1, .int .i64 f.1].toArray) = some (.sc (.bool true)) ∨ elook (l.map seenE) (.agg [Value.int .i64 e.1, .int .i64 f.1].toArray) = none := by
  have := elook_seen l (e.1, f.1)
  by_cases hmm : (e.1, f.1) ∈ l.map (·.1)
  ·exact .inl (this.trans (if_pos hmm))
  ·exact .inr (this.trans (if_neg hmm))
 by_cases hx : e.1 = -1
 ·have hl' : nextL at' i e f l = l := by unfold nextL; rw [if_neg (fun h => h.1 hx)]
  rw [hl'] at hpre hnx
  have hx := decide_eq_true hx
  rcases hel with hel | hel
  all_goals
   refine EvY.seqL hJ ?_
   intro _
   apply EvC.trd
   ·simp only [go_sem, hx, hel] <;> rfl
   ·simp
   refine EvY.cond_false (by simp only [go_sem] <;> rfl) ?_
   refine EvY.skip ?_
   refine EvY.lift hJ (EvC.rg (by simp only [go_sem] <;> rfl) hI ?_)
   exact ⟨[(0, 0), (1, 1)], (m, i + 1, l, pre ++ [⟨at', i, e, f, l⟩]), rfl, (by simp only [go_sem] <;> rfl), ⟨hg, hnx.2, by rw [hpre]; simp, by simp only; omega⟩, by simp, by simp⟩
 by_cases hyy : f.1 = -1
 ·have hl' : nextL at' i e f l = l := by unfold nextL; rw [if_neg (fun h => h.2.1 hyy)]
  rw [hl'] at hpre hnx
  have hx := decide_eq_false hx
  have hyy := decide_eq_true hyy
  rcases hel with hel | hel
  all_goals
   refine EvY.seqL hJ ?_
   intro _
   apply EvC.trd
   ·simp only [go_sem, hx, hyy, hel] <;> rfl
   ·simp
   refine EvY.cond_false (by simp only [go_sem] <;> rfl) ?_
   refine EvY.skip ?_
   refine EvY.lift hJ (EvC.rg (by simp only [go_sem] <;> rfl) hI ?_)
   exact ⟨[(0, 0), (1, 1)], (m, i + 1, l, pre ++ [⟨at', i, e, f, l⟩]), rfl, (by simp only [go_sem] <;> rfl), ⟨hg, hnx.2, by rw [hpre]; simp, by simp only; omega⟩, by simp, by simp⟩
 by_cases hmm : (e.1, f.1) ∈ l.map (·.1)
 ·have hl' : nextL at' i e f l = l := by unfold nextL; rw [if_neg (fun h => h.2.2 hmm)]
  have hel : elook (l.map seenE) (.agg [Value.int .i64 e.1, .int .i64 f.1].toArray) = some (.sc (.bool true)) := (elook_seen l (e.1, f.1)).trans (if_pos hmm)
  rw [hl'] at hpre hnx
  refine EvY.seqL hJ ?_
  intro _
  apply EvC.trd
  ·simp only [go_sem, hx, hyy, hel] <;> rfl
  ·simp [descAgg, matchKinds, matchKind]
  refine EvY.cond_false (by simp only [go_sem] <;> rfl) ?_
  refine EvY.skip ?_
  refine EvY.lift hJ (EvC.rg (by simp only [go_sem] <;> rfl) hI ?_)
  exact ⟨[(0, 0), (1, 1)], (m, i + 1, l, pre ++ [⟨at', i, e, f, l⟩]), rfl, (by simp only [go_sem] <;> rfl), ⟨hg, hnx.2, by rw [hpre]; simp, by simp only; omega⟩, by simp, by simp⟩
 have hl' : nextL at' i e f l = l ++ [((e.1, f.1), (at' : Int), (i : Int))] := by unfold nextL; rw [if_pos ⟨hx, hyy, hmm⟩]
 have hel : elook (l.map seenE) (.agg [Value.int .i64 e.1, .int .i64 f.1].toArray) = none := (elook_seen l (e.1, f.1)).trans (if_neg hmm)
 have hes : eset (l.map seenE) (.agg [Value.int .i64 e.1, .int .i64 f.1].toArray) (.sc (.bool true)) = (l ++ [((e.1, f.1), (at' : Int), (i : Int))]).map seenE := eset_seen l (e.1, f.1) hmm _
 rw [hl'] at hpre hnx
 refine EvY.seqL hJ ?_
 intro _
 apply EvC.trd
 ·simp only [go_sem, hx, hyy, hel] <;> rfl
 ·simp [descAgg, matchKinds, matchKind]
 refine EvY.cond_true (by simp only [go_sem] <;> rfl) ?_
 refine EvY.seqL hJ (EvC.rg (by simp only [go_sem, hes] <;> rfl) (by simp [descAgg, matchKinds, matchKind]) ?_)
 refine EvY.lift hJ (EvC.rg (by simp only [go_sem] <;> rfl) (by simp [room_eq, AV.norefs, AV.noref]; omega) ?_)
 refine EvY.lift hJ (EvC.rg (by simp only [go_sem] <;> rfl) hI ?_)
 exact ⟨[(0, 0), (1, 1)], (m, i + 1, l ++ [((e.1, f.1), (at' : Int), (i : Int))], pre ++ [⟨at', i, e, f, l⟩]), rfl, (by simp only [go_sem, arrC] <;> rfl), ⟨hnx.1, hnx.2, by rw [hpre]; simp, by simp only; omega⟩, by simp, by simp⟩
theorem meets_is (a b : Mach) : PureIs prog 122 [.ag a.cells, .ag b.cells] (.fn 129 [.ia a.cells, .ia b.cells]) := by
 refine PureIs.of1 5 [] func122 ntmps122 results122 fun _ => ?_
 refine EvC.a ?_ (by simp only [go_sem, Mach.cells] <;> rfl)
 refine EvC.z 0 ?_
 refine EvC.z 1 ?_
 refine EvC.a ?_
 refine EvC.rz ?_
 simp only [go_sem, Mach.cells]
structure GoodY (a b : Mach) (z : Yld) : Prop where
 l : GoodL a b z.l
 at0 : 0 ≤ z.at'
 at1 : z.at' < z.l.length
 inp : 0 ≤ z.inp ∧ z.inp < a.ins
 xy : ∃ p, z.l[z.at'.toNat]? = some p ∧ z.x = stepR a p.1.1 z.inp ∧ z.y = stepR b p.1.2 z.inp
theorem nextL_get {at' i : Int} {x y : Int × Int} {l : List Arr} {j : Nat} {p : Arr} (h : l[j]? = some p) : (nextL at' i x y l)[j]? = some p := by
 unfold nextL
 split
 ·rw [List.getElem?_append_left (List.getElem?_eq_some_iff.1 h).1]; exact h
 ·exact h
theorem inR_good {a b : Mach} (ha : Valid a) (hb : Valid b) (hab : a.ins = b.ins) {at' : Nat} {p : Arr} : ∀ (n i : Nat) (l : List Arr), GoodL a b l → l[at']? = some p → n + i = a.ins.toNat →
  (∀ z ∈ (inR a b at' p.1.1 p.1.2 n i l).1, GoodY a b z) ∧ GoodL a b (inR a b at' p.1.1 p.1.2 n i l).2 ∧ (inR a b at' p.1.1 p.1.2 n i l).2[at']? = some p
 | 0, i, l, hg, hp, _ => ⟨fun _ h => (by cases h), hg, hp⟩
 | n + 1, i, l, hg, hp, hn => by
   have hia := ha.ins
   have hat := (List.getElem?_eq_some_iff.1 hp).1
   have hr := hg.rng p (List.mem_of_getElem? hp)
   have hnx := hg.next ha hb hat (s := p.1.1) (t := p.1.2) (i := i) ⟨hr.1, hr.2.1⟩ ⟨hr.2.2.1, hr.2.2.2⟩ (by omega) hab
   obtain ⟨h1, h2, h3⟩ := inR_good ha hb hab n (i + 1) _ hnx.1 (nextL_get hp) (by omega)
   simp only [inR]
   refine ⟨fun z hz => ?_, h2, h3⟩
   rcases List.mem_cons.1 hz with rfl | hz
   ·exact ⟨hg, by simp, by simp only; omega, by simp only; omega, p, by simpa using hp, rfl, rfl⟩
   ·exact h1 z hz
theorem inR_len {a b : Mach} {at' s t : Int} : ∀ (n i : Nat) (l : List Arr), (inR a b at' s t n i l).1.length = n
 | 0, _, _ => rfl
 | n + 1, i, l => by simp only [inR, List.length_cons]; rw [inR_len n]
theorem outR_good {a b : Mach} (ha : Valid a) (hb : Valid b) (hab : a.ins = b.ins) : ∀ (n at' : Nat) (l : List Arr), GoodL a b l → (∀ z ∈ outR a b n at' l, GoodY a b z) ∧ (outR a b n at' l).length ≤ n * 16
 | 0, _, _, _ => ⟨fun _ h => (by cases h), by simp [outR]⟩
 | n + 1, at', l, hg => by
   have hia := ha.ins
   simp only [outR]
   cases hp : l[at']? with
   | none => exact ⟨fun _ h => (by cases h), by simp⟩
   | some p =>
     obtain ⟨h1, h2, _⟩ := inR_good ha hb hab a.ins.toNat 0 l hg hp rfl
     obtain ⟨h3, h4⟩ := outR_good ha hb hab n (at' + 1) _ h2
     refine ⟨fun z hz => ?_, ?_⟩
     ·rcases List.mem_append.1 hz with hz | hz
      ·exact h1 z hz
      ·exact h3 z hz
     ·simp only [List.length_append, inR_len]; omega
theorem meetsR_good {a b : Mach} (ha : Valid a) (hb : Valid b) (hab : a.ins = b.ins) : (∀ z ∈ meetsR a b, GoodY a b z) ∧ (meetsR a b).length ≤ 80000 := outR_good ha hb hab 5000 0 _ (.zero ha hb)
def pairsR : List Yld → List (Int × Int) → List (Int × Int)
 | [], ps => ps
 | z :: zs, ps => pairsR zs (if z.x.1 ≠ -1 ∧ (z.x.1, z.y.1) ∉ ps then ps ++ [(z.x.1, z.y.1)] else ps)
def diffA (zs : List Yld) : AV := match zs.find? (fun z => decide (z.x.2 ≠ z.y.2)) with
 | some z => .tu [.sl false ((wordR z.l z.l.length z.at' [z.inp]).map intC) .full, .sl true [] .zer]
 | none => .tu [.sl true [] .zer, .sl false ((pairsR zs [(0, 0)]).map edgeC) .unk]
theorem diffA_noref (zs : List Yld) : (diffA zs).noref = true := by unfold diffA; split <;> rfl
theorem find_at {α : Type} {p : α → Bool} : ∀ {l : List α} {k : Nat} {z : α}, ((l.take k).all fun x => !p x) = true → l.drop k = z :: l.drop (k + 1) → p z = true → l.find? p = some z
 | [], k, z, _, h, _ => by simp at h
 | x :: l, 0, z, _, h, hz => by
   simp only [List.drop_zero, List.cons.injEq] at h
   rw [List.find?_cons, h.1, hz]
 | x :: l, k + 1, z, h1, h, hz => by
   simp only [List.take_succ_cons, List.all_cons, Bool.and_eq_true, Bool.not_eq_true'] at h1
   rw [List.find?_cons, h1.1]
   exact find_at h1.2 (by simpa using h) hz
theorem find_no {α : Type} {p : α → Bool} {l : List α} (h : (l.all fun x => !p x) = true) : l.find? p = none := by
 rw [List.find?_eq_none]
 intro x hx
 rw [List.all_eq_true] at h
 simpa using h x hx
theorem differ_is (a b : Mach) (ha : Valid a) (hb : Valid b) (hab : a.ins = b.ins) : PureIs prog 106 [.ag a.cells, .ag b.cells] (diffA (meetsR a b)) := by
 refine PureIs.of1 10 [11, 14, 15, 16, 23, 47] func106 ntmps106 results106 fun _ => ?_
 refine EvC.a ?_ (by simp only [go_sem, Mach.cells] <;> rfl)
 refine EvC.z 0 ?_
 refine EvC.z 1 ?_
 refine EvC.a ?_
 refine EvC.fz 5 (by simp only [go_sem] <;> rfl) ?_
 refine EvC.seq ?_
 apply EvC.seq
 apply EvC.tr
 ·apply Tr.run
  ·simp only [go_sem] <;> rfl
  ·simp
  apply Tr.cons
  ·exact .ca (by simpa [Mach.cells] using meets_is a b)
  apply Tr.done
  ·simp only [go_sem] <;> rfl
  ·simp
 refine EvC.block ?_
 refine EvC.gcTo ⟨[(4, .rf 0 0), (5, .rf 1 0), (6, .rf 2 0), (14, .fn 129 [.ia a.cells, .ia b.cells])], [], [(0, .cells [.sl true [] .zer]), (1, .cells [.sl true [] .zer]), (2, .cells [.tl 3 1 false]), (3, .arr 2 [[.sc (.int .i64 0), .sc (.int .i64 0)]] true)], 4⟩ [4, 5, 6, 14] [(2, 0), (3, 1), (6, 2), (5, 3)] (by rfl) (by simp only [go_sem] <;> rfl) ?_
 obtain ⟨gY, gl⟩ := meetsR_good ha hb hab
 refine EvC.range (σ := List (Int × Int)) (gf := 129) (caps := [.ia a.cells, .ia b.cells]) (xs := (meetsR a b).map yldC) rfl (fun _ => rfl) (by simp only [go_sem] <;> rfl) rfl (meets1_seq a b ha hb hab) ?_ (by simp) (Nat.zero_le _)
  (fun _ ps => [(0, .cells [.sl true [] .zer]), (1, .cells [.sl true [] .zer]), (2, .cells [.tl 3 ps.length false]), (3, .arr 2 (ps.map edgeC) true)])
  (fun k ps => ps.length ≤ 1 + k ∧ (((meetsR a b).take k).all fun z => decide (z.x.2 = z.y.2)) = true ∧ pairsR (meetsR a b) [(0, 0)] = pairsR ((meetsR a b).drop k) ps) ⟨[(0, 0)], rfl, by simp, rfl, rfl⟩ ?_ ?_
 ·intro x hx
  obtain ⟨z, _, rfl⟩ := List.mem_map.1 hx
  rfl
 ·rintro k ps lp hk ⟨h1, h2, h3⟩
  have hk' : k < (meetsR a b).length := by simpa using hk
  have hz : ((meetsR a b).map yldC)[k] = yldC (meetsR a b)[k] := by simp
  have gz := gY _ (List.getElem_mem hk')
  have hd : (meetsR a b).drop k = (meetsR a b)[k] :: (meetsR a b).drop (k + 1) := List.drop_eq_getElem_cons hk'
  rw [hz]
  generalize (meetsR a b)[k] = z at gz hd
  refine EvC.a ?_ (by simp only [go_sem, yldC, meetA] <;> rfl)
  refine EvC.rg (by simp only [go_sem] <;> rfl) (by simp) ⟨rfl, ?_⟩
  refine EvC.block ?_
  refine EvC.seq ?_
  refine EvC.a ?_
  refine EvC.cond (by simp only [go_sem] <;> rfl) (fun hc => ?_) (fun hc => ?_)
  ·have hc : ¬ z.x.2 = z.y.2 := by simpa using hc
   have hlen := gz.l.len ha hb
   apply EvC.seq
   apply EvC.tr
   ·apply Tr.run
    ·simp only [go_sem] <;> rfl
    ·simp
    apply Tr.cons
    ·exact .ca (by simpa [intC] using word_is false z.l .unk gz.l.wf z.at' gz.at0 gz.at1 [z.inp] .full (by simp; omega))
    apply Tr.done
    ·simp only [go_sem] <;> rfl
    ·simp
   refine EvC.ret ⟨.inl rfl, _, (by simp only [go_sem] <;> rfl), ?_, diffA_noref _⟩
   simp only [go_sem]
   rw [diffA, find_at (k := k) (z := z) (by simpa using h2) hd (by simpa using hc)]
  have hc : z.x.2 = z.y.2 := by simpa using hc
  have h2' : (((meetsR a b).take (k + 1)).all fun z => decide (z.x.2 = z.y.2)) = true := by
   have : (meetsR a b).take (k + 1) = (meetsR a b).take k ++ [z] := by
    have h := List.getElem?_drop (xs := meetsR a b) (i := k) (j := 0)
    rw [hd] at h
    rw [List.take_add_one]
    simp only [Nat.add_zero, List.getElem?_cons_zero] at h
    rw [← h]; rfl
   rw [this, List.all_append, h2]
   simp [hc]
  rw [hd] at h3
  rw [pairsR] at h3
  refine EvC.skip ?_
  refine EvC.a ?_
  by_cases hx : z.x.1 = -1
  ·have hx' := decide_eq_true hx
   rw [if_neg (fun h => h.1 hx)] at h3
   apply EvC.seq
   apply EvC.tr
   ·apply Tr.run
    ·simp only [go_sem, hx'] <;> rfl
    ·simp
    apply Tr.cons
    ·exact .skipv (.sc (.bool false)) rfl rfl (by simp only [go_sem] <;> rfl) (by simp only [go_sem] <;> rfl)
    apply Tr.done
    ·simp only [go_sem] <;> rfl
    ·simp
   refine EvC.cs ?_
   exact ⟨[(0, 0), (1, 1), (2, 2), (3, 3)], ps, rfl, (by simp only [go_sem] <;> rfl), by omega, h2', h3⟩
  have hx' := decide_eq_false hx
  have hpl : ps.length < 1000000 := by omega
  apply EvC.seq
  apply EvC.tr
  ·apply Tr.run
   ·simp only [go_sem, hx'] <;> rfl
   ·simp
   apply Tr.cons
   ·exact .cg (by simpa [edgeA] using contains46_is false ps .unk (z.x.1, z.y.1) hpl)
   apply Tr.done
   ·simp only [go_sem] <;> rfl
   ·simp
  refine EvC.cond (by simp only [go_sem] <;> rfl) (fun hm => ?_) (fun hm => ?_)
  ·have hm : ¬ (z.x.1, z.y.1) ∈ ps := by simpa using hm
   rw [if_pos ⟨hx, hm⟩] at h3
   refine EvC.b ?_ (hok := by simp [room_eq, AV.norefs, AV.noref]; omega)
   exact ⟨[(0, 0), (1, 1), (2, 2), (3, 3)], ps ++ [(z.x.1, z.y.1)], rfl, (by simp only [go_sem, edgeC] <;> rfl), by simp; omega, h2', h3⟩
  ·have hm : (z.x.1, z.y.1) ∈ ps := by simpa using hm
   rw [if_neg (fun h => h.2 hm)] at h3
   refine EvC.skip ?_
   exact ⟨[(0, 0), (1, 1), (2, 2), (3, 3)], ps, rfl, (by simp only [go_sem] <;> rfl), by omega, h2', h3⟩
 ·rintro ps ⟨h1, h2, h3⟩
  rw [List.length_map] at h2 h3
  rw [List.take_length] at h2
  rw [List.drop_length, pairsR] at h3
  refine EvC.frzD 3 (by simp only [go_sem] <;> rfl) ?_
  apply EvC.seq
  apply EvC.drd mixed
  ·simp only [go_sem] <;> rfl
  ·simp
  ·kernel_rfl
  refine EvC.ret ⟨.inl rfl, _, (by simp only [go_sem] <;> rfl), ?_, diffA_noref _⟩
  simp only [go_sem]
  rw [diffA, find_no (by simpa using h2), h3]
def diffO (a b : Mach) : Option Yld := (meetsR a b).find? (fun z => decide (z.x.2 ≠ z.y.2))
def diffW (a b : Mach) : List Int := match diffO a b with
 | some z => wordR z.l z.l.length z.at' [z.inp]
 | none => []
theorem diffA_eq (a b : Mach) : diffA (meetsR a b) = .tu [.sl (diffO a b).isNone ((diffW a b).map intC) (if (diffO a b).isNone then .zer else .full), if (diffO a b).isNone then .sl false ((pairsR (meetsR a b) [(0, 0)]).map edgeC) .unk else .sl true [] .zer] := by
 unfold diffA diffW diffO
 split
 ·rename_i z hz; rw [hz]; rfl
 ·rename_i hz; rw [hz]; rfl
theorem wordR_len (l : List Arr) : ∀ (n : Nat) (t : Int) (acc : List Int), acc.length ≤ (wordR l n t acc).length
 | 0, _, _ => Nat.le_refl _
 | n + 1, t, acc => by
   simp only [wordR]
   split
   ·split
    ·exact Nat.le_refl _
    ·exact Nat.le_trans (by simp) (wordR_len l n _ _)
   ·exact Nat.le_refl _
theorem diffW_pos (a b : Mach) : decide (0 < ((diffW a b).length : Int)) = (diffO a b).isSome := by
 unfold diffW
 cases h : diffO a b with
 | none => rfl
 | some z =>
   have := wordR_len z.l z.l.length z.at' [z.inp]
   simp only [List.length_cons, List.length_nil] at this
   simp only [Option.isSome_some, decide_eq_true_eq]
   omega
def differA (a b : Mach) : AV := if bothR a b = 0 then .tu [.sl (diffO a b).isNone ((diffW a b).map intC) (if (diffO a b).isNone then .zer else .full), .sc (.bool (diffO a b).isSome), .sc (.int .i64 0)]
 else .tu [.sl true [] .unk, .sc (.bool false), .sc (.int .i64 (bothR a b))]
theorem both_valid {a b : Mach} (h : bothR a b = 0) : Valid a ∧ Valid b ∧ a.ins = b.ins := by
 unfold bothR at h
 split at h
 ·contradiction
 ·rename_i h1
  split at h
  ·contradiction
  ·rename_i h2
   split at h
   ·cases h
   ·rename_i h3
    exact ⟨.of (by simpa using h1), .of (by simpa using h2), by simpa using h3⟩
theorem equals_differ_is (a b : Mach) (ha : ∀ r ∈ a.rows, r.2.length < 1000000) (hb : ∀ r ∈ b.rows, r.2.length < 1000000) : PureIs prog 82 [.ag a.cells, .ag b.cells] (differA a b) := by
 refine PureIs.of1 9 [14] func82 ntmps82 results82 fun _ => ?_
 refine EvC.a ?_ (by simp only [go_sem, Mach.cells] <;> rfl)
 refine EvC.seq ?_
 apply EvC.seq
 apply EvC.tr
 ·apply Tr.run
  ·simp only [go_sem] <;> rfl
  ·simp
  apply Tr.cons
  ·exact .ca (both_is a b ha hb)
  apply Tr.done
  ·simp only [go_sem] <;> rfl
  ·simp
 refine EvC.a ?_
 refine EvC.cond (by simp only [go_sem] <;> rfl) (fun hc => ?_) (fun hc => ?_)
 ·have hc : bothR a b ≠ 0 := by simpa using hc
  refine EvC.a ?_
  refine EvC.ret ⟨.inl rfl, _, (by simp only [go_sem] <;> rfl), ?_, by unfold differA; split <;> rfl⟩
  simp only [go_sem]
  rw [differA, if_neg hc]
 have hc : bothR a b = 0 := by simpa using hc
 obtain ⟨va, vb, hab⟩ := both_valid hc
 have hd := differ_is a b va vb hab
 rw [diffA_eq] at hd
 refine EvC.skip ?_
 apply EvC.seq
 apply EvC.tr
 ·apply Tr.run
  ·simp only [go_sem] <;> rfl
  ·simp
  apply Tr.cons
  ·exact .call rfl rfl (by simp only [go_sem] <;> rfl) (by simp only [go_sem] <;> rfl) (by simp only [go_sem] <;> rfl) (by simp only [go_sem] <;> rfl) (by simp only [go_sem] <;> rfl) hd
  apply Tr.done
  ·simp only [go_sem] <;> rfl
  ·simp
 refine EvC.a ?_
 refine EvC.ret ⟨.inl rfl, _, (by simp only [go_sem] <;> rfl), ?_, by unfold differA; split <;> rfl⟩
 simp only [go_sem]
 have := diffW_pos a b
 rw [differA, if_pos hc, ← this]
def equalR (a b : Mach) : Bool × Int := (decide (bothR a b = 0) && (diffO a b).isNone, bothR a b)
theorem equals_equal_is (a b : Mach) (ha : ∀ r ∈ a.rows, r.2.length < 1000000) (hb : ∀ r ∈ b.rows, r.2.length < 1000000) : PureIs prog 50 [.ag a.cells, .ag b.cells] (.tu [.sc (.bool (equalR a b).1), .sc (.int .i64 (equalR a b).2)]) := by
 refine PureIs.of1 6 [7, 8] func50 ntmps50 results50 fun _ => ?_
 have hd := equals_differ_is a b ha hb
 refine EvC.a ?_ (by simp only [go_sem, Mach.cells] <;> rfl)
 by_cases h : bothR a b = 0
 ·rw [differA, if_pos h] at hd
  apply EvC.seq
  apply EvC.tr
  ·apply Tr.run
   ·simp only [go_sem] <;> rfl
   ·simp
   apply Tr.cons
   ·exact .call rfl rfl (by simp only [go_sem] <;> rfl) (by simp only [go_sem] <;> rfl) (by simp only [go_sem] <;> rfl) (by simp only [go_sem] <;> rfl) (by simp only [go_sem] <;> rfl) hd
   apply Tr.done
   ·simp only [go_sem] <;> rfl
   ·simp
  apply EvC.seq
  apply EvC.trd
  ·simp only [go_sem] <;> rfl
  ·simp
  refine EvC.rz ?_
  simp only [go_sem]
  unfold equalR
  cases diffO a b <;> simp [h]
 ·rw [differA, if_neg h] at hd
  apply EvC.seq
  apply EvC.tr
  ·apply Tr.run
   ·simp only [go_sem] <;> rfl
   ·simp
   apply Tr.cons
   ·exact .call rfl rfl (by simp only [go_sem] <;> rfl) (by simp only [go_sem] <;> rfl) (by simp only [go_sem] <;> rfl) (by simp only [go_sem] <;> rfl) (by simp only [go_sem] <;> rfl) hd
   apply Tr.done
   ·simp only [go_sem] <;> rfl
   ·simp
  apply EvC.seq
  apply EvC.trd
  ·simp only [go_sem] <;> rfl
  ·simp
  refine EvC.rz ?_
  simp only [go_sem]
  unfold equalR
  simp [h]
def adM (k s i t a o : Int) (L : List FA) : Mem := [(0, .cells [.sc (.int .i64 k), .sc (.int .i64 s), .sc (.int .i64 i), .sc (.int .i64 t), .sc (.int .i64 a), .sc (.int .i64 o)]), (1, .cells [.tl 2 L.length L.isEmpty]), (2, .arr 6 (L.map FA.cells) true)]
theorem add_body (k s i t0 a0 o0 t a o : Int) (L : List FA) (hl : L.length < 1000000) {R : AV → Mem → Nat → Prop} (hR : ∀ nx x, R (mkRes []) ((14, x) :: adM k s i t a o (L ++ [⟨k, s, i, t, a, o⟩])) nx) :
  BodyIs prog 119 [.sc (.int .i64 t), .sc (.int .i64 a), .sc (.int .i64 o), .rf 0 0, .rf 1 0] (adM k s i t0 a0 o0 L) 3 R := by
 refine BodyIs.of (nv := 5) (hid := [14, 16, 17]) func119 rfl (by kernel_rfl) (by simp [ntmps119]) fun h0 => ?_
 rw [ntmps119, results119]
 rw [adM]
 refine EvC.a ?_
 have hsn : L.map FA.cells ++ [[.sc (.int .i64 k), .sc (.int .i64 s), .sc (.int .i64 i), .sc (.int .i64 t), .sc (.int .i64 a), .sc (.int .i64 o)]] = (L ++ [(⟨k, s, i, t, a, o⟩ : FA)]).map FA.cells := by simp [FA.cells]
 have hsl : L.length + 1 = (L ++ [(⟨k, s, i, t, a, o⟩ : FA)]).length := by simp
 have hse : (L ++ [(⟨k, s, i, t, a, o⟩ : FA)]).isEmpty = false := by simp
 have hr2 : room (L.length + 1) 48 = true := by simp only [room_eq, decide_eq_true_eq]; omega
 rw [hsl] at hr2
 generalize L ++ [(⟨k, s, i, t, a, o⟩ : FA)] = T at hsn hsl hse hr2 hR
 refine EvC.b ?_ (by simp only [go_sem, hsn, hsl, List.length_map] <;> rfl) (by simp [hr2])
 rw [adM, hse] at hR
 exact ⟨.inr rfl, [], (by simp only [go_sem] <;> rfl), hR _ _⟩
def ofO (k s i e1 : Int) : Nat → List FA
 | 0 => []
 | n + 1 => ofO k s i e1 n ++ (if (n : Int) ≠ e1 then [⟨k, s, i, 0, 0, n⟩] else [])
def ofT (k s i e0 : Int) : Nat → List FA
 | 0 => []
 | n + 1 => ofT k s i e0 n ++ (if k = 3 ∨ (n : Int) ≠ e0 then [⟨k, s, i, n, 0, 0⟩] else [])
def ofDo (s i a : Int) (f : Int × Int) : Nat → List FA
 | 0 => []
 | n + 1 => ofDo s i a f n ++ (if f.1 ≠ -1 ∧ (n : Int) ≠ f.2 then [⟨4, s, i, 0, a, n⟩] else [])
def ofD (m : Mach) (s i t : Int) : Nat → List FA
 | 0 => []
 | n + 1 => ofD m s i t n ++ ofDo s i n (stepM m t n) m.outs.toNat
def ofF (m : Mach) (k s i : Int) : List FA :=
 if k = 0 then ofO k s i (stepM m s i).2 m.outs.toNat
 else if k = 1 ∨ k = 3 then ofT k s i (stepM m s i).1 m.rows.length
 else if k = 2 then [⟨k, s, i, 0, 0, 0⟩]
 else if k = 4 then ofD m s i (stepM m s i).1 m.ins.toNat
 else []
theorem ofO_len (k s i e1 : Int) : ∀ n, (ofO k s i e1 n).length ≤ n
 | 0 => Nat.le_refl _
 | n + 1 => by
   have := ofO_len k s i e1 n
   rw [ofO, List.length_append]; split <;> simp <;> omega
theorem ofT_len (k s i e1 : Int) : ∀ n, (ofT k s i e1 n).length ≤ n
 | 0 => Nat.le_refl _
 | n + 1 => by
   have := ofT_len k s i e1 n
   rw [ofT, List.length_append]; split <;> simp <;> omega
theorem ofDo_len (s i a : Int) (f : Int × Int) : ∀ n, (ofDo s i a f n).length ≤ n
 | 0 => Nat.le_refl _
 | n + 1 => by
   have := ofDo_len s i a f n
   rw [ofDo, List.length_append]; split <;> simp <;> omega
theorem ofD_len {m : Mach} (hv : Valid m) (s i t : Int) : ∀ n, (ofD m s i t n).length ≤ n * 16
 | 0 => Nat.le_refl _
 | n + 1 => by
   have := ofD_len hv s i t n
   have := ofDo_len s i n (stepM m t n) m.outs.toNat
   have := hv.outs
   rw [ofD, List.length_append]; omega
theorem ofF_len {m : Mach} (hv : Valid m) (k s i : Int) : (ofF m k s i).length ≤ 256 := by
 have := hv.outs
 have := hv.rows
 have := hv.ins
 have h1 := ofO_len k s i (stepM m s i).2 m.outs.toNat
 have h2 := ofT_len k s i (stepM m s i).1 m.rows.length
 have h3 := ofD_len hv s i (stepM m s i).1 m.ins.toNat
 unfold ofF
 split
 ·omega
 split
 ·omega
 split
 ·simp
 split
 ·omega
 ·simp
theorem of97_is {m : Mach} (hv : Valid m) (k s i : Int) (hd : definedB m s i = true) : PureIs prog 101 [.ag m.cells, .sc (.int .i64 k), .sc (.int .i64 s), .sc (.int .i64 i)] (.sl (ofF m k s i).isEmpty ((ofF m k s i).map FA.cells) .unk) := by
 have hmi := hv.ins
 have hmo := hv.outs
 have hmr := hv.rows
 obtain ⟨⟨hs0, hs1⟩, ⟨hi0, hi1⟩, hd1⟩ := definedB_iff.1 hd
 obtain ⟨r, q1, q2, q3⟩ := step_in hv hd
 refine PureIs.of1 5 [8, 9, 10, 11, 12, 13, 14, 15, 16, 30, 31, 34, 35, 36, 41, 42, 43, 46, 51, 52, 53, 62, 63, 64, 67, 69, 71, 78, 79, 80, 81, 86, 87, 88, 98, 99, 100, 101] func101 ntmps101 results101 fun _ => ?_
 refine EvC.a ?_ (by simp only [go_sem, Mach.cells] <;> rfl)
 refine EvC.z 0 ?_
 refine EvC.ownC 1 0 6 (by simp only [go_sem] <;> rfl) ?_
 refine EvC.a ?_ (by simp only [go_sem, Mach.cells, q1, q2, rowC, edgeC] <;> rfl) (by simp [hs0, hi0])
 refine EvC.z 11 ?_
 refine EvC.a ?_
 refine EvC.a ?_
 generalize hE : stepM m s i = E at *
 obtain ⟨e0, e1⟩ := E
 simp only at q2 q3
 refine EvC.gcTo ⟨[(1, .sc (.int .i64 k)), (4, .ia m.cells), (8, .rf 1 0), (9, .ia [.sc (.int .i64 e0), .sc (.int .i64 e1)]), (10, .rf 0 0), (11, .fn 119 [.rf 0 0, .rf 1 0])], [], adM k s i 0 0 0 [], 3⟩ [1, 4, 8, 9, 10, 11] [(17, 0), (1, 1), (2, 2)] rfl (by simp only [go_sem, adM, Mach.cells, List.length_nil, List.isEmpty_nil, List.map_nil] <;> rfl) ?_
 refine EvC.mergeS (α := Int × Int × Int × List FA) (fun p => ⟨[(8, .rf 1 0)], [], adM k s i p.1 p.2.1 p.2.2.1 p.2.2.2, 3⟩) (fun p => p.2.2.2 = ofF m k s i) [8] 3 ?_ ?_
 rotate_left
 ·rintro ⟨t, a, o, L⟩ hL
  simp only at hL ⊢
  subst hL
  have hl := ofF_len hv k s i
  generalize ofF m k s i = L at hl ⊢
  rw [adM]
  refine EvC.a ?_
  refine EvC.frzD 2 (by simp only [go_sem, List.length_map] <;> rfl) ?_
  refine EvC.rz ?_
  simp only [go_sem]
 refine EvC.a ?_
 refine EvC.block ?_
 refine EvC.a ?_
 by_cases k0 : k = 0
 ·
  have hF : ofF m k s i = ofO k s i e1 m.outs.toNat := by unfold ofF; rw [if_pos k0, hE]
  refine EvC.ct ?_ (by simp only [go_sem, decide_eq_true k0] <;> rfl)
  refine EvC.a ?_ (by simp only [go_sem, Mach.cells] <;> rfl)
  refine EvC.block ?_
  refine EvC.loopS (σ := Nat × Int × Int × Int) (fun p => ⟨[(8, .rf 1 0), (9, .ia [.sc (.int .i64 e0), .sc (.int .i64 e1)]), (11, .fn 119 [.rf 0 0, .rf 1 0]), (34, .sc (.int .i64 m.outs)), (35, .sc (.int .i64 p.1))], [], adM k s i p.2.1 p.2.2.1 p.2.2.2 (ofO k s i e1 p.1), 3⟩) (fun p => m.outs.toNat - p.1) (fun p => p.1 ≤ m.outs.toNat) [8, 9, 11, 34, 35] 3 ?_ ?_
  ·exact ⟨[(0, 0), (1, 1), (2, 2)], (0, 0, 0, 0), rfl, (by simp only [go_sem, adM, ofO, Int.natCast_zero, List.length_nil, List.isEmpty_nil, List.map_nil, Mach.cells] <;> rfl), Nat.zero_le _⟩
  rintro ⟨n, t, a, o⟩ hn
  simp only at hn ⊢
  refine EvC.a ?_
  refine EvC.seq ?_
  refine EvC.cond (by simp only [go_sem] <;> rfl) (fun hc => ?_) (fun hc => ?_)
  rotate_left
  ·refine EvC.exit ?_
   obtain rfl : n = m.outs.toNat := by have : ¬ (n : Int) < m.outs := (by simpa using hc); omega
   exact ⟨rfl, [(0, 0), (1, 1), (2, 2)], (t, a, o, ofO k s i e1 m.outs.toNat), rfl, (by simp only [go_sem, adM] <;> rfl), hF.symm⟩
  have hnl : n + 1 ≤ m.outs.toNat := by have : (n : Int) < m.outs := (by simpa using hc); omega
  clear hc
  refine EvC.skip ?_
  refine EvC.seq ?_
  refine EvC.block ?_
  refine EvC.a ?_
  refine EvC.a ?_ (by simp only [go_sem, edgeC] <;> rfl)
  have hlen := ofO_len k s i e1 n
  by_cases hne : (n : Int) = e1
  ·have hx : ofO k s i e1 (n + 1) = ofO k s i e1 n := by rw [ofO, if_neg (fun h => h hne), List.append_nil]
   refine EvC.cs ?_ (by simp only [go_sem, decide_eq_true hne] <;> rfl)
   refine EvC.b ?_ (hok := by exact inI64_of (by omega) (by omega))
   exact ⟨[(0, 0), (1, 1), (2, 2)], (n + 1, t, a, o), rfl, (by rw [hx]; simp only [go_sem, adM, Int.natCast_add, Int.natCast_one] <;> rfl), hnl, by simp only; omega⟩
  ·have hx : ofO k s i e1 (n + 1) = ofO k s i e1 n ++ [⟨k, s, i, 0, 0, n⟩] := by rw [ofO, if_pos hne]
   refine EvC.ct ?_ (by simp only [go_sem, decide_eq_false hne] <;> rfl)
   obtain ⟨nZ, hnZ⟩ : ∃ z : Int, z = (n : Int) := ⟨_, rfl⟩
   rw [← hnZ] at hx ⊢
   apply EvC.region
   apply XR.run
   ·simp only [go_sem] <;> rfl
   ·simp
   refine XR.gcTo ⟨[(8, .rf 1 0), (9, .ia [.sc (.int .i64 e0), .sc (.int .i64 e1)]), (11, .fn 119 [.rf 0 0, .rf 1 0]), (34, .sc (.int .i64 m.outs)), (35, .sc (.int .i64 nZ)), (42, .fn 119 [.rf 0 0, .rf 1 0]), (43, .sc (.int .i64 nZ))], [], adM k s i t a o (ofO k s i e1 n), 3⟩ [8, 9, 11, 34, 35, 42, 43] [(0, 0), (1, 1), (2, 2)] rfl (by simp only [go_sem, adM] <;> rfl) ?_
   apply XR.callI rfl rfl (by simp only [go_sem] <;> rfl) (by simp only [go_sem] <;> rfl) (by simp only [go_sem] <;> rfl)
   refine add_body k s i t a o 0 0 nZ _ (by omega) fun nx x => ?_
   refine XR.nil ?_
   rw [← hx, hnZ]
   refine EvC.b ?_ (hok := by exact inI64_of (by omega) (by omega))
   exact ⟨[(0, 0), (1, 1), (2, 2)], (n + 1, 0, 0, nZ), rfl, (by rw [hnZ]; simp only [go_sem, adM, Int.natCast_add, Int.natCast_one] <;> rfl), hnl, by simp only; omega⟩
 refine EvC.cf ?_ (by simp only [go_sem, decide_eq_false k0] <;> rfl)
 refine EvC.mergeS (α := Unit) (fun _ => ⟨[(1, .sc (.int .i64 k)), (4, .ia m.cells), (8, .rf 1 0), (9, .ia [.sc (.int .i64 e0), .sc (.int .i64 e1)]), (11, .fn 119 [.rf 0 0, .rf 1 0]), (30, .sc (.int .i64 k)), (46, .sc (.bool (decide (k = 1 ∨ k = 3))))], [], adM k s i 0 0 0 [], 3⟩) (fun _ => True) [1, 4, 8, 9, 11, 30, 46] 3 ?_ ?_
 ·refine EvC.a ?_
  by_cases k1 : k = 1
  ·refine EvC.cr ?_ (by simp only [go_sem, decide_eq_true k1] <;> rfl)
   have : decide (k = 1 ∨ k = 3) = true := decide_eq_true (.inl k1)
   exact ⟨rfl, [(0, 0), (1, 1), (2, 2)], (), rfl, (by rw [this]; simp only [go_sem, adM, decide_eq_true k1, List.length_nil, List.isEmpty_nil, List.map_nil, Mach.cells] <;> rfl), trivial⟩
  ·refine EvC.cf ?_ (by simp only [go_sem, decide_eq_false k1] <;> rfl)
   have : decide (k = 1 ∨ k = 3) = decide (k = 3) := by simp [k1]
   refine EvC.b ?_
   exact ⟨rfl, [(0, 0), (1, 1), (2, 2)], (), rfl, (by rw [this]; simp only [go_sem, adM, List.length_nil, List.isEmpty_nil, List.map_nil, Mach.cells] <;> rfl), trivial⟩
 rintro ⟨⟩ -
 by_cases k13 : k = 1 ∨ k = 3
 ·
  have hF : ofF m k s i = ofT k s i e0 m.rows.length := by unfold ofF; rw [if_neg k0, if_pos k13, hE]
  refine EvC.ct ?_ (by simp only [go_sem, decide_eq_true k13] <;> rfl)
  refine EvC.a ?_ (by simp only [go_sem, Mach.cells, List.length_map] <;> rfl)
  refine EvC.block ?_
  refine EvC.loopS (σ := Nat × Int × Int × Int) (fun p => ⟨[(1, .sc (.int .i64 k)), (8, .rf 1 0), (9, .ia [.sc (.int .i64 e0), .sc (.int .i64 e1)]), (11, .fn 119 [.rf 0 0, .rf 1 0]), (51, .sc (.int .i64 m.rows.length)), (52, .sc (.int .i64 p.1))], [], adM k s i p.2.1 p.2.2.1 p.2.2.2 (ofT k s i e0 p.1), 3⟩) (fun p => m.rows.length - p.1) (fun p => p.1 ≤ m.rows.length) [1, 8, 9, 11, 51, 52] 3 ?_ ?_
  ·exact ⟨[(0, 0), (1, 1), (2, 2)], (0, 0, 0, 0), rfl, (by simp only [go_sem, adM, ofT, Int.natCast_zero, List.length_nil, List.isEmpty_nil, List.map_nil, Mach.cells] <;> rfl), Nat.zero_le _⟩
  rintro ⟨n, t, a, o⟩ hn
  simp only at hn ⊢
  refine EvC.a ?_
  refine EvC.seq ?_
  refine EvC.cond (by simp only [go_sem] <;> rfl) (fun hc => ?_) (fun hc => ?_)
  rotate_left
  ·refine EvC.exit ?_
   obtain rfl : n = m.rows.length := by have : ¬ (n : Int) < m.rows.length := (by simpa using hc); omega
   exact ⟨rfl, [(0, 0), (1, 1), (2, 2)], (t, a, o, ofT k s i e0 m.rows.length), rfl, (by simp only [go_sem, adM] <;> rfl), hF.symm⟩
  have hnl : n + 1 ≤ m.rows.length := by have : (n : Int) < m.rows.length := (by simpa using hc); omega
  clear hc
  refine EvC.skip ?_
  refine EvC.seq ?_
  refine EvC.block ?_
  refine EvC.a ?_
  have hlen := ofT_len k s i e0 n
  by_cases k3 : k = 3
  ·have hx : ofT k s i e0 (n + 1) = ofT k s i e0 n ++ [⟨k, s, i, n, 0, 0⟩] := by rw [ofT, if_pos (.inl k3)]
   refine EvC.g ?_ (h := by simp only [go_sem, edgeC, decide_eq_true k3] <;> rfl)
   refine EvC.ct ?_
   obtain ⟨nZ, hnZ⟩ : ∃ z : Int, z = (n : Int) := ⟨_, rfl⟩
   rw [← hnZ] at hx ⊢
   apply EvC.region
   apply XR.run
   ·simp only [go_sem] <;> rfl
   ·simp
   refine XR.gcTo ⟨[(1, .sc (.int .i64 k)), (8, .rf 1 0), (9, .ia [.sc (.int .i64 e0), .sc (.int .i64 e1)]), (11, .fn 119 [.rf 0 0, .rf 1 0]), (51, .sc (.int .i64 m.rows.length)), (52, .sc (.int .i64 nZ)), (63, .fn 119 [.rf 0 0, .rf 1 0]), (64, .sc (.int .i64 nZ))], [], adM k s i t a o (ofT k s i e0 n), 3⟩ [1, 8, 9, 11, 51, 52, 63, 64] [(0, 0), (1, 1), (2, 2)] rfl (by simp only [go_sem, adM] <;> rfl) ?_
   apply XR.callI rfl rfl (by simp only [go_sem] <;> rfl) (by simp only [go_sem] <;> rfl) (by simp only [go_sem] <;> rfl)
   refine add_body k s i t a o nZ 0 0 _ (by omega) fun nx x => ?_
   refine XR.nil ?_
   rw [← hx, hnZ]
   refine EvC.b ?_ (hok := by exact inI64_of (by omega) (by omega))
   exact ⟨[(0, 0), (1, 1), (2, 2)], (n + 1, nZ, 0, 0), rfl, (by rw [hnZ]; simp only [go_sem, adM, Int.natCast_add, Int.natCast_one] <;> rfl), hnl, by simp only; omega⟩
  by_cases hne : (n : Int) = e0
  ·have hx : ofT k s i e0 (n + 1) = ofT k s i e0 n := by rw [ofT, if_neg (fun h => h.elim k3 fun h => h hne), List.append_nil]
   refine EvC.g ?_ (h := by simp only [go_sem, edgeC, decide_eq_false k3, decide_eq_true hne] <;> rfl)
   refine EvC.cs ?_
   refine EvC.b ?_ (hok := by exact inI64_of (by omega) (by omega))
   exact ⟨[(0, 0), (1, 1), (2, 2)], (n + 1, t, a, o), rfl, (by rw [hx]; simp only [go_sem, adM, Int.natCast_add, Int.natCast_one] <;> rfl), hnl, by simp only; omega⟩
  ·have hx : ofT k s i e0 (n + 1) = ofT k s i e0 n ++ [⟨k, s, i, n, 0, 0⟩] := by rw [ofT, if_pos (.inr hne)]
   refine EvC.g ?_ (h := by simp only [go_sem, edgeC, decide_eq_false k3, decide_eq_false hne] <;> rfl)
   refine EvC.ct ?_
   obtain ⟨nZ, hnZ⟩ : ∃ z : Int, z = (n : Int) := ⟨_, rfl⟩
   rw [← hnZ] at hx ⊢
   apply EvC.region
   apply XR.run
   ·simp only [go_sem] <;> rfl
   ·simp
   refine XR.gcTo ⟨[(1, .sc (.int .i64 k)), (8, .rf 1 0), (9, .ia [.sc (.int .i64 e0), .sc (.int .i64 e1)]), (11, .fn 119 [.rf 0 0, .rf 1 0]), (51, .sc (.int .i64 m.rows.length)), (52, .sc (.int .i64 nZ)), (63, .fn 119 [.rf 0 0, .rf 1 0]), (64, .sc (.int .i64 nZ))], [], adM k s i t a o (ofT k s i e0 n), 3⟩ [1, 8, 9, 11, 51, 52, 63, 64] [(0, 0), (1, 1), (2, 2)] rfl (by simp only [go_sem, adM] <;> rfl) ?_
   apply XR.callI rfl rfl (by simp only [go_sem] <;> rfl) (by simp only [go_sem] <;> rfl) (by simp only [go_sem] <;> rfl)
   refine add_body k s i t a o nZ 0 0 _ (by omega) fun nx x => ?_
   refine XR.nil ?_
   rw [← hx, hnZ]
   refine EvC.b ?_ (hok := by exact inI64_of (by omega) (by omega))
   exact ⟨[(0, 0), (1, 1), (2, 2)], (n + 1, nZ, 0, 0), rfl, (by rw [hnZ]; simp only [go_sem, adM, Int.natCast_add, Int.natCast_one] <;> rfl), hnl, by simp only; omega⟩
 refine EvC.cf ?_ (by simp only [go_sem, decide_eq_false k13] <;> rfl)
 refine EvC.a ?_
 by_cases k2 : k = 2
 ·
  have hF : ofF m k s i = [⟨k, s, i, 0, 0, 0⟩] := by unfold ofF; rw [if_neg k0, if_neg k13, if_pos k2]
  refine EvC.ct ?_ (by simp only [go_sem, decide_eq_true k2] <;> rfl)
  apply EvC.region
  apply XR.run
  ·simp only [go_sem] <;> rfl
  ·simp
  refine XR.gcTo ⟨[(8, .rf 1 0), (69, .fn 119 [.rf 0 0, .rf 1 0])], [], adM k s i 0 0 0 [], 3⟩ [8, 69] [(0, 0), (1, 1), (2, 2)] rfl (by simp only [go_sem, adM] <;> rfl) ?_
  apply XR.callI rfl rfl (by simp only [go_sem] <;> rfl) (by simp only [go_sem] <;> rfl) (by simp only [go_sem] <;> rfl)
  refine add_body k s i 0 0 0 0 0 0 [] (by simp) fun nx x => ?_
  refine XR.nil ?_
  exact ⟨rfl, [(0, 0), (1, 1), (2, 2)], (0, 0, 0, [⟨k, s, i, 0, 0, 0⟩]), rfl, (by simp only [go_sem, adM, List.nil_append] <;> rfl), hF.symm⟩
 refine EvC.cf ?_ (by simp only [go_sem, decide_eq_false k2] <;> rfl)
 refine EvC.a ?_
 by_cases k4 : k = 4
 rotate_left
 ·refine EvC.cf ?_ (by simp only [go_sem, decide_eq_false k4] <;> rfl)
  have hF : ofF m k s i = [] := by unfold ofF; rw [if_neg k0, if_neg k13, if_neg k2, if_neg k4]
  refine EvC.skip ?_
  exact ⟨rfl, [(0, 0), (1, 1), (2, 2)], (0, 0, 0, []), rfl, (by simp only [go_sem, adM] <;> rfl), hF.symm⟩
 refine EvC.ct ?_ (by simp only [go_sem, decide_eq_true k4] <;> rfl)
 subst k4
 have hF : ofF m 4 s i = ofD m s i e0 m.ins.toNat := by unfold ofF; rw [if_neg (by omega), if_neg (by omega), if_neg (by omega), if_pos rfl, hE]
 have hrow : ∃ r2, m.rows[e0.toNat]? = some r2 ∧ (r2.2.length : Int) = m.ins := by
  have h1 : e0.toNat < m.rows.length := by omega
  exact ⟨_, List.getElem?_eq_getElem h1, (hv.row _ (List.getElem_mem h1)).1⟩
 obtain ⟨r2, p1, p2⟩ := hrow
 refine EvC.a ?_ (by simp only [go_sem, Mach.cells, p1, rowC, List.length_map, p2] <;> rfl) (by simp; omega)
 refine EvC.block ?_
 refine EvC.loopS (σ := Nat × Int × Int × Int) (fun p => ⟨[(4, .ia m.cells), (8, .rf 1 0), (11, .fn 119 [.rf 0 0, .rf 1 0]), (78, .sl r2.1 (r2.2.map edgeC) .unk), (79, .sc (.int .i64 m.ins)), (80, .sc (.int .i64 p.1))], [], adM 4 s i p.2.1 p.2.2.1 p.2.2.2 (ofD m s i e0 p.1), 3⟩) (fun p => m.ins.toNat - p.1) (fun p => p.1 ≤ m.ins.toNat) [4, 8, 11, 78, 79, 80] 3 ?_ ?_
 ·exact ⟨[(0, 0), (1, 1), (2, 2)], (0, 0, 0, 0), rfl, (by simp only [go_sem, adM, ofD, Int.natCast_zero, List.length_nil, List.isEmpty_nil, List.map_nil, Mach.cells] <;> rfl), Nat.zero_le _⟩
 rintro ⟨n, t, a, o⟩ hn
 simp only at hn ⊢
 refine EvC.a ?_
 refine EvC.seq ?_
 refine EvC.cond (by simp only [go_sem] <;> rfl) (fun hc => ?_) (fun hc => ?_)
 rotate_left
 ·refine EvC.exit ?_
  obtain rfl : n = m.ins.toNat := by have : ¬ (n : Int) < m.ins := (by simpa using hc); omega
  exact ⟨rfl, [(0, 0), (1, 1), (2, 2)], (t, a, o, ofD m s i e0 m.ins.toNat), rfl, (by simp only [go_sem, adM] <;> rfl), hF.symm⟩
 have hnl : n + 1 ≤ m.ins.toNat := by have : (n : Int) < m.ins := (by simpa using hc); omega
 clear hc
 refine EvC.skip ?_
 refine EvC.seq ?_
 refine EvC.block ?_
 obtain ⟨nZ, hnZ⟩ : ∃ z : Int, z = (n : Int) := ⟨_, rfl⟩
 have hx : ofD m s i e0 (n + 1) = apF (ofD m s i e0 n) (ofDo s i nZ (stepM m e0 nZ) m.outs.toNat) := by rw [ofD, hnZ]; rfl
 obtain ⟨r3, p3, p4, p5⟩ := stepM_get hv (s := e0) (i := nZ) ⟨by omega, by omega⟩ ⟨by omega, by omega⟩
 rw [p1] at p3; cases p3
 have hlen := ofD_len hv s i e0 n
 have hlen : (ofD m s i e0 n).length ≤ 256 := by omega
 generalize stepM m e0 nZ = f at *
 obtain ⟨f0, f1⟩ := f
 have hnt : nZ.toNat = n := by omega
 rw [hnt] at p4
 generalize ofD m s i e0 n = pre at hx hlen ⊢
 rw [← hnZ]
 refine EvC.a ?_ (by simp only [go_sem, p4, hnt, edgeC] <;> rfl) (by simp; omega)
 refine EvC.z 7 ?_ (by simp only [go_sem, adM] <;> rfl)
 refine EvC.a ?_ (by simp only [go_sem, Mach.cells] <;> rfl)
 refine EvC.block ?_
 refine EvC.loopS (σ := Nat × Int × Int × Int) (fun p => ⟨[(4, .ia m.cells), (8, .rf 1 0), (11, .fn 119 [.rf 0 0, .rf 1 0]), (14, .sc (.int .i64 nZ)), (15, .ia [.sc (.int .i64 f0), .sc (.int .i64 f1)]), (78, .sl r2.1 (r2.2.map edgeC) .unk), (79, .sc (.int .i64 m.ins)), (80, .sc (.int .i64 nZ)), (86, .sc (.int .i64 m.outs)), (87, .sc (.int .i64 p.1))], [], adM 4 s i p.2.1 p.2.2.1 p.2.2.2 (apF pre (ofDo s i nZ (f0, f1) p.1)), 3⟩) (fun p => m.outs.toNat - p.1) (fun p => p.1 ≤ m.outs.toNat) [4, 8, 11, 14, 15, 78, 79, 80, 86, 87] 3 ?_ ?_
 ·exact ⟨[(0, 0), (1, 1), (2, 2)], (0, t, a, o), rfl, (by rw [ofDo, apF_nil]; simp only [go_sem, adM, Int.natCast_zero, Mach.cells] <;> rfl), Nat.zero_le _⟩
 rintro ⟨n2, t, a, o⟩ hn2
 simp only at hn2 ⊢
 refine EvC.a ?_
 refine EvC.seq ?_
 refine EvC.cond (by simp only [go_sem] <;> rfl) (fun hc => ?_) (fun hc => ?_)
 rotate_left
 ·refine EvC.exit ?_
  obtain rfl : n2 = m.outs.toNat := by have : ¬ (n2 : Int) < m.outs := (by simpa using hc); omega
  rw [← hx]
  refine EvC.b ?_ (hok := by exact inI64_of (by omega) (by omega))
  exact ⟨[(0, 0), (1, 1), (2, 2)], (n + 1, t, a, o), rfl, (by rw [hnZ]; simp only [go_sem, adM, Int.natCast_add, Int.natCast_one] <;> rfl), hnl, by simp only; omega⟩
 have hnl2 : n2 + 1 ≤ m.outs.toNat := by have : (n2 : Int) < m.outs := (by simpa using hc); omega
 clear hc
 refine EvC.skip ?_
 refine EvC.seq ?_
 refine EvC.block ?_
 refine EvC.a ?_
 have hlen2 := ofDo_len s i nZ (f0, f1) n2
 have hpl : (apF pre (ofDo s i nZ (f0, f1) n2)).length < 1000000 := by rw [apF_len]; omega
 have hx2 : apF pre (ofDo s i nZ (f0, f1) (n2 + 1)) = apF (apF pre (ofDo s i nZ (f0, f1) n2)) (if f0 ≠ -1 ∧ (n2 : Int) ≠ f1 then [⟨4, s, i, 0, nZ, n2⟩] else []) := by rw [ofDo, apF_app]
 generalize apF pre (ofDo s i nZ (f0, f1) n2) = L at hpl hx2 ⊢
 by_cases hf0 : f0 = -1
 ·have hx3 : apF pre (ofDo s i nZ (f0, f1) (n2 + 1)) = L := by rw [hx2, if_neg (fun h => h.1 hf0), apF_nil]
  refine EvC.g ?_ (h := by simp only [go_sem, edgeC, decide_eq_true hf0] <;> rfl)
  refine EvC.cs ?_
  refine EvC.b ?_ (hok := by exact inI64_of (by omega) (by omega))
  exact ⟨[(0, 0), (1, 1), (2, 2)], (n2 + 1, t, a, o), rfl, (by rw [hx3]; simp only [go_sem, adM, Int.natCast_add, Int.natCast_one] <;> rfl), hnl2, by simp only; omega⟩
 by_cases hne : (n2 : Int) = f1
 ·have hx3 : apF pre (ofDo s i nZ (f0, f1) (n2 + 1)) = L := by rw [hx2, if_neg (fun h => h.2 hne), apF_nil]
  refine EvC.g ?_ (h := by simp only [go_sem, edgeC, decide_eq_false hf0, decide_eq_true hne] <;> rfl)
  refine EvC.cs ?_
  refine EvC.b ?_ (hok := by exact inI64_of (by omega) (by omega))
  exact ⟨[(0, 0), (1, 1), (2, 2)], (n2 + 1, t, a, o), rfl, (by rw [hx3]; simp only [go_sem, adM, Int.natCast_add, Int.natCast_one] <;> rfl), hnl2, by simp only; omega⟩
 have hx3 : apF pre (ofDo s i nZ (f0, f1) (n2 + 1)) = L ++ [⟨4, s, i, 0, nZ, n2⟩] := by rw [hx2, if_pos ⟨hf0, hne⟩]; rfl
 refine EvC.g ?_ (h := by simp only [go_sem, edgeC, decide_eq_false hf0, decide_eq_false hne] <;> rfl)
 refine EvC.ct ?_
 obtain ⟨oZ, hoZ⟩ : ∃ z : Int, z = (n2 : Int) := ⟨_, rfl⟩
 rw [← hoZ] at hx3 ⊢
 apply EvC.region
 apply XR.run
 ·simp only [go_sem] <;> rfl
 ·simp
 refine XR.gcTo ⟨[(4, .ia m.cells), (8, .rf 1 0), (11, .fn 119 [.rf 0 0, .rf 1 0]), (14, .sc (.int .i64 nZ)), (15, .ia [.sc (.int .i64 f0), .sc (.int .i64 f1)]), (78, .sl r2.1 (r2.2.map edgeC) .unk), (79, .sc (.int .i64 m.ins)), (80, .sc (.int .i64 nZ)), (86, .sc (.int .i64 m.outs)), (87, .sc (.int .i64 oZ)), (99, .fn 119 [.rf 0 0, .rf 1 0]), (100, .sc (.int .i64 nZ)), (101, .sc (.int .i64 oZ))], [], adM 4 s i t a o L, 3⟩ [4, 8, 11, 14, 15, 78, 79, 80, 86, 87, 99, 100, 101] [(0, 0), (1, 1), (2, 2)] rfl (by simp only [go_sem, adM, Mach.cells] <;> rfl) ?_
 apply XR.callI rfl rfl (by simp only [go_sem] <;> rfl) (by simp only [go_sem] <;> rfl) (by simp only [go_sem] <;> rfl)
 refine add_body 4 s i t a o 0 nZ oZ _ hpl fun nx x => ?_
 refine XR.nil ?_
 rw [← hx3, hoZ]
 refine EvC.b ?_ (hok := by exact inI64_of (by omega) (by omega))
 exact ⟨[(0, 0), (1, 1), (2, 2)], (n2 + 1, 0, nZ, oZ), rfl, (by rw [hoZ]; simp only [go_sem, adM, Mach.cells, Int.natCast_add, Int.natCast_one] <;> rfl), hnl2, by simp only; omega⟩
def egI (m : Mach) (s : Int) : Nat → List (Int × Int)
 | 0 => []
 | n + 1 => egI m s n ++ (if definedB m s n = true then [(s, (n : Int))] else [])
def egS (m : Mach) : Nat → List (Int × Int)
 | 0 => []
 | n + 1 => egS m n ++ egI m n m.ins.toNat
def egL (m : Mach) : List (Int × Int) := egS m m.rows.length
def pairC (p : Int × Int) : List AV := [.sc (.int .i64 p.1), .sc (.int .i64 p.2)]
def egR (m : Mach) (s : Int) : Nat → Nat → List (Int × Int)
 | 0, _ => []
 | n + 1, i => (if definedB m s i = true then [(s, (i : Int))] else []) ++ egR m s n (i + 1)
theorem egR_app (m : Mach) (s : Int) : ∀ (n i : Nat), egI m s i ++ egR m s n i = egI m s (i + n)
 | 0, i => by simp [egR]
 | n + 1, i => by
   rw [egR, ← List.append_assoc, show egI m s i ++ (if definedB m s i = true then [(s, (i : Int))] else []) = egI m s (i + 1) from rfl, egR_app m s n (i + 1)]
   congr 1; omega
def egT (m : Mach) : Nat → Nat → List (Int × Int)
 | 0, _ => []
 | n + 1, s => egI m s m.ins.toNat ++ egT m n (s + 1)
theorem egT_app (m : Mach) : ∀ (n s : Nat), egS m s ++ egT m n s = egS m (s + n)
 | 0, s => by simp [egT]
 | n + 1, s => by
   rw [egT, ← List.append_assoc, show egS m s ++ egI m s m.ins.toNat = egS m (s + 1) from rfl, egT_app m n (s + 1)]
   congr 1; omega
theorem egI_eq (m : Mach) (s : Int) (n : Nat) : egR m s n 0 = egI m s n := by have := egR_app m s n 0; rw [Nat.zero_add] at this; rw [← this]; rfl
theorem egL_eq (m : Mach) : egL m = egT m m.rows.length 0 := by have := egT_app m m.rows.length 0; rw [Nat.zero_add] at this; rw [egL, ← this]; rfl
theorem edges1_seq {m : Mach} (hv : Valid m) : SeqIs prog 118 [.ia m.cells] ((egL m).map pairC) := by
 have hmi := hv.ins
 have hmr := hv.rows
 refine SeqIs.of (nv := 3) (hid := [3, 4, 7, 8, 9, 12, 13, 14, 19, 20, 26]) func118 rfl (by kernel_rfl) (by simp [ntmps118]) (by rw [results118]) fun lp J h0 hJ hy => ?_
 rw [ntmps118]
 refine EvY.seqL hJ (EvC.rg (by simp only [go_sem, Mach.cells, List.length_map] <;> rfl) (by simp) ?_)
 refine EvY.block ?_
 refine EvY.loopS hJ (σ := Nat × Nat × List (Int × Int)) (fun g => ⟨[(0, .sc (yv lp)), (1, .ia m.cells), (7, .sc (.int .i64 m.rows.length)), (8, .sc (.int .i64 g.2.1))], [], [], 0⟩) (fun g => g.2.2.length) (fun g => g.1)
  (fun g => g.1 + g.2.1 = m.rows.length ∧ egL m = g.2.2 ++ egT m g.1 g.2.1) [0, 1, 7, 8] 0 ?_ ?_
 ·exact ⟨[], (m.rows.length, 0, []), rfl, (by simp only [go_sem, Int.natCast_zero, Mach.cells] <;> rfl), ⟨rfl, egL_eq m⟩, rfl⟩
 rintro ⟨n, s, pre⟩ ⟨hn, hpre⟩
 simp only at hn hpre ⊢
 refine EvY.seqL hJ (EvC.rg (by simp only [go_sem] <;> rfl) (by simp) ?_)
 refine EvY.seq ?_
 refine EvY.cond (by simp only [go_sem] <;> rfl) (fun hc => ?_) (fun hc => ?_)
 rotate_left
 ·refine EvY.exit ⟨.inr rfl, .inl ?_⟩
  have hc : ¬ s < m.rows.length := by simpa using hc
  obtain rfl : n = 0 := by omega
  rw [hpre]; simp [egT]
 have hc : s < m.rows.length := by simpa using hc
 obtain ⟨n, rfl⟩ : ∃ k, n = k + 1 := ⟨n - 1, by omega⟩
 rw [egT] at hpre
 refine EvY.skip ?_
 refine EvY.seq ?_
 refine EvY.block ?_
 refine EvY.seqL hJ (EvC.rg (by simp only [go_sem] <;> rfl) (by simp) ?_)
 refine EvY.seqL hJ (EvC.rg (by simp only [go_sem, Mach.cells] <;> rfl) (by simp) ?_)
 refine EvY.block ?_
 obtain ⟨sZ, hsZ⟩ : ∃ z : Int, z = (s : Int) := ⟨_, rfl⟩
 have hs0 : 0 ≤ sZ ∧ sZ < m.rows.length := by omega
 rw [← hsZ] at hpre ⊢
 refine EvY.loopS hJ (σ := Nat × Nat × List (Int × Int)) (fun g => ⟨[(0, .sc (yv lp)), (1, .ia m.cells), (3, .sc (.int .i64 sZ)), (7, .sc (.int .i64 m.rows.length)), (8, .sc (.int .i64 sZ)), (12, .sc (.int .i64 m.ins)), (13, .sc (.int .i64 g.2.1))], [], [], 0⟩) (fun g => g.2.2.length) (fun g => g.1)
  (fun g => g.1 + g.2.1 = m.ins.toNat ∧ egL m = g.2.2 ++ (egR m sZ g.1 g.2.1 ++ egT m n (s + 1))) [0, 1, 3, 7, 8, 12, 13] 0 ?_ ?_
 ·exact ⟨[], (m.ins.toNat, 0, pre), rfl, (by simp only [go_sem, Int.natCast_zero, Mach.cells] <;> rfl), ⟨rfl, by simp only; rw [egI_eq, hpre]⟩, rfl⟩
 clear hpre
 rintro ⟨k, i, pre⟩ ⟨hk, hpre⟩
 simp only at hk hpre ⊢
 refine EvY.seqL hJ (EvC.rg (by simp only [go_sem] <;> rfl) (by simp) ?_)
 refine EvY.seq ?_
 refine EvY.cond (by simp only [go_sem] <;> rfl) (fun hc => ?_) (fun hc => ?_)
 rotate_left
 ·refine EvY.exit ?_
  have hc : ¬ (i : Int) < m.ins := by simpa using hc
  obtain rfl : k = 0 := by omega
  refine EvY.lift hJ (EvC.rg (by simp only [go_sem] <;> rfl) (by exact inI64_of (by omega) (by omega)) ?_)
  exact ⟨[], (n, s + 1, pre), rfl, (by rw [hsZ]; simp only [go_sem, Int.natCast_add, Int.natCast_one] <;> rfl), ⟨by simp only; omega, by simp only; rw [hpre]; rfl⟩, rfl, by simp⟩
 have hc : (i : Int) < m.ins := by simpa using hc
 obtain ⟨k, rfl⟩ : ∃ j, k = j + 1 := ⟨k - 1, by omega⟩
 rw [egR] at hpre
 refine EvY.skip ?_
 refine EvY.seq ?_
 refine EvY.block ?_
 refine EvY.seqL hJ (EvC.rg (by simp only [go_sem] <;> rfl) (by simp) ?_)
 have q := defined84_is hv sZ i
 cases hd : definedB m sZ i with
 | false =>
   rw [hd] at q hpre
   rw [if_neg (by simp), List.nil_append] at hpre
   refine EvY.seqL hJ ?_
   intro _
   apply EvC.tr
   ·apply Tr.run
    ·simp only [go_sem, Mach.cells] <;> rfl
    ·simp
    apply Tr.cons
    ·exact .ca (q)
    apply Tr.run
    ·simp only [go_sem, Mach.cells] <;> rfl
    ·simp
    apply Tr.cons
    ·exact .skipv (.sc (.bool false)) rfl rfl (by simp only [go_sem] <;> rfl) (by simp only [go_sem] <;> rfl)
    apply Tr.done
    ·simp only [go_sem] <;> rfl
    ·simp
   refine EvY.cond_false (by simp only [go_sem] <;> rfl) ?_
   refine EvY.skip ?_
   refine EvY.lift hJ (EvC.rg (by simp only [go_sem] <;> rfl) (by exact inI64_of (by omega) (by omega)) ?_)
   exact ⟨[], (k, i + 1, pre), rfl, (by simp only [go_sem, Int.natCast_add, Int.natCast_one] <;> rfl), ⟨by simp only; omega, hpre⟩, rfl, by simp⟩
 | true =>
   rw [hd] at q hpre
   rw [if_pos rfl] at hpre
   refine EvY.seq (EvY.region ?_)
   refine XRY.pre 8 hJ ?_
   intro _
   simp only [List.take_succ_cons, List.take_zero, List.drop_succ_cons, List.drop_zero]
   apply XR.tr rfl
   ·apply Tr.run
    ·simp only [go_sem, Mach.cells] <;> rfl
    ·simp
    apply Tr.cons
    ·exact .call rfl rfl (by simp only [go_sem] <;> rfl) (by simp only [go_sem] <;> rfl) (by simp only [go_sem] <;> rfl) (by simp only [go_sem, Mach.cells] <;> rfl) (by simp only [go_sem] <;> rfl) q
    apply Tr.done
    ·simp only [go_sem] <;> rfl
    ·simp
   refine ⟨rfl, ?_⟩
   simp only [St.clr, List.length_cons, List.length_nil, List.cons_append, List.nil_append, Nat.reduceAdd]
   have hlt : pre.length < ((egL m).map pairC).length := by rw [hpre]; simp
   have hget : ((egL m).map pairC)[pre.length] = pairC (sZ, (i : Int)) := by
    simp only [hpre]; simp
   refine XRY.yieldG hlt hy rfl rfl (by simp only [go_sem] <;> rfl) rfl (by simp only [go_sem] <;> rfl) (by simp only [go_sem] <;> rfl) (by rw [hget]; simp only [go_sem, pairC] <;> rfl) (by rw [hget]; simp only [go_sem, pairC]) fun b => ?_
   refine XRY.pre 2 hJ ?_
   intro _
   simp only [List.take_succ_cons, List.take_zero, List.drop_succ_cons, List.drop_zero]
   apply XR.tr rfl
   ·apply Tr.done
    ·simp only [go_sem] <;> rfl
    ·simp
   refine ⟨rfl, XRY.nil ?_⟩
   simp only [St.clr, List.length_cons, List.length_nil, List.cons_append, List.nil_append, Nat.reduceAdd]
   cases b with
   | false =>
     refine EvY.cond_true (by simp only [go_sem] <;> rfl) ?_
     exact EvY.ret ⟨.inl rfl, .inr rfl⟩
   | true =>
     refine EvY.cond_false (by simp only [go_sem] <;> rfl) ?_
     refine EvY.skip ?_
     refine EvY.lift hJ (EvC.rg (by simp only [go_sem] <;> rfl) (by exact inI64_of (by omega) (by omega)) ?_)
     exact ⟨[], (k, i + 1, pre ++ [(sZ, (i : Int))]), rfl, (by simp only [go_sem, Int.natCast_add, Int.natCast_one] <;> rfl), ⟨by simp only; omega, by simp only; rw [hpre]; simp⟩, by simp, by simp⟩
theorem edges_is (m : Mach) : PureIs prog 100 [.ag m.cells] (.fn 118 [.ia m.cells]) := by
 refine PureIs.of1 1 [1, 2] func100 ntmps100 results100 fun _ => ?_
 refine EvC.a ?_ (by simp only [go_sem, Mach.cells] <;> rfl)
 refine EvC.z 0 ?_
 refine EvC.a ?_
 refine EvC.rz ?_
 simp only [go_sem]
 rfl
def alE (m : Mach) (k : Int) (ps : List (Int × Int)) : List FA := ps.flatMap fun p => ofF m k p.1 p.2
def alF (m : Mach) (ks : List Int) : List FA := ks.flatMap fun k => alE m k (egL m)
def faV (f : FA) : List AV := [.ag f.cells]
theorem egI_def (m : Mach) (s : Int) : ∀ n, ∀ p ∈ egI m s n, definedB m p.1 p.2 = true
 | 0, p, h => by cases h
 | n + 1, p, h => by
   rw [egI] at h
   rcases List.mem_append.1 h with h | h
   ·exact egI_def m s n p h
   ·split at h
    ·rename_i hd
     obtain rfl := List.mem_singleton.1 h
     exact hd
    ·cases h
theorem egS_def (m : Mach) : ∀ n, ∀ p ∈ egS m n, definedB m p.1 p.2 = true
 | 0, p, h => by cases h
 | n + 1, p, h => by
   rw [egS] at h
   rcases List.mem_append.1 h with h | h
   ·exact egS_def m n p h
   ·exact egI_def m n _ p h
theorem all1_seq {m : Mach} (hv : Valid m) (kn : Bool) (ks : List Int) (kc : Cp) (hks : ks.length < 1000000) : SeqIs prog 99 [.ia [.sl kn (ks.map intC) kc], .ia m.cells] ((alF m ks).map faV) := by
 have hmi := hv.ins
 have hmr := hv.rows
 refine SeqIs.of (nv := 4) (hid := [3, 5, 6, 7, 8, 9, 10, 11, 12, 13, 17, 18, 19, 24, 25, 26, 27, 33]) func99 rfl (by kernel_rfl) (by simp [ntmps99]) (by rw [results99]) fun lp J h0 hJ hy => ?_
 rw [ntmps99]
 refine EvY.seqL hJ (EvC.rg (by simp only [go_sem] <;> rfl) (by rfl) ?_)
 refine EvY.frzB hJ 0 (by simp only [go_sem] <;> rfl) ?_
 refine EvY.seqL hJ (EvC.rg (by simp only [go_sem, List.length_map] <;> rfl) (by simp) ?_)
 refine EvY.block ?_
 refine EvY.loopS hJ (σ := Nat × List FA) (fun g => ⟨[(1, .ia [.sl kn (ks.map intC) kc]), (2, .ia m.cells), (3, .ia [.sc (yv lp)]), (10, .sl kn (ks.map intC) kc), (11, .sc (.int .i64 ks.length)), (12, .sc (.int .i64 g.1))], [], [], 0⟩) (fun g => g.2.length) (fun g => ks.length - g.1)
  (fun g => g.1 ≤ ks.length ∧ alF m ks = g.2 ++ alF m (ks.drop g.1)) [1, 2, 3, 10, 11, 12] 0 ?_ ?_
 ·exact ⟨[], (0, []), rfl, (by simp only [go_sem, Int.natCast_zero, Mach.cells] <;> rfl), ⟨Nat.zero_le _, rfl⟩, rfl⟩
 rintro ⟨n, pre⟩ ⟨hn, hpre⟩
 simp only at hn hpre ⊢
 refine EvY.seqL hJ (EvC.rg (by simp only [go_sem] <;> rfl) (by simp) ?_)
 refine EvY.seq ?_
 refine EvY.cond (by simp only [go_sem] <;> rfl) (fun hc => ?_) (fun hc => ?_)
 rotate_left
 ·refine EvY.exit ⟨.inr rfl, .inl ?_⟩
  have hc : ¬ n < ks.length := by simpa using hc
  rw [hpre, List.drop_eq_nil_of_le (by omega)]; simp [alF]
 have hc : n < ks.length := by simpa using hc
 have hk : ks[n]? = some ks[n] := List.getElem?_eq_getElem hc
 rw [List.drop_eq_getElem_cons hc] at hpre
 generalize ks[n] = k at hk hpre
 obtain ⟨nZ, hnZ⟩ : ∃ z : Int, z = (n : Int) := ⟨_, rfl⟩
 have hnt : nZ.toNat = n := by omega
 rw [← hnZ]
 refine EvY.skip ?_
 refine EvY.seq ?_
 refine EvY.block ?_
 refine EvY.seqL hJ (EvC.rg (by simp only [go_sem, hk, hnt, intC] <;> rfl) (by simp; omega) ?_)
 refine EvY.frzB hJ 3 (by simp only [go_sem] <;> rfl) ?_
 refine EvY.seqL hJ ?_
 intro _
 refine EvC.k1L ?_ (h1 := by simp only [go_sem, Mach.cells] <;> rfl) (c1 := .ca (edges_is m))
 refine EvY.block ?_
 have hpk : ∀ p ∈ (#[18, 19] : Array Nat), p < 36 := by decide
 refine EvY.range hJ (gf := 118) (caps := [.ia m.cells]) (xs := (egL m).map pairC) (σ := List FA) (by simp only [go_sem] <;> rfl) (by simp only [go_sem, Mach.cells]) (edges1_seq hv) (fun x hx => by obtain ⟨p, _, rfl⟩ := List.mem_map.1 hx; rfl) hpk (Nat.zero_le _) (fun _ _ => []) (fun s => s.length)
  (fun j s => alF m ks = s ++ (alE m k ((egL m).drop j) ++ alF m (ks.drop (n + 1)))) ⟨pre, rfl, hpre, rfl⟩ ?_ ?_
 rotate_left
 ·intro s hs
  rw [List.drop_eq_nil_of_le (by simp)] at hs
  refine EvY.lift hJ (EvC.rg (by simp only [go_sem] <;> rfl) (by exact inI64_of (by omega) (by omega)) ?_)
  exact ⟨[], (n + 1, s), rfl, (by rw [hnZ]; simp only [go_sem, Int.natCast_add, Int.natCast_one] <;> rfl), ⟨hc, by simp only; rw [hs]; rfl⟩, rfl, by simp only; omega⟩
 clear hpre
 intro j pre l2 hj hpre
 have hj' : j < (egL m).length := by simpa using hj
 have hge : ((egL m).map pairC)[j] = pairC (egL m)[j] := List.getElem_map _
 rw [hge]
 rw [List.drop_eq_getElem_cons hj'] at hpre
 have hdf := egS_def m _ _ (List.getElem_mem hj')
 change definedB m (egL m)[j].1 (egL m)[j].2 = true at hdf
 generalize (egL m)[j] = p at hpre hdf ⊢
 obtain ⟨s, i⟩ := p
 have hpre : alF m ks = pre ++ (ofF m k s i ++ (alE m k ((egL m).drop (j + 1)) ++ alF m (ks.drop (n + 1)))) := by rw [hpre]; simp [alE]
 clear hge
 simp only at hdf
 rw [pairC]
 refine EvC.a ?_
 refine EvC.b ?_
 refine ⟨rfl, ?_⟩
 simp only [St.fin, List.length_cons, List.length_nil, List.cons_append, List.nil_append, Nat.reduceAdd]
 refine EvY.block ?_
 have q := of97_is hv k s i hdf
 have hfl := ofF_len hv k s i
 generalize ofF m k s i = L at q hfl hpre
 refine EvY.seqL hJ ?_
 intro _
 refine EvC.k1L ?_ (h1 := by simp only [go_sem, Mach.cells] <;> rfl) (c1 := .ca q) (h2 := by simp only [go_sem, List.length_map] <;> rfl)
 refine EvY.block ?_
 refine EvY.loopS hJ (σ := Nat × List FA) (fun g => ⟨[(1, .ia [.sl kn (ks.map intC) kc]), (2, .ia m.cells), (3, .ia [.sc (yv lp)]), (24, .sl L.isEmpty (L.map FA.cells) .unk), (25, .sc (.int .i64 L.length)), (26, .sc (.int .i64 g.1))], [], [], 7⟩) (fun g => g.2.length) (fun g => L.length - g.1)
  (fun g => g.1 ≤ L.length ∧ alF m ks = g.2 ++ (L.drop g.1 ++ (alE m k ((egL m).drop (j + 1)) ++ alF m (ks.drop (n + 1))))) [1, 2, 3, 24, 25, 26] 7 ?_ ?_
 ·exact ⟨[], (0, pre), rfl, (by simp only [go_sem, Int.natCast_zero, Mach.cells] <;> rfl), ⟨Nat.zero_le _, hpre⟩, rfl⟩
 clear hpre
 rintro ⟨i2, pre⟩ ⟨hi2, hpre⟩
 simp only at hi2 hpre ⊢
 refine EvY.seqL hJ (EvC.rg (by simp only [go_sem] <;> rfl) (by simp) ?_)
 refine EvY.seq ?_
 refine EvY.cond (by simp only [go_sem] <;> rfl) (fun hc => ?_) (fun hc => ?_)
 rotate_left
 ·refine EvY.exit ?_
  have hc : ¬ i2 < L.length := by simpa using hc
  exact ⟨[], pre, rfl, rfl, by rw [hpre, List.drop_eq_nil_of_le (by omega)]; rfl, rfl⟩
 have hc : i2 < L.length := by simpa using hc
 have hf : L[i2]? = some L[i2] := List.getElem?_eq_getElem hc
 rw [List.drop_eq_getElem_cons hc] at hpre
 generalize L[i2] = f at hf hpre
 obtain ⟨a1, a2, a3, a4, a5, a6⟩ := f
 refine EvY.skip ?_
 refine EvY.seq ?_
 refine EvY.block ?_
 refine EvY.seqL hJ (EvC.rg (by simp only [go_sem, hf, FA.cells] <;> rfl) (by simp) ?_)
 refine EvY.frzB hJ 10 (by simp only [go_sem] <;> rfl) ?_
 refine EvY.seq (EvY.region ?_)
 have hlt : pre.length < ((alF m ks).map faV).length := by rw [hpre]; simp
 have hget : ((alF m ks).map faV)[pre.length] = faV ⟨a1, a2, a3, a4, a5, a6⟩ := by
  simp only [hpre]; simp
 refine XRY.run hJ (by simp only [go_sem] <;> rfl) (by simp) ?_
 refine XRY.yield hlt hy rfl rfl (by simp only [go_sem] <;> rfl) (by simp only [go_sem] <;> rfl) (by rw [hget]; simp only [go_sem, faV, FA.cells] <;> rfl) (by rw [hget]; simp only [go_sem, faV, FA.cells]) fun b => ?_
 refine XRY.done hJ (by simp only [go_sem] <;> rfl) rfl ?_
 cases b with
 | false =>
   refine EvY.cond_true (by simp only [go_sem] <;> rfl) ?_
   exact EvY.ret ⟨.inl rfl, .inr rfl⟩
 | true =>
   refine EvY.cond_false (by simp only [go_sem] <;> rfl) ?_
   refine EvY.skip ?_
   refine EvY.lift hJ (EvC.rg (by simp only [go_sem] <;> rfl) (by exact inI64_of (by omega) (by omega)) ?_)
   exact ⟨[], (i2 + 1, pre ++ [⟨a1, a2, a3, a4, a5, a6⟩]), rfl, (by simp only [go_sem, Int.natCast_add, Int.natCast_one] <;> rfl), ⟨hc, by simp only; rw [hpre]; simp⟩, by simp, by simp only; omega⟩
theorem all_is (m : Mach) (kn : Bool) (ks : List Int) (kc : Cp) : PureIs prog 71 [.ag m.cells, .sl kn (ks.map intC) kc] (.fn 99 [.ia [.sl kn (ks.map intC) kc], .ia m.cells]) := by
 refine PureIs.of1 2 [2, 3, 4] func71 ntmps71 results71 fun _ => ?_
 refine EvC.a ?_ (by simp only [go_sem, Mach.cells] <;> rfl)
 refine EvC.z 0 ?_
 refine EvC.z 1 ?_
 refine EvC.a ?_
 refine EvC.rz ?_
 simp only [go_sem]
 rfl
def kLast : List Int → Int → Option Int
 | [], l => some l
 | k :: ks, l => if k ≤ l ∨ 4 < k then none else kLast ks k
def readyR (m : Mach) (ks : List Int) (most : Int) : Int :=
 if checkM m ≠ 0 then checkM m else match kLast ks (-1) with
  | none => 1
  | some l => if inN most 65537 = false then 1 else if 3 ≤ l ∧ m.rows.length = 64 then 3 else 0
theorem ready_is (m : Mach) (hm : ∀ r ∈ m.rows, r.2.length < 1000000) (kn : Bool) (ks : List Int) (kc : Cp) (hks : ks.length < 1000000) (most : Int) :
  PureIs prog 70 [.ag m.cells, .sl kn (ks.map intC) kc, .sc (.int .i64 most)] (.sc (.int .i64 (readyR m ks most))) := by
 refine PureIs.of1 3 [3, 6, 7, 8, 9, 10, 14, 16, 17, 18, 19, 28, 33, 41] func70 ntmps70 results70 fun _ => ?_
 refine EvC.a ?_ (by simp only [go_sem, Mach.cells] <;> rfl)
 refine EvC.z 0 ?_
 refine EvC.seq ?_
 refine EvC.k1 ?_ (h1 := by simp only [go_sem, Mach.cells] <;> rfl) (c1 := .ca (check_is m hm))
 unfold readyR
 by_cases h0 : checkM m = 0
 rotate_left
 ·refine EvC.a ?_
  refine EvC.ct ?_ (by simp only [go_sem, decide_eq_false h0] <;> rfl)
  refine EvC.a ?_
  rw [if_pos h0]
  refine EvC.rz ?_
  simp only [go_sem]
 rw [if_neg (show ¬ checkM m ≠ 0 from fun h => h h0)]
 refine EvC.a ?_
 refine EvC.cs ?_ (by simp only [go_sem, decide_eq_true h0] <;> rfl)
 refine EvC.a ?_
 refine EvC.seq ?_
 refine EvC.a ?_ (by simp only [go_sem, List.length_map] <;> rfl)
 refine EvC.block ?_
 refine EvC.loopS (σ := Nat × Int) (fun g => ⟨[(2, .sc (.int .i64 most)), (3, .ia m.cells), (8, .sc (.int .i64 g.2)), (16, .sl kn (ks.map intC) kc), (17, .sc (.int .i64 ks.length)), (18, .sc (.int .i64 g.1))], [], [], 0⟩) (fun g => ks.length - g.1)
  (fun g => g.1 ≤ ks.length ∧ kLast ks (-1) = kLast (ks.drop g.1) g.2) [2, 3, 8, 16, 17, 18] 0 ?_ ?_
 ·exact ⟨[], (0, -1), rfl, (by simp only [go_sem, Int.natCast_zero, Mach.cells] <;> rfl), Nat.zero_le _, rfl⟩
 rintro ⟨n, l⟩ ⟨hn, hl⟩
 simp only at hn hl ⊢
 refine EvC.a ?_
 refine EvC.seq ?_
 refine EvC.cond (by simp only [go_sem] <;> rfl) (fun hc => ?_) (fun hc => ?_)
 rotate_left
 ·refine EvC.exit ?_
  have hc : ¬ n < ks.length := by simpa using hc
  rw [List.drop_eq_nil_of_le (by omega)] at hl
  rw [hl, kLast]
  simp only
  refine EvC.seq ?_
  refine EvC.mergeS (α := Unit) (fun _ => ⟨[(3, .ia m.cells), (8, .sc (.int .i64 l)), (33, .sc (.bool (!inN most 65537)))], [], [], 0⟩) (fun _ => True) [3, 8, 33] 0 ?_ ?_
  ·refine EvC.k1L ?_ (c1 := .ca (within85_is most 65537))
   exact ⟨rfl, [], (), rfl, (by simp only [go_sem, Mach.cells] <;> rfl), trivial⟩
  rintro ⟨⟩ -
  by_cases hm : inN most 65537 = false
  ·rw [if_pos hm]
   refine EvC.ct ?_ (by simp only [go_sem, hm, Bool.not_false] <;> rfl)
   refine EvC.a ?_
   refine EvC.rz ?_
   simp only [go_sem]
  rw [if_neg hm]
  have hm : inN most 65537 = true := by simpa using hm
  refine EvC.cs ?_ (by simp only [go_sem, hm, Bool.not_true] <;> rfl)
  refine EvC.seq ?_
  by_cases h3 : 3 ≤ l ∧ m.rows.length = 64
  ·rw [if_pos h3]
   have h4 : decide ((m.rows.length : Int) = 64) = true := decide_eq_true (by omega)
   refine EvC.g ?_ (h := by simp only [go_sem, Mach.cells, List.length_map, decide_eq_true h3.1, h4] <;> rfl)
   refine EvC.ct ?_
   refine EvC.a ?_
   refine EvC.rz ?_
   simp only [go_sem]
  rw [if_neg h3]
  by_cases h5 : 3 ≤ l
  ·have h4 : decide ((m.rows.length : Int) = 64) = false := decide_eq_false (fun h => h3 ⟨h5, by omega⟩)
   refine EvC.g ?_ (h := by simp only [go_sem, Mach.cells, List.length_map, decide_eq_true h5, h4] <;> rfl)
   refine EvC.cs ?_
   refine EvC.a ?_
   refine EvC.rz ?_
   simp only [go_sem]
  ·refine EvC.g ?_ (h := by simp only [go_sem, Mach.cells, List.length_map, decide_eq_false h5] <;> rfl)
   refine EvC.cs ?_
   refine EvC.a ?_
   refine EvC.rz ?_
   simp only [go_sem]
 have hc : n < ks.length := by simpa using hc
 have hk : ks[n]? = some ks[n] := List.getElem?_eq_getElem hc
 rw [List.drop_eq_getElem_cons hc, kLast] at hl
 generalize ks[n] = k at hk hl
 obtain ⟨nZ, hnZ⟩ : ∃ z : Int, z = (n : Int) := ⟨_, rfl⟩
 have hnt : nZ.toNat = n := by omega
 rw [← hnZ]
 refine EvC.skip ?_
 refine EvC.seq ?_
 refine EvC.block ?_
 refine EvC.a ?_ (by simp only [go_sem, hk, hnt, intC] <;> rfl) (by simp; omega)
 refine EvC.seq ?_
 by_cases hb : k ≤ l ∨ 4 < k
 ·rw [if_pos hb] at hl
  rw [hl]
  simp only
  refine EvC.mergeS (α := Unit) (fun _ => ⟨[(28, .sc (.bool true))], [], [], 0⟩) (fun _ => True) [28] 0 ?_ ?_
  ·by_cases h1 : k ≤ l
   ·refine EvC.gL ?_ (h := by simp only [go_sem, decide_eq_true h1] <;> rfl)
    exact ⟨rfl, [], (), rfl, (by simp only [go_sem] <;> rfl), trivial⟩
   ·refine EvC.gL ?_ (h := by simp only [go_sem, decide_eq_false h1, decide_eq_true (hb.resolve_left h1)] <;> rfl)
    exact ⟨rfl, [], (), rfl, (by simp only [go_sem] <;> rfl), trivial⟩
  rintro ⟨⟩ -
  refine EvC.ct ?_
  refine EvC.a ?_
  refine EvC.rz ?_
  simp only [go_sem]
 rw [if_neg hb] at hl
 refine EvC.g ?_ (h := by simp only [go_sem, decide_eq_false (fun h => hb (.inl h)), decide_eq_false (fun h => hb (.inr h))] <;> rfl)
 refine EvC.cs ?_
 refine EvC.b ?_
 refine EvC.b ?_ (hok := by exact inI64_of (by omega) (by omega))
 exact ⟨[], (n + 1, k), rfl, (by rw [hnZ]; simp only [go_sem, Int.natCast_add, Int.natCast_one] <;> rfl), ⟨hc, hl⟩, by simp only; omega⟩
theorem clipF_is (nl : Bool) (es : List (List AV)) (c : Cp) (h : (es.all fun y => decide (y.length = 6)) = true) : PureIs prog 72 [.sl nl es c] (.sl nl es .full) := by
 refine PureIs.of1 3 [] func72 ntmps72 results72 fun _ => ?_
 refine EvC.seq (EvC.rg (by simp only [go_sem] <;> rfl) rfl ?_)
 refine EvC.a ?_ (hok := by simp [h])
 refine EvC.ret ⟨.inl rfl, _, (by simp only [go_sem] <;> rfl), rfl, rfl⟩
theorem fa_six (L : List FA) : ((L.map FA.cells).all fun y => decide (y.length = 6)) = true := by simp [List.all_eq_true, FA.cells]
def allR (m : Mach) (ks : List Int) (most : Int) : Int :=
 if readyR m ks most ≠ 0 then readyR m ks most else if most < (alF m ks).length then 13 else 0
theorem alE_len {m : Mach} (hv : Valid m) (k : Int) : ∀ ps : List (Int × Int), (alE m k ps).length ≤ ps.length * 256
 | [] => Nat.le_refl _
 | p :: ps => by
   have h1 := alE_len hv k ps
   have h2 := ofF_len hv k p.1 p.2
   have h3 : alE m k (p :: ps) = ofF m k p.1 p.2 ++ alE m k ps := by simp [alE]
   rw [h3, List.length_append, List.length_cons]; omega
theorem egI_len (m : Mach) (s : Int) : ∀ n, (egI m s n).length ≤ n
 | 0 => Nat.le_refl _
 | n + 1 => by
   have := egI_len m s n
   rw [egI, List.length_append]; split <;> simp <;> omega
theorem egS_len {m : Mach} (hv : Valid m) : ∀ n, (egS m n).length ≤ n * 16
 | 0 => Nat.le_refl _
 | n + 1 => by
   have := egS_len hv n
   have := egI_len m n m.ins.toNat
   have := hv.ins
   rw [egS, List.length_append]; omega
theorem alF_len {m : Mach} (hv : Valid m) : ∀ ks : List Int, (alF m ks).length ≤ ks.length * 262144
 | [] => Nat.le_refl _
 | k :: ks => by
   have h1 := alF_len hv ks
   have h2 := alE_len hv k (egL m)
   have h4 := egS_len hv m.rows.length
   have := hv.rows
   have h3 : alF m (k :: ks) = alE m k (egL m) ++ alF m ks := by simp [alF]
   have h5 : (egL m).length = (egS m m.rows.length).length := rfl
   rw [h3, List.length_append, List.length_cons]; omega
theorem readyR_ok {m : Mach} {ks : List Int} {most : Int} (h : readyR m ks most = 0) : checkM m = 0 ∧ 0 ≤ most ∧ most < 65537 ∧ ∃ l, kLast ks (-1) = some l := by
 unfold readyR at h
 split at h
 ·rename_i h1; exact absurd h h1
 ·rename_i h1
  cases hk : kLast ks (-1) with
  | none => rw [hk] at h; cases h
  | some l =>
    rw [hk] at h
    simp only at h
    split at h
    ·cases h
    ·rename_i h2
     have h2 : inN most 65537 = true := by simpa using h2
     unfold inN at h2
     simp only [Bool.and_eq_true, decide_eq_true_eq] at h2
     exact ⟨by simpa using h1, h2.1, h2.2, l, rfl⟩
theorem norefs_mcells (m : Mach) : AV.norefs m.cells = true := by
 have h : (m.rows.map rowC).all AV.norefs = true := by
  rw [List.all_eq_true]
  intro c hc
  obtain ⟨r, _, rfl⟩ := List.mem_map.1 hc
  exact rowC_norefs r
 simp [Mach.cells, AV.norefs, AV.noref, h]
theorem norefs_machs (ms : List Mach) : (ms.map Mach.cells).all AV.norefs = true := by
 rw [List.all_eq_true]
 intro c hc
 obtain ⟨r, _, rfl⟩ := List.mem_map.1 hc
 exact norefs_mcells r
def errFs (m : Mach) : List FA → Int
 | [] => 0
 | f :: r => if checkF m f = 0 then errFs m r else checkF m f
def mutErr (m : Mach) (fs : List FA) : Int := if checkM m ≠ 0 then checkM m else if 256 < (fs.length : Int) then 3 else errFs m fs
def mutsA (m : Mach) (fs : List FA) : AV :=
 if mutErr m fs = 0 then .tu [.sl fs.isEmpty ((fs.map (mutF m)).map Mach.cells) .unk, .sc (.int .i64 0)] else .tu [.sl true [] .unk, .sc (.int .i64 (mutErr m fs))]
theorem errFs_zero {m : Mach} : ∀ {fs : List FA}, errFs m fs = 0 → ∀ f ∈ fs, checkF m f = 0
 | [], _, _, h => by cases h
 | g :: r, h, f, hf => by
   unfold errFs at h
   split at h
   ·rename_i h0
    rcases List.mem_cons.1 hf with rfl | hf
    ·exact h0
    ·exact errFs_zero h f hf
   ·contradiction
def mutC (m : Mach) (fs : List FA) (k : Nat) : List (List AV) := ((fs.take k).map (mutF m)).map Mach.cells
theorem mutC_succ {m : Mach} {fs : List FA} {k : Nat} {f : FA} (h : fs[k]? = some f) : mutC m fs k ++ [(mutF m f).cells] = mutC m fs (k + 1) := by
 obtain ⟨hi, he⟩ := List.getElem?_eq_some_iff.1 h
 unfold mutC
 rw [List.take_succ_eq_append_getElem hi, he, List.map_append, List.map_append]; rfl
theorem mutC_len {m : Mach} {fs : List FA} {k : Nat} (h : k ≤ fs.length) : (mutC m fs k).length = k := by simp [mutC]; omega
@[go_sem] theorem norefs_mutC (m : Mach) (fs : List FA) (k : Nat) : (mutC m fs k).all AV.norefs = true := norefs_machs _
theorem mutErr_ok {m : Mach} {fs : List FA} (h : mutErr m fs = 0) : checkM m = 0 ∧ fs.length ≤ 256 ∧ errFs m fs = 0 := by
 unfold mutErr at h
 split at h
 ·rename_i h1; exact absurd h h1
 ·rename_i h1
  split at h
  ·cases h
  ·exact ⟨by simpa using h1, by omega, h⟩
theorem equal53_is (na nb : Bool) (a b : List Int) (ca cb : Cp) (hl : a.length < 1000000) :
  PureIs prog 90 [.sl na (a.map intC) ca, .sl nb (b.map intC) cb] (.sc (.bool (decide (a = b)))) := by
 refine PureIs.of1 2 [4, 5, 10, 12, 13, 14, 24] func90 ntmps90 results90 fun _ => ?_
 refine EvC.a ?_
 refine EvC.seq ?_
 refine EvC.a ?_ (by simp only [go_sem, List.length_map] <;> rfl)
 by_cases hlen : a.length = b.length
 rotate_left
 ·have hd : decide ((a.length : Int) = (b.length : Int)) = false := decide_eq_false (by omega)
  have hab : decide (a = b) = false := decide_eq_false fun h => hlen (by rw [h])
  rw [hab]
  refine EvC.ct ?_ (by simp only [go_sem, hd] <;> rfl)
  refine EvC.a ?_
  refine EvC.rz ?_
  simp only [go_sem]
 have hd : decide ((a.length : Int) = (b.length : Int)) = true := decide_eq_true (by omega)
 refine EvC.cs ?_ (by simp only [go_sem, hd] <;> rfl)
 refine EvC.seq ?_
 refine EvC.a ?_ (by simp only [go_sem, List.length_map] <;> rfl)
 refine EvC.block ?_
 refine EvC.loopS (σ := Nat) (fun i => ⟨[(0, .sl na (a.map intC) ca), (1, .sl nb (b.map intC) cb), (12, .sc (.int .i64 a.length)), (13, .sc (.int .i64 i))], [], [], 0⟩) (fun i => a.length - i) (fun i => i ≤ a.length ∧ decide (a = b) = decide (a.drop i = b.drop i)) [0, 1, 12, 13] 0 ?_ ?_
 ·exact ⟨[], 0, rfl, (by simp only [go_sem, Int.natCast_zero] <;> rfl), Nat.zero_le _, rfl⟩
 rintro i ⟨hi, hinv⟩
 refine EvC.a ?_
 refine EvC.seq ?_
 refine EvC.cond (by simp only [go_sem] <;> rfl) (fun hc => ?_) (fun hc => ?_)
 rotate_left
 ·
  refine EvC.exit ?_
  obtain rfl : a.length = i := by have : ¬ i < a.length := by simpa using hc
                                  omega
  have h0 : decide (a = b) = true := by rw [hinv, List.drop_length, hlen, List.drop_length]; rfl
  rw [h0]
  refine EvC.a ?_
  refine EvC.rz ?_
  simp only [go_sem]
 have hil : i < a.length := by simpa using hc
 clear hc
 have he : a[i]? = some (a[i]'hil) := List.getElem?_eq_getElem hil
 have hf : b[i]? = some (b[i]'(by omega)) := List.getElem?_eq_getElem (by omega)
 generalize a[i]'hil = x at he
 generalize b[i]'(by omega) = y at hf
 rw [list_step he, list_step hf] at hinv
 have hin : (i : Int).toNat = i := Int.toNat_natCast i
 refine EvC.skip ?_
 refine EvC.seq ?_
 refine EvC.block ?_
 refine EvC.a ?_
 refine EvC.d mixed ?_ (h := by simp only [go_sem, he, hf, intC, hin, List.length_map] <;> rfl) (hok := by simp; try omega)
 by_cases hxy : x = y
 ·subst hxy
  refine EvC.cs ?_
  refine EvC.b ?_ (hok := by exact inI64_of (by omega) (by omega))
  exact ⟨[], i + 1, rfl, (by simp only [go_sem, Int.natCast_add, Int.natCast_one] <;> rfl), ⟨hil, by rw [hinv]; simp⟩, by omega⟩
 ·have d1 : decide (x = y) = false := decide_eq_false hxy
  refine EvC.ct ?_ (by simp only [go_sem, d1] <;> rfl)
  refine EvC.a ?_
  rw [hinv]
  refine EvC.rz ?_
  simp only [go_sem]
  simp [hxy]
theorem mutF_noNil (m : Mach) (f : FA) : NoNil (mutF m f) := by
 have hput : ∀ (s i : Int) (e : Int × Int), ∀ r ∈ putR m s i e, r.1 = false := by
  intro s i e r hr
  unfold putR copyR at hr
  rcases List.mem_or_eq_of_mem_set hr with h | rfl
  ·obtain ⟨q, _, rfl⟩ := List.mem_map.1 h; rfl
  ·rfl
 have h : ∀ r ∈ mutRows m f, r.1 = false := by
  intro r hr
  unfold mutRows at hr
  split at hr
  ·exact hput _ _ _ r hr
  split at hr
  ·exact hput _ _ _ r hr
  split at hr
  ·exact hput _ _ _ r hr
  split at hr
  ·rcases List.mem_append.1 hr with h | h
   ·exact hput _ _ _ r h
   ·rw [List.mem_singleton] at h; rw [h]
  ·rcases List.mem_append.1 hr with h | h
   ·exact hput _ _ _ r h
   ·rw [List.mem_singleton] at h; rw [h]
 intro r hr h1
 rw [h r hr] at h1
 cases h1
theorem fitsR_mono {k k2 : Nat} {o a b : Int} (hk : k ≤ k2) (h : fitsR k o a b = true) : fitsR k2 o a b = true := by
 unfold fitsR at h ⊢
 simp only [Bool.or_eq_true, Bool.and_eq_true, decide_eq_true_eq] at h ⊢
 omega
theorem fitsR_in {k : Nat} {o a b : Int} (h1 : 0 ≤ a ∧ a < k) (h2 : 0 ≤ b ∧ b < o) : fitsR k o a b = true := by
 unfold fitsR
 simp only [Bool.or_eq_true, Bool.and_eq_true, decide_eq_true_eq]
 omega
theorem fitsR_none (k : Nat) (o : Int) : fitsR k o (-1) (-1) = true := by
 unfold fitsR
 simp
theorem stepM_out {m : Mach} (hv : Valid m) {s i : Int} (hd : definedB m s i = true) : 0 ≤ (stepM m s i).2 ∧ (stepM m s i).2 < m.outs := by
 obtain ⟨h1, h2, h3⟩ := definedB_iff.1 hd
 obtain ⟨r, _, _, k3⟩ := stepM_get hv h1 h2
 unfold fitsR at k3
 simp only [Bool.or_eq_true, Bool.and_eq_true, decide_eq_true_eq] at k3
 omega
def RowV (m : Mach) (k : Nat) (r : Row) : Prop := (r.2.length : Int) = m.ins ∧ ∀ e ∈ r.2, fitsR k m.outs e.1 e.2 = true
theorem RowV.set {m : Mach} {k : Nat} {l : List (Int × Int)} (h : RowV m k (false, l)) (i : Nat) {e : Int × Int} (he : fitsR k m.outs e.1 e.2 = true) : RowV m k (false, l.set i e) := by
 refine ⟨by simpa using h.1, fun x hx => ?_⟩
 rcases List.mem_or_eq_of_mem_set hx with h1 | rfl
 ·exact h.2 x h1
 ·exact he
theorem putR_rowV {m : Mach} (hv : Valid m) {s i : Int} (hs : 0 ≤ s ∧ s < m.rows.length) {e : Int × Int} {k : Nat} (hk : m.rows.length ≤ k) (he : fitsR k m.outs e.1 e.2 = true) : ∀ r ∈ putR m s i e, RowV m k r := by
 intro r hr
 have hb : ∀ q ∈ m.rows, RowV m k (false, q.2) := fun q hq => ⟨(hv.row q hq).1, fun x hx => fitsR_mono hk ((hv.row q hq).2 x hx)⟩
 unfold putR copyR at hr
 rcases List.mem_or_eq_of_mem_set hr with h | rfl
 ·obtain ⟨q, hq, rfl⟩ := List.mem_map.1 h
  exact hb q hq
 ·have h5 : m.rows[s.toNat]? = some (m.rows[s.toNat]'(by omega)) := List.getElem?_eq_getElem (by omega)
  have hrt : rowAt m s = (m.rows[s.toNat]'(by omega)).2 := by unfold rowAt; rw [h5]; rfl
  rw [hrt]
  exact (hb _ (List.getElem_mem _)).set _ he
theorem putR_len (m : Mach) (s i : Int) (e : Int × Int) : (putR m s i e).length = m.rows.length := by simp [putR, copyR]
theorem Valid.mk' {m : Mach} (hv : Valid m) {rs : List Row} (h1 : m.rows.length ≤ rs.length) (h2 : rs.length ≤ 64) (h : ∀ r ∈ rs, RowV m rs.length r) : Valid ⟨m.ins, m.outs, false, rs⟩ :=
 ⟨hv.ins, hv.outs, ⟨by have := hv.rows; show 1 ≤ rs.length; omega, h2⟩, fun r hr => h r hr⟩
theorem mutF_valid {m : Mach} (hv : Valid m) {f : FA} (hc : checkF m f = 0) : Valid (mutF m f) := by
 unfold checkF at hc
 split at hc
 rotate_left
 ·cases hc
 rename_i hfb
 split at hc
 ·cases hc
 rename_i h64
 unfold faultB at hfb
 simp only [Bool.and_eq_true] at hfb
 obtain ⟨hp, hd, hkb⟩ := hfb
 have hst := stepM_out hv hd
 obtain ⟨r, h1, h2, he⟩ := step_in hv hd
 obtain ⟨b1, b2, _⟩ := definedB_iff.1 hd
 have hr64 := hv.rows.2
 unfold kindB at hkb
 unfold mutF mutRows
 split
 ·rename_i h0
  rw [if_pos h0] at hkb
  simp only [Bool.and_eq_true, inN, decide_eq_true_eq] at hkb
  exact hv.mk' (by rw [putR_len]; omega) (by rw [putR_len]; omega) (by rw [putR_len]; exact putR_rowV hv b1 (Nat.le_refl _) (fitsR_in he hkb.1))
 rename_i h0
 rw [if_neg h0] at hkb
 split
 ·rename_i h1
  rw [if_pos h1] at hkb
  simp only [Bool.and_eq_true, inN, decide_eq_true_eq] at hkb
  exact hv.mk' (by rw [putR_len]; omega) (by rw [putR_len]; omega) (by rw [putR_len]; exact putR_rowV hv b1 (Nat.le_refl _) (fitsR_in hkb.1 hst))
 rename_i h1
 rw [if_neg h1] at hkb
 split
 ·rename_i h2
  exact hv.mk' (by rw [putR_len]; omega) (by rw [putR_len]; omega) (by rw [putR_len]; exact putR_rowV hv b1 (Nat.le_refl _) (fitsR_none _ _))
 rename_i h2
 rw [if_neg h2] at hkb
 have h3k : 3 ≤ f.kind := by
  have := plainB_kind hp
  omega
 have h64' : m.rows.length + 1 ≤ 64 := by omega
 have hput : ∀ r ∈ putR m f.state f.input ((m.rows.length : Int), (stepM m f.state f.input).2), RowV m (m.rows.length + 1) r := putR_rowV hv b1 (by omega) (fitsR_in (by simp; omega) hst)
 have hone : ∀ (t : Int), 0 ≤ t ∧ t < m.rows.length → RowV m (m.rows.length + 1) (false, rowAt m t) := by
  intro t ht
  have h5 : m.rows[t.toNat]? = some (m.rows[t.toNat]'(by omega)) := List.getElem?_eq_getElem (by omega)
  have hrt : rowAt m t = (m.rows[t.toNat]'(by omega)).2 := by unfold rowAt; rw [h5]; rfl
  rw [hrt]
  have hq := hv.row _ (List.getElem_mem (show t.toNat < m.rows.length by omega))
  exact ⟨hq.1, fun x hx => fitsR_mono (by omega) (hq.2 x hx)⟩
 split
 ·rename_i h3
  rw [if_pos h3] at hkb
  simp only [inN, Bool.and_eq_true, decide_eq_true_eq] at hkb
  have hl : (putR m f.state f.input ((m.rows.length : Int), (stepM m f.state f.input).2) ++ [((false, rowAt m f.to) : Row)]).length = m.rows.length + 1 := by rw [List.length_append, putR_len]; rfl
  refine hv.mk' (by omega) (by omega) ?_
  rw [hl]
  intro q hq
  rcases List.mem_append.1 hq with h | h
  ·exact hput q h
  ·rw [List.mem_singleton] at h
   rw [h]
   exact hone _ hkb
 ·rename_i h3
  rw [if_neg h3] at hkb
  simp only [inN, Bool.and_eq_true, decide_eq_true_eq] at hkb
  obtain ⟨ho, hd2, _⟩ := hkb
  have he2 := (step_in hv hd2).choose_spec.2.2
  have hl : (putR m f.state f.input ((m.rows.length : Int), (stepM m f.state f.input).2) ++ [((false, (rowAt m (stepM m f.state f.input).1).set f.at'.toNat ((stepM m (stepM m f.state f.input).1 f.at').1, f.out)) : Row)]).length = m.rows.length + 1 := by rw [List.length_append, putR_len]; rfl
  refine hv.mk' (by omega) (by omega) ?_
  rw [hl]
  intro q hq
  rcases List.mem_append.1 hq with h | h
  ·exact hput q h
  ·rw [List.mem_singleton] at h
   rw [h]
   exact (hone _ he).set _ (fitsR_in (by omega) ho)
def rank (k : Nat) : List Int → Nat
 | [] => 0
 | a :: w => (a.toNat + 1) * k ^ w.length + rank k w
def WOk (k : Nat) (w : List Int) : Prop := ∀ a ∈ w, 0 ≤ a ∧ a < k
theorem WOk.head {k : Nat} {a : Int} {w : List Int} (h : WOk k (a :: w)) : 0 ≤ a ∧ a < k := h a List.mem_cons_self
theorem WOk.cons {k : Nat} {a : Int} {w : List Int} (ha : 0 ≤ a ∧ a < k) (h : WOk k w) : WOk k (a :: w) := fun x hx => by
 rcases List.mem_cons.1 hx with rfl | hx
 ·exact ha
 ·exact h x hx
def Alike (m : Mach) (k s t : Nat) : Prop := ∀ v, WOk m.ins.toNat v → v.length ≤ k → runR m s v = runR m t v
theorem Alike.symm {m : Mach} {k s t : Nat} (h : Alike m k s t) : Alike m k t s := fun v h1 h2 => (h v h1 h2).symm
theorem Alike.trans {m : Mach} {k s t u : Nat} (h : Alike m k s t) (h' : Alike m k t u) : Alike m k s u := fun v h1 h2 => (h v h1 h2).trans (h' v h1 h2)
def Least2 (a b : Mach) (w : List Int) : Prop :=
 WOk a.ins.toNat w ∧ runR a 0 w ≠ runR b 0 w ∧ ∀ v, WOk a.ins.toNat v → runR a 0 v ≠ runR b 0 v → rank a.ins.toNat w ≤ rank a.ins.toNat v
theorem rank_snoc {k : Nat} : ∀ (w : List Int) (c : Int), rank k (w ++ [c]) = k * rank k w + (c.toNat + 1)
 | [], c => by simp [rank]
 | a :: w, c => by
   have h1 := rank_snoc (k := k) w c
   have h2 : (a.toNat + 1) * (k ^ w.length * k) = k * ((a.toNat + 1) * k ^ w.length) := by
    rw [← Nat.mul_assoc, Nat.mul_comm k]
   rw [List.cons_append]
   simp only [rank, h1, List.length_append, List.length_cons, List.length_nil, Nat.zero_add, Nat.pow_succ, Nat.mul_add] at h2 ⊢
   omega
theorem runR_app (m : Mach) : ∀ (s : Int) (u v : List Int), runR m s (u ++ v) = runR m s u ++ runR m (afterR m s u) v
 | _, [], _ => rfl
 | s, a :: u, v => by simp only [List.cons_append, runR, afterR, runR_app m _ u v]
theorem afterR_app (m : Mach) : ∀ (s : Int) (u v : List Int), afterR m s (u ++ v) = afterR m (afterR m s u) v
 | _, [], _ => rfl
 | s, a :: u, v => by simp only [List.cons_append, afterR, afterR_app m _ u v]
theorem stepR_dead (m : Mach) (a : Int) : stepR m (-1) a = (-1, -1) := by unfold stepR; rw [if_pos (by omega)]
theorem stepR_ends {m : Mach} (hv : Valid m) {s a : Int} (h0 : 0 ≤ s) (hs : s < m.rows.length) (ha : 0 ≤ a ∧ a < m.ins) : ((stepR m s a).1 = -1 ∧ (stepR m s a).2 = -1) ∨ (0 ≤ (stepR m s a).1 ∧ (stepR m s a).1 < m.rows.length ∧ 0 ≤ (stepR m s a).2) := by
 obtain ⟨r, e, _, _, h3, h4⟩ := stepR_get hv h0 hs ha
 rw [h3]
 rcases fits_cases h4 with h | h
 ·exact .inl h
 ·exact .inr ⟨h.1, h.2.1, h.2.2.1⟩
structure BInv (a b : Mach) (l : List Arr) (W : Nat → List Int) (at' i : Nat) : Prop where
 z : W 0 = []
 z0 : ∃ c, l[0]? = some ((0, 0), -1, c)
 par : ∀ j p, 1 ≤ j → l[j]? = some p → ∃ q c : Nat, p.2.1 = (q : Int) ∧ p.2.2 = (c : Int) ∧ q < j ∧ c < a.ins.toNat ∧ (q < at' ∨ (q = at' ∧ c < i)) ∧ W j = W q ++ [(c : Int)]
 ok : ∀ j, j < l.length → WOk a.ins.toNat (W j)
 mono : ∀ j k, j < k → k < l.length → rank a.ins.toNat (W j) < rank a.ins.toNat (W k)
 path : ∀ j p, l[j]? = some p → afterR a 0 (W j) = p.1.1 ∧ afterR b 0 (W j) = p.1.2 ∧ runR a 0 (W j) = runR b 0 (W j)
 done : ∀ j p, l[j]? = some p → ∀ c : Nat, c < a.ins.toNat → (j < at' ∨ (j = at' ∧ c < i)) →
  (stepR a p.1.1 c).2 = (stepR b p.1.2 c).2 ∧ ((stepR a p.1.1 c).1 ≠ -1 → (stepR b p.1.2 c).1 ≠ -1 →
   ∃ (k : Nat) (q : Arr), l[k]? = some q ∧ q.1 = ((stepR a p.1.1 c).1, (stepR b p.1.2 c).1) ∧ rank a.ins.toNat (W k) ≤ a.ins.toNat * rank a.ins.toNat (W j) + (c + 1))
theorem BInv.start (a b : Mach) : BInv a b arr0 (fun _ => []) 0 0 where
 z := rfl
 z0 := ⟨0, rfl⟩
 par := fun j p hj h => by
  obtain ⟨k, rfl⟩ : ∃ k, j = k + 1 := ⟨j - 1, by omega⟩
  simp [arr0] at h
 ok := fun j _ x hx => by cases hx
 mono := fun j k h1 h2 => by simp [arr0] at h2; omega
 path := fun j p h => by
  cases j with
  | zero => simp only [arr0, List.getElem?_cons_zero, Option.some.injEq] at h; subst h; exact ⟨rfl, rfl, rfl⟩
  | succ k => simp [arr0] at h
 done := fun j p h c hc hd => by omega
theorem nextL_new {at' i : Int} {x y : Int × Int} {l : List Arr} : nextL at' i x y l = l ∨ (nextL at' i x y l = l ++ [((x.1, y.1), at', i)] ∧ x.1 ≠ -1 ∧ y.1 ≠ -1) := by
 unfold nextL
 split
 ·rename_i h; exact .inr ⟨rfl, h.1, h.2.1⟩
 ·exact .inl rfl
theorem nextL_in {at' i : Int} {x y : Int × Int} {l : List Arr} (h1 : x.1 ≠ -1) (h2 : y.1 ≠ -1) (h3 : nextL at' i x y l = l) : ∃ (k : Nat) (q : Arr), l[k]? = some q ∧ q.1 = (x.1, y.1) := by
 by_cases hm : (x.1, y.1) ∈ l.map (·.1)
 ·obtain ⟨q, hq, he⟩ := List.mem_map.1 hm
  obtain ⟨k, hk, rfl⟩ := List.getElem_of_mem hq
  exact ⟨k, _, List.getElem?_eq_getElem hk, he⟩
 ·unfold nextL at h3
  rw [if_pos ⟨h1, h2, hm⟩] at h3
  have := congrArg List.length h3
  simp at this
theorem mul_gap {k r s : Nat} (h : r < s) : k * r + k ≤ k * s := by
 have := Nat.mul_le_mul_left k (show r + 1 ≤ s from h)
 rwa [Nat.mul_add, Nat.mul_one] at this
section
variable {a b : Mach} {l : List Arr} {W : Nat → List Int} {at' i : Nat}
theorem BInv.bound (h : BInv a b l W at' i) {j : Nat} (hj : j < l.length) (hat : at' < l.length) : rank a.ins.toNat (W j) < a.ins.toNat * rank a.ins.toNat (W at') + (i + 1) := by
 by_cases h0 : j = 0
 ·subst h0; rw [h.z]; simp only [rank]; omega
 obtain ⟨q, c, _, _, h1, h2, h3, h4⟩ := h.par j _ (by omega) (List.getElem?_eq_getElem hj)
 rw [h4, rank_snoc, Int.toNat_natCast]
 rcases h3 with h3 | ⟨rfl, h3⟩
 ·have := mul_gap (k := a.ins.toNat) (h.mono q at' h3 hat); omega
 ·omega
theorem BInv.step (ha : Valid a) (h : BInv a b l W at' i) {p : Arr} (hp : l[at']? = some p) (hi : i < a.ins.toNat) (ho : (stepR a p.1.1 i).2 = (stepR b p.1.2 i).2) :
  ∃ W', BInv a b (nextL at' i (stepR a p.1.1 i) (stepR b p.1.2 i) l) W' at' (i + 1) ∧ W' at' = W at' := by
 have hat := (List.getElem?_eq_some_iff.1 hp).1
 have hw : ∀ {j c : Nat} {x : Nat}, (j < at' ∨ (j = at' ∧ c < i)) → (j < at' ∨ (j = at' ∧ c < i + 1)) := fun h => by omega
 rcases nextL_new (at' := at') (i := i) (x := stepR a p.1.1 i) (y := stepR b p.1.2 i) (l := l) with e | ⟨e, n1, n2⟩
 ·have hin := nextL_in (at' := at') (i := i) (x := stepR a p.1.1 i) (y := stepR b p.1.2 i) (l := l)
  rw [e]
  refine ⟨W, ⟨h.z, h.z0, fun j q hj hq => ?_, h.ok, h.mono, h.path, fun j q hq c hc hd => ?_⟩, rfl⟩
  ·obtain ⟨u, c, h1, h2, h3, h4, h5, h6⟩ := h.par j q hj hq
   exact ⟨u, c, h1, h2, h3, h4, by omega, h6⟩
  ·by_cases hd' : j < at' ∨ (j = at' ∧ c < i)
   ·exact h.done j q hq c hc hd'
   ·obtain ⟨rfl, rfl⟩ : j = at' ∧ c = i := by omega
    rw [hp] at hq; cases hq
    refine ⟨ho, fun k1 k2 => ?_⟩
    obtain ⟨k, q, hk, hq⟩ := hin k1 k2 e
    exact ⟨k, q, hk, hq, Nat.le_of_lt (h.bound (List.getElem?_eq_some_iff.1 hk).1 hat)⟩
 ·rw [e]
  have hold : ∀ {j : Nat} {q : Arr}, l[j]? = some q → (l ++ [(((stepR a p.1.1 i).1, (stepR b p.1.2 i).1), (at' : Int), (i : Int))])[j]? = some q := fun hq => by
   rw [List.getElem?_append_left (List.getElem?_eq_some_iff.1 hq).1]; exact hq
  have hnew : ∀ {j : Nat} {q : Arr}, (l ++ [(((stepR a p.1.1 i).1, (stepR b p.1.2 i).1), (at' : Int), (i : Int))])[j]? = some q → (j < l.length ∧ l[j]? = some q) ∨ (j = l.length ∧ q = (((stepR a p.1.1 i).1, (stepR b p.1.2 i).1), (at' : Int), (i : Int))) := fun {j q} hq => by
   by_cases hj : j < l.length
   ·rw [List.getElem?_append_left hj] at hq; exact .inl ⟨hj, hq⟩
   ·have h1 := (List.getElem?_eq_some_iff.1 hq).1
    simp only [List.length_append, List.length_cons, List.length_nil] at h1
    obtain rfl : j = l.length := by omega
    rw [List.getElem?_append_right (Nat.le_refl _), Nat.sub_self] at hq
    simp only [List.getElem?_cons_zero, Option.some.injEq] at hq
    exact .inr ⟨rfl, hq.symm⟩
  obtain ⟨p1, p2, p3⟩ := h.path at' p hp
  have hV : ∀ j, j < l.length → (if j = l.length then W at' ++ [(i : Int)] else W j) = W j := fun j hj => if_neg (by omega)
  have hVl : (if l.length = l.length then W at' ++ [(i : Int)] else W l.length) = W at' ++ [(i : Int)] := if_pos rfl
  refine ⟨fun j => if j = l.length then W at' ++ [(i : Int)] else W j, ⟨?_, ?_, fun j q hj hq => ?_, fun j hj => ?_, fun j k hjk hk => ?_, fun j q hq => ?_, fun j q hq c hc hd => ?_⟩, hV _ hat⟩
  ·simp only [hV 0 (by omega)]; exact h.z
  ·obtain ⟨c, hc⟩ := h.z0; exact ⟨c, hold hc⟩
  ·rcases hnew hq with ⟨h1, h2⟩ | ⟨rfl, rfl⟩
   ·obtain ⟨u, c, k1, k2, k3, k4, k5, k6⟩ := h.par j q hj h2
    exact ⟨u, c, k1, k2, k3, k4, by omega, by simp only [hV j h1, hV u (by omega)]; exact k6⟩
   ·exact ⟨at', i, rfl, rfl, hat, hi, .inr ⟨rfl, by omega⟩, by simp only [if_true, hV at' hat]⟩
  ·simp only [List.length_append, List.length_cons, List.length_nil] at hj
   by_cases e2 : j = l.length
   ·subst e2; simp only [if_true]
    intro x hx
    rcases List.mem_append.1 hx with hx | hx
    ·exact h.ok at' hat x hx
    ·simp only [List.mem_singleton] at hx; omega
   ·simp only [hV j (by omega)]; exact h.ok j (by omega)
  ·simp only [List.length_append, List.length_cons, List.length_nil] at hk
   by_cases e2 : k = l.length
   ·subst e2; simp only [if_true, hV j (by omega), rank_snoc, Int.toNat_natCast]
    exact h.bound (by omega) hat
   ·simp only [hV j (by omega), hV k (by omega)]; exact h.mono j k hjk (by omega)
  ·rcases hnew hq with ⟨h1, h2⟩ | ⟨rfl, rfl⟩
   ·simp only [hV j h1]; exact h.path j q h2
   ·simp only [if_true, afterR_app, runR_app, p1, p2, p3, afterR, runR, ho, and_self]
  ·by_cases hd' : j < at' ∨ (j = at' ∧ c < i)
   ·rcases hnew hq with ⟨h1, h2⟩ | ⟨rfl, rfl⟩
    ·obtain ⟨k1, k2⟩ := h.done j q h2 c hc hd'
     refine ⟨k1, fun k3 k4 => ?_⟩
     obtain ⟨k, q', k5, k6, k7⟩ := k2 k3 k4
     exact ⟨k, q', hold k5, k6, by simp only [hV j h1, hV k (List.getElem?_eq_some_iff.1 k5).1]; exact k7⟩
    ·omega
   ·obtain ⟨rfl, rfl⟩ : j = at' ∧ c = i := by omega
    rcases hnew hq with ⟨h1, h2⟩ | ⟨h1, _⟩
    ·rw [hp] at h2; cases h2
     refine ⟨ho, fun _ _ => ⟨l.length, (((stepR a p.1.1 c).1, (stepR b p.1.2 c).1), (j : Int), (c : Int)), ?_, rfl, ?_⟩⟩
     ·rw [List.getElem?_append_right (Nat.le_refl _), Nat.sub_self]; rfl
     ·simp only [if_true, hV j h1, rank_snoc, Int.toNat_natCast]; exact Nat.le_refl _
    ·omega
theorem BInv.agree (ha : Valid a) (hb : Valid b) (hab : a.ins = b.ins) (hg : GoodL a b l) (h : BInv a b l W at' i) : ∀ (n : Nat) (v : List Int), v.length = n → WOk a.ins.toNat v →
  (∀ j c : Nat, j < l.length → c < a.ins.toNat → a.ins.toNat * rank a.ins.toNat (W j) + (c + 1) ≤ rank a.ins.toNat v → (j < at' ∨ (j = at' ∧ c < i))) →
  runR a 0 v = runR b 0 v ∧ ((afterR a 0 v = -1 ∧ afterR b 0 v = -1) ∨ ∃ (k : Nat) (q : Arr), l[k]? = some q ∧ q.1 = (afterR a 0 v, afterR b 0 v) ∧ rank a.ins.toNat (W k) ≤ rank a.ins.toNat v)
 | 0, v, hv, _, _ => by
   obtain rfl : v = [] := List.length_eq_zero_iff.1 hv
   obtain ⟨c, hc⟩ := h.z0
   exact ⟨rfl, .inr ⟨0, _, hc, rfl, by rw [h.z]; exact Nat.le_refl _⟩⟩
 | n + 1, v, hv, ho, hp => by
   have hins := ha.ins
   obtain ⟨u, c, rfl⟩ : ∃ u c, v = u ++ [c] := ⟨v.dropLast, v.getLast (by intro e; simp [e] at hv), (List.dropLast_concat_getLast _).symm⟩
   have hu : WOk a.ins.toNat u := fun x hx => ho x (List.mem_append_left _ hx)
   have hc := ho c (by simp)
   obtain ⟨c, rfl⟩ : ∃ d : Nat, c = (d : Int) := ⟨c.toNat, by omega⟩
   have hul : u.length = n := by simp at hv; omega
   rw [rank_snoc, Int.toNat_natCast] at hp ⊢
   have hca : (0 : Int) ≤ c ∧ (c : Int) < a.ins := by omega
   have hcb : (0 : Int) ≤ c ∧ (c : Int) < b.ins := by omega
   have hcn : c < a.ins.toNat := by omega
   have hK : rank a.ins.toNat u ≤ a.ins.toNat * rank a.ins.toNat u := Nat.le_mul_of_pos_left _ (by omega)
   obtain ⟨e1, e2⟩ := BInv.agree ha hb hab hg h n u hul hu fun j d hj hd hr => hp j d hj hd (by omega)
   rw [runR_app, runR_app, afterR_app, afterR_app, e1]
   rcases e2 with ⟨e2, e3⟩ | ⟨k, q, k1, k2, k3⟩
   ·rw [e2, e3]
    simp only [runR, afterR, stepR_dead]
    exact ⟨trivial, .inl ⟨trivial, trivial⟩⟩
   ·have hm := Nat.mul_le_mul_left a.ins.toNat k3
    have hm2 : a.ins.toNat * rank a.ins.toNat (W k) + (c + 1) ≤ a.ins.toNat * rank a.ins.toNat u + (c + 1) := by omega
    obtain ⟨d1, d2⟩ := h.done k q k1 c hcn (hp k c (List.getElem?_eq_some_iff.1 k1).1 hcn hm2)
    have hr := hg.rng q (List.mem_of_getElem? k1)
    have e3 : q.1.1 = afterR a 0 u := by rw [k2]
    have e4 : q.1.2 = afterR b 0 u := by rw [k2]
    rw [e3] at d1 d2 hr
    rw [e4] at d1 d2 hr
    have f1 := stepR_ends ha hr.1 hr.2.1 hca
    have f2 := stepR_ends hb hr.2.2.1 hr.2.2.2 hcb
    simp only [runR, afterR, d1, true_and]
    by_cases g1 : (stepR a (afterR a 0 u) c).1 = -1
    ·exact .inl ⟨g1, by omega⟩
    ·have g2 : (stepR b (afterR b 0 u) c).1 ≠ -1 := by omega
     obtain ⟨k', q', j1, j2, j3⟩ := d2 g1 g2
     have j4 : rank a.ins.toNat (W k') ≤ a.ins.toNat * rank a.ins.toNat u + (c + 1) := Nat.le_trans j3 hm2
     exact .inr ⟨k', q', j1, j2, j4⟩
theorem BInv.word (h : BInv a b l W at' i) : ∀ (n j : Nat) (acc : List Int), j < l.length → j < n → wordR l n j acc = W j ++ acc
 | 0, _, _, _, h2 => by omega
 | n + 1, j, acc, h1, h2 => by
   rw [wordR, Int.toNat_natCast]
   have hj := List.getElem?_eq_getElem h1
   rw [hj]
   by_cases h0 : j = 0
   ·subst h0
    obtain ⟨c, hc⟩ := h.z0
    rw [hj] at hc
    simp only [Option.some.injEq] at hc
    simp only [hc, if_true, h.z, List.nil_append]
   ·obtain ⟨q, c, k1, k2, k3, k4, k5, k6⟩ := h.par j _ (by omega) hj
    simp only
    rw [if_neg (by omega), k1, k2, BInv.word h n q _ (by omega) (by omega), k6]
    simp
theorem BInv.found (ha : Valid a) (hb : Valid b) (hab : a.ins = b.ins) (hg : GoodL a b l) (h : BInv a b l W at' i) {p : Arr} (hp : l[at']? = some p) (hi : i < a.ins.toNat) (ho : (stepR a p.1.1 i).2 ≠ (stepR b p.1.2 i).2) :
  Least2 a b (wordR l l.length at' [(i : Int)]) := by
 have hat := (List.getElem?_eq_some_iff.1 hp).1
 rw [h.word _ _ _ hat hat]
 obtain ⟨p1, p2, p3⟩ := h.path at' p hp
 refine ⟨fun x hx => ?_, fun he => ?_, fun v hv hd => ?_⟩
 ·rcases List.mem_append.1 hx with hx | hx
  ·exact h.ok at' hat x hx
  ·simp only [List.mem_singleton] at hx; omega
 ·rw [runR_app, runR_app, p1, p2, p3] at he
  have := List.append_cancel_left he
  simp only [runR, List.cons.injEq] at this
  exact ho this.1
 ·by_cases hr : rank a.ins.toNat (W at' ++ [(i : Int)]) ≤ rank a.ins.toNat v
  ·exact hr
  ·exfalso
   refine hd (h.agree ha hb hab hg v.length v rfl hv fun j c hj hc hjc => ?_).1
   rw [rank_snoc, Int.toNat_natCast] at hr
   by_cases h1 : j < at'
   ·exact .inl h1
   by_cases h2 : j = at'
   ·subst h2; exact .inr ⟨rfl, by omega⟩
   ·have := mul_gap (k := a.ins.toNat) (h.mono at' j (by omega) hj); omega
end
def difP (z : Yld) : Bool := decide (z.x.2 ≠ z.y.2)
def wordZ (z : Yld) : List Int := wordR z.l z.l.length z.at' [z.inp]
theorem inR_find {a b : Mach} (ha : Valid a) (hb : Valid b) (hab : a.ins = b.ins) {at' : Nat} {p : Arr} : ∀ (n i : Nat) (l : List Arr) (W : Nat → List Int), GoodL a b l → BInv a b l W at' i → l[at']? = some p → n + i = a.ins.toNat →
  (∃ z, (inR a b at' p.1.1 p.1.2 n i l).1.find? difP = some z ∧ Least2 a b (wordZ z)) ∨
  ((inR a b at' p.1.1 p.1.2 n i l).1.find? difP = none ∧ ∃ W', BInv a b (inR a b at' p.1.1 p.1.2 n i l).2 W' at' a.ins.toNat)
 | 0, i, l, W, _, h, _, hn => by
   obtain rfl : i = a.ins.toNat := by omega
   exact .inr ⟨rfl, W, h⟩
 | n + 1, i, l, W, hg, h, hp, hn => by
   simp only [inR, List.find?_cons]
   by_cases ho : (stepR a p.1.1 i).2 = (stepR b p.1.2 i).2
   ·rw [show difP ⟨at', i, stepR a p.1.1 i, stepR b p.1.2 i, l⟩ = false by simp [difP, ho]]
    obtain ⟨W', hW, _⟩ := h.step ha hp (by omega) ho
    have hr := hg.rng p (List.mem_of_getElem? hp)
    have hg' := (hg.next ha hb (List.getElem?_eq_some_iff.1 hp).1 (i := (i : Int)) ⟨hr.1, hr.2.1⟩ ⟨hr.2.2.1, hr.2.2.2⟩ (by omega) hab).1
    exact inR_find ha hb hab n (i + 1) _ W' hg' hW (nextL_get hp) (by omega)
   ·rw [show difP ⟨at', i, stepR a p.1.1 i, stepR b p.1.2 i, l⟩ = true by simp [difP, ho]]
    exact .inl ⟨_, rfl, h.found ha hb hab hg hp (by omega) ho⟩
theorem outR_find {a b : Mach} (ha : Valid a) (hb : Valid b) (hab : a.ins = b.ins) : ∀ (n at' : Nat) (l : List Arr) (W : Nat → List Int), GoodL a b l → BInv a b l W at' 0 → n + at' = 5000 → at' ≤ l.length →
  (∃ z, (outR a b n at' l).find? difP = some z ∧ Least2 a b (wordZ z)) ∨
  ((outR a b n at' l).find? difP = none ∧ ∀ v, WOk a.ins.toNat v → runR a 0 v = runR b 0 v)
 | 0, at', l, _, hg, _, hn, hat => by have := hg.len ha hb; omega
 | n + 1, at', l, W, hg, h, hn, hat => by
   simp only [outR]
   cases hp : l[at']? with
   | none =>
     have hl : l.length ≤ at' := by simpa using hp
     exact .inr ⟨rfl, fun v hv => (h.agree ha hb hab hg v.length v rfl hv fun j c hj _ _ => .inl (by omega)).1⟩
   | some p =>
     simp only [List.find?_append]
     have hpl := (List.getElem?_eq_some_iff.1 hp).1
     rcases inR_find ha hb hab a.ins.toNat 0 l W hg h hp rfl with ⟨z, h1, h2⟩ | ⟨h1, W', h2⟩
     ·exact .inl ⟨z, by rw [h1]; rfl, h2⟩
     ·rw [h1, Option.none_or]
      obtain ⟨_, h4, h5⟩ := inR_good ha hb hab a.ins.toNat 0 l hg hp rfl
      refine outR_find ha hb hab n (at' + 1) _ W' h4 ⟨h2.z, h2.z0, fun j q hj hq => ?_, h2.ok, h2.mono, h2.path, fun j q hq c hc hd => h2.done j q hq c hc (by omega)⟩ (by omega) (by have := (List.getElem?_eq_some_iff.1 h5).1; omega)
      obtain ⟨u, c, k1, k2, k3, k4, k5, k6⟩ := h2.par j q hj hq
      exact ⟨u, c, k1, k2, k3, k4, by omega, k6⟩
theorem diff_least {a b : Mach} (ha : Valid a) (hb : Valid b) (hab : a.ins = b.ins) :
  ((diffO a b).isSome = true ∧ Least2 a b (diffW a b)) ∨ (diffO a b = none ∧ diffW a b = [] ∧ ∀ v, WOk a.ins.toNat v → runR a 0 v = runR b 0 v) := by
 have he : diffO a b = (outR a b 5000 0 arr0).find? difP := rfl
 rcases outR_find ha hb hab 5000 0 arr0 _ (.zero ha hb) (.start a b) rfl (Nat.zero_le _) with ⟨z, h1, h2⟩ | ⟨h1, h2⟩
 ·rw [← he] at h1
  refine .inl ⟨by rw [h1]; rfl, ?_⟩
  unfold diffW; rw [h1]; exact h2
 ·rw [← he] at h1
  exact .inr ⟨h1, by unfold diffW; rw [h1], h2⟩
def rowsT (l : List Row) (k : Nat) : List (List AV) := (l.take k).map rowC
@[go_sem] theorem norefs_rowsT (l : List Row) (k : Nat) : (rowsT l k).all AV.norefs = true := by
 rw [List.all_eq_true]
 intro c hc
 obtain ⟨r, _, rfl⟩ := List.mem_map.1 hc
 exact rowC_norefs r
def edgT (l : List (Int × Int)) (k : Nat) : List (List AV) := (l.take k).map edgeC
@[go_sem] theorem norefs_edgT (l : List (Int × Int)) (k : Nat) : (edgT l k).all AV.norefs = true := by
 rw [List.all_eq_true]
 intro c hc
 obtain ⟨e, _, rfl⟩ := List.mem_map.1 hc
 rfl
instance : DecidableEq FA := fun a b => decidable_of_iff (a.kind = b.kind ∧ a.state = b.state ∧ a.input = b.input ∧ a.to = b.to ∧ a.at' = b.at' ∧ a.out = b.out) ⟨fun h => by obtain ⟨a1, a2, a3, a4, a5, a6⟩ := a; obtain ⟨b1, b2, b3, b4, b5, b6⟩ := b; simp only at h; obtain ⟨rfl, rfl, rfl, rfl, rfl, rfl⟩ := h; rfl, fun h => by subst h; exact ⟨rfl, rfl, rfl, rfl, rfl, rfl⟩⟩
end Go.Avl
