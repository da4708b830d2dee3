/-
  Lemmas.
  Lemmas.
  Lemmas.
  Lemmas.
  Lemmas.
  Lemmas.
  Lemmas.
  Lemmas.
  Lemmas.
-/
import Derived.Test.YtkfpnkpomjmpeaaPart7
set_option linter.unusedSimpArgs false
set_option linter.unusedVariables false
set_option linter.unnecessarySimpa false
set_option linter.deprecated false
namespace Go.Avl
open Go Go.Proofs.Try
set_option maxRecDepth 10000
set_option linter.unusedSimpArgs false
def zeroM : AV := .ag [.sc (.int .i64 0), .sc (.int .i64 0), .sl true [] .zer]
def mergeRes (t : Mach) : AV :=
 if nodesE t [] ≠ 0 then .tu [zeroM, .sc (.int .i64 (nodesE t []))]
 else match mergeT t with
  | some rows => .tu [.ag [.sc (.int .i64 t.ins), .sc (.int .i64 t.outs), .sl false (rows.map rowFu) .full], .sc (.int .i64 0)]
  | none => .tu [zeroM, .sc (.int .i64 3)]
theorem sumR_rootsL {up : List Nat} (h : UpOk up) {N : Nat} (hl : up.length = N) (n : Nat) : sumR (rootsL up N) n = sumR up n := sumR_same (fun k => by rw [(rootsL_can h hl).root, rootsL_pU h hl]) n
theorem FI.rowsIn {t : Mach} (v : TV t) {I : Nat} (hI : t.ins = (I : Int)) {up : List Nat} {W : Nat → Nat → Int × Int} {P : Nat → Nat → Prop} (h : FI t up W P) : ∀ p i, p < t.rows.length → rootU up p = p → i < I → (W p i).1 = -1 ∨ (0 ≤ (W p i).1 ∧ (W p i).1 < t.rows.length) := fun p i hp hpr hi => by
 by_cases hw : (W p i).1 = -1
 ·exact .inl hw
 ·obtain ⟨m, h1, _, h3⟩ := h.row p i hp hpr (by omega) (knownE_to hw)
  rw [h3] at hw ⊢
  have := v.to h1 (by omega : (i : Int) < t.ins) hw
  exact .inr (by omega)
theorem mlook_above : ∀ {X : Mem} {b k : Nat}, (X.all fun p => decide (p.1 < b)) = true → b ≤ k → mlook X k = none
 | [], _, _, _, _ => rfl
 | (i, o) :: X, b, k, h, hk => by
   simp only [List.all_cons, Bool.and_eq_true, decide_eq_true_eq] at h
   simp only [mlook]
   rw [if_neg (by omega)]
   exact mlook_above h.2 hk
theorem foldM_framedX {N I : Nat} (hN : N ≤ 1000000) (up : List Nat) (W : Nat → Nat → Int × Int) {X : Mem} (hX : (X.all fun p => decide (p.1 < 1000200)) = true) : Framed X (.rf 1000200 0) (foldM N I up W) 3000000 := by
 refine ⟨osegK [(1000200, 1000200), (1000201, 1000201), (1000202, 1000202)] N [], osegK_ok (A := [(1000200, 1000200), (1000201, 1000201), (1000202, 1000202)]) rfl rfl rfl hN (by omega), foldM_ren hN up W, ?_, ?_⟩
 ·simp only [go_sem, rlook_osegK_hi hN, List.append_nil] <;> rfl
 rw [List.all_eq_true]
 intro p hp
 rw [osegK, List.append_nil] at hp
 rcases List.mem_append.1 hp with hp | hp
 ·simp only [List.mem_cons, List.mem_nil_iff, or_false] at hp
  rcases hp with rfl | rfl | rfl <;> simp [mlook_above hX]
 ·obtain ⟨i, hi, rfl⟩ := mem_oK hp
  simp [mlook_above hX (show 1000200 ≤ 2000000 + i by omega)]
set_option maxHeartbeats 8000000 in
theorem merge20_is (t : Mach) (hr : ∀ r ∈ t.rows, r.2.length < 1000000) (hf : RowsF t) : PureIs prog 20 [.ag t.cells] (mergeRes t) := by
 have hN := nodes37_is t hr true [] .zer (by simp)
 rw [show ([] : List Int).map intC = [] from rfl] at hN
 unfold mergeRes zeroM
 generalize hne : nodesE t [] = e at hN
 refine PureIs.of (nv := 8) (hid := [11, 14, 16, 19, 26, 35, 15, 20, 21, 22, 23, 27, 28, 29, 31, 32, 33]) func20 rfl (by kernel_rfl) (by simp [ntmps20]) fun _ => ?_
 rw [ntmps20, results20]
 refine EvC.seq (EvC.rg (by simp only [go_sem, Mach.cells] <;> rfl) (by simp) ?_)
 refine EvC.frzB 0 (by simp only [go_sem] <;> rfl) ?_
 rw [Mach.cells] at hN
 refine EvC.seq ?_
 apply EvC.seq
 apply EvC.tr
 ·apply Tr.run
  ·simp only [go_sem] <;> rfl
  ·simp
  apply Tr.cons
  ·exact .call rfl rfl (by simp only [go_sem] <;> rfl) (by simp only [go_sem] <;> rfl) (by simp only [go_sem] <;> rfl) (by simp only [go_sem] <;> rfl) (by simp only [go_sem] <;> rfl) (hN)
  apply Tr.done
  ·simp only [go_sem] <;> rfl
  ·simp
 refine EvC.seq (EvC.rg (by simp only [go_sem] <;> rfl) (by simp) ?_)
 by_cases he : e = 0
 rotate_left
 ·rw [if_pos he]
  refine EvC.cond_true (by simp only [go_sem, decide_eq_false he] <;> rfl) ?_
  refine EvC.seq (EvC.rg (by simp only [go_sem] <;> rfl) (by simp) ?_)
  refine EvC.ret ⟨.inl rfl, _, (by simp only [go_sem] <;> rfl), ?_, rfl⟩
  simp only [go_sem]
 rw [if_neg (fun h => h he)]
 subst he
 obtain ⟨v, _⟩ := nodesE_ok hne
 have hck : checkT t = 0 := by
  unfold nodesE at hne
  by_cases h : checkT t = 0
  ·exact h
  ·rw [if_pos h] at hne; exact absurd hne h
 have tp := TP.of hck
 have hin := v.ins
 have hrw := v.rows
 have hI : t.ins = ((t.ins.toNat : Nat) : Int) := (Int.toNat_of_nonneg (by omega)).symm
 obtain ⟨I, hId⟩ : ∃ I, I = t.ins.toNat := ⟨_, rfl⟩
 rw [← hId] at hI
 refine EvC.cond_false (by simp only [go_sem] <;> rfl) ?_
 refine EvC.skip ?_
 apply EvC.seq
 apply EvC.rs
 ·simp only [go_sem] <;> rfl
 ·simp
 obtain ⟨N, hNd⟩ : ∃ N, N = t.rows.length := ⟨_, rfl⟩
 have hn1 : N ≤ 1000000 := by omega
 have hal := fun R => alone42_body v (v.rowsF hf) hI (R := R)
 rw [← hNd] at hal
 refine XR.gcTo ⟨[(1, .ia t.cells), (2, .rf 1000050 0), (14, .ag t.cells)], [], [] ++ [(1000050, .cells [.sc (.int .i64 0), .sc (.int .i64 0), .sl true [] .zer])], 1000100⟩ [1, 2, 14] [(1, 1000050)] rfl (by simp only [go_sem, Mach.cells, List.nil_append] <;> rfl) ?_
 refine XR.callF [] [(1000050, .cells [.sc (.int .i64 0), .sc (.int .i64 0), .sl true [] .zer])] rfl rfl (by simp only [go_sem] <;> rfl) (by simp only [go_sem] <;> rfl) (by simp only [go_sem] <;> rfl) (by simp only [go_sem] <;> rfl) rfl ?_
 refine hal _ ?_
 refine ⟨by simp, foldM_framedX hn1 _ _ rfl, ?_⟩
 apply XR.done
 ·simp only [go_sem] <;> rfl
 ·simp
 obtain ⟨up0, hup0⟩ : ∃ u, u = List.range N := ⟨_, rfl⟩
 have hLX := fun X k hk => otab_lookX 2 edgeC (eT t) (n := N) (m := I) hn1 X k hk
 have hoc := ocell_len I N
 rw [← hup0]
 unfold foldM
 refine EvC.ofzAll N (fun i hi => ⟨2, gcells edgeC (eT t i) I, false, by simp only [List.cons_append, mlook, o_ne (show i < 1000000 by omega), if_false, otab_getX 2 edgeC (eT t) _ hi, go_sem], gcells_norefs norefs_edgeC _ _⟩) ?_
 have hfz := fun X => otab_fzX 2 edgeC (eT t) N I X
 obtain ⟨MM, hMM⟩ : ∃ MM : Mem, MM = (1000200, .cells [.tv 1000201 N 0 N .unk, .tv 1000202 N 0 N .unk]) :: (1000201, .arr 1 (up0.map natC) false) :: (1000202, .arr 1 (ocell I N) false) :: (otabF 2 edgeC (eT t) N I ++ [(1000050, .cells [.sc (.int .i64 0), .sc (.int .i64 0), .sl true [] .zer])]) := ⟨_, rfl⟩
 have hsn : (ocell I N).map (fun c => c.map (AV.deep (snap MM))) = rowsV (eT t) N I := ocell_snap (e := 2) (row := fun s => gcells edgeC (eT t s) I) (fun s hs => by
  rw [hMM]
  simp only [mlook, o_ne (show s < 1000000 by omega), if_false, mlook_append, otabF_look 2 edgeC (eT t) hs, go_sem]) (fun s _ => gcells_len _ _ _)
 rw [hMM] at hsn
 have hvl := rowsV_len (eT t) N I
 have hvn : (rowsV (eT t) N I).all AV.norefs = true := by simp [rowsV, List.all_eq_true, AV.norefs, AV.noref]
 have hLF : ∀ X k, notO k = true → mlook (otabF 2 edgeC (eT t) N I ++ X) k = mlook X k := fun X k hk => by
  rw [mlook_append, show mlook (otabF 2 edgeC (eT t) N I) k = none from by
   rw [otabF, mlook_msegA]
   split
   ·rw [List.getElem?_eq_none]
    unfold notO at hk; simp at hk; simp; omega
   ·rfl]
 have hmF : ∀ f, memMap f (otabF 2 edgeC (eT t) N I) = otabF 2 edgeC (eT t) N I := fun f => by rw [otabF, memMap_msegA, List.map_map]; rfl
 refine EvC.snapA 1000202 (by simp only [go_sem, List.cons_append, ofzAll_cons hn1, hfz, hsn] <;> rfl) ?_
 refine EvC.frzD 1000202 (by simp only [go_sem, hvn, hvl, memMap_append, hmF] <;> rfl) ?_
 refine EvC.gcE (st2 := ⟨[(1, .ia t.cells), (2, .rf 1000050 0), (5, .rf 1000010 0)], [], frM N up0 (rowsV (eT t) N I) ++ [(1000050, .cells [.sc (.int .i64 0), .sc (.int .i64 0), .sl true [] .zer])], 1000100⟩) [1, 2, 5] [(1000200, 1000010), (1000201, 1000011), (1000050, 1000050)] 1000100 rfl (by simp only [go_sem, hLF, frM, List.cons_append, List.nil_append] <;> rfl) ?_
 refine EvC.seq (EvC.rg (by simp only [go_sem] <;> rfl) (by simp) ?_)
 refine EvC.fz 1000100 (by simp only [go_sem] <;> rfl) ?_
 refine EvC.seq ?_
 refine EvC.block ?_
 obtain ⟨res, hres⟩ : ∃ res, res = mergeT t := ⟨_, rfl⟩
 rw [← hres]
 clear hMM hsn hLX hfz hLF hmF hvn hvl
 refine EvC.loopS (σ := Nat × List Nat × (Nat → Nat → Int × Int) × List Nat) (fun g => ⟨[(1, .ia t.cells), (2, .rf 1000050 0), (5, .rf 1000010 0), (6, .tl 1000040 g.2.2.2.length false)], [], frM N g.2.1 (rowsV g.2.2.1 N I) ++ [(1000050, .cells [.sc (.int .i64 0), .sc (.int .i64 0), .sl true [] .zer]), (1000040, .arr 1 (g.2.2.2.map natC) true)], 1000100⟩) (fun g => g.1)
  (fun g => FI t g.2.1 g.2.2.1 (fun _ _ => False) ∧ RedOk t (rootsL g.2.1 N) g.2.2.2 ∧ mergeC t g.1 (rootsL g.2.1 N) g.2.2.2 = res ∧ sumR g.2.1 N + 66 < g.1 + g.2.2.2.length ∧ g.2.2.2.length ≤ 65) [1, 2, 5, 6] 1000100 ?_ ?_
 ·refine ⟨[(1000010, 1000010), (1000011, 1000011), (1000050, 1000050), (1000100, 1000040)], (N * N + 67, up0, eT t, [0]), rfl, ?_, ?_, ?_, ?_, ?_, by simp⟩
  ·simp only [go_sem, frM, List.cons_append, List.nil_append, List.map_cons, List.map_nil, natC, List.length_singleton, Int.natCast_zero] <;> rfl
  ·rw [hup0, hNd]; exact FI.alone t
  ·rw [hup0, rootsL_range, hNd]; exact redOk_zero v
  ·rw [hup0, rootsL_range, hres, mergeT, hNd]
  ·have := sumR_le (up := up0) (by rw [hup0]; exact upOk_range N) N
   simp only [List.length_singleton]; omega
 rintro ⟨f, up, W, red⟩ ⟨hF, hro, hm, hfu, hle⟩
 simp only at hF hro hm hfu hle ⊢
 have hrl : (red.map natC).length = red.length := List.length_map _
 unfold frM
 refine EvC.seq ?_
 refine EvC.seq (EvC.rg (by simp only [go_sem, List.cons_append, List.nil_append, hrl] <;> rfl) (by simp) ?_)
 refine EvC.cond (by simp only [go_sem] <;> rfl) (fun hc => ?_) (fun hc => ?_)
 rotate_left
 ·
  have hlt : ¬ red.length ≤ 64 := by have : ¬ (red.length : Int) ≤ 64 := by simpa using hc
                                     omega
  have hres : res = none := by
   rw [← hm]
   cases f with
   | zero => rfl
   | succ f => rw [mergeC, if_pos (by omega)]
  rw [hres]
  refine EvC.exit ?_
  refine EvC.seq (EvC.rg (by simp only [go_sem] <;> rfl) (by simp) ?_)
  refine EvC.ret ⟨.inl rfl, _, (by simp only [go_sem] <;> rfl), ?_, rfl⟩
  simp only [go_sem]
 have hlt : red.length ≤ 64 := by have : (red.length : Int) ≤ 64 := by simpa using hc
                                  omega
 clear hc
 refine EvC.skip ?_
 refine EvC.block ?_
 have hfis := hF.isF
 rw [← hNd] at hfis
 have hnd := redE_nodup hF.ok hF.len (by rw [← hNd]; exact hro.nodup hfis)
 have hrdN : ∀ r ∈ red, r < N := fun r hr => by rw [hNd]; exact hro.lt r hr
 have hul : up.length = N := by rw [hF.len, hNd]
 apply EvC.seq
 apply EvC.rs
 ·simp only [go_sem] <;> rfl
 ·simp
 refine XR.gcTo ⟨[(1, .ia t.cells), (2, .rf 1000050 0), (5, .rf 1000010 0), (6, .tl 1000040 red.length false), (20, .rf 1000010 0), (21, .rf 1000010 0), (22, .tl 1000040 red.length false)], [], frM N up (rowsV W N I) ++ [(1000050, .cells [.sc (.int .i64 0), .sc (.int .i64 0), .sl true [] .zer]), (1000040, .arr 1 (red.map natC) true)], 1000150⟩ [1, 2, 5, 6, 20, 21, 22] [(1000010, 1000010), (1000011, 1000011), (1000050, 1000050), (1000040, 1000040)] rfl (by simp only [go_sem, frM, List.cons_append, List.nil_append] <;> rfl) ?_
 refine XR.callF (frM N up (rowsV W N I)) [(1000050, .cells [.sc (.int .i64 0), .sc (.int .i64 0), .sl true [] .zer]), (1000040, .arr 1 (red.map natC) true)] (xs := [.rf 1000010 0, .sl false (red.map natC) .unk]) rfl rfl (by simp only [go_sem] <;> rfl) (by simp only [go_sem] <;> rfl) (by simp only [go_sem, frM, List.cons_append, List.nil_append, hrl] <;> rfl) (by simp only [go_sem] <;> rfl) rfl ?_
 refine states48_body ⟨by omega, by omega⟩ hF.ok hul _ false red .unk hrdN (by omega) hnd ?_
 intro up1 hu1 hul1 hroot1
 refine ⟨by simp, ⟨[(1000010, 1000010), (1000011, 1000011), (1000150, 1000150)], rfl, by simp only [go_sem, frM, List.cons_append, List.nil_append] <;> rfl, rfl, rfl⟩, ?_⟩
 rw [← redE_same hroot1]
 refine XR.callF (frM N up1 (rowsV W N I) ++ [(1000150, .map 3 (entsI 0 (redE up1 red)))]) [(1000050, .cells [.sc (.int .i64 0), .sc (.int .i64 0), .sl true [] .zer]), (1000040, .arr 1 (red.map natC) true)] (xs := [.rf 1000010 0, .mp 1000150]) rfl rfl (by simp only [go_sem] <;> rfl) (by simp only [go_sem] <;> rfl) (by simp only [go_sem, frM, List.cons_append, List.nil_append, hrl] <;> rfl) (by simp [go_sem]) rfl ?_
 have hF1 := hF.same hu1 (by rw [hul1, hul]) hroot1
 have hrl1 : rootsL up1 N = rootsL up N := rootsL_eq hroot1
 refine next47_body ⟨by omega, by omega⟩ (by omega) hu1 hul1 W (fun p i h1 h2 h3 => by rw [hNd] at h1 ⊢; exact hF1.rowsIn v hI p i h1 h2 h3) red hrdN ?_
 intro up2 o hu2 hul2 hroot2 hmin
 have ho := next_eq v tp hI hF1 (fun r hr => hro.lt r hr) hro.zero hmin
 rw [← hNd, hrl1] at ho
 refine ⟨by simp only [go_sem], ⟨[(1000010, 1000010), (1000011, 1000011)], rfl, by simp only [go_sem, frM] <;> rfl, rfl, rfl⟩, ?_⟩
 apply XR.done
 ·simp only [go_sem] <;> rfl
 ·simp
 have hF2 := hF1.same hu2 (by rw [hul2, hul1]) hroot2
 have hrl2 : rootsL up2 N = rootsL up N := by rw [rootsL_eq hroot2, hrl1]
 rw [← hrl2] at hro hm hfis ho
 have hsum : sumR up2 N = sumR up N := by rw [sumR_same hroot2, sumR_same hroot1]
 rw [← hsum] at hfu
 have hnd2 := redE_nodup hF2.ok hF2.len (by rw [← hNd]; exact hro.nodup hfis)
 clear hmin hF hF1 hroot1 hroot2 hrl1 hrl2 hsum hu1 hul1 hul hnd
 refine EvC.seq ?_
 refine EvC.seq (EvC.rg (by simp only [go_sem] <;> rfl) (by simp) ?_)
 by_cases hon : o < 0
 ·refine EvC.cond_true (by simp only [go_sem, decide_eq_true hon] <;> rfl) ?_
  have hresv : res = some (machC t (rootsL up2 N) red) := by
   rw [← hm]
   cases f with
   | zero => omega
   | succ f => rw [mergeC, if_neg (by omega), if_pos (by rw [← ho]; exact hon)]
  have hnn : nextC t (rootsL up2 t.rows.length) red < 0 := by rw [← hNd, ← ho]; exact hon
  have hme := machine_eq v hI hF2 (fun r hr => hro.lt r hr) hnn
  rw [← hNd] at hme
  have hal2 := next_none v hI hF2 (fun r hr => hro.lt r hr) hnn
  apply EvC.seq
  apply EvC.rs
  ·simp only [go_sem] <;> rfl
  ·simp [Mach.cells]
  refine XR.gcTo ⟨[(1, .ia t.cells), (2, .rf 1000050 0), (27, .rf 1000010 0), (28, .ag t.cells), (29, .tl 1000040 red.length false)], [], frM N up2 (rowsV W N I) ++ [(1000050, .cells [.sc (.int .i64 0), .sc (.int .i64 0), .sl true [] .zer]), (1000040, .arr 1 (red.map natC) true)], 1000100⟩ [1, 2, 27, 28, 29] [(1000010, 1000010), (1000011, 1000011), (1000050, 1000050), (1000040, 1000040)] rfl (by simp only [go_sem, frM, Mach.cells, List.cons_append, List.nil_append] <;> rfl) ?_
  refine XR.callF (frM N up2 (rowsV W N I)) [(1000050, .cells [.sc (.int .i64 0), .sc (.int .i64 0), .sl true [] .zer]), (1000040, .arr 1 (red.map natC) true)] (xs := [.rf 1000010 0, .ag t.cells, .sl false (red.map natC) .unk]) rfl rfl (by simp only [go_sem] <;> rfl) (by simp only [go_sem] <;> rfl) (by simp only [go_sem, frM, Mach.cells, List.cons_append, List.nil_append, hrl] <;> rfl) (by simp only [go_sem] <;> rfl) rfl ?_
  refine machine49_body v hI hNd hu2 hul2 W (fun p i h1 h2 h3 => by rw [hNd] at h1 ⊢; exact hF2.rowsIn v hI p i h1 h2 h3) false red .unk hrdN ⟨by
   have := List.length_pos_of_mem hro.zero; omega, by omega⟩ hnd2 (fun r hr i hi hw => ?_) ?_
  ·obtain ⟨r', h1, h2⟩ := hal2 r hr i hi hw
   exact List.mem_map.2 ⟨r', h1, by rw [h2]⟩
  intro up3 hu3 hul3 hroot3
  have hrows : ((List.range red.length).map fun s => rowFu (rowM up2 red W I s)) = (machC t (rootsL up2 N) red).map rowFu := by
   rw [← hme, List.map_map]; rfl
  rw [hrows, hresv]
  refine ⟨by simp, ⟨[(1000010, 1000010), (1000011, 1000011), (1000101, 1000101)], rfl, by simp only [go_sem, frM, List.cons_append, List.nil_append] <;> rfl, rfl, rfl⟩, ?_⟩
  apply XR.done
  ·simp only [go_sem, frM, List.cons_append, List.nil_append] <;> rfl
  ·simp
  refine EvC.ret ⟨.inl rfl, _, (by simp only [go_sem] <;> rfl), ?_, rfl⟩
  simp only [go_sem]
 refine EvC.cond_false (by simp only [go_sem, decide_eq_false hon] <;> rfl) ?_
 refine EvC.skip ?_
 have hnn : ¬ nextC t (rootsL up2 t.rows.length) red < 0 := by rw [← hNd, ← ho]; exact hon
 obtain ⟨hn1', hn2', hn3'⟩ := next_node v hnn
 rw [← hNd, ← ho] at hn1' hn2' hn3'
 rw [← hNd, ← ho] at hnn
 obtain ⟨n, hnd⟩ : ∃ n, n = o.toNat := ⟨_, rfl⟩
 rw [← hnd] at hn1' hn2' hn3'
 subst hn3'
 have hf0 : f ≠ 0 := by omega
 obtain ⟨f, rfl⟩ : ∃ k, f = k + 1 := ⟨f - 1, by omega⟩
 have hmn : mergeC t (f + 1) (rootsL up2 N) red = match absorbC t (rootsL up2 N) red n with
   | some d => mergeC t f d red
   | none => mergeC t f (rootsL up2 N) (red ++ [n]) := by
  rw [mergeC, if_neg (by omega), ← ho, if_neg hon, Int.toNat_natCast]
  all_goals rfl
 have hab := fun R => absorb50_body v hI hF2 false red .unk (fun r hr => hro.lt r hr) (by omega) (n := n) (by rw [← hNd]; exact hn1') (R := R)
 rw [← hNd] at hab
 have hnt : n < t.rows.length := by rw [← hNd]; exact hn1'
 apply EvC.seq
 apply EvC.rs
 ·simp only [go_sem] <;> rfl
 ·simp
 refine XR.gcTo ⟨[(1, .ia t.cells), (2, .rf 1000050 0), (5, .rf 1000010 0), (6, .tl 1000040 red.length false), (7, .sc (.int .i64 n)), (31, .rf 1000010 0), (32, .tl 1000040 red.length false), (33, .sc (.int .i64 n))], [], frM N up2 (rowsV W N I) ++ [(1000050, .cells [.sc (.int .i64 0), .sc (.int .i64 0), .sl true [] .zer]), (1000040, .arr 1 (red.map natC) true)], 1000100⟩ [1, 2, 5, 6, 7, 31, 32, 33] [(1000010, 1000010), (1000011, 1000011), (1000050, 1000050), (1000040, 1000040)] rfl (by simp only [go_sem, frM, List.cons_append, List.nil_append] <;> rfl) ?_
 refine XR.callF (frM N up2 (rowsV W N I)) [(1000050, .cells [.sc (.int .i64 0), .sc (.int .i64 0), .sl true [] .zer]), (1000040, .arr 1 (red.map natC) true)] (xs := [.rf 1000010 0, .sl false (red.map natC) .unk, .sc (.int .i64 n)]) rfl rfl (by simp only [go_sem] <;> rfl) (by simp only [go_sem] <;> rfl) (by simp only [go_sem, frM, List.cons_append, List.nil_append, hrl] <;> rfl) (by simp only [go_sem] <;> rfl) rfl ?_
 refine hab _ ?_ ?_
 ·intro up' W' hF' hd
  rw [hd] at hmn
  rw [hmn] at hm
  obtain ⟨hro', hfis'⟩ := hro.absorb v hfis hnt hd
  have hsum := absorb_sum v hro hfis hnt hn2' hd
  rw [← hNd, sumR_rootsL hF'.ok (by rw [hF'.len, hNd]), sumR_rootsL hF2.ok (by rw [hF2.len, hNd])] at hsum
  refine ⟨by simp, ⟨[(1000010, 1000010), (1000201, 1000201)], rfl, by simp only [go_sem, frM2] <;> rfl, rfl, rfl⟩, ?_⟩
  apply XR.done
  ·simp only [go_sem, frM2, List.cons_append, List.nil_append] <;> rfl
  ·simp
  refine EvC.cond_false (by simp only [go_sem] <;> rfl) ?_
  refine EvC.skip ?_
  exact ⟨[(1000010, 1000010), (1000201, 1000011), (1000050, 1000050), (1000040, 1000040)], (f, up', W', red), rfl, (by simp only [go_sem, frM, frM2, List.cons_append, List.nil_append] <;> rfl), ⟨hF', hro', hm, by simp only; omega, hle⟩, by simp⟩
 ·intro hd
  rw [hd] at hmn
  rw [hmn] at hm
  have hro' := hro.push v hfis hnt hd
  refine ⟨by simp, ⟨[(1000010, 1000010), (1000011, 1000011)], rfl, by simp only [go_sem, frM] <;> rfl, rfl, rfl⟩, ?_⟩
  apply XR.done
  ·simp only [go_sem] <;> rfl
  ·simp
  refine EvC.cond_true (by simp only [go_sem] <;> rfl) ?_
  unfold frM
  have hr2 : room (red.length + 1) 8 = true := by simp only [room_eq, decide_eq_true_eq]; omega
  have hnx : red.map natC ++ [[.sc (.int .i64 (n : Int))]] = (red ++ [n]).map natC := by rw [List.map_append]; rfl
  refine EvC.rg (by simp only [go_sem, List.cons_append, List.nil_append, hrl, hnx] <;> rfl) (by simp [hr2]) ?_
  exact ⟨[(1000010, 1000010), (1000011, 1000011), (1000050, 1000050), (1000040, 1000040)], (f, up2, W, red ++ [n]), rfl, (by simp only [go_sem, frM, List.cons_append, List.nil_append, List.length_append, List.length_singleton] <;> rfl), ⟨hF2, hro', hm, by simp only [List.length_append, List.length_singleton]; omega, by simp only [List.length_append, List.length_singleton]; omega⟩, by simp⟩
end Go.Avl
namespace Go.Avl
open Go Go.Proofs.Try
set_option maxRecDepth 10000
set_option linter.unusedSimpArgs false
def compAns (t : Mach) (a b : Int) : AV :=
 if nodesE t [a, b] ≠ 0 then .tu [.sc (.bool false), .sc (.int .i64 (nodesE t [a, b]))] else .tu [.sc (.bool (compB t a.toNat b.toNat)), .sc (.int .i64 0)]
def prC (p : Nat × Nat) : List AV := [.sc (.int .i64 p.1), .sc (.int .i64 p.2)]
def stW (N : Nat) (st : List (Nat × Nat)) : Nat := (st.map fun p => 17 ^ (N - p.1)).sum
theorem prC_norefs (E : List (Nat × Nat)) : (E.map prC).all AV.norefs = true := by simp [prC, AV.norefs, AV.noref]
theorem stW_snoc (N : Nat) (st : List (Nat × Nat)) (p : Nat × Nat) : stW N (st ++ [p]) = stW N st + 17 ^ (N - p.1) := by simp [stW]
theorem comp_row {t : Mach} (v : TV t) {a b : Nat} (ha : a < t.rows.length) (hb : b < t.rows.length) : compB t a b = (List.range t.ins.toNat).all (compI t a b) := compB_eq v ha hb
structure StOk (t : Mach) (st : List (Nat × Nat)) : Prop where
 fst : ∀ p ∈ st, p.1 < t.rows.length
 snd : ∀ p ∈ st, p.2 < t.rows.length
 pos : ∀ (j : Nat) p, st[j]? = some p → j ≤ 15 * p.1
set_option maxHeartbeats 8000000 in
theorem comp13_is (t : Mach) (hr : ∀ r ∈ t.rows, r.2.length < 1000000) (a b : Int) : PureIs prog 13 [.ag t.cells, .sc (.int .i64 a), .sc (.int .i64 b)] (compAns t a b) := by
 have hN := nodes37_is t hr false [a, b] .full (by simp)
 rw [show [a, b].map intC = [[.sc (.int .i64 a)], [.sc (.int .i64 b)]] from rfl] at hN
 unfold compAns
 generalize hne : nodesE t [a, b] = e at hN
 refine PureIs.of (nv := 4) (hid := [6, 7, 8, 9, 10, 11, 12, 13, 20, 25, 28, 45, 46, 47, 48, 63, 71]) func13 rfl (by kernel_rfl) (by simp [ntmps13]) fun _ => ?_
 rw [ntmps13, results13]
 refine EvC.seq (EvC.rg (by simp only [go_sem, Mach.cells] <;> rfl) (by simp) ?_)
 refine EvC.frzB 0 (by simp only [go_sem] <;> rfl) ?_
 rw [Mach.cells] at hN
 refine EvC.seq ?_
 apply EvC.seq
 apply EvC.tr
 ·apply Tr.run
  ·simp only [go_sem] <;> rfl
  ·simp
  apply Tr.cons
  ·exact .call rfl rfl (by simp only [go_sem] <;> rfl) (by simp only [go_sem] <;> rfl) (by simp only [go_sem] <;> rfl) (by simp only [go_sem] <;> rfl) (by simp only [go_sem] <;> rfl) (hN)
  apply Tr.done
  ·simp only [go_sem] <;> rfl
  ·simp
 refine EvC.seq (EvC.rg (by simp only [go_sem] <;> rfl) (by simp) ?_)
 by_cases he : e = 0
 rotate_left
 ·rw [if_pos he]
  refine EvC.cond_true (by simp only [go_sem, decide_eq_false he] <;> rfl) ?_
  refine EvC.seq (EvC.rg (by simp only [go_sem] <;> rfl) (by simp) ?_)
  refine EvC.ret ⟨.inl rfl, _, (by simp only [go_sem] <;> rfl), ?_, rfl⟩
  simp only [go_sem]
 rw [if_neg (fun h => h he)]
 subst he
 obtain ⟨v, hab⟩ := nodesE_ok hne
 have ha := hab a (by simp)
 have hb := hab b (by simp)
 obtain ⟨p, rfl⟩ : ∃ p : Nat, a = p := ⟨a.toNat, by omega⟩
 obtain ⟨q, rfl⟩ : ∃ q : Nat, b = q := ⟨b.toNat, by omega⟩
 rw [Int.toNat_natCast, Int.toNat_natCast]
 have hrw := v.rows
 have hin := v.ins
 refine EvC.cond_false (by simp only [go_sem] <;> rfl) ?_
 refine EvC.skip ?_
 refine EvC.seq (EvC.rg (by simp only [go_sem] <;> rfl) (by simp) ?_)
 obtain ⟨N, hNd⟩ : ∃ N, N = t.rows.length := ⟨_, rfl⟩
 have hp : p < N := by omega
 have hq : q < N := by omega
 obtain ⟨res, hres⟩ : ∃ res, res = compB t p q := ⟨_, rfl⟩
 rw [← hres]
 refine EvC.slotTv 9 (by simp only [go_sem] <;> rfl) ?_
 refine EvC.seq ?_
 refine EvC.block ?_
 refine EvC.loopS (σ := List (Nat × Nat) × Nat) (fun g => ⟨[(3, .ia t.cells), (9, .tv 0 g.1.length 0 g.2 .rest)], [], [(0, .arr 2 (g.1.map prC) false)], 1⟩) (fun g => stW N (g.1.take g.2))
  (fun g => 1 ≤ g.1.length ∧ g.1.length ≤ 1000000 ∧ g.2 ≤ g.1.length ∧ StOk t (g.1.take g.2) ∧ (res = true ↔ ∀ x ∈ g.1.take g.2, compB t x.1 x.2 = true)) [3, 9] 1 ?_ ?_
 ·refine ⟨[(14, 0)], ([(p, q)], 1), rfl, (by simp only [go_sem, Mach.cells, List.map_cons, List.map_nil, prC] <;> rfl), by simp, by simp, by simp, ⟨?_, ?_, ?_⟩, ?_⟩
  ·intro x hx; simp at hx; subst hx; rw [← hNd]; exact hp
  ·intro x hx; simp at hx; subst hx; rw [← hNd]; exact hq
  ·intro j x hx
   simp at hx; have := (List.getElem?_eq_some_iff.1 hx).1
   simp at this; omega
  ·rw [hres]; simp
 rintro ⟨E, len⟩ ⟨h1, h2, h3, h4, h5⟩
 simp only at h1 h2 h3 h4 h5 ⊢
 have hEl : (E.map prC).length = E.length := List.length_map _
 have hEn : E ≠ [] := List.length_pos_iff.1 h1
 have htl : ((E.map prC).take len).length = len := by simp; omega
 refine EvC.seq ?_
 refine EvC.seq (EvC.rg (by simp only [go_sem, htl] <;> rfl) (by simp) ?_)
 refine EvC.cond (by simp only [go_sem] <;> rfl) (fun hc => ?_) (fun hc => ?_)
 rotate_left
 ·
  obtain rfl : len = 0 := by simpa [hEn] using hc
  have hr : res = true := h5.2 fun x hx => by simp at hx
  rw [hr]
  refine EvC.exit ?_
  refine EvC.seq (EvC.rg (by simp only [go_sem] <;> rfl) (by simp) ?_)
  refine EvC.ret ⟨.inl rfl, _, (by simp only [go_sem] <;> rfl), ?_, rfl⟩
  simp only [go_sem]
 have hlen : 0 < len := by simpa using hc
 clear hc
 refine EvC.skip ?_
 refine EvC.block ?_
 obtain ⟨k, rfl⟩ : ∃ k, len = k + 1 := ⟨len - 1, by omega⟩
 have hk : k < E.length := by omega
 obtain ⟨⟨a, b⟩, hx⟩ : ∃ x, E[k]? = some x := ⟨_, List.getElem?_eq_getElem hk⟩
 have htk : E.take (k + 1) = E.take k ++ [(a, b)] := by rw [List.take_succ, hx]; rfl
 have haN : a < N := by rw [hNd]; exact h4.fst (a, b) (by rw [htk]; simp)
 have hbN : b < N := by rw [hNd]; exact h4.snd (a, b) (by rw [htk]; simp)
 have hka : k ≤ 15 * a := h4.pos k (a, b) (by rw [htk, List.getElem?_append_right (by simp; omega)]; simp; rw [Nat.min_eq_left (by omega), Nat.sub_self]; rfl)
 have hkin : ((k : Int)).toNat = k := Int.toNat_natCast k
 have hgE : (E.map prC)[k]? = some (prC (a, b)) := by rw [List.getElem?_map, hx]; rfl
 have hg1 : ((E.map prC).take (k + 1))[k]? = some (prC (a, b)) := by rw [List.getElem?_take_of_lt (by omega), hgE]
 have hs1 : (k : Int) + ((1 : Nat) : Int) - 1 = k := by omega
 refine EvC.seq (EvC.rg (by simp only [go_sem, htl, hs1, hkin, hx, prC] <;> rfl) (by simp; exact inI64_of (by omega) (by omega)) ?_)
 refine EvC.frzB 10 (by simp only [go_sem] <;> rfl) ?_
 refine EvC.seq (EvC.rg (by simp only [go_sem, htl, hs1, hkin] <;> rfl) (by simp; refine ⟨?_, by omega⟩; exact inI64_of (by omega) (by omega)) ?_)
 obtain ⟨A, hA⟩ : ∃ A, t.rows[a]? = some A := ⟨_, List.getElem?_eq_getElem (by omega)⟩
 obtain ⟨B, hB⟩ : ∃ B, t.rows[b]? = some B := ⟨_, List.getElem?_eq_getElem (by omega)⟩
 have hAl := (v.row a A hA).1
 have hBl := (v.row b B hB).1
 have hain : (a : Int).toNat = a := Int.toNat_natCast a
 have hbin : (b : Int).toNat = b := Int.toNat_natCast b
 refine EvC.seq (EvC.rg (by simp only [go_sem, Mach.cells, hA, hain, rowC, List.length_map] <;> rfl) (by simp; try omega) ?_)
 have hcr := comp_row v (show a < t.rows.length by omega) (show b < t.rows.length by omega)
 obtain ⟨W0, hW0⟩ : ∃ W, W = stW N (E.take k) := ⟨_, rfl⟩
 have hWo : stW N (E.take (k + 1)) = W0 + 17 ^ (N - a) := by rw [htk, stW_snoc, hW0]
 have h6 : res = true ↔ (∀ x ∈ E.take k, compB t x.1 x.2 = true) ∧ ∀ j : Nat, (j : Int) < t.ins → compI t a b j = true := by
  rw [h5, htk]
  constructor
  ·intro h
   refine ⟨fun x hx => h x (List.mem_append_left _ hx), fun j hj => ?_⟩
   have := h (a, b) (by simp)
   simp only at this
   rw [hcr, List.all_eq_true] at this
   exact this j (List.mem_range.2 (by omega))
  ·rintro ⟨h, h'⟩ x hx
   rcases List.mem_append.1 hx with hx | hx
   ·exact h x hx
   ·rw [List.mem_singleton.1 hx]
    simp only
    rw [hcr, List.all_eq_true]
    intro j hj
    exact h' j (by have := List.mem_range.1 hj; omega)
 have hsk : StOk t (E.take k) := ⟨fun x hx => h4.fst x (by rw [htk]; simp [hx]), fun x hx => h4.snd x (by rw [htk]; simp [hx]), fun j x hx => h4.pos j x (by rw [htk, List.getElem?_append_left (List.getElem?_eq_some_iff.1 hx).1]; exact hx)⟩
 refine EvC.block ?_
 refine EvC.loopS (σ := Nat × List (Nat × Nat) × Nat) (fun g => ⟨[(3, .ia t.cells), (9, .tv 0 g.2.1.length 0 g.2.2 .rest), (10, .ia [.sc (.int .i64 a), .sc (.int .i64 b)]), (45, .sl A.1 (A.2.map edgeC) .unk), (46, .sc (.int .i64 A.2.length)), (47, .sc (.int .i64 g.1))], [], [(0, .arr 2 (g.2.1.map prC) false)], 1⟩) (fun g => t.ins.toNat - g.1)
  (fun g => (g.1 : Int) ≤ t.ins ∧ 1 ≤ g.2.1.length ∧ g.2.1.length ≤ 1000000 ∧ g.2.2 ≤ g.2.1.length ∧ g.2.2 ≤ 15 * a + g.1 ∧ StOk t (g.2.1.take g.2.2) ∧ stW N (g.2.1.take g.2.2) ≤ W0 + g.1 * 17 ^ (N - a - 1) ∧ (res = true ↔ (∀ x ∈ g.2.1.take g.2.2, compB t x.1 x.2 = true) ∧ ∀ j : Nat, g.1 ≤ j → (j : Int) < t.ins → compI t a b j = true)) [3, 9, 10, 45, 46, 47] 1 ?_ ?_
 ·refine ⟨[(0, 0)], (0, E, k), rfl, (by simp only [go_sem, Mach.cells, Nat.sub_zero, Int.natCast_zero, prC_norefs] <;> rfl), by simp only; omega, h1, h2, by simp only; omega, by simp only; omega, hsk, by rw [hW0]; simp, ?_⟩
  rw [h6]; simp
 clear h6 hsk h5 h4 htk hx
 rintro ⟨i, E', len⟩ ⟨k1, k2, k3, k4, k5, k6, k7, k8⟩
 simp only at k1 k2 k3 k4 k5 k6 k7 k8 ⊢
 have hiin : (i : Int).toNat = i := Int.toNat_natCast i
 refine EvC.seq (EvC.rg (by simp only [go_sem] <;> rfl) (by simp) ?_)
 refine EvC.seq ?_
 refine EvC.cond (by simp only [go_sem] <;> rfl) (fun hc => ?_) (fun hc => ?_)
 rotate_left
 ·
  have hi : ¬ (i : Int) < t.ins := by have : ¬ i < A.2.length := by simpa using hc
                                      omega
  refine EvC.exit ?_
  have hpw : 16 * 17 ^ (N - a - 1) < 17 ^ (N - a) := by
   obtain ⟨d, hd⟩ : ∃ d, N - a = d + 1 := ⟨N - a - 1, by omega⟩
   rw [hd, Nat.add_sub_cancel, Nat.pow_succ]
   have := Nat.pow_pos (n := d) (show 0 < 17 by omega)
   omega
  have hi16 : i * 17 ^ (N - a - 1) ≤ 16 * 17 ^ (N - a - 1) := Nat.mul_le_mul_right _ (by omega)
  exact ⟨[(0, 0)], (E', len), rfl, (by simp only [go_sem, Mach.cells, prC_norefs] <;> rfl), ⟨k2, k3, k4, k6, by rw [k8]; exact ⟨fun h => h.1, fun h => ⟨h, fun j h1 h2 => by omega⟩⟩⟩, by simp only; rw [hWo]; omega⟩
 have hi : (i : Int) < t.ins := by have : i < A.2.length := by simpa using hc
                                   omega
 clear hc
 refine EvC.skip ?_
 refine EvC.seq ?_
 refine EvC.block ?_
 have hiA : i < A.2.length := by omega
 have hiB : i < B.2.length := by omega
 have hxA : A.2[i]? = some (eT t a i) := by simp [eT, hA, hiA]
 have hxB : B.2[i]? = some (eT t b i) := by simp [eT, hB, hiB]
 have eA := v.edge (show a < t.rows.length by omega) hi
 have eB := v.edge (show b < t.rows.length by omega) hi
 have hci : compI t a b i = (!clashE (eT t a i) (eT t b i) && (!bothE (eT t a i) (eT t b i) || compB t (eT t a i).1.toNat (eT t b i).1.toNat)) := rfl
 generalize eT t a i = x at hxA eA hci
 generalize eT t b i = y at hxB eB hci
 obtain ⟨x1, x2⟩ := x
 obtain ⟨y1, y2⟩ := y
 simp only at eA eB hci
 have hnr := prC_norefs E'
 refine EvC.seq (EvC.rg (by simp only [go_sem, hxA, edgeC, hiin, List.length_map] <;> rfl) (by simp; try omega) ?_)
 refine EvC.gc [3, 9, 10, 11, 12, 45, 46, 47] [(0, 0), (5, 1)] 2 rfl ?_
 refine EvC.frzB 1 (by simp only [go_sem, hnr] <;> rfl) ?_
 refine EvC.seq (EvC.rg (by simp only [go_sem, Mach.cells, hB, hbin, rowC, hxB, edgeC, hiin, List.length_map] <;> rfl) (by simp; try omega) ?_)
 refine EvC.frzB 11 (by simp only [go_sem, hnr] <;> rfl) ?_
 have hK := clash38_is x1 x2 y1 y2
 refine EvC.seq ?_
 apply EvC.seq
 apply EvC.tr
 ·apply Tr.run
  ·simp only [go_sem] <;> rfl
  ·simp
  apply Tr.cons
  ·exact .call rfl rfl (by simp only [go_sem] <;> rfl) (by simp only [go_sem] <;> rfl) (by simp only [go_sem] <;> rfl) (by simp only [go_sem] <;> rfl) (by simp only [go_sem] <;> rfl) (hK)
  apply Tr.done
  ·simp only [go_sem] <;> rfl
  ·simp
 cases hck : clashE (x1, x2) (y1, y2) with
 | true =>
   rw [hck] at hci
   have hrf : res = false := by
    rw [← Bool.not_eq_true, k8]
    intro h
    have := h.2 i (Nat.le_refl _) hi
    rw [hci] at this; cases this
   rw [hrf]
   refine EvC.cond_true (by simp only [go_sem] <;> rfl) ?_
   refine EvC.seq (EvC.rg (by simp only [go_sem] <;> rfl) (by simp) ?_)
   refine EvC.ret ⟨.inl rfl, _, (by simp only [go_sem] <;> rfl), ?_, rfl⟩
   simp only [go_sem]
 | false =>
 rw [hck, Bool.not_false, Bool.true_and] at hci
 refine EvC.cond_false (by simp only [go_sem] <;> rfl) ?_
 refine EvC.skip ?_
 have hmul : (i + 1) * 17 ^ (N - a - 1) = i * 17 ^ (N - a - 1) + 17 ^ (N - a - 1) := Nat.succ_mul _ _
 have hno : bothE (x1, x2) (y1, y2) = false → (res = true ↔ (∀ x ∈ E'.take len, compB t x.1 x.2 = true) ∧ ∀ j : Nat, i + 1 ≤ j → (j : Int) < t.ins → compI t a b j = true) := fun h => by
  rw [h] at hci
  rw [k8]
  refine and_congr Iff.rfl ⟨fun g j h1 h2 => g j (by omega) h2, fun g j h1 h2 => ?_⟩
  by_cases e : j = i
  ·rw [e, hci]; rfl
  ·exact g j (by omega) h2
 by_cases hx0 : x1 = -1
 ·have d1 := decide_eq_true hx0
  have hbo : bothE (x1, x2) (y1, y2) = false := by simp [bothE, hx0]
  apply EvC.seq
  apply EvC.trd
  ·simp only [go_sem, d1] <;> rfl
  ·simp
  refine EvC.cond_false (by simp only [go_sem] <;> rfl) ?_
  refine EvC.skip ?_
  refine EvC.rg (by simp only [go_sem] <;> rfl) (by exact inI64_of (by omega) (by omega)) ?_
  exact ⟨[(0, 0)], (i + 1, E', len), rfl, (by simp only [go_sem, hnr, Mach.cells, Int.natCast_add, Int.natCast_one] <;> rfl), ⟨by simp only; omega, k2, k3, k4, by simp only; omega, k6, Nat.le_trans k7 (Nat.add_le_add_left (Nat.mul_le_mul_right _ (Nat.le_succ i)) _), hno hbo⟩, by simp only; omega⟩
 have d1 := decide_eq_false hx0
 by_cases hy0 : y1 = -1
 ·have d2 := decide_eq_true hy0
  have hbo : bothE (x1, x2) (y1, y2) = false := by simp [bothE, hy0]
  apply EvC.seq
  apply EvC.trd
  ·simp only [go_sem, d1, d2] <;> rfl
  ·simp
  refine EvC.cond_false (by simp only [go_sem] <;> rfl) ?_
  refine EvC.skip ?_
  refine EvC.rg (by simp only [go_sem] <;> rfl) (by exact inI64_of (by omega) (by omega)) ?_
  exact ⟨[(0, 0)], (i + 1, E', len), rfl, (by simp only [go_sem, hnr, Mach.cells, Int.natCast_add, Int.natCast_one] <;> rfl), ⟨by simp only; omega, k2, k3, k4, by simp only; omega, k6, Nat.le_trans k7 (Nat.add_le_add_left (Nat.mul_le_mul_right _ (Nat.le_succ i)) _), hno hbo⟩, by simp only; omega⟩
 have d2 := decide_eq_false hy0
 have hbo : bothE (x1, x2) (y1, y2) = true := by simp [bothE, hx0, hy0]
 rw [hbo, Bool.not_true, Bool.false_or] at hci
 obtain ⟨u, rfl⟩ : ∃ u : Nat, x1 = u := ⟨x1.toNat, by omega⟩
 obtain ⟨w, rfl⟩ : ∃ u : Nat, y1 = u := ⟨y1.toNat, by omega⟩
 rw [Int.toNat_natCast, Int.toNat_natCast] at hci
 have hpush : ∀ E'' : List (Nat × Nat), E''.take (len + 1) = E'.take len ++ [(u, w)] →
   StOk t (E''.take (len + 1)) ∧ stW N (E''.take (len + 1)) ≤ W0 + (i + 1) * 17 ^ (N - a - 1) ∧ (res = true ↔ (∀ x ∈ E''.take (len + 1), compB t x.1 x.2 = true) ∧ ∀ j : Nat, i + 1 ≤ j → (j : Int) < t.ins → compI t a b j = true) := fun E'' hE => by
  rw [hE]
  refine ⟨⟨fun x hx => ?_, fun x hx => ?_, fun j x hx => ?_⟩, ?_, ?_⟩
  ·rcases List.mem_append.1 hx with h | h
   ·exact k6.fst x h
   ·rw [List.mem_singleton.1 h]; simp only; omega
  ·rcases List.mem_append.1 hx with h | h
   ·exact k6.snd x h
   ·rw [List.mem_singleton.1 h]; simp only; omega
  ·have htl : (E'.take len).length = len := by simp; omega
   by_cases hj : j < len
   ·rw [List.getElem?_append_left (by omega)] at hx
    exact k6.pos j x hx
   ·have hj' := (List.getElem?_eq_some_iff.1 hx).1
    rw [List.length_append, htl, List.length_singleton] at hj'
    obtain rfl : j = len := by omega
    rw [List.getElem?_append_right (by omega), htl, Nat.sub_self] at hx
    cases hx
    simp only
    omega
  ·rw [stW_snoc]
   have : 17 ^ (N - u) ≤ 17 ^ (N - a - 1) := Nat.pow_le_pow_right (by omega) (by omega)
   simp only
   omega
  ·rw [k8]
   constructor
   ·rintro ⟨g1, g2⟩
    refine ⟨fun x hx => ?_, fun j h1 h2 => g2 j (by omega) h2⟩
    rcases List.mem_append.1 hx with h | h
    ·exact g1 x h
    ·rw [List.mem_singleton.1 h]
     have := g2 i (Nat.le_refl _) hi
     rw [hci] at this; exact this
   ·rintro ⟨g1, g2⟩
    refine ⟨fun x hx => g1 x (List.mem_append_left _ hx), fun j h1 h2 => ?_⟩
    by_cases e : j = i
    ·rw [e, hci]; exact g1 (u, w) (by simp)
    ·exact g2 j (by omega) h2
 have hEl' : (E'.map prC).length = E'.length := List.length_map _
 have hE0 : E' ≠ [] := fun e => by rw [e] at k2; simp at k2
 have hr5 : room (E'.length + 1) 16 = true := by simp only [room_eq, decide_eq_true_eq]; omega
 apply EvC.seq
 apply EvC.trd
 ·simp only [go_sem, d1, d2] <;> rfl
 ·simp
 refine EvC.cond_true (by simp only [go_sem] <;> rfl) ?_
 by_cases hfull : len = E'.length
 ·subst hfull
  have hE1 : (E' ++ [(u, w)]).take (E'.length + 1) = E'.take E'.length ++ [(u, w)] := by rw [List.take_length, List.take_of_length_le (by simp)]
  obtain ⟨g1, g2, g3⟩ := hpush _ hE1
  have hn2 := prC_norefs (E' ++ [(u, w)])
  have hm2 : E'.map prC ++ [[.sc (.int .i64 u), .sc (.int .i64 w)]] = (E' ++ [(u, w)]).map prC := by rw [List.map_append]; rfl
  have hl2 : (E' ++ [(u, w)]).length = E'.length + 1 := by simp
  generalize E' ++ [(u, w)] = E2 at *
  refine EvC.rg (by simp only [go_sem, hEl', List.length_append, List.length_singleton, hm2] <;> rfl) (by simp [hr5]; exact hE0) ?_
  refine EvC.rg (by simp only [go_sem] <;> rfl) (by exact inI64_of (by omega) (by omega)) ?_
  exact ⟨[(0, 0)], (i + 1, E2, E'.length + 1), rfl, (by simp only [go_sem, hn2, hl2, Mach.cells, Int.natCast_add, Int.natCast_one] <;> rfl), ⟨by simp only; omega, by simp only; omega, by simp only; omega, by simp only; omega, by simp only; omega, g1, g2, g3⟩, by simp only; omega⟩
 ·have hE1 : (E'.take len ++ ([(u, w)] ++ E'.drop (len + 1))).take (len + 1) = E'.take len ++ [(u, w)] := by
    rw [← List.append_assoc, List.take_append_of_le_length (by simp; omega), List.take_of_length_le (by simp; omega)]
  obtain ⟨g1, g2, g3⟩ := hpush _ hE1
  have hn2 := prC_norefs (E'.take len ++ ([(u, w)] ++ E'.drop (len + 1)))
  have hm2 : (E'.map prC).take len ++ [.sc (.int .i64 u), .sc (.int .i64 w)] :: (E'.map prC).drop (len + 1) = (E'.take len ++ ([(u, w)] ++ E'.drop (len + 1))).map prC := by rw [List.map_append, List.map_append, List.map_take, List.map_drop]; rfl
  have hl2 : (E'.take len ++ ([(u, w)] ++ E'.drop (len + 1))).length = E'.length := by simp; omega
  generalize E'.take len ++ ([(u, w)] ++ E'.drop (len + 1)) = E2 at *
  refine EvC.rg (by simp only [go_sem, hEl', hfull, hm2, List.length_singleton] <;> rfl) (by simp; omega) ?_
  refine EvC.rg (by simp only [go_sem] <;> rfl) (by exact inI64_of (by omega) (by omega)) ?_
  exact ⟨[(0, 0)], (i + 1, E2, len + 1), rfl, (by simp only [go_sem, hm2, hn2, hl2, Mach.cells, Int.natCast_add, Int.natCast_one] <;> rfl), ⟨by simp only; omega, by simp only; omega, by simp only; omega, by simp only; omega, by simp only; omega, g1, g2, g3⟩, by simp only; omega⟩
end Go.Avl
namespace Go.Avl
open Go Go.Proofs.Try
set_option maxRecDepth 10000
set_option linter.unusedSimpArgs false
theorem rows_get {a b : Mach} (h : a.rows.map (·.2) = b.rows.map (·.2)) {i : Nat} {r : Row} (hr : a.rows[i]? = some r) : ∃ n, b.rows[i]? = some (n, r.2) := by
 have h2 := congrArg (fun l => l[i]?) h
 simp only [List.getElem?_map, hr, Option.map_some] at h2
 cases hb : b.rows[i]? with
 | none => rw [hb] at h2; cases h2
 | some q => rw [hb] at h2; simp only [Option.map_some, Option.some.injEq] at h2; exact ⟨q.1, by rw [h2]⟩
theorem sameM_is {a b : Mach} (h1 : a.ins = b.ins) (h2 : a.outs = b.outs) (h3 : a.rows.map (·.2) = b.rows.map (·.2)) (hl : a.rows.length < 1000000) (hr : ∀ r ∈ a.rows, r.2.length < 1000000) : PureIs prog 22 [.ag a.cells, .ag b.cells] (.sc (.bool true)) := by
 have hl2 : b.rows.length = a.rows.length := by have := congrArg List.length h3; simpa using this.symm
 refine PureIs.of (nv := 7) (hid := [27, 32, 47, 55, 74]) func22 rfl (by kernel_rfl) (by simp [ntmps22]) fun _ => ?_
 rw [ntmps22, results22]
 refine EvC.seq (EvC.rg (by simp only [go_sem, Mach.cells] <;> rfl) (by simp) ?_)
 refine EvC.frzB 0 (by simp only [go_sem] <;> rfl) ?_
 refine EvC.frzB 1 (by simp only [go_sem] <;> rfl) ?_
 refine EvC.seq ?_
 apply EvC.seq
 apply EvC.trd
 ·simp only [go_sem, h1, h2, hl2] <;> rfl
 ·simp
 refine EvC.cond_false (by simp only [go_sem] <;> rfl) ?_
 refine EvC.skip ?_
 refine EvC.seq ?_
 refine EvC.seq (EvC.rg (by simp only [go_sem] <;> rfl) (by simp) ?_)
 refine EvC.block ?_
 refine EvC.loopS (σ := Nat) (fun i => ⟨[(2, .ia a.cells), (3, .ia b.cells), (5, .sc (.int .i64 i))], [], [], 0⟩) (fun i => a.rows.length - i) (fun i => i ≤ a.rows.length) [2, 3, 5] 0 ?_ ?_
 ·exact ⟨[], 0, rfl, (by simp only [go_sem, Mach.cells, h1, h2] <;> rfl), Nat.zero_le _⟩
 intro i hi
 refine EvC.seq ?_
 refine EvC.seq (EvC.rg (by simp only [go_sem, Mach.cells] <;> rfl) (by simp) ?_)
 refine EvC.cond (by simp only [go_sem] <;> rfl) (fun hc => ?_) (fun hc => ?_)
 rotate_left
 ·refine EvC.exit ?_
  refine EvC.seq (EvC.rg (by simp only [go_sem] <;> rfl) (by simp) ?_)
  refine EvC.ret ⟨.inl rfl, _, (by simp only [go_sem] <;> rfl), ?_, rfl⟩
  simp only [go_sem]
 have hi : i < a.rows.length := by simpa using hc
 have he : a.rows[i]? = some a.rows[i] := List.getElem?_eq_getElem hi
 have hm := List.getElem_mem hi
 generalize a.rows[i] = r at he hm
 obtain ⟨n, hb⟩ := rows_get h3 he
 obtain ⟨na, es⟩ := r
 have hes := hr _ hm
 simp only at hb hes
 refine EvC.skip ?_
 refine EvC.seq ?_
 refine EvC.block ?_
 refine EvC.seq ?_
 apply EvC.seq
 apply EvC.drd mixed
 ·simp only [go_sem, he, hb, rowC, Mach.cells] <;> rfl
 ·simp
 ·kernel_rfl
 refine EvC.cond_false (by simp only [go_sem] <;> rfl) ?_
 refine EvC.skip ?_
 refine EvC.seq (EvC.rg (by simp only [go_sem] <;> rfl) (by simp) ?_)
 refine EvC.block ?_
 refine EvC.loopS (σ := Nat) (fun k => ⟨[(2, .ia a.cells), (3, .ia b.cells), (5, .sc (.int .i64 i)), (6, .sc (.int .i64 k))], [], [], 0⟩) (fun k => es.length - k) (fun k => k ≤ es.length) [2, 3, 5, 6] 0 ?_ ?_
 ·exact ⟨[], 0, rfl, (by simp only [go_sem, Mach.cells, h1, h2] <;> rfl), Nat.zero_le _⟩
 intro k hk
 refine EvC.seq ?_
 refine EvC.seq (EvC.rg (by simp only [go_sem, he, rowC, Mach.cells] <;> rfl) (by simp) ?_)
 refine EvC.cond (by simp only [go_sem] <;> rfl) (fun hc => ?_) (fun hc => ?_)
 rotate_left
 ·refine EvC.exit ?_
  refine EvC.rg (by simp only [go_sem] <;> rfl) (by exact inI64_of (by omega) (by omega)) ?_
  exact ⟨[], i + 1, rfl, (by simp only [go_sem, Mach.cells] <;> rfl), by omega, by omega⟩
 have hk : k < es.length := by simpa using hc
 have hek : es[k]? = some es[k] := List.getElem?_eq_getElem hk
 generalize es[k] = e at hek
 refine EvC.skip ?_
 refine EvC.seq ?_
 refine EvC.block ?_
 apply EvC.seq
 apply EvC.drd mixed
 ·simp only [go_sem, he, hb, rowC, Mach.cells, hek, edgeC] <;> rfl
 ·simp
 ·kernel_rfl
 refine EvC.cond_false (by simp only [go_sem] <;> rfl) ?_
 refine EvC.skip ?_
 refine EvC.rg (by simp only [go_sem] <;> rfl) (by exact inI64_of (by omega) (by omega)) ?_
 exact ⟨[], k + 1, rfl, (by simp only [go_sem, Mach.cells] <;> rfl), by omega, by omega⟩
theorem ints_unk (l : List Int) : AV.unkss (l.map intC) = l.map intC := unkss_map intC (fun _ => rfl) l
def twoM : Mach := ⟨1, 2, false, [(false, [(1, 0)]), (false, [(0, 1)])]⟩
theorem two41_is : PureIs prog 41 [] (.ag twoM.cells) := by
 have key : PureIs prog 41 [] (.ag [.sc (.int .i64 1), .sc (.int .i64 2), .sl false [[.sl false [[.sc (.int .i64 1), .sc (.int .i64 0)]] .full], [.sl false [[.sc (.int .i64 0), .sc (.int .i64 1)]] .full]] .full]) := by
  refine PureIs.of (nv := 1) (hid := []) func41 rfl (by kernel_rfl) (by simp [ntmps41]) fun _ => ?_
  rw [ntmps41, results41]
  refine EvC.seq (EvC.rg (by simp only [go_sem] <;> rfl) (by simp) ?_)
  refine EvC.seq (EvC.rg (by simp only [go_sem] <;> rfl) (by simp) ?_)
  refine EvC.ret ⟨.inl rfl, _, (by simp only [go_sem] <;> rfl), ?_, rfl⟩
  simp only [go_sem]
 exact PureIs.weakR key
theorem chain36_is (o : Int) (r : List Int) (c : Cp) (hr : 1 ≤ r.length ∧ r.length ≤ 1000) : PureIs prog 36 [.sc (.int .i64 o), .sl false (r.map intC) c] (.ag (treeM 1 o (okLog [⟨List.replicate r.length 0, r⟩])).cells) := by
 have hT := tree11_is 1 o false [⟨List.replicate r.length 0, r⟩] .unk (fun t ht => by
  rw [List.mem_singleton.1 ht]; exact ⟨by simp, by simp; omega⟩) (by simp) (by omega)
 have hr0 : r.isEmpty = false := by cases r with
  | nil => simp at hr
  | cons => rfl
 have hz0 : (List.replicate r.length (0 : Int)).isEmpty = false := by cases r with
  | nil => simp at hr
  | cons => rfl
 have hT' : PureIs prog 11 [.ag [.sc (.int .i64 1), .sc (.int .i64 o), .sl false [[.sl false (List.replicate r.length [.sc (.int .i64 0)]) .unk, .sl false (r.map intC) c]] .unk]] (.ag (treeM 1 o (okLog [⟨List.replicate r.length 0, r⟩])).cells) := by
  refine PureIs.weak ?_
  have e : [AV.ag [.sc (.int .i64 1), .sc (.int .i64 o), .sl false [[.sl false (List.replicate r.length [.sc (.int .i64 0)]) .unk, .sl false (r.map intC) c]] .unk]].map AV.unk = [.ag [.sc (.int .i64 (1 : Nat)), .sc (.int .i64 o), .sl false ([⟨List.replicate r.length 0, r⟩].map traceC) .unk]] := by
   have h1 : AV.unkss (List.replicate r.length [AV.sc (.int .i64 0)]) = List.replicate r.length [.sc (.int .i64 0)] := by
    rw [unkss_eq, List.map_replicate]; rfl
   simp [AV.unk, AV.unks, AV.unkss, traceC, hr0, hz0, h1, ints_unk, intC]
  rw [e]
  exact hT
 have hzn : (List.replicate r.length [AV.sc (.int .i64 0)]).all AV.norefs = true := by simp [List.all_eq_true, AV.norefs, AV.noref]
 refine PureIs.of (nv := 2) (hid := [4, 11]) func36 rfl (by kernel_rfl) (by simp [ntmps36]) fun _ => ?_
 rw [ntmps36, results36]
 refine EvC.seq (EvC.rg (by simp only [go_sem] <;> rfl) (by simp) ?_)
 apply EvC.seq
 apply EvC.rs
 ·simp only [go_sem, List.length_map, List.length_replicate, decide_true] <;> rfl
 ·simp
  simp only [room_eq, decide_eq_true_eq]; omega
 refine XR.frzD 4 (by simp only [go_sem, List.length_replicate, decide_true, hzn] <;> rfl) ?_
 refine XR.snapA 7 (by simp only [go_sem] <;> rfl) ?_
 refine XR.frz 7 (by simp only [go_sem, List.length_replicate, hzn] <;> rfl) ?_
 refine XR.call rfl rfl (by simp only [go_sem] <;> rfl) (by simp only [go_sem] <;> rfl) (by simp only [go_sem] <;> rfl) (by simp only [go_sem] <;> rfl) hT' ?_
 apply XR.done
 ·simp only [go_sem, Mach.cells] <;> rfl
 ·simp
 refine EvC.ret ⟨.inl rfl, _, (by simp only [go_sem] <;> rfl), ?_, rfl⟩
 simp only [go_sem]
 rfl
end Go.Avl
namespace Go.Avl
open Go Go.Proofs.Try
set_option maxRecDepth 10000
set_option linter.unusedSimpArgs false
def okB (y x : Int × Int) : Bool := !knownE x || (decide (x.1 = -1) == decide (y.1 = -1)) && (decide (x.1 = -1) || decide (y.2 = x.2))
def okE (y x : Int × Int) (to : Nat) : Prop := okB y x = true ∧ (x.1 ≠ -1 → y.1 = (to : Int))
structure FitH (t m : Mach) (h : Nat → Nat) : Prop where
 root : h 0 = 0
 ok : ∀ n i : Nat, n < t.rows.length → (i : Int) < t.ins → okE (eT m (h n) i) (eT t n i) (h (eT t n i).1.toNat)
open Classical in
noncomputable def fitB (t m : Mach) : Bool := decide (∃ h, FitH t m h)
def stN (st : List Nat) (k : Nat) : Nat := (st[k]?).getD 0
structure FitI (t m : Mach) (st : List Nat) (n i : Nat) : Prop where
 len : st.length = t.rows.length
 root : stN st 0 = 0
 lt : ∀ s ∈ st, s < m.rows.length
 ok : ∀ q j : Nat, q < t.rows.length → (j : Int) < t.ins → (q < n ∨ q = n ∧ j < i) → okE (eT m (stN st q) j) (eT t q j) (stN st (eT t q j).1.toNat)
theorem stN_lt {st : List Nat} {k n : Nat} (h : ∀ s ∈ st, s < n) (h0 : 0 < n) : stN st k < n := by
 unfold stN
 cases hk : st[k]? with
 | none => exact h0
 | some s => exact h s (List.mem_of_getElem? hk)
theorem FitI.start {t m : Mach} (hm : 0 < m.rows.length) : FitI t m (List.replicate t.rows.length 0) 0 0 := by
 refine ⟨by simp, ?_, fun s hs => ?_, fun q j _ _ h => by omega⟩
 ·unfold stN
  cases h : (List.replicate t.rows.length 0)[0]? with
  | none => rfl
  | some s => exact List.eq_of_mem_replicate (List.mem_of_getElem? h)
 ·rw [List.eq_of_mem_replicate hs]; exact hm
theorem FitI.next {t m : Mach} {st : List Nat} {n : Nat} (h : FitI t m st n t.ins.toNat) : FitI t m st (n + 1) 0 :=
 ⟨h.len, h.root, h.lt, fun q j h1 h2 h3 => h.ok q j h1 h2 (by omega)⟩
theorem FitI.keep {t m : Mach} {st : List Nat} {n i : Nat} (h : FitI t m st n i) (hk : okE (eT m (stN st n) i) (eT t n i) (stN st (eT t n i).1.toNat)) : FitI t m st n (i + 1) :=
 ⟨h.len, h.root, h.lt, fun q j h1 h2 h3 => by
  by_cases e : q = n ∧ j = i
  ·rw [e.1, e.2]; exact hk
  ·exact h.ok q j h1 h2 (by omega)⟩
theorem FitI.set {t m : Mach} (v : TV t) (tp : TP t) {st : List Nat} {n i : Nat} (h : FitI t m st n i) (hn : n < t.rows.length) (hi : (i : Int) < t.ins) (hx : (eT t n i).1 ≠ -1) {to : Nat} (hto : (eT m (stN st n) i).1 = to) (hlt : to < m.rows.length)
  (hb : okB (eT m (stN st n) i) (eT t n i) = true) : FitI t m (st.set (eT t n i).1.toNat to) n (i + 1) := by
 have he := v.edge hn hi
 obtain ⟨k, hk⟩ : ∃ k : Nat, (eT t n i).1 = k := ⟨(eT t n i).1.toNat, by omega⟩
 rw [hk, Int.toNat_natCast]
 have hkn : n < k ∧ k < t.rows.length := by omega
 have hs : ∀ j, stN (st.set k to) j = if j = k then to else stN st j := fun j => by
  unfold stN
  rw [List.getElem?_set]
  by_cases e : k = j
  ·subst e; rw [if_pos rfl, if_pos rfl, if_pos (by rw [h.len]; exact hkn.2)]; rfl
  ·rw [if_neg e, if_neg (fun h => e h.symm)]
 refine ⟨by rw [List.length_set]; exact h.len, by rw [hs, if_neg (by omega)]; exact h.root, fun s hs => ?_, fun q j h1 h2 h3 => ?_⟩
 ·rcases List.mem_or_eq_of_mem_set hs with h1 | h1
  ·exact h.lt s h1
  ·rw [h1]; exact hlt
 ·rw [hs, if_neg (by omega)]
  by_cases e : q = n ∧ j = i
  ·obtain ⟨rfl, rfl⟩ := e
   rw [hk, Int.toNat_natCast, hs, if_pos rfl]
   exact ⟨hb, fun _ => hto⟩
  ·have := h.ok q j h1 h2 (by omega)
   refine ⟨this.1, fun hne => ?_⟩
   rw [hs, if_neg]
   ·exact this.2 hne
   ·intro hc
    have hq := v.edge h1 h2
    have := tp.uniq q j n i hne (by omega)
    exact e this
theorem FitI.agree {t m : Mach} (tp : TP t) {st : List Nat} {n i : Nat} (h : FitI t m st n i) {f : Nat → Nat} (hf : FitH t m f) : ∀ k, k ≤ n → k < t.rows.length → stN st k = f k := by
 intro k
 induction k using Nat.strongRecOn with
 | _ k ih =>
   intro h1 h2
   by_cases h0 : k = 0
   ·rw [h0, h.root, hf.root]
   ·obtain ⟨q, j, k1, k2, k3⟩ := tp.has k (by omega) h2
    have a1 := (h.ok q j (by omega) k2 (.inl (by omega))).2 (by omega)
    have a2 := (hf.ok q j (by omega) k2).2 (by omega)
    rw [← ih q k1 (by omega) (by omega)] at a2
    rw [k3, Int.toNat_natCast] at a1 a2
    omega
theorem FitI.done {t m : Mach} {st : List Nat} {n : Nat} (h : FitI t m st n 0) (hn : t.rows.length ≤ n) : fitB t m = true := by
 classical
 unfold fitB
 rw [decide_eq_true_eq]
 exact ⟨stN st, h.root, fun q j h1 h2 => h.ok q j h1 h2 (.inl (by omega))⟩
theorem FitI.bad {t m : Mach} (tp : TP t) {st : List Nat} {n i : Nat} (h : FitI t m st n i) (hn : n < t.rows.length) (hi : (i : Int) < t.ins) (hb : okB (eT m (stN st n) i) (eT t n i) = false) : fitB t m = false := by
 classical
 unfold fitB
 rw [decide_eq_false_iff_not]
 rintro ⟨f, hf⟩
 have := (hf.ok n i hn hi).1
 rw [← h.agree tp hf n (Nat.le_refl _) hn, hb] at this
 cases this
theorem Valid.edge {m : Mach} (v : Valid m) {s i : Nat} (hs : s < m.rows.length) (hi : (i : Int) < m.ins) : ∃ A : Row, m.rows[s]? = some A ∧ (A.2.length : Int) = m.ins ∧ A.2[i]? = some (eT m s i) ∧ ((eT m s i = (-1, -1)) ∨ (0 ≤ (eT m s i).1 ∧ (eT m s i).1 < m.rows.length ∧ 0 ≤ (eT m s i).2 ∧ (eT m s i).2 < m.outs)) := by
 obtain ⟨h1, h2⟩ := v.row _ (List.getElem_mem hs)
 have hl : i < (m.rows[s]).2.length := by omega
 have e : eT m s i = (m.rows[s]).2[i] := by simp [eT, hs, hl]
 refine ⟨m.rows[s], List.getElem?_eq_getElem hs, h1, by rw [e]; exact List.getElem?_eq_getElem hl, ?_⟩
 have := h2 _ (List.getElem_mem hl)
 rw [← e] at this
 unfold fitsR at this
 simp only [Bool.or_eq_true, Bool.and_eq_true, decide_eq_true_eq] at this
 rcases this with h | h
 ·exact .inl (Prod.ext h.1 h.2)
 ·exact .inr (by omega)
def fitAns (t : Mach) (b : Bool) (m : Mach) : AV :=
 if checkM m ≠ 0 then .tu [.sc (.bool false), .sc (.int .i64 (checkM m))]
 else if checkT t ≠ 0 then .tu [.sc (.bool false), .sc (.int .i64 (checkT t))]
 else if m.ins ≠ t.ins then .tu [.sc (.bool false), .sc (.int .i64 5)]
 else .tu [.sc (.bool b), .sc (.int .i64 0)]
end Go.Avl
namespace Go.Avl
open Go Go.Proofs.Try
set_option maxRecDepth 10000
set_option linter.unusedSimpArgs false
set_option maxHeartbeats 8000000 in
theorem fits23_is (t m : Mach) (hr : ∀ r ∈ t.rows, r.2.length < 1000000) (hm : ∀ r ∈ m.rows, r.2.length < 1000000) : PureIs prog 23 [.ag m.cells, .ag t.cells] (fitAns t (fitB t m) m) := by
 have hC := check_is m hm
 have hT := checkT_is t hr
 unfold fitAns
 generalize hce : checkM m = ce at hC
 generalize hte : checkT t = te at hT
 refine PureIs.of (nv := 14) (hid := [4, 5, 6, 7, 8, 9, 10, 11, 12, 13, 17, 22, 28, 32, 34, 35, 36, 37, 41, 42, 43, 44, 59, 63, 87]) func23 rfl (by kernel_rfl) (by simp [ntmps23]) fun _ => ?_
 rw [ntmps23, results23]
 refine EvC.seq (EvC.rg (by simp only [go_sem, Mach.cells] <;> rfl) (by simp) ?_)
 refine EvC.frzB 0 (by simp only [go_sem] <;> rfl) ?_
 refine EvC.frzB 1 (by simp only [go_sem] <;> rfl) ?_
 rw [Mach.cells] at hC hT
 refine EvC.seq ?_
 apply EvC.seq
 apply EvC.tr
 ·apply Tr.run
  ·simp only [go_sem] <;> rfl
  ·simp
  apply Tr.cons
  ·exact .call rfl rfl (by simp only [go_sem] <;> rfl) (by simp only [go_sem] <;> rfl) (by simp only [go_sem] <;> rfl) (by simp only [go_sem] <;> rfl) (by simp only [go_sem] <;> rfl) (hC)
  apply Tr.done
  ·simp only [go_sem] <;> rfl
  ·simp
 refine EvC.seq (EvC.rg (by simp only [go_sem] <;> rfl) (by simp) ?_)
 by_cases he : ce = 0
 rotate_left
 ·rw [if_pos he]
  refine EvC.cond_true (by simp only [go_sem, decide_eq_false he] <;> rfl) ?_
  refine EvC.seq (EvC.rg (by simp only [go_sem] <;> rfl) (by simp) ?_)
  refine EvC.ret ⟨.inl rfl, _, (by simp only [go_sem] <;> rfl), ?_, rfl⟩
  simp only [go_sem]
 rw [if_neg (fun h => h he)]
 subst he
 refine EvC.cond_false (by simp only [go_sem] <;> rfl) ?_
 refine EvC.skip ?_
 refine EvC.seq ?_
 apply EvC.seq
 apply EvC.tr
 ·apply Tr.run
  ·simp only [go_sem] <;> rfl
  ·simp
  apply Tr.cons
  ·exact .call rfl rfl (by simp only [go_sem] <;> rfl) (by simp only [go_sem] <;> rfl) (by simp only [go_sem] <;> rfl) (by simp only [go_sem] <;> rfl) (by simp only [go_sem] <;> rfl) (hT)
  apply Tr.done
  ·simp only [go_sem] <;> rfl
  ·simp
 refine EvC.seq (EvC.rg (by simp only [go_sem] <;> rfl) (by simp) ?_)
 by_cases he : te = 0
 rotate_left
 ·rw [if_pos he]
  refine EvC.cond_true (by simp only [go_sem, decide_eq_false he] <;> rfl) ?_
  refine EvC.seq (EvC.rg (by simp only [go_sem] <;> rfl) (by simp) ?_)
  refine EvC.ret ⟨.inl rfl, _, (by simp only [go_sem] <;> rfl), ?_, rfl⟩
  simp only [go_sem]
 rw [if_neg (fun h => h he)]
 subst he
 refine EvC.cond_false (by simp only [go_sem] <;> rfl) ?_
 refine EvC.skip ?_
 refine EvC.seq ?_
 refine EvC.seq (EvC.rg (by simp only [go_sem] <;> rfl) (by simp) ?_)
 by_cases he : m.ins = t.ins
 rotate_left
 ·rw [if_pos he]
  refine EvC.cond_true (by simp only [go_sem, decide_eq_false he] <;> rfl) ?_
  refine EvC.seq (EvC.rg (by simp only [go_sem] <;> rfl) (by simp) ?_)
  refine EvC.ret ⟨.inl rfl, _, (by simp only [go_sem] <;> rfl), ?_, rfl⟩
  simp only [go_sem]
 rw [if_neg (fun h => h he)]
 refine EvC.cond_false (by simp only [go_sem, decide_eq_true he] <;> rfl) ?_
 refine EvC.skip ?_
 have v := TV.of hte
 have tp := TP.of hte
 have vm := Valid.of hce
 have hrw := v.rows
 have hin := v.ins
 have hmr := vm.rows
 obtain ⟨N, hNd⟩ : ∃ N, N = t.rows.length := ⟨_, rfl⟩
 have hNi : ((N : Int)).toNat = N := Int.toNat_natCast N
 have hr0 : room N 8 = true := by simp only [room_eq, decide_eq_true_eq]; omega
 refine EvC.seq (EvC.rg (by simp only [go_sem, hNd.symm, hNi, List.length_map] <;> rfl) (by simp; exact hr0) ?_)
 refine EvC.seq ?_
 refine EvC.seq (EvC.rg (by simp only [go_sem, hNd.symm, List.length_map] <;> rfl) (by simp) ?_)
 refine EvC.block ?_
 refine EvC.loopS (σ := Nat × List Nat) (fun g => ⟨[(2, .ia m.cells), (8, .tv 0 N 0 N (.val N)), (34, .sl t.nl (t.rows.map rowC) .unk), (35, .sc (.int .i64 N)), (36, .sc (.int .i64 g.1))], [], [(0, .arr 1 (g.2.map natC) false)], 1⟩) (fun g => N - g.1)
  (fun g => g.1 ≤ N ∧ FitI t m g.2 g.1 0) [2, 8, 34, 35, 36] 1 ?_ ?_
 ·refine ⟨[(22, 0)], (0, List.replicate N 0), rfl, ?_, Nat.zero_le _, by rw [hNd]; exact FitI.start (by omega)⟩
  have hnz : (List.replicate N [AV.sc (.int .i64 0)]).all AV.norefs = true := by simp [List.all_eq_true, AV.norefs, AV.noref]
  have hz : (List.replicate N 0).map natC = List.replicate N [AV.sc (.int .i64 0)] := by rw [List.map_replicate]; rfl
  simp only
  rw [hz]
  simp only [go_sem, Mach.cells, Int.natCast_zero, hnz] <;> rfl
 rintro ⟨n, st⟩ ⟨h1, h2⟩
 simp only at h1 h2 ⊢
 have hnin : (n : Int).toNat = n := Int.toNat_natCast n
 have hNi : ((N : Int)).toNat = N := Int.toNat_natCast N
 refine EvC.seq (EvC.rg (by simp only [go_sem] <;> rfl) (by simp) ?_)
 refine EvC.seq ?_
 refine EvC.cond (by simp only [go_sem] <;> rfl) (fun hc => ?_) (fun hc => ?_)
 rotate_left
 ·
  have : ¬ n < N := by simpa using hc
  rw [h2.done (by omega)]
  refine EvC.exit ?_
  refine EvC.seq (EvC.rg (by simp only [go_sem] <;> rfl) (by simp) ?_)
  refine EvC.ret ⟨.inl rfl, _, (by simp only [go_sem] <;> rfl), ?_, rfl⟩
  simp only [go_sem]
 have hn : n < N := by simpa using hc
 clear hc
 refine EvC.skip ?_
 refine EvC.seq ?_
 refine EvC.block ?_
 obtain ⟨A, hA⟩ : ∃ A, t.rows[n]? = some A := ⟨_, List.getElem?_eq_getElem (by omega)⟩
 have hAl := (v.row n A hA).1
 refine EvC.seq (EvC.rg (by simp only [go_sem, hA, hnin, rowC, List.length_map] <;> rfl) (by simp) ?_)
 refine EvC.seq (EvC.rg (by simp only [go_sem, List.length_map] <;> rfl) (by simp) ?_)
 refine EvC.block ?_
 refine EvC.loopS (σ := Nat × List Nat) (fun g => ⟨[(2, .ia m.cells), (8, .tv 0 N 0 N (.val N)), (9, .sc (.int .i64 n)), (34, .sl t.nl (t.rows.map rowC) .unk), (35, .sc (.int .i64 N)), (36, .sc (.int .i64 n)), (41, .sl A.1 (A.2.map edgeC) .unk), (42, .sc (.int .i64 A.2.length)), (43, .sc (.int .i64 g.1))], [], [(0, .arr 1 (g.2.map natC) false)], 1⟩) (fun g => t.ins.toNat - g.1)
  (fun g => (g.1 : Int) ≤ t.ins ∧ FitI t m g.2 n g.1) [2, 8, 9, 34, 35, 36, 41, 42, 43] 1 ?_ ?_
 ·exact ⟨[(0, 0)], (0, st), rfl, (by simp only [go_sem, Mach.cells, Int.natCast_zero, norefs_natC] <;> rfl), by simp only; omega, h2⟩
 clear h2 st
 rintro ⟨i, st⟩ ⟨h3, h2⟩
 simp only at h3 h2 ⊢
 have hiin : (i : Int).toNat = i := Int.toNat_natCast i
 refine EvC.seq (EvC.rg (by simp only [go_sem] <;> rfl) (by simp) ?_)
 refine EvC.seq ?_
 refine EvC.cond (by simp only [go_sem] <;> rfl) (fun hc => ?_) (fun hc => ?_)
 rotate_left
 ·
  have : ¬ i < A.2.length := by simpa using hc
  obtain rfl : i = t.ins.toNat := by omega
  refine EvC.exit ?_
  refine EvC.rg (by simp only [go_sem] <;> rfl) (by exact inI64_of (by omega) (by omega)) ?_
  exact ⟨[(0, 0)], (n + 1, st), rfl, (by simp only [go_sem, Mach.cells, Int.natCast_add, Int.natCast_one, norefs_natC] <;> rfl), ⟨hn, h2.next⟩, by simp only; omega⟩
 have hi : (i : Int) < t.ins := by have : i < A.2.length := by simpa using hc
                                   omega
 clear hc
 refine EvC.skip ?_
 refine EvC.seq ?_
 refine EvC.block ?_
 have hiA : i < A.2.length := by omega
 have hxA : A.2[i]? = some (eT t n i) := by simp [eT, hA, hiA]
 have eA := v.edge (show n < t.rows.length by omega) hi
 have hsl := stN_lt (k := n) h2.lt (by omega)
 have hsg : st[n]? = some (stN st n) := by
  unfold stN
  rw [List.getElem?_eq_getElem (by rw [h2.len]; omega)]; rfl
 have hsin : ((stN st n : Nat) : Int).toNat = stN st n := Int.toNat_natCast _
 obtain ⟨B, hB, hBl, hxB, eB⟩ := vm.edge hsl (i := i) (by omega)
 have hbad := fun h => h2.bad tp (i := i) (by omega) hi h
 have hkeep := fun h => h2.keep (i := i) h
 have hset := fun to h1 h3 h4 h5 => h2.set v tp (i := i) (by omega) hi h1 (to := to) h3 h4 h5
 generalize eT t n i = x at hxA eA hbad hkeep hset
 generalize eT m (stN st n) i = y at hxB eB hbad hkeep hset
 obtain ⟨x1, x2⟩ := x
 obtain ⟨y1, y2⟩ := y
 simp only [Prod.mk.injEq] at eA eB
 refine EvC.seq (EvC.rg (by simp only [go_sem, hxA, edgeC, hiin, List.length_map] <;> rfl) (by simp; try omega) ?_)
 refine EvC.frzB 5 (by simp only [go_sem, norefs_natC] <;> rfl) ?_
 have hstl : (st.map natC).length = N := by rw [List.length_map, h2.len, hNd]
 have hsg2 : (st.map natC)[n]? = some (natC (stN st n)) := by rw [List.getElem?_map, hsg]; rfl
 apply EvC.seq
 apply EvC.drd mixed
 ·simp only [go_sem, Mach.cells, hsg, hsg2, hnin, natC, hsin, hstl, hB, rowC, hxB, edgeC, hiin, List.length_map] <;> rfl
 ·simp; try omega
 ·kernel_rfl
 refine EvC.frzB 19 (by simp only [go_sem, norefs_natC] <;> rfl) ?_
 refine EvC.block ?_
 have hK := known55_is x1 x2
 apply EvC.seq
 apply EvC.tr
 ·apply Tr.run
  ·simp only [go_sem] <;> rfl
  ·simp
  apply Tr.cons
  ·exact .call rfl rfl (by simp only [go_sem] <;> rfl) (by simp only [go_sem] <;> rfl) (by simp only [go_sem] <;> rfl) (by simp only [go_sem] <;> rfl) (by simp only [go_sem] <;> rfl) (hK)
  apply Tr.done
  ·simp only [go_sem] <;> rfl
  ·simp
 cases hkn : knownE (x1, x2) with
 | false =>
   have hx1 : x1 = -1 := by
    by_cases h : x1 = -1
    ·exact h
    ·rw [knownE_to (a := (x1, x2)) h] at hkn; cases hkn
   refine EvC.cond_true (by simp only [go_sem, hkn] <;> rfl) ?_
   refine EvC.skip ?_
   refine EvC.rg (by simp only [go_sem] <;> rfl) (by exact inI64_of (by omega) (by omega)) ?_
   exact ⟨[(0, 0)], (i + 1, st), rfl, (by simp only [go_sem, Mach.cells, Int.natCast_add, Int.natCast_one, norefs_natC] <;> rfl), ⟨by simp only; omega, hkeep ⟨by unfold okB; rw [hkn]; rfl, fun h => absurd h (by simp [hx1])⟩⟩, by simp only; omega⟩
 | true =>
 refine EvC.cond_false (by simp only [go_sem, hkn] <;> rfl) ?_
 by_cases hx1 : x1 = -1
 ·have d1 := decide_eq_true hx1
  by_cases hy1 : y1 = -1
  ·have d2 := decide_eq_true hy1
   refine EvC.seq ?_
   apply EvC.seq
   apply EvC.trd
   ·simp only [go_sem, d1, d2] <;> rfl
   ·simp
   refine EvC.cond_false (by simp only [go_sem] <;> rfl) ?_
   apply EvC.trd
   ·simp only [go_sem, d1, d2] <;> rfl
   ·simp
   refine EvC.cond_false (by simp only [go_sem] <;> rfl) ?_
   refine EvC.seq (EvC.rg (by simp only [go_sem, d1, d2] <;> rfl) (by simp) ?_)
   refine EvC.cond_false (by simp only [go_sem] <;> rfl) ?_
   refine EvC.skip ?_
   refine EvC.rg (by simp only [go_sem] <;> rfl) (by exact inI64_of (by omega) (by omega)) ?_
   exact ⟨[(0, 0)], (i + 1, st), rfl, (by simp only [go_sem, Mach.cells, Int.natCast_add, Int.natCast_one, norefs_natC] <;> rfl), ⟨by simp only; omega, hkeep ⟨by unfold okB; simp [hx1, hy1], fun h => absurd h (by simp [hx1])⟩⟩, by simp only; omega⟩
  ·have d2 := decide_eq_false hy1
   rw [hbad (by unfold okB; rw [hkn]; simp [ hx1, hy1])]
   refine EvC.seq ?_
   apply EvC.seq
   apply EvC.trd
   ·simp only [go_sem, d1, d2] <;> rfl
   ·simp
   refine EvC.cond_true (by simp only [go_sem] <;> rfl) ?_
   refine EvC.skip ?_
   refine EvC.cond_true (by simp only [go_sem] <;> rfl) ?_
   refine EvC.seq (EvC.rg (by simp only [go_sem] <;> rfl) (by simp) ?_)
   refine EvC.ret ⟨.inl rfl, _, (by simp only [go_sem] <;> rfl), ?_, rfl⟩
   simp only [go_sem]
 have d1 := decide_eq_false hx1
 have hT : ∀ b : Bool, ((if decide (y1 = -1) = true then true else !decide (y2 = x2)) = b) → True := fun _ _ => trivial
 by_cases hy1 : y1 = -1
 ·have d2 := decide_eq_true hy1
  rw [hbad (by unfold okB; rw [hkn]; simp [ hx1, hy1])]
  refine EvC.seq ?_
  apply EvC.seq
  apply EvC.trd
  ·simp only [go_sem, d1, d2] <;> rfl
  ·simp
  refine EvC.cond_false (by simp only [go_sem] <;> rfl) ?_
  apply EvC.trd
  ·simp only [go_sem, d1, d2] <;> rfl
  ·simp
  refine EvC.cond_true (by simp only [go_sem] <;> rfl) ?_
  refine EvC.seq (EvC.rg (by simp only [go_sem] <;> rfl) (by simp) ?_)
  refine EvC.ret ⟨.inl rfl, _, (by simp only [go_sem] <;> rfl), ?_, rfl⟩
  simp only [go_sem]
 have d2 := decide_eq_false hy1
 by_cases hy2 : y2 = x2
 rotate_left
 ·have d3 := decide_eq_false hy2
  rw [hbad (by unfold okB; rw [hkn]; simp [ hx1, hy1, hy2])]
  refine EvC.seq ?_
  apply EvC.seq
  apply EvC.trd
  ·simp only [go_sem, d1, d2] <;> rfl
  ·simp
  refine EvC.cond_false (by simp only [go_sem] <;> rfl) ?_
  apply EvC.trd
  ·simp only [go_sem, d1, d2, d3] <;> rfl
  ·simp
  refine EvC.cond_true (by simp only [go_sem] <;> rfl) ?_
  refine EvC.seq (EvC.rg (by simp only [go_sem] <;> rfl) (by simp) ?_)
  refine EvC.ret ⟨.inl rfl, _, (by simp only [go_sem] <;> rfl), ?_, rfl⟩
  simp only [go_sem]
 have d3 := decide_eq_true hy2
 obtain ⟨q, rfl⟩ : ∃ q : Nat, x1 = q := ⟨x1.toNat, by omega⟩
 obtain ⟨w, rfl⟩ : ∃ w : Nat, y1 = w := ⟨y1.toNat, by omega⟩
 have hqin : ((q : Nat) : Int).toNat = q := Int.toNat_natCast _
 have hnew := hset w hx1 rfl (by omega) (by unfold okB; rw [hkn]; simp [ hx1, hy1, hy2])
 simp only [hqin] at hnew
 refine EvC.seq ?_
 apply EvC.seq
 apply EvC.trd
 ·simp only [go_sem, d1, d2] <;> rfl
 ·simp
 refine EvC.cond_false (by simp only [go_sem] <;> rfl) ?_
 apply EvC.trd
 ·simp only [go_sem, d1, d2, d3] <;> rfl
 ·simp
 refine EvC.cond_false (by simp only [go_sem] <;> rfl) ?_
 refine EvC.seq (EvC.rg (by simp only [go_sem, d1, d2] <;> rfl) (by simp) ?_)
 refine EvC.cond_true (by simp only [go_sem] <;> rfl) ?_
 have hsq : st[q]? = some (stN st q) := by
  unfold stN
  rw [List.getElem?_eq_getElem (by rw [h2.len]; omega)]; rfl
 have hm3 : (st.map natC).set q [.sc (.int .i64 w)] = (st.set q w).map natC := by rw [List.map_set]; rfl
 refine EvC.rg (by simp only [go_sem, hqin, hsq, natC, List.drop_succ_cons, List.drop_zero, hm3] <;> rfl) (by simp; have := h2.len; omega) ?_
 refine EvC.rg (by simp only [go_sem] <;> rfl) (by exact inI64_of (by omega) (by omega)) ?_
 exact ⟨[(0, 0)], (i + 1, st.set q w), rfl, (by simp only [go_sem, Mach.cells, Int.natCast_add, Int.natCast_one, norefs_natC] <;> rfl), ⟨by simp only; omega, hnew⟩, by simp only; omega⟩
end Go.Avl
namespace Go.Avl
open Go Go.Proofs.Try
set_option maxRecDepth 10000
set_option linter.unusedSimpArgs false
def parT (t : Mach) (n : Nat) : Nat × Nat := (((List.range n).flatMap fun p => (List.range t.ins.toNat).filterMap fun i => if (eT t p i).1 = (n : Int) then some (p, i) else none).head?).getD (0, 0)
theorem parT_mem {t : Mach} {n p i : Nat} : (p, i) ∈ ((List.range n).flatMap fun p => (List.range t.ins.toNat).filterMap fun i => if (eT t p i).1 = (n : Int) then some (p, i) else none) ↔ p < n ∧ (i : Int) < t.ins ∧ (eT t p i).1 = n := by
 rw [List.mem_flatMap]
 constructor
 ·rintro ⟨q, hq, h⟩
  obtain ⟨j, hj, h⟩ := List.mem_filterMap.1 h
  split at h
  ·rename_i he
   cases h
   exact ⟨List.mem_range.1 hq, by have := List.mem_range.1 hj; omega, he⟩
  ·cases h
 ·rintro ⟨h1, h2, h3⟩
  exact ⟨p, List.mem_range.2 h1, List.mem_filterMap.2 ⟨i, List.mem_range.2 (by omega), if_pos h3⟩⟩
theorem parT_eq {t : Mach} (tp : TP t) {n p i : Nat} (h1 : p < n) (h2 : (i : Int) < t.ins) (h3 : (eT t p i).1 = (n : Int)) : parT t n = (p, i) := by
 unfold parT
 have hm := parT_mem.2 ⟨h1, h2, h3⟩
 cases hl : ((List.range n).flatMap fun p => (List.range t.ins.toNat).filterMap fun i => if (eT t p i).1 = (n : Int) then some (p, i) else none) with
 | nil => rw [hl] at hm; cases hm
 | cons x l =>
   obtain ⟨q, j⟩ := x
   have hx : (q, j) ∈ ((List.range n).flatMap fun p => (List.range t.ins.toNat).filterMap fun i => if (eT t p i).1 = (n : Int) then some (p, i) else none) := by rw [hl]; simp
   obtain ⟨k1, k2, k3⟩ := parT_mem.1 hx
   have := tp.uniq p i q j (by omega) (by omega)
   simp [this.1, this.2]
theorem parT_zero (t : Mach) : parT t 0 = (0, 0) := rfl
theorem parT_lt {t : Mach} (v : TV t) (tp : TP t) {n : Nat} (h1 : 1 ≤ n) (h2 : n < t.rows.length) : (parT t n).1 < n ∧ ((parT t n).2 : Int) < t.ins := by
 obtain ⟨p, i, k1, k2, k3⟩ := tp.has n h1 h2
 rw [parT_eq tp k1 k2 k3]
 exact ⟨k1, k2⟩
theorem parT_in {t : Mach} (v : TV t) (tp : TP t) {n : Nat} (h2 : n < t.rows.length) : (parT t n).1 ≤ n ∧ ((parT t n).2 : Int) < t.ins := by
 have := v.ins
 by_cases h : n = 0
 ·subst h; rw [parT_zero]; exact ⟨Nat.le_refl _, by simp only; omega⟩
 ·have := parT_lt v tp (by omega) h2
  omega
def clashN (t : Mach) (m n i : Nat) : Bool := clashE (eT t m i) (eT t n i)
def wrongN (t : Mach) (c : List Nat) (k m : Nat) : Bool := decide (stN c m = stN c (parT t c.length).1) && decide ((eT t m (parT t c.length).2).1 ≠ -1) && decide ((eT t m (parT t c.length).2).1 < (c.length : Int)) && !decide (stN c (eT t m (parT t c.length).2).1.toNat = k)
def possM (t : Mach) (c : List Nat) (k m : Nat) : Bool := !(decide (stN c m = k) && (List.range t.ins.toNat).any (clashN t m c.length)) && !wrongN t c k m
def possB (t : Mach) (c : List Nat) (k : Nat) : Bool := (List.range c.length).all (possM t c k)
theorem any_false_of {p : Nat → Bool} {n : Nat} (h : ∀ i, i < n → p i = false) : (List.range n).any p = false := by
 rw [List.any_eq_false]
 intro i hi
 rw [h i (List.mem_range.1 hi)]; simp
theorem possB_true {t : Mach} {c : List Nat} {k : Nat} (h : ∀ m, m < c.length → possM t c k m = true) : possB t c k = true := by
 unfold possB
 rw [List.all_eq_true]
 exact fun m hm => h m (List.mem_range.1 hm)
theorem possB_false {t : Mach} {c : List Nat} {k m : Nat} (hm : m < c.length) (h : possM t c k m = false) : possB t c k = false := by
 unfold possB
 rw [List.all_eq_false]
 exact ⟨m, List.mem_range.2 hm, by rw [h]; simp⟩
theorem possM_clash {t : Mach} {c : List Nat} {k m i : Nat} (h1 : stN c m = k) (hi : (i : Int) < t.ins) (h2 : clashN t m c.length i = true) : possM t c k m = false := by
 unfold possM
 have : (List.range t.ins.toNat).any (clashN t m c.length) = true := List.any_eq_true.2 ⟨i, List.mem_range.2 (by omega), h2⟩
 rw [this, decide_eq_true h1]; rfl
theorem possM_noclash {t : Mach} {c : List Nat} {k m : Nat} (h : stN c m = k → ∀ i : Nat, (i : Int) < t.ins → clashN t m c.length i = false) : possM t c k m = !wrongN t c k m := by
 unfold possM
 by_cases hk : stN c m = k
 ·rw [any_false_of (fun i hi => h hk i (by omega)), Bool.and_false]; rfl
 ·rw [decide_eq_false hk]; rfl
theorem stN_get {c : List Nat} {m : Nat} (h : m < c.length) : c[m]? = some (stN c m) := by
 unfold stN
 rw [List.getElem?_eq_getElem h]; rfl
end Go.Avl
namespace Go.Avl
open Go Go.Proofs.Try
set_option maxRecDepth 10000
set_option linter.unusedSimpArgs false
def frT (t : Mach) : List (Nat × Nat) := (List.range t.rows.length).map (parT t)
def coO (t : Mach) (cv : AV) (fuel : Int) (sp : Bool) : RObj :=
 .cells [.sc (.int .i64 t.ins), .sc (.int .i64 t.outs), .sl t.nl (t.rows.map rowC) .unk, .sl false ((frT t).map prC) .full, cv, .sc (.int .i64 fuel), .sc (.bool sp)]
def coM (t : Mach) (cv : AV) (E : List Nat) (fuel : Int) (sp : Bool) : Mem := [(0, coO t cv fuel sp), (1, .arr 1 (E.map natC) false)]
def ColOk (cv : AV) (E c : List Nat) : Prop :=
 (c = [] ∧ E = [] ∧ cv = .tl 1 0 true) ∨ (cv = .tv 1 E.length 0 c.length .rest ∧ E.take c.length = c ∧ E ≠ [] ∧ c.length ≤ E.length)
set_option maxHeartbeats 8000000 in
theorem possible77_body {t : Mach} (v : TV t) (tp : TP t) {c E : List Nat} {cv : AV} (hc : ColOk cv E c) (hn : c.length < t.rows.length) (k : Nat) (fuel : Int) (sp : Bool) {R : AV → Mem → Nat → Prop}
  (hR : R (.sc (.bool (possB t c k))) (coM t cv E fuel sp) 3) : BodyIs prog 77 [.rf 0 0, .sc (.int .i64 k)] (coM t cv E fuel sp) 3 R := by
 have hrw := v.rows
 have hin := v.ins
 refine BodyIs.of (nv := 12) (hid := [4, 5, 6, 7, 8, 9, 10, 11, 27, 28, 29, 30, 36, 44, 45, 46, 47, 63, 74, 105]) func77 rfl (by kernel_rfl) (by simp [ntmps77]) fun h0 => ?_
 rw [ntmps77, results77]
 unfold coM coO at *
 obtain ⟨hp1, hp2⟩ := parT_in v tp hn
 have hwr : ∀ m, wrongN t c k m = (decide (stN c m = stN c (parT t c.length).1) && decide ((eT t m (parT t c.length).2).1 ≠ -1) && decide ((eT t m (parT t c.length).2).1 < (c.length : Int)) && !decide (stN c (eT t m (parT t c.length).2).1.toNat = k)) := fun _ => rfl
 have hfr : (frT t)[c.length]? = some (parT t c.length) := by unfold frT; rw [List.getElem?_map, List.getElem?_range hn]; rfl
 have hfl : ((frT t).map prC).length = t.rows.length := by simp [frT]
 rcases hc with ⟨rfl, rfl, rfl⟩ | ⟨rfl, hE1, hE2, hE3⟩
 ·rw [show possB t [] k = true from rfl] at hR
  rw [show ([] : List Nat).length = 0 from rfl, parT_zero] at hfr
  refine EvC.seq (EvC.rg (by simp only [go_sem] <;> rfl) (by simp) ?_)
  refine EvC.seq (EvC.rg (by simp only [go_sem] <;> rfl) (by simp) ?_)
  refine EvC.seq (EvC.rg (by simp only [go_sem, hfr, hfl, prC, Int.natCast_zero] <;> rfl) (by simp [hfl]) ?_)
  refine EvC.seq ?_
  refine EvC.seq (EvC.rg (by simp only [go_sem] <;> rfl) (by simp) ?_)
  refine EvC.block ?_
  refine EvC.loopS (σ := Unit) (fun _ => ⟨[(0, .rf 0 0), (27, .tl 1 0 true), (28, .sc (.int .i64 0)), (29, .sc (.int .i64 0))], [], [(0, .cells [.sc (.int .i64 t.ins), .sc (.int .i64 t.outs), .sl t.nl (t.rows.map rowC) .unk, .sl false ((frT t).map prC) .full, .tl 1 0 true, .sc (.int .i64 fuel), .sc (.bool sp)]), (1, .arr 1 [] false)], 3⟩) (fun _ => 0) (fun _ => True) [0, 27, 28, 29] 3 ?_ ?_
  ·exact ⟨[(0, 0), (1, 1)], (), rfl, (by simp only [go_sem] <;> rfl), trivial⟩
  intro _ _
  refine EvC.seq (EvC.rg (by simp only [go_sem] <;> rfl) (by simp) ?_)
  refine EvC.seq ?_
  refine EvC.cond_false (by simp only [go_sem] <;> rfl) ?_
  refine EvC.exit ?_
  refine EvC.seq (EvC.rg (by simp only [go_sem] <;> rfl) (by simp) ?_)
  refine EvC.gcE (st2 := ⟨[(4, .sc (.bool true))], [], [(0, .cells [.sc (.int .i64 t.ins), .sc (.int .i64 t.outs), .sl t.nl (t.rows.map rowC) .unk, .sl false ((frT t).map prC) .full, .tl 1 0 true, .sc (.int .i64 fuel), .sc (.bool sp)]), (1, .arr 1 [] false)], 3⟩) [4] [(0, 0), (1, 1)] 3 rfl (by simp only [go_sem] <;> rfl) ?_
  refine EvC.ret ⟨.inl rfl, _, (by simp only [go_sem] <;> rfl), ?_⟩
  exact hR
 obtain ⟨n, hnd⟩ : ∃ n, n = c.length := ⟨_, rfl⟩
 have hget : ∀ q, q < n → E[q]? = some (stN c q) := fun q hq => by
  have e : (E.take c.length)[q]? = E[q]? := List.getElem?_take_of_lt (by omega)
  rw [hE1] at e
  rw [← e]
  exact stN_get (by omega)
 rw [← hnd] at hn hp1 hp2 hfr hE3 hR ⊢
 generalize hpj : parT t n = pj at hp1 hp2 hfr
 have hwr : ∀ m, wrongN t c k m = (decide (stN c m = stN c pj.1) && decide ((eT t m pj.2).1 ≠ -1) && decide ((eT t m pj.2).1 < (n : Int)) && !decide (stN c (eT t m pj.2).1.toNat = k)) := fun m => by rw [hwr, ← hnd, hpj]
 have hp0 : n ≠ 0 → pj.1 < n := fun h => by rw [← hpj]; exact (parT_lt v tp (by omega) hn).1
 obtain ⟨p, j⟩ := pj
 simp only at hp1 hp2 hwr hp0
 have hpin : (p : Int).toNat = p := Int.toNat_natCast p
 have hjin : (j : Int).toNat = j := Int.toNat_natCast j
 have hnin : (n : Int).toNat = n := Int.toNat_natCast n
 have hElen : ((E.map natC).take n).length = n := by simp; omega
 refine EvC.seq (EvC.rg (by simp only [go_sem] <;> rfl) (by simp) ?_)
 refine EvC.seq (EvC.rg (by simp only [go_sem, hElen] <;> rfl) (by simp) ?_)
 refine EvC.seq (EvC.rg (by simp only [go_sem, hfr, hfl, hnin, prC] <;> rfl) (by simp [hfl]; try omega) ?_)
 refine EvC.frzB 17 (by simp only [go_sem, norefs_natC] <;> rfl) ?_
 refine EvC.seq ?_
 refine EvC.seq (EvC.rg (by simp only [go_sem, hElen] <;> rfl) (by simp) ?_)
 refine EvC.block ?_
 refine EvC.loopS (σ := Nat) (fun m => ⟨[(0, .rf 0 0), (1, .sc (.int .i64 k)), (5, .sc (.int .i64 n)), (6, .ia [.sc (.int .i64 p), .sc (.int .i64 j)]), (27, .tv 1 E.length 0 n .rest), (28, .sc (.int .i64 n)), (29, .sc (.int .i64 m))], [], [(0, .cells [.sc (.int .i64 t.ins), .sc (.int .i64 t.outs), .sl t.nl (t.rows.map rowC) .unk, .sl false ((frT t).map prC) .full, .tv 1 E.length 0 n .rest, .sc (.int .i64 fuel), .sc (.bool sp)]), (1, .arr 1 (E.map natC) false)], 3⟩) (fun m => n - m) (fun m => m ≤ n ∧ ∀ m', m' < m → possM t c k m' = true) [0, 1, 5, 6, 27, 28, 29] 3 ?_ ?_
 ·exact ⟨[(0, 0), (1, 1)], 0, rfl, (by simp only [go_sem, norefs_natC, Int.natCast_zero] <;> rfl), Nat.zero_le _, fun _ h => absurd h (Nat.not_lt_zero _)⟩
 rintro m ⟨h1, h2⟩
 have hmin : (m : Int).toNat = m := Int.toNat_natCast m
 refine EvC.seq (EvC.rg (by simp only [go_sem] <;> rfl) (by simp) ?_)
 refine EvC.seq ?_
 refine EvC.cond (by simp only [go_sem] <;> rfl) (fun hc => ?_) (fun hc => ?_)
 rotate_left
 ·
  have hm : ¬ m < n := by simpa using hc
  rw [possB_true fun m' hm' => h2 m' (by omega)] at hR
  refine EvC.exit ?_
  refine EvC.seq (EvC.rg (by simp only [go_sem] <;> rfl) (by simp) ?_)
  refine EvC.gcE (st2 := ⟨[(4, .sc (.bool true))], [], [(0, .cells [.sc (.int .i64 t.ins), .sc (.int .i64 t.outs), .sl t.nl (t.rows.map rowC) .unk, .sl false ((frT t).map prC) .full, .tv 1 E.length 0 n .rest, .sc (.int .i64 fuel), .sc (.bool sp)]), (1, .arr 1 (E.map natC) false)], 3⟩) [4] [(0, 0), (1, 1)] 3 rfl (by simp only [go_sem, norefs_natC] <;> rfl) ?_
  refine EvC.ret ⟨.inl rfl, _, (by simp only [go_sem] <;> rfl), ?_⟩
  exact hR
 have hm : m < n := by simpa using hc
 clear hc
 have hmE := hget m hm
 have hp0 := hp0 (by omega)
 have hnext : possM t c k m = true → ∀ m', m' < m + 1 → possM t c k m' = true := fun h m' hm' => by
  by_cases e : m' = m
  ·rw [e]; exact h
  ·exact h2 m' (by omega)
 have hkd : decide ((stN c m : Int) = (k : Int)) = decide (stN c m = k) := decide_eq_decide.2 (by omega)
 refine EvC.skip ?_
 refine EvC.seq ?_
 refine EvC.block ?_
 refine EvC.seq (EvC.rg (by simp only [go_sem, hmE, hmin, natC, hElen] <;> rfl) (by simp; try omega) ?_)
 refine EvC.seq ?_
 refine EvC.seq (EvC.rg (by simp only [go_sem] <;> rfl) (by simp) ?_)
 by_cases hk : stN c m = k
 rotate_left
 ·rw [decide_eq_false hk] at hkd
  refine EvC.cond_false (by simp only [go_sem, hkd] <;> rfl) ?_
  refine EvC.skip ?_
  have hnc : stN c m = k → ∀ i : Nat, (i : Int) < t.ins → clashN t m c.length i = false := fun h => absurd h hk
  have hpm := possM_noclash (t := t) (c := c) (k := k) (m := m) hnc
  rw [hwr] at hpm
  obtain ⟨A, hA, hAl, hAi⟩ := row_get v (n := m) (i := j) (by omega) hp2
  have eA := v.edge (n := m) (i := j) (by omega) hp2
  generalize eT t m j = e at hAi hpm eA
  obtain ⟨e1, e2⟩ := e
  simp only at hpm eA
  have hgp := stN_get (c := c) (m := p) (by omega)
  have hgpE : E[p]? = some (stN c p) := hget p (by omega)
  have hgm2 : decide ((stN c m : Int) = (stN c p : Int)) = decide (stN c m = stN c p) := decide_eq_decide.2 (by omega)
  apply EvC.seq
  apply EvC.drd mixed
  ·simp only [go_sem, hpin, hgpE, natC, hgm2, hElen] <;> rfl
  ·simp; try omega
  ·kernel_rfl
  by_cases g1 : stN c m = stN c p
  rotate_left
  ·have g1 := decide_eq_false g1
   rw [g1] at hpm hgm2
   refine EvC.cond_false (by simp only [go_sem, g1] <;> rfl) ?_
   refine EvC.skip ?_
   refine EvC.rg (by simp only [go_sem] <;> rfl) (by exact inI64_of (by omega) (by omega)) ?_
   exact ⟨[(0, 0), (1, 1)], m + 1, rfl, (by simp only [go_sem, norefs_natC, Int.natCast_add, Int.natCast_one] <;> rfl), ⟨hm, hnext hpm⟩, by omega⟩
  have g1 := decide_eq_true g1
  rw [g1] at hpm hgm2
  refine EvC.cond_true (by simp only [go_sem, g1] <;> rfl) ?_
  apply EvC.seq
  apply EvC.drd mixed
  ·simp only [go_sem, hA, hAi, hmin, hjin, rowC, edgeC, List.length_map] <;> rfl
  ·simp; try omega
  ·kernel_rfl
  by_cases g2 : e1 = -1
  ·have d2 := decide_eq_true g2
   rw [decide_eq_false (show ¬ (e1 ≠ -1) from fun h => h g2)] at hpm
   have hg0 := hget e1.toNat (by omega)
   apply EvC.seq
   apply EvC.trd
   ·simp only [go_sem, d2, hg0, natC, hElen] <;> rfl
   ·simp; try omega
   refine EvC.cond_false (by simp only [go_sem] <;> rfl) ?_
   refine EvC.skip ?_
   refine EvC.rg (by simp only [go_sem] <;> rfl) (by exact inI64_of (by omega) (by omega)) ?_
   exact ⟨[(0, 0), (1, 1)], m + 1, rfl, (by simp only [go_sem, norefs_natC, Int.natCast_add, Int.natCast_one] <;> rfl), ⟨hm, hnext hpm⟩, by omega⟩
  have d2 := decide_eq_false g2
  rw [decide_eq_true (show e1 ≠ -1 from g2)] at hpm
  obtain ⟨q, rfl⟩ : ∃ q : Nat, e1 = q := ⟨e1.toNat, by omega⟩
  have hqin : (q : Int).toNat = q := Int.toNat_natCast q
  rw [hqin] at hpm
  by_cases g3 : q < n
  rotate_left
  ·have d3 := decide_eq_false (show ¬ (q : Int) < (n : Int) by omega)
   rw [d3] at hpm
   cases hgq : E[q]? with
   | none =>
     apply EvC.seq
     apply EvC.tr
     ·apply Tr.run
      ·simp only [go_sem, d2, d3, hgq, hqin, hElen] <;> rfl
      ·simp; try omega
      apply Tr.cons
      ·exact .skipv ((.sc (.int .i64 0))) rfl rfl (by simp only [go_sem] <;> rfl) (by simp only [go_sem] <;> rfl)
      apply Tr.done
      ·simp only [go_sem] <;> rfl
      ·simp
     refine EvC.cond_false (by simp only [go_sem] <;> rfl) ?_
     refine EvC.skip ?_
     refine EvC.rg (by simp only [go_sem] <;> rfl) (by exact inI64_of (by omega) (by omega)) ?_
     exact ⟨[(0, 0), (1, 1)], m + 1, rfl, (by simp only [go_sem, norefs_natC, Int.natCast_add, Int.natCast_one] <;> rfl), ⟨hm, hnext hpm⟩, by omega⟩
   | some xq =>
     apply EvC.seq
     apply EvC.trd
     ·simp only [go_sem, d2, d3, hgq, hqin, natC, hElen] <;> rfl
     ·simp; try omega
     refine EvC.cond_false (by simp only [go_sem] <;> rfl) ?_
     refine EvC.skip ?_
     refine EvC.rg (by simp only [go_sem] <;> rfl) (by exact inI64_of (by omega) (by omega)) ?_
     exact ⟨[(0, 0), (1, 1)], m + 1, rfl, (by simp only [go_sem, norefs_natC, Int.natCast_add, Int.natCast_one] <;> rfl), ⟨hm, hnext hpm⟩, by omega⟩
  have d3 := decide_eq_true (show (q : Int) < (n : Int) by omega)
  rw [d3] at hpm
  have hgq := hget q (by omega)
  have hgq2 : decide ((stN c q : Int) = (k : Int)) = decide (stN c q = k) := decide_eq_decide.2 (by omega)
  by_cases g4 : stN c q = k
  ·have d4 := decide_eq_true g4
   rw [d4] at hpm hgq2
   apply EvC.seq
   apply EvC.trd
   ·simp only [go_sem, d2, d3, hgq, hqin, hgq2, natC, hElen] <;> rfl
   ·simp; try omega
   refine EvC.cond_false (by simp only [go_sem] <;> rfl) ?_
   refine EvC.skip ?_
   refine EvC.rg (by simp only [go_sem] <;> rfl) (by exact inI64_of (by omega) (by omega)) ?_
   exact ⟨[(0, 0), (1, 1)], m + 1, rfl, (by simp only [go_sem, norefs_natC, Int.natCast_add, Int.natCast_one] <;> rfl), ⟨hm, hnext hpm⟩, by omega⟩
  have d4 := decide_eq_false g4
  rw [d4] at hpm hgq2
  rw [possB_false (m := m) (by omega) hpm] at hR
  apply EvC.seq
  apply EvC.trd
  ·simp only [go_sem, d2, d3, hgq, hqin, hgq2, natC, hElen] <;> rfl
  ·simp; try omega
  refine EvC.cond_true (by simp only [go_sem] <;> rfl) ?_
  refine EvC.seq (EvC.rg (by simp only [go_sem] <;> rfl) (by simp) ?_)
  refine EvC.gcE (st2 := ⟨[(4, .sc (.bool false))], [], [(0, .cells [.sc (.int .i64 t.ins), .sc (.int .i64 t.outs), .sl t.nl (t.rows.map rowC) .unk, .sl false ((frT t).map prC) .full, .tv 1 E.length 0 n .rest, .sc (.int .i64 fuel), .sc (.bool sp)]), (1, .arr 1 (E.map natC) false)], 3⟩) [4] [(0, 0), (1, 1)] 3 rfl (by simp only [go_sem, norefs_natC] <;> rfl) ?_
  refine EvC.ret ⟨.inl rfl, _, (by simp only [go_sem] <;> rfl), ?_⟩
  exact hR
 rw [decide_eq_true hk] at hkd
 refine EvC.cond_true (by simp only [go_sem, hkd] <;> rfl) ?_
 obtain ⟨A, hA, hAl⟩ : ∃ A : Row, t.rows[m]? = some A ∧ (A.2.length : Int) = t.ins := by
  obtain ⟨A, h1, h2, _⟩ := row_get v (n := m) (i := 0) (by omega) (by omega)
  exact ⟨A, h1, h2⟩
 refine EvC.seq (EvC.rg (by simp only [go_sem, hA, hmin, rowC, List.length_map] <;> rfl) (by simp; try omega) ?_)
 refine EvC.block ?_
 refine EvC.loopS (σ := Nat) (fun i => ⟨[(0, .rf 0 0), (1, .sc (.int .i64 k)), (5, .sc (.int .i64 n)), (6, .ia [.sc (.int .i64 p), .sc (.int .i64 j)]), (7, .sc (.int .i64 m)), (8, .sc (.int .i64 (stN c m))), (27, .tv 1 E.length 0 n .rest), (28, .sc (.int .i64 n)), (29, .sc (.int .i64 m)), (44, .sl A.1 (A.2.map edgeC) .unk), (45, .sc (.int .i64 A.2.length)), (46, .sc (.int .i64 i))], [], [(0, .cells [.sc (.int .i64 t.ins), .sc (.int .i64 t.outs), .sl t.nl (t.rows.map rowC) .unk, .sl false ((frT t).map prC) .full, .tv 1 E.length 0 n .rest, .sc (.int .i64 fuel), .sc (.bool sp)]), (1, .arr 1 (E.map natC) false)], 3⟩) (fun i => t.ins.toNat - i) (fun i => (i : Int) ≤ t.ins ∧ ∀ i' : Nat, i' < i → clashN t m n i' = false) [0, 1, 5, 6, 7, 8, 27, 28, 29, 44, 45, 46] 3 ?_ ?_
 ·exact ⟨[(0, 0), (1, 1)], 0, rfl, (by simp only [go_sem, norefs_natC, Int.natCast_zero] <;> rfl), by omega, fun _ h => absurd h (Nat.not_lt_zero _)⟩
 rintro i ⟨h3, h4⟩
 have hiin : (i : Int).toNat = i := Int.toNat_natCast i
 refine EvC.seq (EvC.rg (by simp only [go_sem] <;> rfl) (by simp) ?_)
 refine EvC.seq ?_
 refine EvC.cond (by simp only [go_sem] <;> rfl) (fun hc => ?_) (fun hc => ?_)
 rotate_left
 ·
  have hi : ¬ (i : Int) < t.ins := by have : ¬ i < A.2.length := by simpa using hc
                                      omega
  refine EvC.exit ?_
  have hnc : stN c m = k → ∀ i : Nat, (i : Int) < t.ins → clashN t m c.length i = false := fun _ i' hi' => by rw [← hnd]; exact h4 i' (by omega)
  clear hA hAl
  have hpm := possM_noclash (t := t) (c := c) (k := k) (m := m) hnc
  rw [hwr] at hpm
  obtain ⟨A, hA, hAl, hAi⟩ := row_get v (n := m) (i := j) (by omega) hp2
  have eA := v.edge (n := m) (i := j) (by omega) hp2
  generalize eT t m j = e at hAi hpm eA
  obtain ⟨e1, e2⟩ := e
  simp only at hpm eA
  have hgp := stN_get (c := c) (m := p) (by omega)
  have hgpE : E[p]? = some (stN c p) := hget p (by omega)
  have hgm2 : decide ((stN c m : Int) = (stN c p : Int)) = decide (stN c m = stN c p) := decide_eq_decide.2 (by omega)
  apply EvC.seq
  apply EvC.drd mixed
  ·simp only [go_sem, hpin, hgpE, natC, hgm2, hElen] <;> rfl
  ·simp; try omega
  ·kernel_rfl
  by_cases g1 : stN c m = stN c p
  rotate_left
  ·have g1 := decide_eq_false g1
   rw [g1] at hpm hgm2
   refine EvC.cond_false (by simp only [go_sem, g1] <;> rfl) ?_
   refine EvC.skip ?_
   refine EvC.rg (by simp only [go_sem] <;> rfl) (by exact inI64_of (by omega) (by omega)) ?_
   exact ⟨[(0, 0), (1, 1)], m + 1, rfl, (by simp only [go_sem, norefs_natC, Int.natCast_add, Int.natCast_one] <;> rfl), ⟨hm, hnext hpm⟩, by omega⟩
  have g1 := decide_eq_true g1
  rw [g1] at hpm hgm2
  refine EvC.cond_true (by simp only [go_sem, g1] <;> rfl) ?_
  apply EvC.seq
  apply EvC.drd mixed
  ·simp only [go_sem, hA, hAi, hmin, hjin, rowC, edgeC, List.length_map] <;> rfl
  ·simp; try omega
  ·kernel_rfl
  by_cases g2 : e1 = -1
  ·have d2 := decide_eq_true g2
   rw [decide_eq_false (show ¬ (e1 ≠ -1) from fun h => h g2)] at hpm
   have hg0 := hget e1.toNat (by omega)
   apply EvC.seq
   apply EvC.trd
   ·simp only [go_sem, d2, hg0, natC, hElen] <;> rfl
   ·simp; try omega
   refine EvC.cond_false (by simp only [go_sem] <;> rfl) ?_
   refine EvC.skip ?_
   refine EvC.rg (by simp only [go_sem] <;> rfl) (by exact inI64_of (by omega) (by omega)) ?_
   exact ⟨[(0, 0), (1, 1)], m + 1, rfl, (by simp only [go_sem, norefs_natC, Int.natCast_add, Int.natCast_one] <;> rfl), ⟨hm, hnext hpm⟩, by omega⟩
  have d2 := decide_eq_false g2
  rw [decide_eq_true (show e1 ≠ -1 from g2)] at hpm
  obtain ⟨q, rfl⟩ : ∃ q : Nat, e1 = q := ⟨e1.toNat, by omega⟩
  have hqin : (q : Int).toNat = q := Int.toNat_natCast q
  rw [hqin] at hpm
  by_cases g3 : q < n
  rotate_left
  ·have d3 := decide_eq_false (show ¬ (q : Int) < (n : Int) by omega)
   rw [d3] at hpm
   cases hgq : E[q]? with
   | none =>
     apply EvC.seq
     apply EvC.tr
     ·apply Tr.run
      ·simp only [go_sem, d2, d3, hgq, hqin, hElen] <;> rfl
      ·simp; try omega
      apply Tr.cons
      ·exact .skipv ((.sc (.int .i64 0))) rfl rfl (by simp only [go_sem] <;> rfl) (by simp only [go_sem] <;> rfl)
      apply Tr.done
      ·simp only [go_sem] <;> rfl
      ·simp
     refine EvC.cond_false (by simp only [go_sem] <;> rfl) ?_
     refine EvC.skip ?_
     refine EvC.rg (by simp only [go_sem] <;> rfl) (by exact inI64_of (by omega) (by omega)) ?_
     exact ⟨[(0, 0), (1, 1)], m + 1, rfl, (by simp only [go_sem, norefs_natC, Int.natCast_add, Int.natCast_one] <;> rfl), ⟨hm, hnext hpm⟩, by omega⟩
   | some xq =>
     apply EvC.seq
     apply EvC.trd
     ·simp only [go_sem, d2, d3, hgq, hqin, natC, hElen] <;> rfl
     ·simp; try omega
     refine EvC.cond_false (by simp only [go_sem] <;> rfl) ?_
     refine EvC.skip ?_
     refine EvC.rg (by simp only [go_sem] <;> rfl) (by exact inI64_of (by omega) (by omega)) ?_
     exact ⟨[(0, 0), (1, 1)], m + 1, rfl, (by simp only [go_sem, norefs_natC, Int.natCast_add, Int.natCast_one] <;> rfl), ⟨hm, hnext hpm⟩, by omega⟩
  have d3 := decide_eq_true (show (q : Int) < (n : Int) by omega)
  rw [d3] at hpm
  have hgq := hget q (by omega)
  have hgq2 : decide ((stN c q : Int) = (k : Int)) = decide (stN c q = k) := decide_eq_decide.2 (by omega)
  by_cases g4 : stN c q = k
  ·have d4 := decide_eq_true g4
   rw [d4] at hpm hgq2
   apply EvC.seq
   apply EvC.trd
   ·simp only [go_sem, d2, d3, hgq, hqin, hgq2, natC, hElen] <;> rfl
   ·simp; try omega
   refine EvC.cond_false (by simp only [go_sem] <;> rfl) ?_
   refine EvC.skip ?_
   refine EvC.rg (by simp only [go_sem] <;> rfl) (by exact inI64_of (by omega) (by omega)) ?_
   exact ⟨[(0, 0), (1, 1)], m + 1, rfl, (by simp only [go_sem, norefs_natC, Int.natCast_add, Int.natCast_one] <;> rfl), ⟨hm, hnext hpm⟩, by omega⟩
  have d4 := decide_eq_false g4
  rw [d4] at hpm hgq2
  rw [possB_false (m := m) (by omega) hpm] at hR
  apply EvC.seq
  apply EvC.trd
  ·simp only [go_sem, d2, d3, hgq, hqin, hgq2, natC, hElen] <;> rfl
  ·simp; try omega
  refine EvC.cond_true (by simp only [go_sem] <;> rfl) ?_
  refine EvC.seq (EvC.rg (by simp only [go_sem] <;> rfl) (by simp) ?_)
  refine EvC.gcE (st2 := ⟨[(4, .sc (.bool false))], [], [(0, .cells [.sc (.int .i64 t.ins), .sc (.int .i64 t.outs), .sl t.nl (t.rows.map rowC) .unk, .sl false ((frT t).map prC) .full, .tv 1 E.length 0 n .rest, .sc (.int .i64 fuel), .sc (.bool sp)]), (1, .arr 1 (E.map natC) false)], 3⟩) [4] [(0, 0), (1, 1)] 3 rfl (by simp only [go_sem, norefs_natC] <;> rfl) ?_
  refine EvC.ret ⟨.inl rfl, _, (by simp only [go_sem] <;> rfl), ?_⟩
  exact hR
 have hi : (i : Int) < t.ins := by have : i < A.2.length := by simpa using hc
                                   omega
 clear hc
 refine EvC.skip ?_
 refine EvC.seq ?_
 refine EvC.block ?_
 have hAi : A.2[i]? = some (eT t m i) := by
  obtain ⟨A', h1, _, h2⟩ := row_get v (n := m) (i := i) (by omega) hi
  rw [hA] at h1; cases h1; exact h2
 obtain ⟨B, hB, hBl, hBi⟩ := row_get v (n := n) (i := i) hn hi
 have hck : clashN t m n i = clashE (eT t m i) (eT t n i) := rfl
 generalize eT t m i = x at hAi hck
 generalize eT t n i = y at hBi hck
 obtain ⟨x1, x2⟩ := x
 obtain ⟨y1, y2⟩ := y
 have hK := clash38_is x1 x2 y1 y2
 rw [← hck] at hK
 refine EvC.seq (EvC.rg (by simp only [go_sem, hAi, hiin, edgeC, List.length_map] <;> rfl) (by simp; try omega) ?_)
 refine EvC.frzB 7 (by simp only [go_sem, norefs_natC] <;> rfl) ?_
 apply EvC.seq
 apply EvC.drw mixed
 ·apply Tr.run
  ·simp only [go_sem, hA, hAi, hB, hBi, hmin, hnin, hiin, rowC, edgeC, List.length_map] <;> rfl
  ·simp; try omega
  apply Tr.cons
  ·exact .call rfl rfl (by simp only [go_sem] <;> rfl) (by simp only [go_sem] <;> rfl) (by simp only [go_sem] <;> rfl) (by simp only [go_sem] <;> rfl) (by simp only [go_sem] <;> rfl) (hK)
  apply Tr.done
  ·simp only [go_sem] <;> rfl
  ·simp
 ·kernel_rfl
 cases hcb : clashN t m n i with
 | true =>
   refine EvC.cond_true (by simp only [go_sem, hcb] <;> rfl) ?_
   rw [possB_false (m := m) (by omega) (possM_clash hk hi (by rw [← hnd]; exact hcb))] at hR
   refine EvC.seq (EvC.rg (by simp only [go_sem] <;> rfl) (by simp) ?_)
   refine EvC.gcE (st2 := ⟨[(4, .sc (.bool false))], [], [(0, .cells [.sc (.int .i64 t.ins), .sc (.int .i64 t.outs), .sl t.nl (t.rows.map rowC) .unk, .sl false ((frT t).map prC) .full, .tv 1 E.length 0 n .rest, .sc (.int .i64 fuel), .sc (.bool sp)]), (1, .arr 1 (E.map natC) false)], 3⟩) [4] [(0, 0), (1, 1)] 3 rfl (by simp only [go_sem, norefs_natC] <;> rfl) ?_
   refine EvC.ret ⟨.inl rfl, _, (by simp only [go_sem] <;> rfl), ?_⟩
   exact hR
 | false =>
 refine EvC.cond_false (by simp only [go_sem, hcb] <;> rfl) ?_
 refine EvC.skip ?_
 refine EvC.rg (by simp only [go_sem] <;> rfl) (by exact inI64_of (by omega) (by omega)) ?_
 exact ⟨[(0, 0), (1, 1)], i + 1, rfl, (by simp only [go_sem, norefs_natC, Int.natCast_add, Int.natCast_one] <;> rfl), ⟨by omega, fun i' hi' => by
  by_cases e : i' = i
  ·rw [e]; exact hcb
  ·exact h4 i' (by omega)⟩, by omega⟩
end Go.Avl
namespace Go.Avl
open Go Go.Proofs.Try
set_option maxRecDepth 10000
set_option linter.unusedSimpArgs false
inductive SR
 | found (c : List Nat) (fuel : Nat)
 | fail (fuel : Nat)
 | spent
def stepS (t : Mach) (rec : List Nat → Nat → Nat → SR) (c : List Nat) (used : Nat) (acc : SR) (number : Nat) : SR :=
 match acc with
 | .fail f => if f = 0 then .spent else if possB t c number = true then rec (c ++ [number]) (max used (number + 1)) (f - 1) else .fail (f - 1)
 | r => r
def srch (t : Mach) (k : Nat) : Nat → List Nat → Nat → Nat → SR
 | 0, c, _, fuel => .found c fuel
 | d + 1, c, used, fuel => (List.range (min k (used + 1))).foldl (stepS t (srch t k d) c used) (.fail fuel)
def SR.more : SR → Bool
 | .fail _ => true
 | _ => false
theorem foldl_stop {t : Mach} {rec : List Nat → Nat → Nat → SR} {c : List Nat} {used : Nat} {r : SR} (h : r.more = false) : ∀ l : List Nat, l.foldl (stepS t rec c used) r = r
 | [] => rfl
 | x :: l => by
   rw [List.foldl_cons]
   have : stepS t rec c used r x = r := by
    unfold stepS
    cases r with
    | fail f => cases h
    | _ => rfl
   rw [this]
   exact foldl_stop h l
theorem foldl_at {t : Mach} {rec : List Nat → Nat → Nat → SR} {c : List Nat} {used n i : Nat} {r0 r : SR} (hi : i < n) (h : stepS t rec c used ((List.range i).foldl (stepS t rec c used) r0) i = r) (hr : r.more = false) : (List.range n).foldl (stepS t rec c used) r0 = r := by
 have : List.range n = List.range i ++ (i :: (List.range n).drop (i + 1)) := by
  conv => lhs; rw [← List.take_append_drop i (List.range n)]
  rw [List.drop_eq_getElem_cons (by simpa using hi)]
  congr 1
  ·rw [List.take_range, Nat.min_eq_left (by omega)]
  ·simp
 rw [this, List.foldl_append, List.foldl_cons, h]
 exact foldl_stop hr _
theorem foldl_next {t : Mach} {rec : List Nat → Nat → Nat → SR} {c : List Nat} {used i : Nat} {r0 : SR} : (List.range (i + 1)).foldl (stepS t rec c used) r0 = stepS t rec c used ((List.range i).foldl (stepS t rec c used) r0) i := by
 rw [List.range_succ, List.foldl_append]; rfl
def SR.le (n : Nat) : SR → Prop
 | .found _ f => f ≤ n
 | .fail f => f ≤ n
 | .spent => True
theorem SR.le_mono {n m : Nat} (h : n ≤ m) : ∀ {r : SR}, r.le n → r.le m
 | .found _ _, h1 => Nat.le_trans h1 h
 | .fail _, h1 => Nat.le_trans h1 h
 | .spent, _ => trivial
theorem srch_fuel (t : Mach) (k : Nat) : ∀ (d : Nat) (c : List Nat) (used fuel : Nat), (srch t k d c used fuel).le fuel
 | 0, _, _, _ => Nat.le_refl _
 | d + 1, c, used, fuel => by
   rw [srch]
   have key : ∀ (l : List Nat) (r : SR), r.le fuel → (l.foldl (stepS t (srch t k d) c used) r).le fuel := fun l => by
    induction l with
    | nil => intro r h; exact h
    | cons x l ih =>
      intro r h
      rw [List.foldl_cons]
      refine ih _ ?_
      unfold stepS
      cases r with
      | found _ _ => exact h
      | spent => exact h
      | fail f =>
        simp only
        have h : f ≤ fuel := h
        split
        ·trivial
        ·split
         ·exact SR.le_mono (by omega) (srch_fuel t k d _ _ _)
         ·show f - 1 ≤ fuel; omega
   exact key _ _ (Nat.le_refl _)
def SROk (t : Mach) (c : List Nat) (r : SR) (b : Bool) (cv : AV) (E : List Nat) (f : Nat) (sp : Bool) : Prop :=
 E.length ≤ t.rows.length ∧ match r with
 | .found c' f' => b = true ∧ ColOk cv E c' ∧ f = f' ∧ sp = false
 | .fail f' => b = false ∧ ColOk cv E c ∧ f = f' ∧ sp = false
 | .spent => b = false ∧ sp = true ∧ (∃ c', ColOk cv E c') ∧ f = 0
theorem ColOk.ren {cv : AV} {E c : List Nat} (h : ColOk cv E c) : AV.deep (renLeaf [(0, 0), (1, 1)]) cv = cv := by
 rcases h with ⟨_, _, rfl⟩ | ⟨rfl, _⟩ <;> rfl
theorem ColOk.noref {cv : AV} {E c : List Nat} (h : ColOk cv E c) : cv.noref = false := by
 rcases h with ⟨_, _, rfl⟩ | ⟨rfl, _⟩ <;> rfl
set_option maxHeartbeats 8000000 in
theorem search64_body {t : Mach} (v : TV t) (tp : TP t) (k : Nat) (hk : k ≤ 64) : ∀ (d : Nat) (c E : List Nat) (cv : AV) (used fuel : Nat) {R : AV → Mem → Nat → Prop}, c.length + d = t.rows.length → ColOk cv E c → E.length ≤ t.rows.length → used ≤ 64 → fuel ≤ 1000000 →
  (∀ b cv' E' f' sp', SROk t c (srch t k d c used fuel) b cv' E' f' sp' → R (.sc (.bool b)) (coM t cv' E' f' sp') 3) →
  BodyIs prog 64 [.rf 0 0, .sc (.int .i64 k), .sc (.int .i64 used)] (coM t cv E fuel false) 3 R := by
 intro d
 induction d with
 | zero =>
   intro c E cv used fuel R hd hv hE _ _ hR
   have hrw := v.rows
   refine BodyIs.of (nv := 3) (hid := [6, 7, 19, 27, 34, 45, 46, 48, 59, 60, 64, 65, 69]) func64 rfl (by kernel_rfl) (by simp [ntmps64]) fun h0 => ?_
   rw [ntmps64, results64]
   unfold coM coO
   have hRR := hR true cv E fuel false ⟨hE, rfl, hv, rfl, rfl⟩
   refine EvC.seq (EvC.rg (by simp only [go_sem] <;> rfl) (by simp) ?_)
   refine EvC.seq ?_
   refine EvC.mergeC (α := Unit) (fun _ => ⟨[(0, .rf 0 0), (1, .sc (.int .i64 k)), (2, .sc (.int .i64 used)), (6, .sc (.bool false)), (19, .sc (.bool true))], [], coM t cv E fuel false, 3⟩) (fun _ => True) ?_ ?_
   ·have d1 := decide_eq_true (show (c.length : Int) = (t.rows.length : Int) by omega)
    rcases hv with ⟨rfl, rfl, rfl⟩ | ⟨rfl, hE1, hE2, hE3⟩
    ·simp at hd; omega
    ·have hElen : ((E.map natC).take c.length).length = c.length := by simp; omega
     apply EvC.drd mixed
     ·simp only [go_sem, List.length_map, hElen, d1] <;> rfl
     ·simp
     ·kernel_rfl
     exact ⟨rfl, (), trivial, fun c Q h => EvC.gcE [0, 1, 2, 6, 19] [(0, 0), (1, 1)] 3 rfl (by simp only [go_sem, coM, coO, norefs_natC] <;> rfl) h⟩
   intro _ _
   have hren := hv.ren
   have hnr := hv.noref
   refine EvC.cond_true (by simp only [go_sem] <;> rfl) ?_
   refine EvC.seq (EvC.rg (by simp only [go_sem] <;> rfl) (by simp) ?_)
   refine EvC.gcE (st2 := ⟨[(6, .sc (.bool true))], [], coM t cv E fuel false, 3⟩) [6] [(0, 0), (1, 1)] 3 rfl (by simp only [go_sem, coM, coO, norefs_natC, hnr, hren] <;> rfl) ?_
   refine EvC.ret ⟨.inl rfl, _, (by simp only [go_sem] <;> rfl), ?_⟩
   exact hRR
 | succ d ih =>
 intro c E cv used fuel R hd hv hE hu hfu hR
 have hrw := v.rows
 have hin := v.ins
 refine BodyIs.of (nv := 3) (hid := [6, 7, 19, 27, 34, 45, 46, 48, 59, 60, 64, 65, 69]) func64 rfl (by kernel_rfl) (by simp [ntmps64]) fun h0 => ?_
 rw [ntmps64, results64]
 unfold coM coO
 obtain ⟨N, hNd⟩ : ∃ N, N = t.rows.length := ⟨_, rfl⟩
 have hren := hv.ren
 have hnr := hv.noref
 refine EvC.seq (EvC.rg (by simp only [go_sem] <;> rfl) (by simp) ?_)
 refine EvC.seq ?_
 refine EvC.mergeC (α := Unit) (fun _ => ⟨[(0, .rf 0 0), (1, .sc (.int .i64 k)), (2, .sc (.int .i64 used)), (6, .sc (.bool false)), (19, .sc (.bool false))], [], coM t cv E fuel false, 3⟩) (fun _ => True) ?_ ?_
 ·have d1 := decide_eq_false (show ¬ (c.length : Int) = (t.rows.length : Int) by omega)
  rcases hv with ⟨rfl, rfl, rfl⟩ | ⟨rfl, hE1, hE2, hE3⟩
  ·have d1 := decide_eq_false (show ¬ (0 : Int) = (t.rows.length : Int) by omega)
   apply EvC.drd mixed
   ·simp only [go_sem, List.length_map, d1] <;> rfl
   ·simp
   ·kernel_rfl
   exact ⟨rfl, (), trivial, fun c Q h => EvC.gcE [0, 1, 2, 6, 19] [(0, 0), (1, 1)] 3 rfl (by simp only [go_sem, coM, coO] <;> rfl) h⟩
  ·have hElen : ((E.map natC).take c.length).length = c.length := by simp; omega
   apply EvC.drd mixed
   ·simp only [go_sem, List.length_map, hElen, d1] <;> rfl
   ·simp
   ·kernel_rfl
   exact ⟨rfl, (), trivial, fun c Q h => EvC.gcE [0, 1, 2, 6, 19] [(0, 0), (1, 1)] 3 rfl (by simp only [go_sem, coM, coO, norefs_natC] <;> rfl) h⟩
 intro _ _
 refine EvC.cond_false (by simp only [go_sem] <;> rfl) ?_
 refine EvC.skip ?_
 refine EvC.seq ?_
 refine EvC.seq (EvC.rg (by simp only [go_sem] <;> rfl) (by simp) ?_)
 refine EvC.block ?_
 obtain ⟨res, hres⟩ : ∃ r, r = srch t k (d + 1) c used fuel := ⟨_, rfl⟩
 rw [← hres] at hR
 have hfold : srch t k (d + 1) c used fuel = (List.range (min k (used + 1))).foldl (stepS t (srch t k d) c used) (.fail fuel) := rfl
 rw [hfold] at hres
 refine EvC.loopS (σ := Nat × AV × List Nat × Nat) (fun g => ⟨[(0, .rf 0 0), (1, .sc (.int .i64 k)), (2, .sc (.int .i64 used)), (7, .sc (.int .i64 g.1))], [], coM t g.2.1 g.2.2.1 g.2.2.2 false, 3⟩) (fun g => k - g.1)
  (fun g => g.1 ≤ min k (used + 1) ∧ ColOk g.2.1 g.2.2.1 c ∧ g.2.2.1.length ≤ N ∧ g.2.2.2 ≤ 1000000 ∧ (List.range g.1).foldl (stepS t (srch t k d) c used) (.fail fuel) = .fail g.2.2.2) [0, 1, 2, 7] 3 ?_ ?_
 ·exact ⟨[(0, 0), (1, 1)], (0, cv, E, fuel), rfl, (by simp only [go_sem, coM, coO, norefs_natC, hnr, hren, Int.natCast_zero] <;> rfl), Nat.zero_le _, hv, by rw [hNd]; exact hE, hfu, rfl⟩
 clear hv hren hnr hE hfold hfu cv E
 rintro ⟨i, cv, E, f⟩ ⟨h1, hv, hE, hfu, h2⟩
 simp only at h1 hv hE hfu h2 ⊢
 have hren := hv.ren
 have hnr := hv.noref
 have hlt1 : ((i : Int) < (k : Int)) ↔ i < k := by omega
 have hlt2 : ((i : Int) ≤ (used : Int)) ↔ i ≤ used := by omega
 have hend : ¬ (i < k ∧ i ≤ used) → res = .fail f := fun h => by
  rw [hres, ← h2, show i = min k (used + 1) by omega]
 refine EvC.seq ?_
 by_cases hg1 : i < k
 rotate_left
 ·apply EvC.seq
  apply EvC.trd
  ·simp only [go_sem, decide_eq_false (fun h => hg1 (hlt1.1 h))] <;> rfl
  ·simp
  refine EvC.cond_false (by simp only [go_sem] <;> rfl) ?_
  refine EvC.exit ?_
  refine EvC.seq (EvC.rg (by simp only [go_sem] <;> rfl) (by simp) ?_)
  have hRR := hR false cv E f false
  rw [hend fun h => hg1 h.1] at hRR
  refine EvC.gcE (st2 := ⟨[(6, .sc (.bool false))], [], coM t cv E f false, 3⟩) [6] [(0, 0), (1, 1)] 3 rfl (by simp only [go_sem, coM, coO, norefs_natC, hnr, hren] <;> rfl) ?_
  refine EvC.ret ⟨.inl rfl, _, (by simp only [go_sem] <;> rfl), ?_⟩
  exact hRR ⟨by omega, rfl, hv, rfl, rfl⟩
 have d1 := decide_eq_true (hlt1.2 hg1)
 by_cases hg2 : i ≤ used
 rotate_left
 ·apply EvC.seq
  apply EvC.trd
  ·simp only [go_sem, d1, decide_eq_false (fun h => hg2 (hlt2.1 h))] <;> rfl
  ·simp
  refine EvC.cond_false (by simp only [go_sem] <;> rfl) ?_
  refine EvC.exit ?_
  refine EvC.seq (EvC.rg (by simp only [go_sem] <;> rfl) (by simp) ?_)
  have hRR := hR false cv E f false
  rw [hend fun h => hg2 h.2] at hRR
  refine EvC.gcE (st2 := ⟨[(6, .sc (.bool false))], [], coM t cv E f false, 3⟩) [6] [(0, 0), (1, 1)] 3 rfl (by simp only [go_sem, coM, coO, norefs_natC, hnr, hren] <;> rfl) ?_
  refine EvC.ret ⟨.inl rfl, _, (by simp only [go_sem] <;> rfl), ?_⟩
  exact hRR ⟨by omega, rfl, hv, rfl, rfl⟩
 have d2 := decide_eq_true (hlt2.2 hg2)
 apply EvC.seq
 apply EvC.trd
 ·simp only [go_sem, d1, d2] <;> rfl
 ·simp
 refine EvC.cond_true (by simp only [go_sem] <;> rfl) ?_
 refine EvC.skip ?_
 refine EvC.seq ?_
 refine EvC.block ?_
 refine EvC.seq ?_
 refine EvC.seq (EvC.rg (by simp only [go_sem, coM, coO] <;> rfl) (by simp) ?_)
 have him : i < min k (used + 1) := by omega
 by_cases hf0 : f = 0
 ·subst hf0
  refine EvC.cond_true (by simp only [go_sem] <;> rfl) ?_
  have hst : res = .spent := by
   rw [hres]
   exact foldl_at him (by rw [h2]; rfl) rfl
  refine EvC.seq (EvC.rg (by simp only [go_sem] <;> rfl) (by simp) ?_)
  refine EvC.seq (EvC.rg (by simp only [go_sem] <;> rfl) (by simp) ?_)
  have hRR := hR false cv E 0 true
  rw [hst] at hRR
  refine EvC.gcE (st2 := ⟨[(6, .sc (.bool false))], [], coM t cv E 0 true, 3⟩) [6] [(0, 0), (1, 1)] 3 rfl (by simp only [go_sem, coM, coO, norefs_natC, hnr, hren] <;> rfl) ?_
  refine EvC.ret ⟨.inl rfl, _, (by simp only [go_sem] <;> rfl), ?_⟩
  exact hRR ⟨by omega, rfl, rfl, ⟨c, hv⟩, rfl⟩
 have dz := decide_eq_false (show ¬ (f : Int) = 0 by omega)
 refine EvC.cond_false (by simp only [go_sem, dz] <;> rfl) ?_
 refine EvC.skip ?_
 obtain ⟨f, rfl⟩ : ∃ g, f = g + 1 := ⟨f - 1, by omega⟩
 have hfs : ((f + 1 : Nat) : Int) - 1 = f := by omega
 have hfs2 : (f : Int) + ((1 : Nat) : Int) - 1 = f := by omega
 refine EvC.seq (EvC.rg (by simp only [go_sem, hfs, hfs2] <;> rfl) (by simp; exact inI64_of (by omega) (by omega)) ?_)
 have hstep : ∀ r, stepS t (srch t k d) c used (.fail (f + 1)) i = r → r.more = false → res = r := fun r h1 h3 => by
  rw [hres]
  exact foldl_at him (by rw [h2]; exact h1) h3
 have hnextf : ∀ f', stepS t (srch t k d) c used (.fail (f + 1)) i = .fail f' → (List.range (i + 1)).foldl (stepS t (srch t k d) c used) (.fail fuel) = .fail f' := fun f' h => by
  rw [foldl_next, h2, h]
 have hstv : stepS t (srch t k d) c used (.fail (f + 1)) i = if possB t c i = true then srch t k d (c ++ [i]) (max used (i + 1)) f else .fail f := by
  unfold stepS
  simp only
  rw [if_neg (by omega)]
  rfl
 clear h2
 refine EvC.seq ?_
 apply EvC.seq
 apply EvC.rs
 ·simp only [go_sem] <;> rfl
 ·simp
 refine XR.gcTo ⟨[(0, .rf 0 0), (1, .sc (.int .i64 k)), (2, .sc (.int .i64 used)), (7, .sc (.int .i64 i)), (45, .rf 0 0), (46, .sc (.int .i64 i))], [], coM t cv E f false, 3⟩ [0, 1, 2, 7, 45, 46] [(0, 0), (1, 1)] rfl (by simp only [go_sem, coM, coO, norefs_natC, hnr, hren] <;> rfl) ?_
 apply XR.callI rfl rfl (by simp only [go_sem] <;> rfl) (by simp only [go_sem] <;> rfl) (by simp only [go_sem] <;> rfl)
 refine possible77_body v tp hv (by omega) i f false ?_
 apply XR.done
 ·simp only [go_sem] <;> rfl
 ·simp
 cases hpb : possB t c i with
 | false =>
   rw [hpb, if_neg (by simp)] at hstv
   refine EvC.cond_true (by simp only [go_sem, hpb] <;> rfl) ?_
   refine EvC.exit ?_
   refine EvC.rg (by simp only [go_sem] <;> rfl) (by exact inI64_of (by omega) (by omega)) ?_
   exact ⟨[(0, 0), (1, 1)], (i + 1, cv, E, f), rfl, (by simp only [go_sem, coM, coO, norefs_natC, hnr, hren, Int.natCast_add, Int.natCast_one] <;> rfl), ⟨by simp only; omega, hv, hE, by simp only; omega, hnextf f hstv⟩, by simp only; omega⟩
 | true =>
 rw [hpb, if_pos rfl] at hstv
 refine EvC.cond_false (by simp only [go_sem, hpb] <;> rfl) ?_
 refine EvC.skip ?_
 have hcN : c.length < N := by omega
 refine EvC.mergeC (α := List Nat) (fun E' => ⟨[(0, .rf 0 0), (1, .sc (.int .i64 k)), (2, .sc (.int .i64 used)), (7, .sc (.int .i64 i))], [], coM t (.tv 1 E'.length 0 (c.length + 1) .rest) E' f false, 3⟩)
  (fun E' => E'.take (c.length + 1) = c ++ [i] ∧ E' ≠ [] ∧ c.length + 1 ≤ E'.length ∧ E'.length ≤ N) ?_ ?_
 ·rcases hv with ⟨rfl, rfl, rfl⟩ | ⟨rfl, hE1, hE2, hE3⟩
  ·have hr2 : room 1 8 = true := by simp only [room_eq]; decide
   refine EvC.rg (by simp only [go_sem, coM, coO] <;> rfl) (by simp [hr2]) ?_
   refine ⟨rfl, [i], ⟨rfl, by simp, by simp, by simp; omega⟩, fun c Q h => ?_⟩
   refine EvC.toTv 1 ?_
   refine EvC.gcE [0, 1, 2, 7] [(0, 0), (1, 1)] 3 rfl (by simp only [go_sem, coM, coO, norefs_natC, natC, List.map_cons, List.map_nil] <;> rfl) h
  ·have hElen : (E.map natC).length = E.length := List.length_map _
   by_cases hfull : c.length = E.length
   ·have hEc : E = c := by rw [← hE1, List.take_of_length_le (by omega)]
    have hr2 : room (E.length + 1) 8 = true := by simp only [room_eq, decide_eq_true_eq]; omega
    obtain ⟨E1, hE1d⟩ : ∃ E1, E1 = E ++ [i] := ⟨_, rfl⟩
    have hsn : E.map natC ++ [[.sc (.int .i64 (i : Int))]] = E1.map natC := by rw [hE1d]; simp [natC]
    have hl2 : E1.length = E.length + 1 := by rw [hE1d]; simp
    have ht2 : E1.take (c.length + 1) = c ++ [i] := by rw [hE1d, hEc, List.take_of_length_le (by simp)]
    refine EvC.rg (by simp only [go_sem, coM, coO, hfull, hElen, hsn] <;> rfl) (by simp [hr2]; try exact hE2) ?_
    exact ⟨rfl, E1, ⟨ht2, fun h => by rw [h] at hl2; simp at hl2, by omega, by omega⟩, fun c Q h => EvC.gcE [0, 1, 2, 7] [(0, 0), (1, 1)] 3 rfl (by simp only [go_sem, coM, coO, norefs_natC, hfull, hl2] <;> rfl) h⟩
   ·obtain ⟨E1, hE1d⟩ : ∃ E1, E1 = E.take c.length ++ i :: E.drop (c.length + 1) := ⟨_, rfl⟩
    have hsn : List.take c.length (E.map natC) ++ [.sc (.int .i64 (i : Int))] :: List.drop (c.length + 1) (E.map natC) = E1.map natC := by rw [hE1d]; simp [natC, List.map_take, List.map_drop]
    have hl2 : E1.length = E.length := by rw [hE1d]; simp; omega
    have ht2 : E1.take (c.length + 1) = c ++ [i] := by
     rw [hE1d, hE1, List.take_append]
     simp [List.take_of_length_le]
    refine EvC.rg (by simp only [go_sem, coM, coO, hfull, hElen, hsn] <;> rfl) (by simp; try omega) ?_
    exact ⟨rfl, E1, ⟨ht2, fun h => by rw [h] at hl2; exact hE2 (List.length_eq_zero_iff.1 hl2.symm), by omega, by omega⟩, fun c Q h => EvC.gcE [0, 1, 2, 7] [(0, 0), (1, 1)] 3 rfl (by simp only [go_sem, coM, coO, norefs_natC, hl2] <;> rfl) h⟩
 clear hv hE hren hnr cv E
 rintro E ⟨hE1, hE2, hE3, hE4⟩
 have hlast : (c ++ [i]).length = c.length + 1 := by simp
 have hv : ColOk (.tv 1 E.length 0 (c.length + 1) .rest) E (c ++ [i]) := .inr ⟨by rw [hlast], by rw [hlast]; exact hE1, hE2, by rw [hlast]; exact hE3⟩
 refine EvC.seq ?_
 apply EvC.seq
 apply EvC.rs
 ·simp only [go_sem, coM, coO] <;> rfl
 ·exact inI64_of (by omega) (by omega)
 have hmx : (if (used : Int) ≤ (i : Int) + 1 then (i : Int) + 1 else (used : Int)) = ((max used (i + 1) : Nat) : Int) := by
  split <;> omega
 refine XR.gcTo ⟨[(0, .rf 0 0), (1, .sc (.int .i64 k)), (2, .sc (.int .i64 used)), (7, .sc (.int .i64 i)), (59, .rf 0 0), (60, .sc (.int .i64 k)), (64, .sc (.int .i64 ((max used (i + 1) : Nat) : Int)))], [], coM t (.tv 1 E.length 0 (c.length + 1) .rest) E f false, 3⟩ [0, 1, 2, 7, 59, 60, 64] [(0, 0), (1, 1)] rfl (by rw [hmx]; simp only [go_sem, coM, coO, norefs_natC] <;> rfl) ?_
 apply XR.callI rfl rfl (by simp only [go_sem] <;> rfl) (by simp only [go_sem] <;> rfl) (by simp only [go_sem] <;> rfl)
 refine ih (c ++ [i]) E _ _ f (by rw [hlast]; omega) hv (by omega) (by omega) (by omega) ?_
 clear hv
 intro b cv E2 f' sp hok
 refine XR.nil ?_
 obtain ⟨hE, hok⟩ := hok
 cases hsr : srch t k d (c ++ [i]) (max used (i + 1)) f with
 | found c' fu =>
   rw [hsr] at hok hstv
   obtain ⟨rfl, hv, rfl, rfl⟩ := hok
   have hres := hstep _ hstv rfl
   have hren := hv.ren
   have hnr := hv.noref
   refine EvC.cond_true (by simp only [go_sem] <;> rfl) ?_
   refine EvC.seq (EvC.rg (by simp only [go_sem] <;> rfl) (by simp) ?_)
   have hRR := hR true cv E2 f' false
   rw [hres] at hRR
   refine EvC.gcE (st2 := ⟨[(6, .sc (.bool true))], [], coM t cv E2 f' false, 3⟩) [6] [(0, 0), (1, 1)] 3 rfl (by simp only [go_sem, coM, coO, norefs_natC, hnr, hren] <;> rfl) ?_
   refine EvC.ret ⟨.inl rfl, _, (by simp only [go_sem] <;> rfl), ?_⟩
   exact hRR ⟨hE, rfl, hv, rfl, rfl⟩
 | spent =>
   rw [hsr] at hok hstv
   obtain ⟨rfl, rfl, ⟨c', hv⟩, rfl⟩ := hok
   have hres := hstep _ hstv rfl
   have hren := hv.ren
   have hnr := hv.noref
   refine EvC.cond_false (by simp only [go_sem] <;> rfl) ?_
   refine EvC.skip ?_
   refine EvC.seq ?_
   refine EvC.seq (EvC.rg (by simp only [go_sem, coM, coO] <;> rfl) (by simp) ?_)
   refine EvC.cond_true (by simp only [go_sem] <;> rfl) ?_
   refine EvC.seq (EvC.rg (by simp only [go_sem] <;> rfl) (by simp) ?_)
   have hRR := hR false cv E2 0 true
   rw [hres] at hRR
   refine EvC.gcE (st2 := ⟨[(6, .sc (.bool false))], [], coM t cv E2 0 true, 3⟩) [6] [(0, 0), (1, 1)] 3 rfl (by simp only [go_sem, coM, coO, norefs_natC, hnr, hren] <;> rfl) ?_
   refine EvC.ret ⟨.inl rfl, _, (by simp only [go_sem] <;> rfl), ?_⟩
   exact hRR ⟨hE, rfl, rfl, ⟨c', hv⟩, rfl⟩
 | fail fu =>
   rw [hsr] at hok hstv
   obtain ⟨rfl, hv, rfl, rfl⟩ := hok
   refine EvC.cond_false (by simp only [go_sem] <;> rfl) ?_
   refine EvC.skip ?_
   refine EvC.seq ?_
   refine EvC.seq (EvC.rg (by simp only [go_sem, coM, coO] <;> rfl) (by simp) ?_)
   refine EvC.cond_false (by simp only [go_sem] <;> rfl) ?_
   refine EvC.skip ?_
   rcases hv with ⟨h, _⟩ | ⟨rfl, hF, hF0, hF1⟩
   ·simp at h
   rw [hlast] at hF hF1 ⊢
   have hcl1 : ((c.length : Int) + 1 - 1).toNat = c.length := by omega
   have hcl3 : ((c.length : Int) + ((1 : Nat) : Int) - 1) = c.length := by omega
   have hcl4 : (c.length : Int).toNat = c.length := Int.toNat_natCast _
   have hcl2 : ((E2.map natC).take (c.length + 1)).length = c.length + 1 := by simp; omega
   have hF3 : E2.take c.length = c := by
    have := congrArg (List.take c.length) hF
    rw [List.take_take, Nat.min_eq_left (by omega)] at this
    rw [this]; simp
   apply EvC.drd mixed
   ·simp only [go_sem, coM, coO, hcl1, hcl2, hcl3, hcl4, Int.natCast_add, Int.natCast_one] <;> rfl
   ·simp [inI64_of (x := (c.length : Int)) (by omega) (by omega)]; try exact hF0
   ·kernel_rfl
   refine EvC.rg (by simp only [go_sem] <;> rfl) (by exact inI64_of (by omega) (by omega)) ?_
   exact ⟨[(0, 0), (1, 1)], (i + 1, .tv 1 E2.length 0 c.length .rest, E2, f'), rfl, (by simp only [go_sem, coM, coO, norefs_natC, Int.natCast_add, Int.natCast_one] <;> rfl), ⟨by simp only; omega, .inr ⟨rfl, hF3, hF0, Nat.le_trans (Nat.le_succ _) hF1⟩, by rw [hNd]; exact hE, by simp only; have := srch_fuel t k d (c ++ [i]) (max used (i + 1)) f; rw [hsr] at this; exact Nat.le_trans this (by omega), hnextf f' hstv⟩, by simp only; omega⟩
end Go.Avl
namespace Go.Avl
open Go Go.Proofs.Try
set_option maxRecDepth 10000
set_option linter.unusedSimpArgs false
def edgeK (t : Mach) (c : List Nat) (s i : Nat) : Nat → Int × Int
 | 0 => (-1, -1)
 | n + 1 => if stN c n = s ∧ (eT t n i).1 ≠ -1 then ((stN c (eT t n i).1.toNat : Nat), (eT t n i).2) else edgeK t c s i n
def colW (t : Mach) (c : List Nat) (n i : Nat) (s j : Nat) : Int × Int := if j < i then edgeK t c s j (n + 1) else edgeK t c s j n
def initW (s i a b : Nat) : Int × Int := if a < s ∨ b < i then (-1, -1) else (0, 0)
theorem otab_congr {α : Type} (e : Nat) (C : α → List AV) {W W' : Nat → Nat → α} {n m : Nat} (h : ∀ s i, s < n → i < m → W s i = W' s i) : otab e C W n m = otab e C W' n m := by
 unfold otab
 congr 1
 refine List.map_congr_left fun s hs => ?_
 have hs := List.mem_range.1 hs
 unfold grow gcells
 congr 1
 refine List.map_congr_left fun i hi => ?_
 rw [h s i hs (List.mem_range.1 hi)]
theorem initW_set {s i n m : Nat} (hn : n = s + 1) : otab 2 edgeC (upd2 (initW s i) s i (-1, -1)) n m = otab 2 edgeC (initW s (i + 1)) n m := by
 refine otab_congr 2 edgeC fun a b ha hb => ?_
 unfold upd2 initW
 by_cases h : a = s ∧ b = i
 ·rw [if_pos h, if_pos (by omega)]
 ·rw [if_neg h]
  by_cases h2 : a < s ∨ b < i
  ·rw [if_pos h2, if_pos (by omega)]
  ·rw [if_neg h2, if_neg (by omega)]
theorem initW_next {s m : Nat} : otab 2 edgeC (initW s m) (s + 1) m = otab 2 edgeC (initW (s + 1) 0) (s + 1) m := by
 refine otab_congr 2 edgeC fun a b ha hb => ?_
 unfold initW
 rw [if_pos (by omega), if_pos (by omega)]
theorem initW_all {t : Mach} {c : List Nat} {s m : Nat} : otab 2 edgeC (initW s 0) s m = otab 2 edgeC (colW t c 0 0) s m := by
 refine otab_congr 2 edgeC fun a b ha hb => ?_
 unfold initW colW
 rw [if_pos (by omega), if_neg (by omega)]; rfl
theorem colW_next {t : Mach} {c : List Nat} {n k m : Nat} : otab 2 edgeC (colW t c n m) k m = otab 2 edgeC (colW t c (n + 1) 0) k m := by
 refine otab_congr 2 edgeC fun a b ha hb => ?_
 unfold colW
 rw [if_pos hb, if_neg (by omega)]
theorem colW_set {t : Mach} {c : List Nat} {n i k m : Nat} (he : (eT t n i).1 ≠ -1) : otab 2 edgeC (upd2 (colW t c n i) (stN c n) i ((stN c (eT t n i).1.toNat : Nat), (eT t n i).2)) k m = otab 2 edgeC (colW t c n (i + 1)) k m := by
 refine otab_congr 2 edgeC fun a b ha hb => ?_
 unfold upd2 colW
 by_cases h : a = stN c n ∧ b = i
 ·rw [if_pos h, if_pos (by omega), edgeK, if_pos (by rw [h.2]; exact ⟨h.1.symm, he⟩), h.2]
 ·rw [if_neg h]
  by_cases h2 : b < i
  ·rw [if_pos h2, if_pos (by omega)]
  ·rw [if_neg h2]
   by_cases h3 : b = i
   ·rw [if_pos (by omega), edgeK, if_neg (fun h4 => h ⟨h4.1.symm, h3⟩)]
   ·rw [if_neg (by omega)]
theorem colW_keep {t : Mach} {c : List Nat} {n i k m : Nat} (he : (eT t n i).1 = -1) : otab 2 edgeC (colW t c n i) k m = otab 2 edgeC (colW t c n (i + 1)) k m := by
 refine otab_congr 2 edgeC fun a b ha hb => ?_
 unfold colW
 by_cases h2 : b < i
 ·rw [if_pos h2, if_pos (by omega)]
 ·rw [if_neg h2]
  by_cases h3 : b = i
  ·rw [if_pos (by omega), edgeK, if_neg (fun h4 => h4.2 (by rw [h3]; exact he))]
  ·rw [if_neg (by omega)]
def colRes (t : Mach) (c : List Nat) (k : Nat) : AV := .ag [.sc (.int .i64 t.ins), .sc (.int .i64 t.outs), .sl false (rowsV (fun s i => edgeK t c s i t.rows.length) k t.ins.toNat) .full]
def colA (t : Mach) (c : List Nat) (fuel : Int) (sp : Bool) : AV := .ia [.sc (.int .i64 t.ins), .sc (.int .i64 t.outs), .sl t.nl (t.rows.map rowC) .unk, .sl false ((frT t).map prC) .full, .sl false (c.map natC) .unk, .sc (.int .i64 fuel), .sc (.bool sp)]
set_option maxHeartbeats 8000000 in
theorem machine65_is {t : Mach} (v : TV t) {c : List Nat} (hl : c.length = t.rows.length) {k : Nat} (hk : 1 ≤ k ∧ k ≤ 64) (hck : ∀ x ∈ c, x < k) (fuel : Int) (sp : Bool) : PureIs prog 65 [colA t c fuel sp, .sc (.int .i64 k)] (colRes t c k) := by
 have hrw := v.rows
 have hin := v.ins
 obtain ⟨I, hId⟩ : ∃ I, I = t.ins.toNat := ⟨_, rfl⟩
 have hI : t.ins = (I : Int) := by omega
 have hkin : (k : Int).toNat = k := Int.toNat_natCast k
 unfold colA colRes
 rw [← hId]
 refine PureIs.of (nv := 5) (hid := [4, 5, 6, 7, 8, 9, 10, 11, 23, 25, 26, 27, 28, 29, 44, 45, 46, 47, 48, 63, 64, 65, 66, 77, 78, 79, 80, 86]) func65 rfl (by kernel_rfl) (by simp [ntmps65]) fun _ => ?_
 rw [ntmps65, results65]
 refine EvC.seq (EvC.rg (by simp only [go_sem] <;> rfl) (by simp) ?_)
 have hrlz : (List.replicate k [AV.sl true [] .zer]).length = k := List.length_replicate
 apply EvC.seq
 apply EvC.drwA mixed
 ·apply Tr.done
  ·simp only [go_sem, hkin, hrlz] <;> rfl
  ·simp [room_eq]; omega
 ·kernel_rfl
 refine EvC.seq ?_
 have hzt : ((List.replicate k [AV.sl true [] .zer]).take k).length = k := by simp
 refine EvC.seq (EvC.rg (by simp only [go_sem, hrlz, hzt] <;> rfl) (by simp) ?_)
 refine EvC.block ?_
 have hk6 : k ≤ 1000000 := by omega
 have hz2 : (List.replicate k [AV.sl true [] .zer]).all AV.norefs = true := by simp [List.all_eq_true, AV.norefs, AV.noref]
 refine EvC.loopS (σ := Nat) (fun s => ⟨[(0, .ia [.sc (.int .i64 t.ins), .sc (.int .i64 t.outs), .sl t.nl (t.rows.map rowC) .unk, .sl false ((frT t).map prC) .full, .sl false (c.map natC) .unk, .sc (.int .i64 fuel), .sc (.bool sp)]), (4, .rf 1000200 0), (5, .rf 1000201 0), (27, .sc (.int .i64 k)), (28, .sc (.int .i64 s))], [],
  (1000200, .cells [.sc (.int .i64 0), .sc (.int .i64 0), .sl true [] .zer]) :: (1000201, .cells [.sc (.int .i64 t.ins), .sc (.int .i64 t.outs), .tv 1000202 k 0 k (.val k)]) :: (1000202, .arr 1 (opart I k s) false) :: otab 2 edgeC (initW s 0) s I, 3000000⟩) (fun s => k - s) (fun s => s ≤ k) [0, 4, 5, 27, 28] 3000000 ?_ ?_
 ·exact ⟨[(0, 1000200), (14, 1000201), (12, 1000202)], 0, rfl, (by simp only [go_sem, opart_zero, otab_zero, Int.natCast_zero, hz2, if_true] <;> rfl), Nat.zero_le _⟩
 intro s hs
 have hs6 : s ≤ 1000000 := by omega
 have htl := opart_len (m := I) hs
 have hsin : (s : Int).toNat = s := Int.toNat_natCast s
 refine EvC.seq (EvC.rg (by simp only [go_sem] <;> rfl) (by simp) ?_)
 refine EvC.seq ?_
 refine EvC.cond (by simp only [go_sem] <;> rfl) (fun hc => ?_) (fun hc => ?_)
 rotate_left
 ·
  obtain rfl : k = s := by have : ¬ s < k := by simpa using hc
                           omega
  refine EvC.exit ?_
  clear hs6 hsin
  rw [opart_all, initW_all (t := t) (c := c)]
  have hor : (ocell I k).map (fun c => c.map (AV.ren (osegK [(1000200, 1000200), (1000201, 1000201), (1000202, 1000202)] (k) []))) = ocell I k := ocell_ren (fun j hj => rlook_osegK_lo hj hk6 (A := [(1000200, 1000200), (1000201, 1000201), (1000202, 1000202)]) rfl)
  have hol := ocell_len I k
  have hotz : (ocell I k).take k = ocell I k := List.take_of_length_le (by omega)
  have hcl : (c.map natC).length = t.rows.length := by rw [List.length_map, hl]
  obtain ⟨N, hNd⟩ : ∃ N, N = t.rows.length := ⟨_, rfl⟩
  rw [← hNd] at hl hcl hrw
  refine EvC.seq ?_
  refine EvC.seq (EvC.rg (by simp only [go_sem, hcl] <;> rfl) (by simp) ?_)
  refine EvC.block ?_
  refine EvC.loopS (σ := Nat) (fun n => ⟨[(0, .ia [.sc (.int .i64 t.ins), .sc (.int .i64 t.outs), .sl t.nl (t.rows.map rowC) .unk, .sl false ((frT t).map prC) .full, .sl false (c.map natC) .unk, .sc (.int .i64 fuel), .sc (.bool sp)]), (4, .rf 1000200 0), (5, .rf 1000201 0), (63, .sl false (c.map natC) .unk), (64, .sc (.int .i64 N)), (65, .sc (.int .i64 n))], [],
   (1000200, .cells [.sc (.int .i64 0), .sc (.int .i64 0), .sl true [] .zer]) :: (1000201, .cells [.sc (.int .i64 t.ins), .sc (.int .i64 t.outs), .tv 1000202 k 0 k (.val k)]) :: (1000202, .arr 1 (ocell I k) false) :: otab 2 edgeC (colW t c n 0) k I, 3000000⟩) (fun n => N - n) (fun n => n ≤ N) [0, 4, 5, 63, 64, 65] 3000000 ?_ ?_
  ·exact ⟨(osegK [(1000200, 1000200), (1000201, 1000201), (1000202, 1000202)] (k) []), 0, (osegK_ok (A := [(1000200, 1000200), (1000201, 1000201), (1000202, 1000202)]) rfl rfl rfl hk6 (by omega)), (by simp only [go_sem, hI, rlook_osegK_hi hk6, List.cons_append, List.nil_append, List.append_nil, renMem_oK_cons hk6, otab_ren 2 norefs_edgeC, hor, ite_self, Int.natCast_add, Int.natCast_one, Int.natCast_zero] <;> rfl), Nat.zero_le _⟩
  intro n hn
  have hnin : (n : Int).toNat = n := Int.toNat_natCast n
  refine EvC.seq (EvC.rg (by simp only [go_sem] <;> rfl) (by simp) ?_)
  refine EvC.seq ?_
  refine EvC.cond (by simp only [go_sem] <;> rfl) (fun hc => ?_) (fun hc => ?_)
  rotate_left
  ·
   obtain rfl : n = N := by have : ¬ n < N := by simpa using hc
                            omega
   refine EvC.exit ?_
   obtain ⟨W, hW⟩ : ∃ W, W = colW t c n 0 := ⟨_, rfl⟩
   have hWe : rowsV (fun s i => edgeK t c s i n) k I = rowsV W k I := by
    rw [hW]
    unfold rowsV
    refine List.map_congr_left fun s _ => ?_
    have : gcells edgeC (fun i => edgeK t c s i n) I = gcells edgeC (colW t c n 0 s) I := by
     unfold gcells
     refine List.map_congr_left fun i _ => ?_
     unfold colW
     rw [if_neg (Nat.not_lt_zero _)]
    rw [this]
   rw [← hW]
   refine EvC.ofzAll k (fun i hi => ⟨2, gcells edgeC (W i) I, false, by simp only [mlook, o_ne (show i < 1000000 by omega), if_false, otab_look 2 edgeC W hi, go_sem], gcells_norefs norefs_edgeC _ _⟩) ?_
   have hfz := otab_fz 2 edgeC W k I
   obtain ⟨MM, hMM⟩ : ∃ MM : Mem, MM = (1000200, .cells [.sc (.int .i64 0), .sc (.int .i64 0), .sl true [] .zer]) :: (1000201, .cells [.sc (.int .i64 t.ins), .sc (.int .i64 t.outs), .tv 1000202 k 0 k (.val k)]) :: (1000202, .arr 1 (ocell I k) false) :: otabF 2 edgeC W k I := ⟨_, rfl⟩
   have hsn : (ocell I k).map (fun c => c.map (AV.deep (snap MM))) = rowsV W k I := ocell_snap (e := 2) (row := fun s => gcells edgeC (W s) I) (fun s hs => by
    rw [hMM]
    simp only [mlook, o_ne (show s < 1000000 by omega), if_false, otabF_look 2 edgeC W hs, go_sem]) (fun s _ => gcells_len _ _ _)
   rw [hMM] at hsn
   have hvl := rowsV_len W k I
   have hvn : (rowsV W k I).all AV.norefs = true := by simp [rowsV, List.all_eq_true, AV.norefs, AV.noref]
   have hmF : ∀ f, memMap f (otabF 2 edgeC W k I) = otabF 2 edgeC W k I := fun f => by rw [otabF, memMap_msegA, List.map_map]; rfl
   refine EvC.snapA 1000202 (by simp only [go_sem, ofzAll_cons hk6, hfz, hsn] <;> rfl) ?_
   refine EvC.frzD 1000202 (by simp only [go_sem, hvn, hvl, hmF] <;> rfl) ?_
   refine EvC.seq (EvC.rg (by simp only [go_sem] <;> rfl) (by simp) ?_)
   rw [← hNd, hWe]
   refine EvC.ret ⟨.inl rfl, _, (by simp only [go_sem] <;> rfl), ?_, rfl⟩
   simp only [go_sem]
  have hnN : n < N := by simpa using hc
  clear hc
  refine EvC.skip ?_
  refine EvC.seq ?_
  refine EvC.block ?_
  have hgn := stN_get (c := c) (m := n) (by omega)
  have hck1 : stN c n < k := hck _ (List.mem_of_getElem? hgn)
  have hsin : ((stN c n : Nat) : Int).toNat = stN c n := Int.toNat_natCast _
  obtain ⟨A, hA, hAl⟩ : ∃ A : Row, t.rows[n]? = some A ∧ (A.2.length : Int) = t.ins := by
   obtain ⟨A, h1, h2, _⟩ := row_get v (n := n) (i := 0) (by omega) (by omega)
   exact ⟨A, h1, h2⟩
  have hAI : A.2.length = I := by omega
  refine EvC.seq (EvC.rg (by simp only [go_sem, hgn, hnin, natC, hcl] <;> rfl) (by simp; try omega) ?_)
  refine EvC.seq (EvC.rg (by simp only [go_sem, hA, hnin, rowC, List.length_map, hAI] <;> rfl) (by simp; try omega) ?_)
  refine EvC.block ?_
  refine EvC.loopS (σ := Nat) (fun i => ⟨[(0, .ia [.sc (.int .i64 t.ins), .sc (.int .i64 t.outs), .sl t.nl (t.rows.map rowC) .unk, .sl false ((frT t).map prC) .full, .sl false (c.map natC) .unk, .sc (.int .i64 fuel), .sc (.bool sp)]), (4, .rf 1000200 0), (5, .rf 1000201 0), (8, .sc (.int .i64 n)), (9, .sc (.int .i64 (stN c n))), (63, .sl false (c.map natC) .unk), (64, .sc (.int .i64 N)), (65, .sc (.int .i64 n)), (77, .sl A.1 (A.2.map edgeC) .unk), (78, .sc (.int .i64 I)), (79, .sc (.int .i64 i))], [],
   (1000200, .cells [.sc (.int .i64 0), .sc (.int .i64 0), .sl true [] .zer]) :: (1000201, .cells [.sc (.int .i64 t.ins), .sc (.int .i64 t.outs), .tv 1000202 k 0 k (.val k)]) :: (1000202, .arr 1 (ocell I k) false) :: otab 2 edgeC (colW t c n i) k I, 3000000⟩) (fun i => I - i) (fun i => i ≤ I) [0, 4, 5, 8, 9, 63, 64, 65, 77, 78, 79] 3000000 ?_ ?_
  ·exact ⟨(osegK [(1000200, 1000200), (1000201, 1000201), (1000202, 1000202)] (k) []), 0, (osegK_ok (A := [(1000200, 1000200), (1000201, 1000201), (1000202, 1000202)]) rfl rfl rfl hk6 (by omega)), (by simp only [go_sem, hI, rlook_osegK_hi hk6, List.cons_append, List.nil_append, List.append_nil, renMem_oK_cons hk6, otab_ren 2 norefs_edgeC, hor, ite_self, Int.natCast_add, Int.natCast_one, Int.natCast_zero] <;> rfl), Nat.zero_le _⟩
  intro i hi
  have hiin : (i : Int).toNat = i := Int.toNat_natCast i
  refine EvC.seq (EvC.rg (by simp only [go_sem] <;> rfl) (by simp) ?_)
  refine EvC.seq ?_
  refine EvC.cond (by simp only [go_sem] <;> rfl) (fun hc => ?_) (fun hc => ?_)
  rotate_left
  ·
   obtain rfl : i = I := by have : ¬ i < I := by simpa using hc
                            omega
   refine EvC.exit ?_
   refine EvC.rg (by simp only [go_sem] <;> rfl) (by exact inI64_of (by omega) (by omega)) ?_
   exact ⟨(osegK [(1000200, 1000200), (1000201, 1000201), (1000202, 1000202)] (k) []), n + 1, (osegK_ok (A := [(1000200, 1000200), (1000201, 1000201), (1000202, 1000202)]) rfl rfl rfl hk6 (by omega)), (by simp only [go_sem, hI, rlook_osegK_hi hk6, List.cons_append, List.nil_append, List.append_nil, renMem_oK_cons hk6, otab_ren 2 norefs_edgeC, hor, ite_self, Int.natCast_add, Int.natCast_one, Int.natCast_zero, colW_next] <;> rfl), hnN, by omega⟩
  have hiI : i < I := by simpa using hc
  clear hc
  refine EvC.skip ?_
  refine EvC.seq ?_
  refine EvC.block ?_
  have hAi : A.2[i]? = some (eT t n i) := by
   obtain ⟨A', h1, _, h2⟩ := row_get v (n := n) (i := i) (by omega) (by omega)
   rw [hA] at h1; cases h1; exact h2
  have eA := v.edge (n := n) (i := i) (by omega) (by omega)
  have hkeep := fun h => colW_keep (t := t) (c := c) (n := n) (i := i) (k := k) (m := I) h
  have hcs := fun h => colW_set (t := t) (c := c) (n := n) (i := i) (k := k) (m := I) h
  generalize eT t n i = e at hAi eA hkeep hcs
  obtain ⟨e1, e2⟩ := e
  simp only at eA hkeep hcs
  refine EvC.seq (EvC.rg (by simp only [go_sem, hAi, hiin, edgeC, List.length_map] <;> rfl) (by simp; try omega) ?_)
  have hmd : ∀ j, notO j = true → mdel (otab 2 edgeC (colW t c n i) k I) j = otab 2 edgeC (colW t c n i) k I := fun j hj => mdel_otab _ _ _ hk6 j hj
  refine EvC.frzB 3000004 (by simp only [go_sem, hmd 3000004 rfl] <;> rfl) ?_
  refine EvC.seq (EvC.rg (by simp only [go_sem] <;> rfl) (by simp) ?_)
  by_cases he : e1 = -1
  ·refine EvC.cond_false (by simp only [go_sem, decide_eq_true he] <;> rfl) ?_
   refine EvC.skip ?_
   refine EvC.rg (by simp only [go_sem] <;> rfl) (by exact inI64_of (by omega) (by omega)) ?_
   exact ⟨(osegK [(1000200, 1000200), (1000201, 1000201), (1000202, 1000202)] (k) []), i + 1, (osegK_ok (A := [(1000200, 1000200), (1000201, 1000201), (1000202, 1000202)]) rfl rfl rfl hk6 (by omega)), (by simp only [go_sem, hI, rlook_osegK_hi hk6, List.cons_append, List.nil_append, List.append_nil, renMem_oK_cons hk6, otab_ren 2 norefs_edgeC, hor, ite_self, Int.natCast_add, Int.natCast_one, Int.natCast_zero, hkeep he] <;> rfl), by omega, by omega⟩
  refine EvC.cond_true (by simp only [go_sem, decide_eq_false he] <;> rfl) ?_
  obtain ⟨q, rfl⟩ : ∃ q : Nat, e1 = q := ⟨e1.toNat, by omega⟩
  have hqin : (q : Int).toNat = q := Int.toNat_natCast q
  have hgq := stN_get (c := c) (m := q) (by omega)
  have hocg := ocell_get (m := I) hck1
  have hlk := otab_look 2 edgeC (colW t c n i) (m := I) hck1
  have hgi := gcells_get edgeC (colW t c n i (stN c n)) hiI
  have hcs := hcs he
  rw [hqin] at hcs
  have hset : mset (otab 2 edgeC (colW t c n i) k I) (2000000 + stN c n) (.arr 2 ((gcells edgeC (colW t c n i (stN c n)) I).set i [.sc (.int .i64 (stN c q)), .sc (.int .i64 e2)]) false) = otab 2 edgeC (colW t c n (i + 1)) k I := by
   rw [← hcs]; exact otab_set 2 edgeC (colW t c n i) ((stN c q : Nat), e2) hck1 hiI
  apply EvC.drd mixed
  ·simp only [go_sem, hotz, hol, hocg, hsin, hiin, hqin, hgq, natC, hcl, o_ne (show stN c n < 1000000 by omega), hlk, gcells_len, hgi, hset, edgeC, List.drop_succ_cons, List.drop_zero] <;> rfl
  ·simp [hol]; try omega
  ·exact confAll_slots (by simp [rdOk, slotsOf, opSlots, memless, Op.operands]) (by kernel_rfl)
  refine EvC.rg (by simp only [go_sem] <;> rfl) (by exact inI64_of (by omega) (by omega)) ?_
  exact ⟨(osegK [(1000200, 1000200), (1000201, 1000201), (1000202, 1000202)] (k) []), i + 1, (osegK_ok (A := [(1000200, 1000200), (1000201, 1000201), (1000202, 1000202)]) rfl rfl rfl hk6 (by omega)), (by simp only [go_sem, hI, rlook_osegK_hi hk6, List.cons_append, List.nil_append, List.append_nil, renMem_oK_cons hk6, otab_ren 2 norefs_edgeC, hor, ite_self, Int.natCast_add, Int.natCast_one, Int.natCast_zero] <;> rfl), by omega, by omega⟩
 have hsk : s < k := by simpa using hc
 clear hc
 refine EvC.skip ?_
 refine EvC.seq ?_
 refine EvC.block ?_
 have hti := opart_get (m := I) hsk
 have hIin : (I : Int).toNat = I := Int.toNat_natCast I
 have hrI : (List.replicate I [AV.sc (.int .i64 0), .sc (.int .i64 0)]).length = I := List.length_replicate
 refine EvC.seq (EvC.rg (by simp only [go_sem] <;> rfl) (by simp) ?_)
 apply EvC.seq
 apply EvC.drwA mixed
 ·apply Tr.done
  ·simp only [go_sem, hI, hIin, htl, hti, hsin, hrI, mlook_mset] <;> rfl
  ·simp [room_eq, htl]; omega
 ·kernel_rfl
 have hrow0 : gcells edgeC (initW s 0 s) I = List.replicate I [.sc (.int .i64 0), .sc (.int .i64 0)] := by
  unfold gcells
  rw [List.eq_replicate_iff]
  refine ⟨by simp, fun b hb => ?_⟩
  obtain ⟨j, _, rfl⟩ := List.mem_map.1 hb
  unfold initW
  rw [if_neg (by omega)]; rfl
 rw [← hrow0]
 have hlo : ∀ j, j < s → rlook (osegK [(1000200, 1000200), (1000201, 1000201), (1000202, 1000202)] s [(3000011, 2000000 + s)]) (2000000 + j) = some (2000000 + j) := fun j hj => rlook_osegK_lo hj hs6 (A := [(1000200, 1000200), (1000201, 1000201), (1000202, 1000202)]) rfl
 have hhi : rlook (osegK [(1000200, 1000200), (1000201, 1000201), (1000202, 1000202)] s [(3000011, 2000000 + s)]) 3000011 = some (2000000 + s) := rlook_osegK_hi hs6 _ _ _ rfl
 have hpr := opart_ren (m := I) hsk hhi hlo
 have hpn := opart_norefs (m := I) (k := 3000011) hsk
 refine EvC.gcE (st2 := ⟨[(0, .ia [.sc (.int .i64 t.ins), .sc (.int .i64 t.outs), .sl t.nl (t.rows.map rowC) .unk, .sl false ((frT t).map prC) .full, .sl false (c.map natC) .unk, .sc (.int .i64 fuel), .sc (.bool sp)]), (4, .rf 1000200 0), (5, .rf 1000201 0), (6, .sc (.int .i64 s)), (27, .sc (.int .i64 k)), (28, .sc (.int .i64 s))], [],
  (1000200, .cells [.sc (.int .i64 0), .sc (.int .i64 0), .sl true [] .zer]) :: (1000201, .cells [.sc (.int .i64 t.ins), .sc (.int .i64 t.outs), .tv 1000202 k 0 k (.val k)]) :: (1000202, .arr 1 (opart I k (s + 1)) false) :: otab 2 edgeC (initW s 0) (s + 1) I, 3000000⟩) [0, 4, 5, 6, 27, 28] (osegK [(1000200, 1000200), (1000201, 1000201), (1000202, 1000202)] s [(3000011, 2000000 + s)]) 3000000 (osegK_ok1 (A := [(1000200, 1000200), (1000201, 1000201), (1000202, 1000202)]) rfl rfl rfl rfl rfl (by decide) (by decide) (by omega) (by omega)) ?_ ?_
 ·simp only [go_sem, hI, rlook_osegK_hi hs6, List.cons_append, List.nil_append, renMem_oK_cons hs6, renMem_oK_mset hs6, mlook_mset, gcells_norefs norefs_edgeC, otab_ren 2 norefs_edgeC, otab_snoc, hpr, hpn] <;> rfl
 have hs7 : s + 1 ≤ 1000000 := by omega
 have htl1 := opart_len (m := I) (n := k) (s := s + 1) hsk
 have hgs1 : (opart I k (s + 1))[s]? = some [.tl (2000000 + s) I false] := by
  rw [opart, List.getElem?_append_left (by rw [ocell_len]; omega), ocell_get (by omega)]
 have htz1 : ((opart I k (s + 1)).take k).length = k := by rw [List.length_take, htl1, Nat.min_self]
 have htz2 : (opart I k (s + 1)).take k = opart I k (s + 1) := List.take_of_length_le (by omega)
 have hon := fun W => otab_look 2 edgeC W (n := s + 1) (m := I) (s := s) (by omega)
 refine EvC.seq (EvC.rg (by simp only [go_sem, htl1, htz2, hgs1, hsin, o_ne (show s < 1000000 by omega), hon, gcells_len] <;> rfl) (by simp [htl1]; try omega) ?_)
 have hor1 : (opart I k (s + 1)).map (fun c => c.map (AV.ren (osegK [(1000200, 1000200), (1000201, 1000201), (1000202, 1000202)] (s + 1) []))) = opart I k (s + 1) := by
  rw [opart, List.map_append, ocell_ren (fun j hj => rlook_osegK_lo hj hs7 (A := [(1000200, 1000200), (1000201, 1000201), (1000202, 1000202)]) rfl)]
  congr 1
  rw [List.map_replicate]; rfl
 refine EvC.block ?_
 refine EvC.loopS (σ := Nat) (fun i => ⟨[(0, .ia [.sc (.int .i64 t.ins), .sc (.int .i64 t.outs), .sl t.nl (t.rows.map rowC) .unk, .sl false ((frT t).map prC) .full, .sl false (c.map natC) .unk, .sc (.int .i64 fuel), .sc (.bool sp)]), (4, .rf 1000200 0), (5, .rf 1000201 0), (6, .sc (.int .i64 s)), (27, .sc (.int .i64 k)), (28, .sc (.int .i64 s)), (46, .sc (.int .i64 I)), (47, .sc (.int .i64 i))], [],
  (1000200, .cells [.sc (.int .i64 0), .sc (.int .i64 0), .sl true [] .zer]) :: (1000201, .cells [.sc (.int .i64 t.ins), .sc (.int .i64 t.outs), .tv 1000202 k 0 k (.val k)]) :: (1000202, .arr 1 (opart I k (s + 1)) false) :: otab 2 edgeC (initW s i) (s + 1) I, 3000000⟩) (fun i => I - i) (fun i => i ≤ I) [0, 4, 5, 6, 27, 28, 46, 47] 3000000 ?_ ?_
 ·exact ⟨(osegK [(1000200, 1000200), (1000201, 1000201), (1000202, 1000202)] (s + 1) []), 0, (osegK_ok (A := [(1000200, 1000200), (1000201, 1000201), (1000202, 1000202)]) rfl rfl rfl hs7 (by omega)), (by simp only [go_sem, hI, rlook_osegK_hi hs7, List.cons_append, List.nil_append, List.append_nil, renMem_oK_cons hs7, otab_ren 2 norefs_edgeC, hor1, ite_self, Int.natCast_add, Int.natCast_one, Int.natCast_zero] <;> rfl), Nat.zero_le _⟩
 intro i hi
 have hiin : (i : Int).toNat = i := Int.toNat_natCast i
 refine EvC.seq (EvC.rg (by simp only [go_sem] <;> rfl) (by simp) ?_)
 refine EvC.seq ?_
 refine EvC.cond (by simp only [go_sem] <;> rfl) (fun hc => ?_) (fun hc => ?_)
 rotate_left
 ·
  obtain rfl : i = I := by have : ¬ i < I := by simpa using hc
                           omega
  refine EvC.exit ?_
  refine EvC.rg (by simp only [go_sem] <;> rfl) (by exact inI64_of (by omega) (by omega)) ?_
  exact ⟨(osegK [(1000200, 1000200), (1000201, 1000201), (1000202, 1000202)] (s + 1) []), s + 1, (osegK_ok (A := [(1000200, 1000200), (1000201, 1000201), (1000202, 1000202)]) rfl rfl rfl hs7 (by omega)), (by simp only [go_sem, hI, rlook_osegK_hi hs7, List.cons_append, List.nil_append, List.append_nil, renMem_oK_cons hs7, otab_ren 2 norefs_edgeC, hor1, ite_self, Int.natCast_add, Int.natCast_one, Int.natCast_zero, initW_next] <;> rfl), hsk, by omega⟩
 have hiI : i < I := by simpa using hc
 clear hc
 refine EvC.skip ?_
 refine EvC.seq ?_
 refine EvC.block ?_
 have hgi := gcells_get edgeC (initW s i s) hiI
 have hset : mset (otab 2 edgeC (initW s i) (s + 1) I) (2000000 + s) (.arr 2 ((gcells edgeC (initW s i s) I).set i [.sc (.int .i64 (-1)), .sc (.int .i64 (-1))]) false) = otab 2 edgeC (initW s (i + 1)) (s + 1) I := by
  rw [← initW_set rfl]; exact otab_set 2 edgeC (initW s i) (-1, -1) (by omega) hiI
 refine EvC.seq (EvC.rg (by simp only [go_sem] <;> rfl) (by simp) ?_)
 refine EvC.rg (by simp only [go_sem, htl1, htz2, hgs1, hsin, hiin, o_ne (show s < 1000000 by omega), hon, gcells_len, hgi, hset, edgeC, List.drop_succ_cons, List.drop_zero] <;> rfl) (by simp [htl1]; try omega) ?_
 refine EvC.rg (by simp only [go_sem] <;> rfl) (by exact inI64_of (by omega) (by omega)) ?_
 exact ⟨(osegK [(1000200, 1000200), (1000201, 1000201), (1000202, 1000202)] (s + 1) []), i + 1, (osegK_ok (A := [(1000200, 1000200), (1000201, 1000201), (1000202, 1000202)]) rfl rfl rfl hs7 (by omega)), (by simp only [go_sem, hI, rlook_osegK_hi hs7, List.cons_append, List.nil_append, List.append_nil, renMem_oK_cons hs7, otab_ren 2 norefs_edgeC, hor1, ite_self, Int.natCast_add, Int.natCast_one, Int.natCast_zero] <;> rfl), by omega, by omega⟩
end Go.Avl
