/-
  Lemmas.
  From a law's row to its contract: arguments opened, and read again behind the call.
  How the arguments of the culprits' laws read, and the table of the kinds of faults.
-/
import Derived.ProofKit
import Derived.OpenShut
import Derived.Test.YtgdcjkcohmjbeaaDoorCards
import Derived.Test.YtgdcjkcohmjbeaaDoorTie
import Derived.LaidMore
import Derived.Stop.Joined
import Derived.Test.YtgdcjkcohmjbeaaDoorPart9
set_option linter.unusedSimpArgs false
set_option linter.unusedVariables false
set_option linter.unnecessarySimpa false
set_option linter.deprecated false
namespace Go.Avl
open Go Go.Proofs.Tryd
set_option maxRecDepth 10000
def fltT {α : Type} (p : α → Bool) (L : List α) (k : Nat) : List α := (L.take k).filter p
theorem fltT_yes {α : Type} {p : α → Bool} {L : List α} {k : Nat} {x : α} (h : L[k]? = some x) (hp : p x = true) : fltT p L k ++ [x] = fltT p L (k + 1) := by
 obtain ⟨hi, he⟩ := List.getElem?_eq_some_iff.1 h
 unfold fltT
 rw [List.take_succ_eq_append_getElem hi, he, List.filter_append]; simp [hp]
theorem fltT_no {α : Type} {p : α → Bool} {L : List α} {k : Nat} {x : α} (h : L[k]? = some x) (hp : p x = false) : fltT p L k = fltT p L (k + 1) := by
 obtain ⟨hi, he⟩ := List.getElem?_eq_some_iff.1 h
 unfold fltT
 rw [List.take_succ_eq_append_getElem hi, he, List.filter_append]; simp [hp]
theorem fltT_all {α : Type} (p : α → Bool) (L : List α) : fltT p L L.length = L.filter p := by rw [fltT, List.take_length]
theorem fltT_len {α : Type} (p : α → Bool) (L : List α) (k : Nat) : (fltT p L k).length ≤ L.length := by
 have h1 := List.length_filter_le p (L.take k)
 have h2 : (L.take k).length ≤ L.length := by simp; omega
 unfold fltT; omega
def agErr (m : Mach) (i o : Int) (L : List TR) : Int := if checkM m ≠ 0 then checkM m else if checkL i o L ≠ 0 then checkL i o L else if m.ins ≠ i then 5 else 0
theorem agA_ok {m : Mach} {i o : Int} {L : List TR} (h : agErr m i o L = 0) : checkM m = 0 ∧ checkL i o L = 0 ∧ m.ins = i := by
 unfold agErr at h
 split at h
 ·rename_i h1; exact absurd h h1
 ·rename_i h1
  split at h
  ·rename_i h2; exact absurd h h2
  ·rename_i h2
   split at h
   ·cases h
   ·rename_i h3; exact ⟨by simpa using h1, by simpa using h2, by simpa using h3⟩
theorem agA_err (m : Mach) (i o : Int) (L : List TR) : agA m i o L = .tu [.ag [.sc (.int .i64 (if agErr m i o L = 0 then (agst m L 0).1 else 0)), .sc (.int .i64 (if agErr m i o L = 0 then (agst m L 0).2.1 else 0))], .sc (.bool (decide (agErr m i o L = 0) && !(agst m L 0).2.2)), .sc (.int .i64 (agErr m i o L))] := by
 unfold agA agErr
 by_cases h1 : checkM m = 0
 ·by_cases h2 : checkL i o L = 0
  ·by_cases h3 : m.ins = i <;> simp [h1, h2, h3]
  ·simp [h1, h2]
 ·simp [h1]
def fitB2 (m : Mach) (L : List TR) (f : FA) : Bool := !(agst (mutF m f) L 0).2.2
def suspA (m : Mach) (ks : List Int) (i o : Int) (L : List TR) (most : Int) : AV :=
 if agErr m i o L ≠ 0 then .tu [.sl true [] .unk, .sc (.bool false), .sc (.int .i64 (agErr m i o L))]
 else if allR m ks most ≠ 0 then .tu [.sl true [] .unk, .sc (.bool false), .sc (.int .i64 (allR m ks most))]
 else .tu [.sl ((alF m ks).filter (fitB2 m L)).isEmpty (((alF m ks).filter (fitB2 m L)).map FA.cells) .full, .sc (.bool (!(agst m L 0).2.2)), .sc (.int .i64 0)]
theorem fas_norefs (l : List FA) : (l.map FA.cells).all AV.norefs = true := by simp [List.all_eq_true, FA.cells, AV.norefs, AV.noref]
theorem allR_ready {m : Mach} {ks : List Int} {most : Int} (h : allR m ks most = 0) : readyR m ks most = 0 := by
 unfold allR at h
 split at h
 ·rename_i h1; exact absurd h h1
 ·rename_i h1; simpa using h1
set_option maxHeartbeats 4000000 in
theorem suspects_is (m : Mach) (hm : ∀ r ∈ m.rows, r.2.length < 1000000) (hnn : NoNil m) (kn : Bool) (ks : List Int) (kc : Cp) (hks : ks.length < 1000) (i o : Int) (ln : Bool) (L : List TR) (hL : LogSm L) (most : Int) :
  PureIs prog 11 [.ag m.cells, .sl kn (ks.map intC) kc, .ag (logC i o ln L), .sc (.int .i64 most)] (suspA m ks i o L most) := by
 have q0 := against37_is m hm i o ln L hL
 rw [agA_err] at q0
 unfold logC at q0
 unfold suspA
 refine PureIs.of1 5 [6, 8, 9, 10, 12, 13, 14, 15, 17, 18, 19, 21, 31, 41, 43, 44, 45, 46, 56, 65] func11 ntmps11 results11 fun _ => ?_
 refine EvC.a ?_ (by simp only [go_sem, Mach.cells, logC] <;> rfl)
 refine EvC.z 0 ?_
 refine EvC.z 1 ?_
 apply EvC.s1
 ·apply Tr.run
  ·simp only [go_sem, Mach.cells] <;> rfl
  ·simp
  apply Tr.cons
  ·exact .ca (q0)
  apply Tr.done
  ·simp only [go_sem] <;> rfl
  ·simp
 refine EvC.seq ?_
 refine EvC.a ?_
 by_cases h0 : agErr m i o L = 0
 rotate_left
 ·rw [if_pos h0]
  refine EvC.ct ?_ (by simp only [go_sem, decide_eq_false h0] <;> rfl)
  refine EvC.a ?_
  refine EvC.rz ?_
  simp only [go_sem]
 rw [if_neg (show ¬ agErr m i o L ≠ 0 from fun h => h h0)]
 refine EvC.cs ?_ (by simp only [go_sem, decide_eq_true h0] <;> rfl)
 have q1 := allF_is m hm kn ks kc hks most
 unfold allA at q1
 by_cases h1 : allR m ks most = 0
 rotate_left
 ·rw [if_pos h1] at q1 ⊢
  apply EvC.s1
  ·apply Tr.run
   ·simp only [go_sem, Mach.cells] <;> rfl
   ·simp
   apply Tr.cons
   ·exact .ca (q1)
   apply Tr.done
   ·simp only [go_sem] <;> rfl
   ·simp
  refine EvC.seq ?_
  refine EvC.a ?_
  refine EvC.ct ?_ (by simp only [go_sem, decide_eq_false h1] <;> rfl)
  refine EvC.a ?_
  refine EvC.rz ?_
  simp only [go_sem]
 rw [if_neg (show ¬ allR m ks most ≠ 0 from fun h => h h1)] at q1 ⊢
 obtain ⟨c1, c2, c3⟩ := agA_ok h0
 have hv := Valid.of c1
 have hok := alF_ok (allR_ready h1)
 have hal := alF_len hv ks
 have hna := fas_norefs (alF m ks)
 have hla : ((alF m ks).map FA.cells).length = (alF m ks).length := List.length_map _
 have hal2 : (alF m ks).length < 300000000 := by
  have : ks.length * 262144 ≤ 1000 * 262144 := Nat.mul_le_mul_right _ (by omega)
  omega
 generalize alF m ks = A at q1 hok hal2 hna hla ⊢
 apply EvC.s1
 ·apply Tr.run
  ·simp only [go_sem, Mach.cells] <;> rfl
  ·simp
  apply Tr.cons
  ·exact .call rfl rfl (by simp only [go_sem] <;> rfl) (by simp only [go_sem] <;> rfl) (by simp only [go_sem] <;> rfl) (by simp only [go_sem, hna] <;> rfl) (by simp only [go_sem] <;> rfl) (q1)
  apply Tr.done
  ·simp only [go_sem, Mach.cells] <;> rfl
  ·simp
 refine EvC.seq ?_
 refine EvC.a ?_
 refine EvC.cs ?_
 refine EvC.a ?_
 refine EvC.seq ?_
 refine EvC.a ?_ (by simp only [go_sem, hla] <;> rfl)
 refine EvC.block ?_
 have hinn : (decide (agErr m i o L = 0) && !(agst m L 0).2.2) = !(agst m L 0).2.2 := by rw [decide_eq_true h0, Bool.true_and]
 rw [hinn]
 generalize (agst m L 0).2.2 = inn
 have hfl := fltT_len (fitB2 m L) A
 refine EvC.loopS (σ := Nat) (fun k => ⟨[(4, .ia m.cells), (6, .ia (logC i o ln L)), (12, .sc (.bool !inn)), (15, .tl 0 (fltT (fitB2 m L) A k).length (fltT (fitB2 m L) A k).isEmpty), (43, .sl A.isEmpty (A.map FA.cells) .full), (44, .sc (.int .i64 A.length)), (45, .sc (.int .i64 k))], [], [(0, .arr 6 ((fltT (fitB2 m L) A k).map FA.cells) true)], 1⟩) (fun k => A.length - k) (fun k => k ≤ A.length) [4, 6, 12, 15, 43, 44, 45] 1 ?_ ?_
 ·exact ⟨[(29, 0)], 0, rfl, (by simp only [go_sem, Mach.cells, logC, Int.natCast_zero, fltT, List.take_zero, List.filter_nil, List.map_nil, List.length_nil, List.isEmpty_nil] <;> rfl), Nat.zero_le _⟩
 intro k hk
 refine EvC.a ?_
 refine EvC.seq ?_
 refine EvC.cond (by simp only [go_sem] <;> rfl) (fun hc => ?_) (fun hc => ?_)
 rotate_left
 ·refine EvC.exit ?_
  obtain rfl : k = A.length := by have : ¬ k < A.length := (by simpa using hc); omega
  rw [fltT_all]
  have hn2 := fas_norefs (A.filter (fitB2 m L))
  have hl2 : ((A.filter (fitB2 m L)).map FA.cells).length = (A.filter (fitB2 m L)).length := List.length_map _
  have h6 := fa_six (A.filter (fitB2 m L))
  generalize A.filter (fitB2 m L) = S at hn2 hl2 h6 ⊢
  refine EvC.frz 0 (by simp only [go_sem, hn2, hl2] <;> rfl) ?_
  apply EvC.s1
  ·apply Tr.run
   ·simp only [go_sem, hl2] <;> rfl
   ·simp
   apply Tr.cons
   ·exact .ca (clipF_is _ _ _ h6)
   apply Tr.done
   ·simp only [go_sem] <;> rfl
   ·simp
  refine EvC.rz ?_
  simp only [go_sem]
 have hkl : k < A.length := by simpa using hc
 clear hc
 have he : A[k]? = some A[k] := List.getElem?_eq_getElem hkl
 have hf0 := hok _ (List.getElem_mem hkl)
 generalize A[k] = f at he hf0
 have q2 := apply71_is hv c1 hnn f
 rw [applyR, if_pos hf0] at q2
 have hmv := mutF_valid hv hf0
 obtain ⟨M, hM⟩ : ∃ M, M = mutF m f := ⟨_, rfl⟩
 have hMi : M.ins = m.ins := by rw [hM]; rfl
 rw [← hM] at q2 hmv
 have q3 := against37_is M hmv.small i o ln L hL
 unfold agA at q3
 rw [if_neg (show ¬ checkM M ≠ 0 from fun h => h (checkM_of hmv)), if_neg (show ¬ checkL i o L ≠ 0 from fun h => h c2), if_neg (show ¬ M.ins ≠ i from fun h => h (by rw [hMi, c3]))] at q3
 have hyes := fun h => fltT_yes (p := fitB2 m L) he h
 have hno := fun h => fltT_no (p := fitB2 m L) he h
 have hfb : fitB2 m L f = !(agst M L 0).2.2 := by rw [hM]; rfl
 have hfa := he
 obtain ⟨f1, f2, f3, f4, f5, f6⟩ := f
 have hfc : (A.map FA.cells)[k]? = some [.sc (.int .i64 f1), .sc (.int .i64 f2), .sc (.int .i64 f3), .sc (.int .i64 f4), .sc (.int .i64 f5), .sc (.int .i64 f6)] := by rw [List.getElem?_map, he]; rfl
 obtain ⟨kZ, hkZ⟩ : ∃ z : Int, z = (k : Int) := ⟨_, rfl⟩
 have hkt : kZ.toNat = k := by omega
 rw [← hkZ]
 refine EvC.skip ?_
 refine EvC.seq ?_
 refine EvC.block ?_
 refine EvC.a ?_ (by simp only [go_sem, hfc, hkt, hla] <;> rfl) (by simp; try omega)
 have hMn := norefs_mcells M
 apply EvC.s1
 ·apply Tr.run
  ·simp only [go_sem, Mach.cells, FA.cells] <;> rfl
  ·simp
  apply Tr.cons
  ·exact .ca (q2)
  apply Tr.done
  ·simp only [go_sem, Mach.cells] <;> rfl
  ·simp
 refine EvC.z 12 ?_
 refine EvC.seq ?_
 refine EvC.a ?_
 refine EvC.cs ?_
 unfold logC at q3
 apply EvC.s1
 ·apply Tr.run
  ·simp only [go_sem, Mach.cells, logC] <;> rfl
  ·simp
  apply Tr.cons
  ·exact .ca (q3)
  apply Tr.done
  ·simp only [go_sem] <;> rfl
  ·simp
 refine EvC.a ?_
 obtain ⟨T, hT⟩ : ∃ T, T = fltT (fitB2 m L) A (k + 1) := ⟨_, rfl⟩
 have hfl1 := hfl (k + 1)
 rw [← hT] at hyes hno hfl1
 obtain ⟨b, hb⟩ : ∃ b, (agst M L 0).2.2 = b := ⟨_, rfl⟩
 rw [hb] at hfb ⊢
 cases b
 ·have hy := hyes hfb
  generalize fltT (fitB2 m L) A k = T0 at hy ⊢
  have hl1 : (T0.map FA.cells).length = T0.length := List.length_map _
  have hsn : T0.map FA.cells ++ [[.sc (.int .i64 f1), .sc (.int .i64 f2), .sc (.int .i64 f3), .sc (.int .i64 f4), .sc (.int .i64 f5), .sc (.int .i64 f6)]] = T.map FA.cells := by rw [← hy]; simp [FA.cells]
  have hTl : T.length = T0.length + 1 := by rw [← hy]; simp
  have hTe : T.isEmpty = false := by rw [← hy]; simp
  have hTm : (T.map FA.cells).length = T.length := List.length_map _
  have hTn := fas_norefs T
  have hr : room (T0.length + 1) 48 = true := by simp only [room_eq, decide_eq_true_eq]; omega
  refine EvC.ct ?_
  refine EvC.b ?_ (by simp only [go_sem, hl1, hsn] <;> rfl) (by simp [hr])
  refine EvC.b ?_ (hok := by exact inI64_of (by omega) (by omega))
  exact ⟨[(0, 0)], k + 1, rfl, (by rw [hkZ, ← hT]; simp only [go_sem, hTm, hTe, hTn, Mach.cells, logC, Int.natCast_add, Int.natCast_one] <;> rfl), hkl, by omega⟩
 ·have hy := hno hfb
  rw [hy]
  refine EvC.cs ?_
  refine EvC.b ?_ (hok := by exact inI64_of (by omega) (by omega))
  exact ⟨[(0, 0)], k + 1, rfl, (by rw [hkZ, ← hT]; simp only [go_sem, Mach.cells, logC, Int.natCast_add, Int.natCast_one] <;> rfl), hkl, by omega⟩
theorem refmutants_is (m : Mach) (hv : Valid m) (fn : Bool) (fs : List FA) (fc : Cp) (hf : ∀ f ∈ fs, faultB m f = true) (hfl : fs.length < 1000000) :
  PureIs prog 49 [.ag m.cells, .sl fn (fs.map FA.cells) fc] (.sl fs.isEmpty ((fs.map (mutF m)).map Mach.cells) .unk) := by
 refine PureIs.of1 3 [4, 5, 6, 10] func49 ntmps49 results49 fun _ => ?_
 refine EvC.a ?_ (by simp only [go_sem, Mach.cells] <;> rfl)
 refine EvC.z 0 ?_
 refine EvC.a ?_
 refine EvC.seq ?_
 refine EvC.a ?_
 refine EvC.block ?_
 refine EvC.loopS (σ := Nat) (fun k => ⟨[(1, .sl fn (fs.map FA.cells) fc), (2, .ia m.cells), (5, .tl 0 k (k == 0)), (6, .sc (.int .i64 k))], [], [(0, .arr 3 (mutC m fs k) true)], 1⟩) (fun k => fs.length - k) (fun k => k ≤ fs.length) [1, 2, 5, 6] 1 ?_ ?_
 ·exact ⟨[(2, 0)], 0, rfl, (by simp only [go_sem, Mach.cells, Int.natCast_zero, mutC, List.take_zero, List.map_nil] <;> rfl), Nat.zero_le _⟩
 intro k hk
 have hml := mutC_len (m := m) hk
 refine EvC.seq ?_
 refine EvC.a ?_ (by simp only [go_sem, List.length_map] <;> rfl)
 refine EvC.cond (by simp only [go_sem] <;> rfl) (fun hc => ?_) (fun hc => ?_)
 rotate_left
 ·refine EvC.exit ?_
  obtain rfl : k = fs.length := by have : ¬ k < fs.length := (by simpa using hc); omega
  have hmc : (fs.map (mutF m)).map Mach.cells = mutC m fs fs.length := by rw [mutC, List.take_length]
  rw [hmc]
  have hn := norefs_mutC m fs fs.length
  have hie : (fs.length == 0) = fs.isEmpty := by cases fs <;> rfl
  rw [hie]
  generalize mutC m fs fs.length = L at hml hn
  refine EvC.frz 0 (by simp only [go_sem, hn, hml] <;> rfl) ?_
  refine EvC.a ?_
  refine EvC.rz ?_
  simp only [go_sem]
 have hkl : k < fs.length := by simpa using hc
 clear hc
 have he : fs[k]? = some fs[k] := List.getElem?_eq_getElem hkl
 have hfb := hf _ (List.getElem_mem hkl)
 generalize fs[k] = f at he hfb
 have q := apply55_is hv f hfb
 have hs := mutC_succ (m := m) he
 have hml2 := mutC_len (m := m) (k := k + 1) hkl
 have hr2 : room (k + 1) 40 = true := by simp only [room_eq, decide_eq_true_eq]; omega
 generalize mutF m f = mf at q hs
 have hmr : AV.norefs mf.cells = true := norefs_mcells mf
 have hfc : (fs.map FA.cells)[k]? = some f.cells := by rw [List.getElem?_map, he]; rfl
 simp only [FA.cells] at hfc
 simp only [Mach.cells] at hs hmr
 obtain ⟨kZ, hkZ⟩ : ∃ z : Int, z = (k : Int) := ⟨_, rfl⟩
 have hkt : kZ.toNat = k := by omega
 rw [← hkZ]
 refine EvC.skip ?_
 refine EvC.seq ?_
 refine EvC.block ?_
 apply EvC.drw mixed
 ·apply Tr.run
  ·simp only [go_sem, hfc, hkt, List.length_map, Mach.cells, FA.cells] <;> rfl
  ·simp; try omega
  apply Tr.cons
  ·exact .ca (q)
  apply Tr.done
  ·simp only [go_sem, hml, hr2, hs, Mach.cells, hmr] <;> rfl
  ·simp [hr2, hmr]
 ·kernel_rfl
 refine EvC.b ?_ (hok := by exact inI64_of (by omega) (by omega))
 have hne : (k + 1 == 0) = false := rfl
 exact ⟨[(0, 0)], k + 1, rfl, (by rw [hkZ]; simp only [go_sem, Mach.cells, hne, Int.natCast_add, Int.natCast_one, hml2] <;> rfl), hkl, by omega⟩
theorem everybody57_is (n : Nat) (hn : n < 1000000) : PureIs prog 57 [.sc (.int .i64 n)] (.sl (n == 0) ((idL n).map intC) .unk) := by
 refine PureIs.of1 1 [2, 3, 4, 7] func57 ntmps57 results57 fun _ => ?_
 refine EvC.a ?_
 refine EvC.a ?_
 refine EvC.seq ?_
 refine EvC.a ?_
 refine EvC.block ?_
 refine EvC.loopS (σ := Nat) (fun k => ⟨[(0, .sc (.int .i64 n)), (3, .tl 0 k (k == 0)), (4, .sc (.int .i64 k))], [], [(0, .arr 1 ((idL k).map intC) true)], 1⟩) (fun k => n - k) (fun k => k ≤ n) [0, 3, 4] 1 ?_ ?_
 ·exact ⟨[(1, 0)], 0, rfl, (by simp only [go_sem, Int.natCast_zero, idL, List.range_zero, List.map_nil] <;> rfl), Nat.zero_le _⟩
 intro k hk
 have hl : ((idL k).map intC).length = k := by simp [idL]
 refine EvC.seq ?_
 refine EvC.a ?_
 refine EvC.cond (by simp only [go_sem] <;> rfl) (fun hc => ?_) (fun hc => ?_)
 rotate_left
 ·refine EvC.exit ?_
  obtain rfl : k = n := by have : ¬ k < n := (by simpa using hc); omega
  have hnn := norefs_intC (idL k)
  refine EvC.frz 0 (by simp only [go_sem, hl, hnn] <;> rfl) ?_
  refine EvC.a ?_
  refine EvC.rz ?_
  simp only [go_sem]
 have hkl : k < n := by simpa using hc
 clear hc
 have hs : (idL k).map intC ++ [[.sc (.int .i64 (k : Int))]] = (idL (k + 1)).map intC := by simp [idL, List.range_succ, intC]
 have hl2 : ((idL (k + 1)).map intC).length = k + 1 := by simp [idL]
 have hn2 := norefs_intC (idL (k + 1))
 have hr : room (k + 1) 8 = true := by simp only [room_eq, decide_eq_true_eq]; omega
 obtain ⟨kZ, hkZ⟩ : ∃ z : Int, z = (k : Int) := ⟨_, rfl⟩
 rw [← hkZ] at hs ⊢
 generalize (idL k).map intC = T0 at hs hl ⊢
 obtain ⟨T1, hT1⟩ : ∃ T, T = (idL (k + 1)).map intC := ⟨_, rfl⟩
 rw [← hT1] at hs hl2 hn2
 refine EvC.skip ?_
 refine EvC.seq ?_
 refine EvC.block ?_
 refine EvC.b ?_ (by simp only [go_sem, hl, hs] <;> rfl) (by simp [hr])
 refine EvC.b ?_ (hok := by exact inI64_of (by omega) (by omega))
 have hne : (k + 1 == 0) = false := rfl
 exact ⟨[(0, 0)], k + 1, rfl, (by rw [hkZ, ← hT1]; simp only [go_sem, hl2, hn2, hne, Int.natCast_add, Int.natCast_one] <;> rfl), hkl, by omega⟩
def kN {κ : Type} (_ : κ) : List AV := []
theorem kN_norefs {κ : Type} (x : κ) : AV.norefs (kN x) = true := rfl
section
variable {κ : Type} {e : Nat} {o1 : RObj} {ps : List (κ × List Int)} {M : Mem}
def dM2 (e : Nat) (o1 : RObj) (ps : List (κ × List Int)) : Mem := (0, .arr e (dcA kN ps 0) false) :: (1, o1) :: dRows ps
def dK2 (n : Nat) : List (Nat × Nat) := osegK [(0, 0), (1, 1)] n []
def dK21 (n k : Nat) : List (Nat × Nat) := osegK [(0, 0), (1, 1)] n [(k, 2000000 + n)]
theorem dM2_look0 : mlook (dM2 e o1 ps) 0 = some (.arr e (dcA kN ps 0) false) := rfl
theorem dM2_look1 : mlook (dM2 e o1 ps) 1 = some o1 := rfl
theorem dM2_lookR {n : Nat} {p : κ × List Int} (h : ps[n]? = some p) : mlook (dM2 e o1 ps) (2000000 + n) = some (.arr 1 (p.2.map intC) false) := by
 rw [dM2]; simp only [mlook]; rw [if_neg (by omega), if_neg (by omega), dRows_look h]
theorem dK2_hi {n : Nat} (hn : n ≤ 1000000) (k : Nat) (hk : notO k = true) : rlook (dK2 n) k = rlook [(0, 0), (1, 1)] k := by rw [dK2, rlook_osegK_hi hn _ _ _ hk, List.append_nil]
theorem dK21_hi {n k0 : Nat} (hn : n ≤ 1000000) (k : Nat) (hk : notO k = true) : rlook (dK21 n k0) k = rlook [(0, 0), (1, 1), (k0, 2000000 + n)] k := by rw [dK21, rlook_osegK_hi hn _ _ _ hk]; rfl
theorem dK2_ok {n : Nat} (hn : n ≤ 1000000) : gcOk 0 3000000 (dK2 n) = true := osegK_ok (A := [(0, 0), (1, 1)]) rfl rfl rfl hn (by omega)
theorem dK21_ok {n k : Nat} (hn : n < 1000000) (hk : notO k = true) (hk0 : k ≠ 0) (hk1 : k ≠ 1) : gcOk 0 3000000 (dK21 n k) = true := osegK_ok1 (A := [(0, 0), (1, 1)]) rfl rfl rfl hk (by simp only [rlook, if_neg hk0, if_neg hk1]) (by omega) (by omega) hn (by omega)
theorem dM2_gc (ho : ∀ K, RObj.ren K o1 = o1) (hp : ps.length ≤ 1000000) (h0 : mlook M 0 = some (.arr e (dcA kN ps 0) false)) (h1 : mlook M 1 = some o1) (hr : ∀ j p, ps[j]? = some p → mlook M (2000000 + j) = some (.arr 1 (p.2.map intC) false)) :
  renMem M (dK2 ps.length) (dK2 ps.length) = dM2 e o1 ps := by
 have hlo : ∀ j, j < ps.length → rlook (osegK [(0, 0), (1, 1)] ps.length []) (2000000 + (0 + j)) = some (2000000 + (0 + j)) := fun j hj => by rw [Nat.zero_add]; exact rlook_osegK_lo hj hp rfl
 rw [dK2, renMem_osegK]
 have e1 : renMem M (osegK [(0, 0), (1, 1)] ps.length []) [(0, 0), (1, 1)] = [(0, .arr e (dcA kN ps 0) false), (1, o1)] := by
  simp only [renMem, h0, h1, ho]
  rw [arrRen_eq (dcA_ren kN_norefs hlo) fun _ => rfl]
 have e2 : renMem M (osegK [(0, 0), (1, 1)] ps.length []) (oK ps.length) = dRows ps := by
  rw [renMem_oK_congr hp (M' := dRows ps) _ fun j hj => ?_, dRows_ren]
  have hg : ps[j]? = some ps[j] := List.getElem?_eq_getElem hj
  rw [hr j _ hg, dRows_look hg]
 rw [e1, e2]
 simp [renMem, dM2]
theorem dM2_gc1 (ho : ∀ K, RObj.ren K o1 = o1) (hp : ps.length < 1000000) {k : Nat} (hkn : notO k = true) (hk0 : k ≠ 0) (hk1 : k ≠ 1) {x : κ} {l : List Int} (h0 : mlook M 0 = some (.arr e (dcA kN ps 0 ++ [[.tl k l.length false]]) false)) (h1 : mlook M 1 = some o1) (hr : ∀ j p, ps[j]? = some p → mlook M (2000000 + j) = some (.arr 1 (p.2.map intC) false))
  (hl : mlook M k = some (.arr 1 (l.map intC) false)) : renMem M (dK21 ps.length k) (dK21 ps.length k) = dM2 e o1 (ps ++ [(x, l)]) := by
 have hlo : ∀ j, j < ps.length → rlook (osegK [(0, 0), (1, 1)] ps.length [(k, 2000000 + ps.length)]) (2000000 + (0 + j)) = some (2000000 + (0 + j)) := fun j hj => by rw [Nat.zero_add]; exact rlook_osegK_lo hj (by omega) rfl
 have hlk : rlook (osegK [(0, 0), (1, 1)] ps.length [(k, 2000000 + ps.length)]) k = some (2000000 + ps.length) := by
  rw [rlook_osegK_hi (by omega) _ _ _ hkn]
  simp [rlook, hk0, hk1]
 rw [dK21, renMem_osegK]
 have e1 : renMem M (osegK [(0, 0), (1, 1)] ps.length [(k, 2000000 + ps.length)]) [(0, 0), (1, 1)] = [(0, .arr e (dcA kN (ps ++ [(x, l)]) 0) false), (1, o1)] := by
  simp only [renMem, h0, h1, ho]
  have := dcA_snoc (kN : κ → List AV) ps 0 x l
  rw [Nat.zero_add] at this
  simp only [kN, List.nil_append] at this
  rw [arrRen_eq (es' := dcA kN (ps ++ [(x, l)]) 0) ?_ ?_]
  ·rw [List.map_append, dcA_ren kN_norefs hlo, ← this]
   simp only [List.map_cons, List.map_nil, AV.ren, AV.noref, Bool.false_eq_true, if_false, AV.deep, renLeaf, hlk]
  ·intro hn
   rw [List.all_append] at hn
   simp [AV.norefs, AV.noref] at hn
 have e2 : renMem M (osegK [(0, 0), (1, 1)] ps.length [(k, 2000000 + ps.length)]) (oK ps.length) = dRows ps := by
  rw [renMem_oK_congr (by omega) (M' := dRows ps) _ fun j hj => ?_, dRows_ren]
  have hg : ps[j]? = some ps[j] := List.getElem?_eq_getElem hj
  rw [hr j _ hg, dRows_look hg]
 have e3 : renMem M (osegK [(0, 0), (1, 1)] ps.length [(k, 2000000 + ps.length)]) [(k, 2000000 + ps.length)] = [(2000000 + ps.length, .arr 1 (l.map intC) false)] := by
  have hn : (l.map intC).all AV.norefs = true := by simp [List.all_eq_true, intC, AV.norefs, AV.noref]
  simp only [renMem, hl, RObj.ren, hn, if_true]
 rw [e1, e2, e3, dM2, ← dRows_snoc]
 rfl
end
def keyR (p : List Int × List Int) : List AV := [.sl p.1.isEmpty (p.1.map intC) .unk]
theorem keyR_norefs (l : List (List Int × List Int)) : (l.map keyR).all AV.norefs = true := by simp [List.all_eq_true, keyR, AV.norefs, AV.noref]
def oR (ps : List (List Int × List Int)) : RObj := .arr 1 (ps.map keyR) true
theorem oR_ren (ps : List (List Int × List Int)) (K : List (Nat × Nat)) : RObj.ren K (oR ps) = oR ps := by
 simp only [oR, RObj.ren, keyR_norefs, if_true]
theorem dvPut_keys {x : List Int} {i : Int} : ∀ {ps : List (List Int × List Int)} {n : Nat} {p : List Int × List Int}, ps[n]? = some p → p.1 = x → (dvPut eqI x i ps).map (·.1) = ps.map (·.1)
 | [], n, p, h, _ => by simp at h
 | q :: ps, 0, p, h, he => by
   simp only [List.getElem?_cons_zero, Option.some.injEq] at h
   subst h
   rw [dvPut, if_pos (by simp [eqI, he])]; rfl
 | q :: ps, n + 1, p, h, he => by
   rw [dvPut]
   split
   ·rfl
   ·rw [List.map_cons, List.map_cons, dvPut_keys (n := n) (by simpa using h) he]
theorem keyR_keys {a b : List (List Int × List Int)} (h : a.map (·.1) = b.map (·.1)) : a.map keyR = b.map keyR := by
 have e : ∀ l : List (List Int × List Int), l.map keyR = (l.map (·.1)).map fun k => [AV.sl k.isEmpty (k.map intC) .unk] := fun l => by rw [List.map_map]; rfl
 rw [e, e, h]
set_option maxHeartbeats 8000000 in
theorem parts56_is (xn : Bool) (X : List Mach) (xc : Cp) (whn : Bool) (who : List Int) (whc : Cp) (wn : Bool) (w : List Int) (wc : Cp) (hwho : ∀ i ∈ who, 0 ≤ i ∧ i < X.length) (hv : ∀ m ∈ X, Valid m ∧ ∀ a ∈ w, 0 ≤ a ∧ a < m.ins) (hl : w.length < 1000000) (hwl : who.length < 1000000) :
  PureIs prog 56 [.sl xn (X.map Mach.cells) xc, .sl whn (who.map intC) whc, .sl wn (w.map intC) wc] (.tu [.sl who.isEmpty ((dvL eqI (respK X w) who []).map keyR) .unk, .sl who.isEmpty ((dvL eqI (respK X w) who []).map (partC kN)) .unk]) := by
 have hXn := norefs_machs X
 refine PureIs.of1 3 [6, 7, 8, 9, 10, 11, 12, 13, 17, 32, 40, 55, 65, 66] func56 ntmps56 results56 fun _ => ?_
 refine EvC.a ?_
 refine EvC.a ?_
 refine EvC.seq ?_
 refine EvC.a ?_
 refine EvC.thaw 3 (by simp only [go_sem] <;> rfl) ?_
 refine EvC.block ?_
 refine EvC.loopS (σ := Nat × List (List Int × List Int)) (fun g2 => ⟨[(0, .sl xn (X.map Mach.cells) xc), (1, .sl whn (who.map intC) whc), (2, .sl wn (w.map intC) wc), (8, .tl 1 g2.2.length g2.2.isEmpty), (9, .tl 0 g2.2.length g2.2.isEmpty), (10, .sc (.int .i64 g2.1))], [], dM2 1 (oR g2.2) g2.2, 3000000⟩) (fun g2 => who.length - g2.1)
  (fun g2 => g2.1 ≤ who.length ∧ dvL eqI (respK X w) who [] = dvL eqI (respK X w) (who.drop g2.1) g2.2 ∧ g2.2.length ≤ g2.1 ∧ (∀ q ∈ g2.2, q.2.length ≤ g2.1) ∧ (g2.2.map (·.1)).Nodup ∧ ∀ q ∈ g2.2, q.1.length < 1000000) [0, 1, 2, 8, 9, 10] 3000000 ?_ ?_
 ·exact ⟨[(3, 0), (2, 1)], (0, []), rfl, (by simp only [go_sem, Int.natCast_zero, dM2, oR, dRows, dcA, msegA, List.map_nil, List.length_nil, List.isEmpty_nil] <;> rfl), Nat.zero_le _, rfl, Nat.le_refl _, (fun _ h => by cases h), List.nodup_nil, fun _ h => by cases h⟩
 rintro ⟨i, ps⟩ ⟨hi, hdv, hpl, hpq, hnd, hkl⟩
 simp only at hi hdv hpl hpq hnd hkl ⊢
 refine EvC.seq ?_
 refine EvC.a ?_ (by simp only [go_sem, List.length_map] <;> rfl)
 refine EvC.cond (by simp only [go_sem] <;> rfl) (fun hc => ?_) (fun hc => ?_)
 rotate_left
 ·refine EvC.exit ?_
  obtain rfl : who.length = i := by have : ¬ i < who.length := (by simpa using hc); omega
  rw [List.drop_length] at hdv
  have hdv : dvL eqI (respK X w) who [] = ps := hdv
  have hp6 : ps.length ≤ 1000000 := by omega
  have hie : ps.isEmpty = who.isEmpty := by rw [← hdv]; exact dvL_empty eqI (respK X w) who
  rw [hdv]
  have hrl : ∀ j p, ps[j]? = some p → mlook (dM2 1 (oR ps) ps) (2000000 + j) = some (.arr 1 (p.2.map intC) false) := fun j p hj => dM2_lookR hj
  refine EvC.ofzAll ps.length (fun j hj => ⟨1, _, false, hrl j _ (List.getElem?_eq_getElem hj), by simp [List.all_eq_true, intC, AV.norefs, AV.noref]⟩) ?_
  have hfz : ofzAll ps.length (dM2 1 (oR ps) ps) = (0, .arr 1 (dcA kN ps 0) false) :: (1, .arr 1 (ps.map keyR) true) :: dRowsF ps := by rw [dM2, ofzAll_cons hp6 0 rfl, ofzAll_cons hp6 1 rfl, dRows_fz]; rfl
  have hsn : (dcA kN ps 0).map (fun c => c.map (AV.deep (snap ((0, .arr 1 (dcA kN ps 0) false) :: (1, .arr 1 (ps.map keyR) true) :: dRowsF ps)))) = ps.map (partC kN) := dcA_snap kN_norefs fun j p hj => by
   rw [Nat.zero_add]
   simp only [mlook]
   rw [if_neg (by omega), if_neg (by omega), dRowsF_look hj]
  have hnr := partC_norefs (kc := (kN : List Int → List AV)) kN_norefs ps
  have hpl2 : (ps.map (partC kN)).length = ps.length := List.length_map _
  have hnr2 := keyR_norefs ps
  have hpl3 : (ps.map keyR).length = ps.length := List.length_map _
  have hmm := fun f => dRowsF_memMap f ps
  refine EvC.snapA 0 (by simp only [go_sem, hfz, hsn] <;> rfl) ?_
  rw [hie]
  generalize ps.map (partC kN) = L at hnr hpl2 ⊢
  generalize ps.map keyR = L2 at hnr2 hpl3 ⊢
  refine EvC.frz 0 (by simp only [go_sem, hnr, hpl2, hnr2] <;> rfl) ?_
  refine EvC.frz 1 (by simp only [go_sem, hnr, hpl2, hnr2, hpl3, hmm] <;> rfl) ?_
  refine EvC.a ?_ (by simp only [go_sem, hpl2, hpl3] <;> rfl)
  refine EvC.rz ?_
  simp only [go_sem]
 have hil : i < who.length := by simpa using hc
 clear hc
 have he : who[i]? = some who[i] := List.getElem?_eq_getElem hil
 have hdr : who.drop i = who[i] :: who.drop (i + 1) := List.drop_eq_getElem_cons hil
 have hmem := hwho _ (List.getElem_mem hil)
 generalize who[i] = a at he hdr hmem
 rw [hdr, dvL] at hdv
 have hxg := atM_get (X := X) (i := a) (by omega)
 have hxv := hv (atM X a) (by
  rw [atM, List.getD_eq_getElem?_getD, List.getElem?_eq_getElem (show a.toNat < X.length by omega)]
  exact List.getElem_mem _)
 have hrw := hxv.1.rows
 have q1 := run04_is hxv.1 0 (by omega) wn w wc hxv.2 hl
 have hxl : (respK X w a).length < 1000000 := by rw [respK, runR_len]; exact hl
 rw [show runR (atM X a) 0 w = respK X w a from rfl] at q1
 generalize respK X w a = x at q1 hxl hdv
 generalize atM X a = ma at hxg q1
 clear hxv hrw
 have hag : (who.map intC)[i]? = some [.sc (.int .i64 a)] := by rw [List.getElem?_map, he]; rfl
 obtain ⟨iZ, hiZ⟩ : ∃ z : Int, z = (i : Int) := ⟨_, rfl⟩
 have hit : iZ.toNat = i := by omega
 rw [← hiZ]
 have hp6 : ps.length < 1000000 := by omega
 have hl0 := dM2_look0 (e := 1) (o1 := oR ps) (ps := ps)
 have hl1 := dM2_look1 (e := 1) (o1 := oR ps) (ps := ps)
 have hdl := dcA_len (kN : List Int → List AV) ps 0
 have hgk := dK2_ok (n := ps.length) (by omega)
 have hhi := dK2_hi (n := ps.length) (by omega)
 have hgc0 := dM2_gc (e := 1) (M := dM2 1 (oR ps) ps) (oR_ren ps) (Nat.le_of_lt hp6) hl0 hl1 fun j p hj => dM2_lookR hj
 have hkl1 : (ps.map keyR).length = ps.length := List.length_map _
 refine EvC.skip ?_
 refine EvC.seq ?_
 refine EvC.block ?_
 apply EvC.s1
 ·apply Tr.run
  ·simp only [go_sem, hag, hit, hxg, Mach.cells, List.length_map] <;> rfl
  ·simp; try omega
  apply Tr.cons
  ·exact .ca (q1)
  apply Tr.done
  ·simp only [go_sem] <;> rfl
  ·simp
 refine EvC.a ?_
 refine EvC.seq ?_
 refine EvC.a ?_
 refine EvC.block ?_
 refine EvC.loopS (σ := Nat × Bool × List (List Int × List Int)) (fun g => ⟨[(0, .sl xn (X.map Mach.cells) xc), (1, .sl whn (who.map intC) whc), (2, .sl wn (w.map intC) wc), (8, .tl 1 ps.length ps.isEmpty), (9, .tl 0 ps.length ps.isEmpty), (10, .sc (.int .i64 iZ)), (11, .sl x.isEmpty (x.map intC) .unk), (12, .sc (.bool g.2.1)), (13, .sc (.int .i64 g.1))], [], dM2 1 (oR ps) g.2.2, 3000000⟩) (fun g => ps.length - g.1)
  (fun g => g.1 ≤ ps.length ∧ (g.2.1 = false → g.2.2 = ps ∧ ∀ j q, j < g.1 → ps[j]? = some q → eqI q.1 x = false) ∧ (g.2.1 = true → g.2.2 = dvPut eqI x a ps ∧ g.2.2.length = ps.length ∧ (∀ q ∈ g.2.2, q.2.length ≤ i + 1) ∧ g.2.2.map (·.1) = ps.map (·.1) ∧ ∃ j q, j < g.1 ∧ ps[j]? = some q ∧ q.1 = x)) [0, 1, 2, 8, 9, 10, 11, 12, 13] 3000000 ?_ ?_
 ·exact ⟨dK2 ps.length, (0, false, ps), hgk, (by simp only [go_sem, Int.natCast_zero, hhi, hgc0] <;> rfl), Nat.zero_le _, (fun _ => ⟨rfl, fun j q h => absurd h (Nat.not_lt_zero _)⟩), fun h => by cases h⟩
 rintro ⟨n, dn, ps'⟩ ⟨hn, hno, hyes⟩
 simp only at hn hno hyes ⊢
 have hl0' := dM2_look0 (e := 1) (o1 := oR ps) (ps := ps')
 have hl1' := dM2_look1 (e := 1) (o1 := oR ps) (ps := ps')
 have hdl' := dcA_len (kN : List Int → List AV) ps' 0
 have hlen : ps'.length = ps.length := by
  cases dn with
  | true => exact (hyes rfl).2.1
  | false => rw [(hno rfl).1]
 have hgc' := dM2_gc (e := 1) (o1 := oR ps) (M := dM2 1 (oR ps) ps') (oR_ren ps) (by omega) hl0' hl1' fun j p hj => dM2_lookR hj
 rw [hlen] at hgc' hdl'
 refine EvC.seq ?_
 by_cases hnl : n < ps.length
 rotate_left
 ·have hnI : decide ((n : Int) < ps.length) = false := decide_eq_false (by omega)
  obtain rfl : n = ps.length := by omega
  refine EvC.a ?_ (by simp only [go_sem, hl0', hdl', hnI] <;> rfl)
  refine EvC.cf ?_
  refine EvC.exit ?_
  refine EvC.a ?_
  cases dn with
  | true =>
    obtain ⟨y1, y2, y3, y4, _⟩ := hyes rfl
    rw [← y1] at hdv
    have hoR : oR ps = oR ps' := by rw [oR, oR, keyR_keys y4]
    have hes : ps'.isEmpty = ps.isEmpty := by
     cases ps' <;> cases ps <;> first | rfl | simp at y2
    refine EvC.cs ?_
    refine EvC.b ?_ (hok := by exact inI64_of (by omega) (by omega))
    have hkl2 : ∀ q ∈ ps', q.1.length < 1000000 := fun q hq => by
     have h1 : q.1 ∈ ps'.map (·.1) := List.mem_map.2 ⟨q, hq, rfl⟩
     rw [y4] at h1
     obtain ⟨q', h2, h3⟩ := List.mem_map.1 h1
     rw [← h3]; exact hkl q' h2
    exact ⟨dK2 ps.length, (i + 1, ps'), hgk, (by rw [hiZ, ← hoR]; simp only [go_sem, hhi, hgc', y2, hes, Int.natCast_add, Int.natCast_one] <;> rfl), ⟨hil, hdv, by simp only; omega, y3, by simp only; rw [y4]; exact hnd, hkl2⟩, by simp only; omega⟩
  | false =>
    obtain ⟨rfl, hno⟩ := hno rfl
    refine EvC.ct ?_
    have hnew := dvPut_new (eqB := eqI) (x := x) (i := a) (ps := ps') fun q hq => by
     obtain ⟨j, hj, rfl⟩ := List.getElem_of_mem hq
     exact hno j _ hj (List.getElem?_eq_getElem hj)
    rw [hnew] at hdv
    have hr2 : room (ps'.length + 1) 24 = true := by simp only [room_eq, decide_eq_true_eq]; omega
    have hsR : ps'.map keyR ++ [[.sl x.isEmpty (x.map intC) .unk]] = (ps' ++ [(x, [a])]).map keyR := by simp [keyR]
    have hnr3 := keyR_norefs (ps' ++ [(x, [a])])
    obtain ⟨R1, hR1⟩ : ∃ R, R = (ps' ++ [(x, [a])]).map keyR := ⟨_, rfl⟩
    have hR1l : R1.length = ps'.length + 1 := by rw [hR1]; simp
    rw [← hR1] at hsR hnr3
    have hL0 : ∀ o, mlook (dM2 1 o ps') 0 = some (.arr 1 (dcA kN ps' 0) false) := fun o => rfl
    have hL1 : ∀ o, mlook (dM2 1 o ps') 1 = some o := fun o => rfl
    have hS1 : ∀ o o', mset (dM2 1 o ps') 1 o' = dM2 1 o' ps' := fun o o' => rfl
    unfold oR
    obtain ⟨R0, hR0⟩ : ∃ R, R = ps'.map keyR := ⟨_, rfl⟩
    rw [← hR0] at hsR hkl1 ⊢
    refine EvC.a ?_ (by simp only [go_sem, hL0, hL1, hS1, hkl1, hsR] <;> rfl) (by simp [hr2])
    refine EvC.b ?_ (by simp only [go_sem, hag, hit, List.length_map, hL0, hL1, hdl] <;> rfl) (by simp [hr2]; try omega)
    obtain ⟨MM, hMM⟩ : ∃ MM : Mem, MM = (3000017, RObj.arr 1 [[.tl 3000016 1 false]] false) :: (3000016, .arr 1 [[.sc (.int .i64 a)]] false) :: mset (dM2 1 (.arr 1 R1 true) ps') 0 (.arr 1 (dcA kN ps' 0 ++ [[.tl 3000016 1 false]]) false) := ⟨_, rfl⟩
    rw [← hMM]
    refine EvC.b ?_ (hok := by exact inI64_of (by omega) (by omega))
    have hoR : oR (ps' ++ [(x, [a])]) = .arr 1 R1 true := by rw [oR, hR1]
    have hgk1 := dK21_ok (n := ps'.length) (k := 3000016) hp6 rfl (by omega) (by omega)
    have hhi1 := dK21_hi (n := ps'.length) (k0 := 3000016) (by omega)
    have hgc1 := dM2_gc1 (e := 1) (o1 := .arr 1 R1 true) (M := MM) (k := 3000016) (x := x) (l := [a]) (fun K => by rw [← hoR]; exact oR_ren _ K) hp6 rfl (by omega) (by omega) (by
     rw [hMM]; simp only [mlook]; rw [if_neg (by omega), if_neg (by omega), mlook_mset, if_pos rfl]; rfl) (by
     rw [hMM]; simp only [mlook]; rw [if_neg (by omega), if_neg (by omega), mlook_mset, if_neg (by omega), hL1]) (fun j p hj => by
     have hjl := (List.getElem?_eq_some_iff.1 hj).1
     rw [hMM]; simp only [mlook]; rw [if_neg (by omega), if_neg (by omega), mlook_mset, if_neg (by omega), dM2_lookR hj]) (by
     rw [hMM]; rfl)
    rw [← hoR] at hgc1
    have hsl : ps'.length + 1 = (ps' ++ [(x, [a])]).length := by simp
    have hse : (ps' ++ [(x, [a])]).isEmpty = false := by simp
    have hqq : ∀ q ∈ ps' ++ [(x, [a])], q.2.length ≤ i + 1 := fun q hq => by
     rcases List.mem_append.1 hq with hq | hq
     ·have := hpq q hq; omega
     ·obtain rfl := List.mem_singleton.1 hq
      simp
    have hkk : ∀ q ∈ ps' ++ [(x, [a])], q.1.length < 1000000 := fun q hq => by
     rcases List.mem_append.1 hq with hq | hq
     ·exact hkl q hq
     ·obtain rfl := List.mem_singleton.1 hq
      exact hxl
    have hndd : ((ps' ++ [(x, [a])]).map (·.1)).Nodup := by
     rw [List.map_append, List.nodup_append]
     refine ⟨hnd, by simp, ?_⟩
     rintro u hu v hv rfl
     simp only [List.map_cons, List.map_nil, List.mem_singleton] at hv
     obtain ⟨q, hq, hqe⟩ := List.mem_map.1 hu
     obtain ⟨j, hj, rfl⟩ := List.getElem_of_mem hq
     have := hno j _ hj (List.getElem?_eq_getElem hj)
     simp [eqI, hqe, hv] at this
    generalize ps' ++ [(x, [a])] = T at hgc1 hsl hse hdv hqq hkk hndd hR1
    have hsl2 : R1.length = T.length := by rw [hR1l, hsl]
    exact ⟨dK21 ps'.length 3000016, (i + 1, T), hgk1, (by rw [hiZ]; simp only [go_sem, hhi1, hgc1, hsl, hsl2, hse, Int.natCast_add, Int.natCast_one] <;> rfl), ⟨hil, hdv, by simp only; omega, hqq, hndd, hkk⟩, by simp only; omega⟩
 have hnI : decide ((n : Int) < ps.length) = true := decide_eq_true (by omega)
 have hpe0 : ps[n]? = some ps[n] := List.getElem?_eq_getElem hnl
 obtain ⟨nZ, hnZ⟩ : ∃ z : Int, z = (n : Int) := ⟨_, rfl⟩
 have hnt : nZ.toNat = n := by omega
 have hkg : (ps.map keyR)[n]? = some [.sl ps[n].1.isEmpty (ps[n].1.map intC) .unk] := by rw [List.getElem?_map, hpe0]; rfl
 have hkln := hkl _ (List.getElem_mem hnl)
 have q3 := same_is ps[n].1.isEmpty ps[n].1 .unk x.isEmpty x .unk hkln
 obtain ⟨key, hkey⟩ : ∃ key, key = ps[n].1 := ⟨_, rfl⟩
 rw [← hkey] at hkg q3
 rw [← hnZ] at hnI ⊢
 refine EvC.a ?_ (by simp only [go_sem, hl0', hdl', hnI] <;> rfl)
 refine EvC.cr ?_
 refine EvC.seq ?_
 refine EvC.block ?_
 have hL1 : mlook (dM2 1 (oR ps) ps') 1 = some (.arr 1 (ps.map keyR) true) := rfl
 apply EvC.s1
 ·apply Tr.run
  ·simp only [go_sem, hL1, hkl1, hkg, hnt] <;> rfl
  ·simp; try omega
  apply Tr.cons
  ·exact .ca (q3)
  apply Tr.done
  ·simp only [go_sem] <;> rfl
  ·simp
 by_cases hkx : key = x
 rotate_left
 ·refine EvC.cs ?_ (by simp only [go_sem, decide_eq_false hkx] <;> rfl)
  refine EvC.b ?_ (hok := by exact inI64_of (by omega) (by omega))
  refine ⟨dK2 ps.length, (n + 1, dn, ps'), hgk, (by rw [hnZ]; simp only [go_sem, hhi, hgc', Int.natCast_add, Int.natCast_one] <;> rfl), ⟨hnl, fun hd => ⟨(hno hd).1, fun j q hj hq => ?_⟩, fun hd => ?_⟩, by simp only; omega⟩
  ·by_cases hjn : j = n
   ·subst hjn; rw [hpe0] at hq; cases hq
    rw [← hkey]; simp [eqI, hkx]
   ·exact (hno hd).2 j q (by omega) hq
  ·obtain ⟨y1, y2, y3, y4, j, q, y5, y6, y7⟩ := hyes hd
   exact ⟨y1, y2, y3, y4, j, q, by simp only; omega, y6, y7⟩
 have hdn : dn = false := by
  cases dn with
  | false => rfl
  | true =>
    exfalso
    obtain ⟨_, _, _, _, j, q, y5, y6, y7⟩ := hyes rfl
    have h1 : (ps.map (·.1))[j]? = some x := by rw [List.getElem?_map, y6]; simp [y7]
    have h2 : (ps.map (·.1))[n]? = some x := by rw [List.getElem?_map, hpe0]; simp [← hkey, hkx]
    obtain ⟨h3, h4⟩ := List.getElem?_eq_some_iff.1 h1
    obtain ⟨h5, h6⟩ := List.getElem?_eq_some_iff.1 h2
    exact List.pairwise_iff_getElem.1 hnd j n h3 h5 y5 (h4.trans h6.symm)
 subst hdn
 obtain ⟨rfl, hno⟩ := hno rfl
 clear hyes
 refine EvC.ct ?_ (by simp only [go_sem, decide_eq_true hkx] <;> rfl)
 have hpe := hpe0
 have hpm := hpq _ (List.getElem_mem hnl)
 generalize ps'[n] = p at hpe hpm hkey
 clear hpe0
 obtain ⟨px, pw⟩ := p
 simp only at hpm hkey
 subst hkey
 subst hkx
 have hset := dvPut_set (eqB := eqI) (x := key) (i := a) (ps := ps') (n := n) hno hpe (by simp [eqI])
 have hkeys := dvPut_keys (i := a) hpe rfl
 have hg := dcA_get (kN : List Int → List AV) (s := 0) hpe
 rw [Nat.zero_add] at hg
 simp only [kN, List.nil_append] at hg
 have hlr := dM2_lookR (e := 1) (o1 := oR ps') hpe
 simp only at hlr
 have hn6 : n < 1000000 := by omega
 have hr3 : room (pw.length + 1) 8 = true := by simp only [room_eq, decide_eq_true_eq]; omega
 have hl00 : ∀ o, mlook (mset (dM2 1 (oR ps') ps') (2000000 + n) o) 0 = some (.arr 1 (dcA kN ps' 0) false) := fun o => by rw [mlook_mset, if_neg (by omega)]; exact hl0
 have hlrs : ∀ o, mlook (mset (dM2 1 (oR ps') ps') (2000000 + n) o) (2000000 + n) = some o := fun o => by rw [mlook_mset, if_pos rfl]
 have hds := dcA_set (kN : List Int → List AV) (s := 0) (pw ++ [a]) hpe
 have hpl3 : (pw ++ [a]).length = pw.length + 1 := by simp
 rw [Nat.zero_add, hpl3] at hds
 simp only [kN, List.nil_append] at hds
 have hnl2 : notO (2000000 + n) = false := by unfold notO; simp; omega
 apply EvC.seq
 apply EvC.drwA mixed
 ·apply Tr.done
  ·simp only [go_sem, hl0, hl00, hlrs, hdl, hg, hnt, hag, hit, hlr, o_ne hn6, List.length_map, hds] <;> rfl
  ·simp [hr3, acell, hnl, hlrs]; try omega
 ·exact confAllA_slots (by simp [rdOk, slotsOf, opSlots, memless, Op.operands, Call.operands]) (by kernel_rfl)
 have hpc : (pw.map intC ++ [[AV.sc (.int .i64 a)]]) = (pw ++ [a]).map intC := by simp [intC]
 rw [hpc]
 obtain ⟨MM, hMM⟩ : ∃ MM : Mem, MM = mset (mset (dM2 1 (oR ps') ps') (2000000 + n) (.arr 1 ((pw ++ [a]).map intC) false)) 0 (.arr 1 (dcA kN (ps'.set n (key, pw ++ [a])) 0) false) := ⟨_, rfl⟩
 rw [← hMM]
 have hTl : (ps'.set n (key, pw ++ [a])).length = ps'.length := List.length_set
 have hM0 : mlook MM 0 = some (.arr 1 (dcA kN (ps'.set n (key, pw ++ [a])) 0) false) := by rw [hMM, mlook_mset, if_pos rfl]
 have hM1 : mlook MM 1 = some (oR ps') := by rw [hMM, mlook_mset, if_neg (by omega), mlook_mset, if_neg (by omega)]; rfl
 have hMr : ∀ j p, (ps'.set n (key, pw ++ [a]))[j]? = some p → mlook MM (2000000 + j) = some (.arr 1 (p.2.map intC) false) := fun j p hj => by
  rw [hMM, mlook_mset, if_neg (by omega), mlook_mset]
  rw [List.getElem?_set] at hj
  by_cases e : n = j
  ·subst e
   rw [if_pos rfl, if_pos hnl] at hj
   cases hj
   rw [if_pos rfl]
  ·rw [if_neg e] at hj
   rw [if_neg (by omega), dM2_lookR hj]
 have hTq : ∀ q ∈ ps'.set n (key, pw ++ [a]), q.2.length ≤ i + 1 := fun q hq => by
  rcases List.mem_or_eq_of_mem_set hq with hq | rfl
  ·have := hpq q hq; omega
  ·simp only [List.length_append, List.length_cons, List.length_nil]; omega
 have hgcT := dM2_gc (e := 1) (o1 := oR ps') (M := MM) (ps := ps'.set n (key, pw ++ [a])) (oR_ren ps') (by omega) hM0 hM1 hMr
 rw [hTl] at hgcT
 clear hMM
 rw [← hset] at hTl hgcT hTq
 obtain ⟨T, hT⟩ : ∃ T, T = dvPut eqI key a ps' := ⟨_, rfl⟩
 rw [← hT] at hTl hgcT hTq hkeys
 refine EvC.b ?_
 refine EvC.b ?_ (hok := by exact inI64_of (by omega) (by omega))
 exact ⟨dK2 ps'.length, (n + 1, true, T), hgk, (by rw [hnZ]; simp only [go_sem, hhi, hgcT, Int.natCast_add, Int.natCast_one] <;> rfl), ⟨hnl, (fun h => by cases h), fun _ => ⟨hT, hTl, hTq, hkeys, n, _, Nat.lt_succ_self n, hpe, rfl⟩⟩, by simp only; omega⟩
def wrow (w : List Int) : List AV := [.sl false (w.map intC) .unk]
def exC (K : Nat) : Nat → List (List AV)
 | 0 => [[.sl false [] .zer]]
 | n + 1 => (wdl K (n + 1)).map wrow
def exCp : Nat → Cp
 | 0 => .full
 | _ + 1 => .unk
theorem wrow_norefs (l : List (List Int)) : (l.map wrow).all AV.norefs = true := by simp [List.all_eq_true, wrow, AV.norefs, AV.noref]
theorem exC_norefs (K : Nat) : ∀ n, (exC K n).all AV.norefs = true
 | 0 => rfl
 | _ + 1 => wrow_norefs _
theorem exC_len (K : Nat) : ∀ n, (exC K n).length = K ^ n
 | 0 => rfl
 | n + 1 => by rw [exC, List.length_map, wdl_len]
theorem exC_get {K : Nat} : ∀ {n j : Nat}, j < K ^ n → ∃ c, (exC K n)[j]? = some [.sl false ((dig K n j).map intC) c]
 | 0, j, h => by
   obtain rfl : j = 0 := by simp at h; omega
   exact ⟨.zer, rfl⟩
 | n + 1, j, h => ⟨.unk, by rw [exC, List.getElem?_map, wdl_get h]; rfl⟩
def exT (K n j : Nat) : List (List AV) := ((List.range j).map (dig K (n + 1))).map wrow
theorem exT_len (K n j : Nat) : (exT K n j).length = j := by simp [exT]
theorem exT_norefs (K n j : Nat) : (exT K n j).all AV.norefs = true := wrow_norefs _
theorem exT_succ (K n j : Nat) : exT K n j ++ [[.sl false ((dig K (n + 1) j).map intC) .unk]] = exT K n (j + 1) := by
 simp only [exT, List.range_succ, List.map_append, List.map_cons, List.map_nil]; rfl
set_option maxHeartbeats 4000000 in
theorem exact_is (K k : Nat) (hK : 1 ≤ K) (hK2 : K ≤ 16) (hk : k ≤ 1000) (hp : K ^ k ≤ 4096) : PureIs prog 84 [.sc (.int .i64 K), .sc (.int .i64 k)] (.sl false (exC K k) (exCp k)) := by
 refine PureIs.of1 2 [4, 5, 6, 7, 8, 9, 14, 20, 25] func84 ntmps84 results84 fun _ => ?_
 refine EvC.a ?_
 refine EvC.a ?_
 refine EvC.seq ?_
 refine EvC.a ?_
 refine EvC.block ?_
 refine EvC.loopS (σ := Nat) (fun n => ⟨[(0, .sc (.int .i64 K)), (1, .sc (.int .i64 k)), (5, .sl false (exC K n) (exCp n)), (6, .sc (.int .i64 n))], [], [], 0⟩) (fun n => k - n) (fun n => n ≤ k) [0, 1, 5, 6] 0 ?_ ?_
 ·exact ⟨[], 0, rfl, (by simp only [go_sem, Int.natCast_zero, exC, exCp] <;> rfl), Nat.zero_le _⟩
 intro n hn
 have hel := exC_len K n
 have hen := exC_norefs K n
 refine EvC.seq ?_
 refine EvC.a ?_
 refine EvC.cond (by simp only [go_sem] <;> rfl) (fun hc => ?_) (fun hc => ?_)
 rotate_left
 ·refine EvC.exit ?_
  obtain rfl : n = k := by have : ¬ n < k := (by simpa using hc); omega
  refine EvC.a ?_
  refine EvC.rz ?_
  simp only [go_sem]
 have hnk : n < k := by simpa using hc
 clear hc
 have hpn : K ^ (n + 1) ≤ 4096 := Nat.le_trans (Nat.pow_le_pow_right hK hnk) hp
 have hps : K ^ (n + 1) = K ^ n * K := Nat.pow_succ K n
 have hp0 : K ^ n ≤ 4096 := Nat.le_trans (Nat.pow_le_pow_right hK hn) hp
 refine EvC.skip ?_
 refine EvC.seq ?_
 refine EvC.block ?_
 refine EvC.a ?_
 refine EvC.thaw 3 (by simp only [go_sem] <;> rfl) ?_
 refine EvC.seq ?_
 refine EvC.a ?_
 refine EvC.block ?_
 refine EvC.loopS (σ := Nat) (fun i => ⟨[(0, .sc (.int .i64 K)), (1, .sc (.int .i64 k)), (5, .sl false (exC K n) (exCp n)), (6, .sc (.int .i64 n)), (7, .tl 0 (i * K) (i * K == 0)), (8, .sc (.int .i64 i))], [], [(0, .arr 1 (exT K n (i * K)) false)], 1⟩) (fun i => K ^ n - i) (fun i => i ≤ K ^ n) [0, 1, 5, 6, 7, 8] 1 ?_ ?_
 ·refine ⟨[(3, 0)], 0, rfl, (by simp only [go_sem, Int.natCast_zero, Nat.zero_mul, exT, List.range_zero, List.map_nil] <;> rfl), Nat.zero_le _⟩
 intro i hi
 refine EvC.seq ?_
 refine EvC.a ?_ (by simp only [go_sem, hel] <;> rfl)
 refine EvC.cond (by simp only [go_sem] <;> rfl) (fun hc => ?_) (fun hc => ?_)
 rotate_left
 ·refine EvC.exit ?_
  obtain rfl : i = K ^ n := by
   have : ¬ (i : Int) < ((K ^ n : Nat) : Int) := (by simpa using hc)
   omega
  have hl := exT_len K n (K ^ n * K)
  have hn' := exT_norefs K n (K ^ n * K)
  have hz : (K ^ n * K == 0) = false := by
   have : 0 < K ^ n * K := by rw [← hps]; exact Nat.pow_pos (by omega)
   simp; omega
  rw [hz]
  have hex : exT K n (K ^ n * K) = exC K (n + 1) := by rw [exT, exC, wdl, hps]
  rw [hex] at hl hn' ⊢
  have hec := exCp (n + 1)
  obtain ⟨E, hE⟩ : ∃ E, E = exC K (n + 1) := ⟨_, rfl⟩
  rw [← hE] at hl hn' ⊢
  refine EvC.frz 0 (by simp only [go_sem, hl, hn'] <;> rfl) ?_
  refine EvC.b ?_
  refine EvC.b ?_ (hok := by exact inI64_of (by omega) (by omega))
  exact ⟨[], n + 1, rfl, (by rw [← hE]; simp only [go_sem, exCp, Int.natCast_add, Int.natCast_one] <;> rfl), hnk, by omega⟩
 have hil : i < K ^ n := by
  have : (i : Int) < ((K ^ n : Nat) : Int) := (by simpa using hc)
  omega
 clear hc
 obtain ⟨cc, hge⟩ := exC_get (K := K) hil
 have hdl := dig_len K n i
 have hik : i * K + K ≤ K ^ n * K := by
  have := Nat.mul_le_mul_right K (show i + 1 ≤ K ^ n from hil)
  rwa [Nat.add_mul, Nat.one_mul] at this
 obtain ⟨iZ, hiZ⟩ : ∃ z : Int, z = (i : Int) := ⟨_, rfl⟩
 have hit : iZ.toNat = i := by omega
 rw [← hiZ]
 refine EvC.skip ?_
 refine EvC.seq ?_
 refine EvC.block ?_
 refine EvC.a ?_
 refine EvC.block ?_
 have hm0 : i * K + 0 = i * K := Nat.add_zero _
 refine EvC.loopS (σ := Nat × Nat) (fun g => ⟨[(0, .sc (.int .i64 K)), (1, .sc (.int .i64 k)), (5, .sl false (exC K n) (exCp n)), (6, .sc (.int .i64 n)), (7, .tl 0 g.2 (g.2 == 0)), (8, .sc (.int .i64 iZ)), (9, .sc (.int .i64 g.1))], [], [(0, .arr 1 (exT K n g.2) false)], 1⟩) (fun g => K - g.1) (fun g => g.1 ≤ K ∧ g.2 = i * K + g.1) [0, 1, 5, 6, 7, 8, 9] 1 ?_ ?_
 ·exact ⟨[(0, 0)], (0, i * K), rfl, (by simp only [go_sem, Int.natCast_zero, exT_norefs] <;> rfl), Nat.zero_le _, hm0.symm⟩
 rintro ⟨s, j⟩ ⟨hs, hj⟩
 simp only at hs hj ⊢
 have htl := exT_len K n j
 refine EvC.seq ?_
 refine EvC.a ?_
 refine EvC.cond (by simp only [go_sem] <;> rfl) (fun hc => ?_) (fun hc => ?_)
 rotate_left
 ·refine EvC.exit ?_
  obtain rfl : s = K := by have : ¬ s < K := (by simpa using hc); omega
  have hj2 : j = (i + 1) * s := by rw [hj, Nat.add_mul, Nat.one_mul]
  rw [hj2]
  have hn' := exT_norefs s n ((i + 1) * s)
  refine EvC.b ?_ (hok := by exact inI64_of (by omega) (by omega))
  exact ⟨[(0, 0)], i + 1, rfl, (by rw [hiZ]; simp only [go_sem, hn', Int.natCast_add, Int.natCast_one] <;> rfl), hil, by omega⟩
 have hsK : s < K := by simpa using hc
 clear hc
 have hdig : dig K n i ++ [(s : Int)] = dig K (n + 1) j := by
  rw [dig, hj, Nat.mul_comm i K, Nat.mul_add_div (by omega), Nat.div_eq_of_lt hsK, Nat.mul_add_mod, Nat.mod_eq_of_lt hsK, Nat.add_zero]
 have hsn := exT_succ K n j
 have htl2 := exT_len K n (j + 1)
 have htn2 := exT_norefs K n (j + 1)
 have hrow : (dig K n i).map intC ++ [[.sc (.int .i64 (s : Int))]] = (dig K (n + 1) j).map intC := by rw [← hdig]; simp [intC]
 have hrl : ((dig K n i).map intC).length = n := by rw [List.length_map, hdl]
 have hrl2 : ((dig K (n + 1) j).map intC).length = n + 1 := by rw [List.length_map, dig_len]
 have hrn : ((dig K (n + 1) j).map intC).all AV.norefs = true := norefs_intC _
 have hr1 : ((dig K n i).map intC).all (fun y => decide (y.length = 1)) = true := by simp [List.all_eq_true, intC]
 obtain ⟨sZ, hsZ⟩ : ∃ z : Int, z = (s : Int) := ⟨_, rfl⟩
 have hst : sZ.toNat = s := by omega
 rw [← hsZ] at hrow ⊢
 generalize (dig K n i).map intC = D at hge hrow hrl hr1
 generalize (dig K (n + 1) j).map intC = D1 at hrow hrl2 hrn hsn
 generalize exT K n j = T at htl hsn ⊢
 obtain ⟨T1, hT1⟩ : ∃ T, T = exT K n (j + 1) := ⟨_, rfl⟩
 rw [← hT1] at hsn htl2 htn2
 have hra : room n 8 = true := by simp only [room_eq, decide_eq_true_eq]; omega
 have hrb : room (n + 1) 8 = true := by simp only [room_eq, decide_eq_true_eq]; omega
 have hrc : room (j + 1) 24 = true := by simp only [room_eq, decide_eq_true_eq]; omega
 refine EvC.skip ?_
 refine EvC.seq ?_
 refine EvC.block ?_
 refine EvC.rt 10 (by simp only [go_sem, hge, hit, hel, hrl, hrow] <;> rfl) ?_ ?_
 ·simp [hra, hrb]
  exact ⟨by omega, by simpa using hr1⟩
 refine XR.frz 10 (by simp only [go_sem, hrl2, hrn] <;> rfl) ?_
 simp only [List.drop_succ_cons, List.drop_zero]
 have hnn : (n = n + 1) = False := eq_false (by omega)
 refine XR.done (by simp only [go_sem, htl, hsn, hnn] <;> rfl) (by simp [hrc]) ?_
 refine EvC.b ?_ (hok := by exact inI64_of (by omega) (by omega))
 have hne : (j + 1 == 0) = false := rfl
 exact ⟨[(0, 0)], (s + 1, j + 1), rfl, (by rw [hsZ, ← hT1]; simp only [go_sem, htl2, htn2, hne, Int.natCast_add, Int.natCast_one] <;> rfl), ⟨hsK, by simp only; omega⟩, by simp only; omega⟩
def upC (K : Nat) : Nat → List (List AV)
 | 0 => []
 | n + 1 => upC K n ++ exC K n
theorem upC_len (K : Nat) : ∀ n, (upC K (n + 1)).length = (upL K n).length + 1
 | 0 => rfl
 | n + 1 => by
   rw [upC, List.length_append, upC_len K n, exC_len, upL, List.length_append, wdl_len]; omega
theorem upC_norefs (K : Nat) : ∀ n, (upC K n).all AV.norefs = true
 | 0 => rfl
 | n + 1 => by rw [upC, List.all_append, upC_norefs K n, exC_norefs]; rfl
theorem upC_get {K : Nat} : ∀ {n j : Nat} {w : List Int}, (upL K n)[j]? = some w → (upC K (n + 1))[j + 1]? = some (wrow w)
 | 0, j, w, h => by simp [upL] at h
 | n + 1, j, w, h => by
   rw [upL] at h
   rw [upC]
   have hl := upC_len K n
   by_cases hj : j < (upL K n).length
   ·rw [List.getElem?_append_left hj] at h
    rw [List.getElem?_append_left (by omega)]
    exact upC_get h
   ·rw [List.getElem?_append_right (by omega)] at h
    rw [List.getElem?_append_right (by omega), hl, exC, List.getElem?_map, show j + 1 - ((upL K n).length + 1) = j - (upL K n).length by omega, h]; rfl
theorem upC_zero (K n : Nat) : (upC K (n + 1))[0]? = some [.sl false [] .zer] := by
 induction n with
 | zero => rfl
 | succ n ih =>
   rw [upC, List.getElem?_append_left (by rw [upC_len]; omega)]; exact ih
theorem upL_len {K : Nat} {n m : Nat} (hK : 1 ≤ K) (hp : K ^ m ≤ 4096) (h : n ≤ m) : (upL K n).length ≤ n * 4096 := by
 induction n with
 | zero => exact Nat.zero_le _
 | succ n ih =>
   have h1 : K ^ (n + 1) ≤ K ^ m := Nat.pow_le_pow_right hK h
   have := ih (by omega)
   rw [upL, List.length_append, wdl_len]; omega
theorem upto55_is (K k : Nat) (hK : 1 ≤ K) (hK2 : K ≤ 16) (hk : k ≤ 1000) (hp : K ^ k ≤ 4096) : PureIs prog 55 [.sc (.int .i64 K), .sc (.int .i64 k)] (.sl false (upC K (k + 1)) .unk) := by
 refine PureIs.of1 2 [4, 5, 6, 9] func55 ntmps55 results55 fun _ => ?_
 refine EvC.a ?_
 refine EvC.a ?_
 refine EvC.seq ?_
 refine EvC.a ?_
 refine EvC.block ?_
 refine EvC.loopS (σ := Nat) (fun n => ⟨[(0, .sc (.int .i64 K)), (1, .sc (.int .i64 k)), (5, .tl 0 (upC K n).length (n == 0)), (6, .sc (.int .i64 n))], [], [(0, .arr 1 (upC K n) true)], 1⟩) (fun n => k + 1 - n) (fun n => n ≤ k + 1) [0, 1, 5, 6] 1 ?_ ?_
 ·exact ⟨[(1, 0)], 0, rfl, (by simp only [go_sem, Int.natCast_zero, upC, List.length_nil] <;> rfl), Nat.zero_le _⟩
 intro n hn
 refine EvC.seq ?_
 refine EvC.a ?_
 refine EvC.cond (by simp only [go_sem] <;> rfl) (fun hc => ?_) (fun hc => ?_)
 rotate_left
 ·refine EvC.exit ?_
  obtain rfl : n = k + 1 := by have : ¬ (n : Int) ≤ k := (by simpa using hc); omega
  have hu := upC_norefs K (k + 1)
  have hz : (k + 1 == 0) = false := rfl
  rw [hz]
  generalize upC K (k + 1) = U at hu ⊢
  refine EvC.frz 0 (by simp only [go_sem, hu] <;> rfl) ?_
  refine EvC.a ?_
  refine EvC.rz ?_
  simp only [go_sem]
 have hnk : n ≤ k := by simpa using hc
 clear hc
 have hpn : K ^ n ≤ K ^ k := Nat.pow_le_pow_right hK hnk
 have q := exact_is K n hK hK2 (by omega) (by omega)
 have hen := exC_norefs K n
 have hel := exC_len K n
 have hus : upC K n ++ exC K n = upC K (n + 1) := rfl
 have hul : (upC K (n + 1)).length ≤ 1 + n * 4096 := by
  rw [upC_len]
  have := upL_len (n := n) hK hp hnk
  omega
 have hun := upC_norefs K (n + 1)
 have he1 : (exC K n).all (fun y => decide (y.length = 1)) = true := by
  cases n with
  | zero => rfl
  | succ n => simp [exC, wrow, List.all_eq_true]
 have hr : room ((upC K n).length + (exC K n).length) 24 = true := by
  have : (upC K n).length + (exC K n).length = (upC K (n + 1)).length := by rw [← hus, List.length_append]
  rw [this]; simp only [room_eq, decide_eq_true_eq]; omega
 have hee : (exC K n).isEmpty = false := by
  have : 0 < (exC K n).length := by rw [hel]; exact Nat.pow_pos (by omega)
  cases h : exC K n with
  | nil => rw [h] at this; simp at this
  | cons a b => rfl
 have hadd : (upC K n).length + (exC K n).length = (upC K (n + 1)).length := by rw [← hus, List.length_append]
 rw [hadd] at hr
 generalize exC K n = E at q hen hus he1 hee hadd
 generalize upC K n = U at hus hadd ⊢
 obtain ⟨U1, hU1⟩ : ∃ V, V = upC K (n + 1) := ⟨_, rfl⟩
 rw [← hU1] at hus hul hun hr hadd
 refine EvC.skip ?_
 refine EvC.seq ?_
 refine EvC.block ?_
 apply EvC.tr
 ·apply Tr.run
  ·simp only [go_sem] <;> rfl
  ·simp
  apply Tr.cons
  ·exact .ca (q)
  apply Tr.done
  ·simp only [go_sem, hus, hee, hadd] <;> rfl
  ·simp [hr, hen]; try simpa using he1
 refine EvC.b ?_ (hok := by exact inI64_of (by omega) (by omega))
 have hne : (n + 1 == 0) = false := rfl
 exact ⟨[(0, 0)], n + 1, rfl, (by rw [← hU1]; simp only [go_sem, hun, hne, Int.natCast_add, Int.natCast_one] <;> rfl), by omega, by omega⟩
set_option maxHeartbeats 4000000 in
theorem refnext_is (m : Mach) (hv : Valid m) (fn : Bool) (fs : List FA) (fc : Cp) (hf : ∀ f ∈ fs, checkF m f = 0) (hfl : fs.length ≤ 256) (k : Nat) (hk : k ≤ 1000) (hp : m.ins.toNat ^ k ≤ 4096) :
  PureIs prog 20 [.ag m.cells, .sl fn (fs.map FA.cells) fc, .sc (.int .i64 k)] (.tu [.sl (nextF (fs.map (mutF m)) fs.length (upL m.ins.toNat k) [] (fs.length + 1)).1.isEmpty ((nextF (fs.map (mutF m)) fs.length (upL m.ins.toNat k) [] (fs.length + 1)).1.map intC) .unk, .sc (.int .i64 (nextF (fs.map (mutF m)) fs.length (upL m.ins.toNat k) [] (fs.length + 1)).2)]) := by
 have hins := hv.ins
 have hfb : ∀ f ∈ fs, faultB m f = true := fun f h => by
  have := hf f h
  unfold checkF at this
  split at this
  ·assumption
  ·cases this
 have q1 := refmutants_is m hv fn fs fc hfb (by omega)
 have hXv : ∀ x ∈ fs.map (mutF m), Valid x ∧ x.ins = m.ins := fun x hx => by
  obtain ⟨f, h, rfl⟩ := List.mem_map.1 hx
  exact ⟨mutF_valid hv (hf f h), rfl⟩
 have hXl : (fs.map (mutF m)).length = fs.length := List.length_map _
 generalize fs.map (mutF m) = X at q1 hXv hXl ⊢
 have hXn := norefs_machs X
 obtain ⟨K, hK⟩ : ∃ K : Nat, K = m.ins.toNat := ⟨_, rfl⟩
 have hKi : m.ins = (K : Int) := by omega
 rw [← hK] at hp ⊢
 have q2 := upto55_is K k (by omega) (by omega) hk hp
 rw [← hKi] at q2
 have hul := upC_len K k
 have hun := upC_norefs K (k + 1)
 have hu0 := upC_zero K k
 have hug := fun j w h => upC_get (K := K) (n := k) (j := j) (w := w) h
 have hmem : ∀ w ∈ upL K k, 1 ≤ w.length ∧ w.length ≤ k ∧ ∀ a ∈ w, 0 ≤ a ∧ a < K := fun w hw => upL_mem (by omega) hw
 have hWl := upL_len (K := K) (n := k) (m := k) (by omega) hp (Nat.le_refl _)
 generalize upL K k = W at hul hug hmem hWl ⊢
 generalize upC K (k + 1) = U at q2 hul hun hu0 hug
 obtain ⟨n, hn⟩ : ∃ n, n = fs.length := ⟨_, rfl⟩
 rw [← hn] at hXl hfl ⊢
 refine PureIs.of1 4 [6, 7, 8, 9, 10, 11, 12, 14, 15, 16, 30, 38, 54, 66] func20 ntmps20 results20 fun _ => ?_
 refine EvC.a ?_ (by simp only [go_sem, Mach.cells] <;> rfl)
 refine EvC.z 0 ?_
 apply EvC.s1
 ·apply Tr.run
  ·simp only [go_sem, Mach.cells] <;> rfl
  ·simp
  apply Tr.cons
  ·exact .ca (q1)
  apply Tr.done
  ·simp only [go_sem, hXn] <;> rfl
  ·simp
 apply EvC.s1
 ·apply Tr.run
  ·simp only [go_sem, Mach.cells] <;> rfl
  ·simp
  apply Tr.cons
  ·exact .ca (q2)
  apply Tr.done
  ·simp only [go_sem, hun, hXn] <;> rfl
  ·simp
 refine EvC.a ?_
 refine EvC.frz 12 (by simp only [go_sem, hun, hXn] <;> rfl) ?_
 refine EvC.a ?_ (by simp only [go_sem, List.length_map] <;> rfl) (by exact inI64_of (by omega) (by omega))
 rw [← hn]
 refine EvC.seq ?_
 refine EvC.a ?_
 refine EvC.block ?_
 have hUl : U.length = W.length + 1 := hul
 refine EvC.loopS (σ := Nat × List Int × Nat) (fun g => ⟨[(1, .sl fn (fs.map FA.cells) fc), (8, .sl fs.isEmpty (X.map Mach.cells) .unk), (9, .sl false U .unk), (10, .sl g.2.1.isEmpty (g.2.1.map intC) .unk), (11, .sc (.int .i64 g.2.2)), (12, .sc (.int .i64 g.1))], [], [], 0⟩) (fun g => U.length - g.1) (fun g => g.1 ≤ U.length ∧ nextF X n (W.drop (g.1 - 1)) g.2.1 g.2.2 = nextF X n W [] (n + 1) ∧ g.2.2 ≤ n + 1) [1, 8, 9, 10, 11, 12] 0 ?_ ?_
 ·exact ⟨[], (0, [], n + 1), rfl, (by simp only [go_sem, Int.natCast_zero, List.map_nil, List.isEmpty_nil, Int.natCast_add, Int.natCast_one, hun, hXn] <;> rfl), Nat.zero_le _, rfl, Nat.le_refl _⟩
 rintro ⟨i, b, l⟩ ⟨h1, h2, h3⟩
 simp only at h1 h2 h3 ⊢
 refine EvC.seq ?_
 refine EvC.a ?_
 refine EvC.cond (by simp only [go_sem] <;> rfl) (fun hc => ?_) (fun hc => ?_)
 rotate_left
 ·refine EvC.exit ?_
  obtain rfl : i = U.length := by have : ¬ i < U.length := (by simpa using hc); omega
  rw [hUl, Nat.add_sub_cancel, List.drop_length, nextF] at h2
  rw [← h2]
  refine EvC.a ?_
  refine EvC.rz ?_
  simp only [go_sem]
 have hil : i < U.length := by simpa using hc
 clear hc
 obtain ⟨iZ, hiZ⟩ : ∃ z : Int, z = (i : Int) := ⟨_, rfl⟩
 have hit : iZ.toNat = i := by omega
 rw [← hiZ]
 refine EvC.skip ?_
 refine EvC.seq ?_
 refine EvC.block ?_
 refine EvC.seq ?_
 by_cases hi0 : i = 0
 ·subst hi0
  refine EvC.a ?_ (by simp only [go_sem, hit, hu0] <;> rfl) (by simp; try omega)
  refine EvC.ct ?_
  refine EvC.exit ?_
  refine EvC.b ?_ (hok := by exact inI64_of (by omega) (by omega))
  exact ⟨[], (1, b, l), rfl, (by rw [hiZ]; simp only [go_sem, Int.natCast_add, Int.natCast_one, hun, hXn, Int.natCast_zero] <;> rfl), ⟨by omega, h2, h3⟩, by simp only; omega⟩
 obtain ⟨j, rfl⟩ : ∃ j, i = j + 1 := ⟨i - 1, by omega⟩
 rw [Nat.add_sub_cancel] at h2
 have hjW : j < W.length := by omega
 have hge := hug j W[j] (List.getElem?_eq_getElem hjW)
 have hdr : W.drop j = W[j] :: W.drop (j + 1) := List.drop_eq_getElem_cons hjW
 have hwm := hmem _ (List.getElem_mem hjW)
 generalize W[j] = w at hge hdr hwm
 rw [hdr, nextF] at h2
 simp only [wrow] at hge
 refine EvC.a ?_ (by simp only [go_sem, hit, hge, List.length_map] <;> rfl) (by simp; try omega)
 refine EvC.cs ?_ (by simp only [go_sem, decide_eq_false (show ¬ (w.length : Int) = 0 by omega)] <;> rfl)
 have hidm : ∀ i ∈ idL n, 0 ≤ i ∧ i < X.length := fun i hi => by
  obtain ⟨j, hj, rfl⟩ := List.mem_map.1 hi
  have := List.mem_range.1 hj
  exact ⟨Int.natCast_nonneg j, by rw [hXl]; exact Int.ofNat_lt.2 this⟩
 have hidl : (idL n).length = n := by simp [idL]
 have q3 := everybody57_is n (by omega)
 have q4 := parts56_is fs.isEmpty X .unk (n == 0) (idL n) .unk false w .unk hidm (fun x hx => ⟨(hXv x hx).1, fun a ha => by have := (hXv x hx).2; have := hwm.2.2 a ha; omega⟩) (by omega) (by omega)
 have hlgW : lgW X n w = lgL (dvL eqI (respK X w) (idL n) []) := rfl
 have hlg := lgW_le X n w
 have hpl := dvL_len (eqB := eqI) (K := respK X w) (idL n) []
 simp only [List.length_nil, Nat.zero_add] at hpl
 rw [hlgW] at h2 hlg
 generalize dvL eqI (respK X w) (idL n) [] = ps at h2 hlg hpl q4
 have hpn := partC_norefs (kc := (kN : List Int → List AV)) kN_norefs ps
 have hkn := keyR_norefs ps
 apply EvC.seq
 apply EvC.drw mixed
 ·apply Tr.run
  ·simp only [go_sem, hit, hge, List.length_map, ← hn] <;> rfl
  ·simp; try omega
  apply Tr.cons
  ·exact .call rfl rfl (by simp only [go_sem] <;> rfl) (by simp only [go_sem] <;> rfl) (by simp only [go_sem] <;> rfl) (by simp only [go_sem, hXn, hun, hpn, hkn] <;> rfl) (by simp only [go_sem] <;> rfl) (q3)
  apply Tr.run
  ·simp only [go_sem, hit, hge, List.length_map, ← hn] <;> rfl
  ·simp; try omega
  apply Tr.cons
  ·exact .call rfl rfl (by simp only [go_sem] <;> rfl) (by simp only [go_sem] <;> rfl) (by simp only [go_sem] <;> rfl) (by simp only [go_sem, hXn, hun, hpn, hkn] <;> rfl) (by simp only [go_sem] <;> rfl) (q4)
  apply Tr.done
  ·simp only [go_sem, hit, hge, List.length_map] <;> rfl
  ·simp
 ·kernel_rfl
 refine EvC.a ?_
 refine EvC.seq ?_
 refine EvC.a ?_
 refine EvC.block ?_
 have hpl4 : (ps.map (partC (kN : List Int → List AV))).length = ps.length := List.length_map _
 refine EvC.loopS (σ := Nat × Nat) (fun g => ⟨[(1, .sl fn (fs.map FA.cells) fc), (8, .sl fs.isEmpty (X.map Mach.cells) .unk), (9, .sl false U .unk), (10, .sl b.isEmpty (b.map intC) .unk), (11, .sc (.int .i64 l)), (12, .sc (.int .i64 iZ)), (14, .sl (idL n).isEmpty (ps.map (partC kN)) .unk), (15, .sc (.int .i64 g.2)), (16, .sc (.int .i64 g.1))], [], [], 0⟩) (fun g => ps.length - g.1) (fun g => g.1 ≤ ps.length ∧ lgA g.2 (ps.drop g.1) = lgL ps) [1, 8, 9, 10, 11, 12, 14, 15, 16] 0 ?_ ?_
 ·exact ⟨[], (0, 0), rfl, (by simp only [go_sem, Int.natCast_zero, hun, hXn, hpn] <;> rfl), Nat.zero_le _, by simp [lgA_eq]⟩
 rintro ⟨s, lg⟩ ⟨i1, i2⟩
 simp only at i1 i2 ⊢
 refine EvC.seq ?_
 refine EvC.a ?_ (by simp only [go_sem, hpl4] <;> rfl)
 refine EvC.cond (by simp only [go_sem] <;> rfl) (fun hc => ?_) (fun hc => ?_)
 rotate_left
 ·refine EvC.exit ?_
  obtain rfl : s = ps.length := by have : ¬ s < ps.length := (by simpa using hc); omega
  rw [List.drop_length, lgA] at i2
  subst i2
  clear hc
  refine EvC.a ?_
  have hwe : w.isEmpty = false := by cases w with
   | nil => simp at hwm
   | cons a w => rfl
  by_cases hlt : lgL ps < l
  ·have hlt2 : (lgL ps : Int) < l := by omega
   rw [if_pos hlt] at h2
   refine EvC.ct ?_ (by simp only [go_sem, decide_eq_true hlt2] <;> rfl)
   refine EvC.a ?_
   refine EvC.b ?_ (by simp only [go_sem, hit, hge] <;> rfl) (by simp; try omega)
   refine EvC.b ?_ (hok := by exact inI64_of (by omega) (by omega))
   exact ⟨[], (j + 1 + 1, w, lgL ps), rfl, (by rw [hiZ]; simp only [go_sem, Int.natCast_add, Int.natCast_one, hun, hXn, hwe] <;> rfl), ⟨by simp only; omega, h2, by simp only; omega⟩, by simp only; omega⟩
  ·have hlt2 : ¬ (lgL ps : Int) < l := by omega
   rw [if_neg hlt] at h2
   refine EvC.cs ?_ (by simp only [go_sem, decide_eq_false hlt2] <;> rfl)
   refine EvC.b ?_ (hok := by exact inI64_of (by omega) (by omega))
   exact ⟨[], (j + 1 + 1, b, l), rfl, (by rw [hiZ]; simp only [go_sem, Int.natCast_add, Int.natCast_one, hun, hXn] <;> rfl), ⟨by simp only; omega, h2, h3⟩, by simp only; omega⟩
 have hsl : s < ps.length := by simpa using hc
 clear hc
 have hpe : ps[s]? = some ps[s] := List.getElem?_eq_getElem hsl
 have hdr2 : ps.drop s = ps[s] :: ps.drop (s + 1) := List.drop_eq_getElem_cons hsl
 generalize ps[s] = p at hpe hdr2
 obtain ⟨px, pw⟩ := p
 rw [hdr2, lgA] at i2
 simp only at i2
 have hp2 : (ps.map (partC kN))[s]? = some [.sl false (pw.map intC) .unk] := by rw [List.getElem?_map, hpe]; rfl
 obtain ⟨kZ, hkZ⟩ : ∃ z : Int, z = (s : Int) := ⟨_, rfl⟩
 have hkt : kZ.toNat = s := by omega
 rw [← hkZ]
 have hmx : (if (lg : Int) ≤ (pw.length : Int) then (pw.length : Int) else (lg : Int)) = ((max lg pw.length : Nat) : Int) := by split <;> omega
 refine EvC.skip ?_
 refine EvC.seq ?_
 refine EvC.block ?_
 refine EvC.b ?_ (by simp only [go_sem, hp2, hkt, hpl4, List.length_map, hmx] <;> rfl) (by simp; omega)
 refine EvC.b ?_ (hok := by exact inI64_of (by omega) (by omega))
 exact ⟨[], (s + 1, max lg pw.length), rfl, (by rw [hkZ]; simp only [go_sem, hmx, hpl4, Int.natCast_add, Int.natCast_one] <;> rfl), ⟨hsl, i2⟩, by simp only; omega⟩
set_option maxRecDepth 100000
theorem tog_noNil : NoNil togM := fun r hr h => by
 simp only [togM, List.mem_cons, List.not_mem_nil, or_false] at hr
 rcases hr with rfl | rfl <;> cases h
def exL : List FA := [⟨0, 0, 0, 0, 0, 1⟩, ⟨0, 0, 1, 0, 0, 1⟩, ⟨0, 1, 0, 0, 0, 0⟩, ⟨0, 1, 1, 0, 0, 1⟩]
theorem ex_susp1 : suspA togM [0] 2 2 [⟨[0, 0], [0, 0], false, false⟩] 4 = .tu [.sl false ([⟨0, 1, 0, 0, 0, 0⟩].map FA.cells) .full, .sc (.bool false), .sc (.int .i64 0)] := by kernel_rfl
theorem ex_susp2 : suspA togM [0] 2 2 [⟨[0], [0], false, false⟩] 4 = .tu [.sl false ((exL.drop 1).map FA.cells) .full, .sc (.bool true), .sc (.int .i64 0)] := by kernel_rfl
theorem ex_next : nextA togM exL 2 = .tu [.sl false ([0, 0].map intC) .full, .sc (.int .i64 2), .sc (.int .i64 0)] := by kernel_rfl
def liT : List Nd := [⟨[0, 1, 2, 3], [0], [([1], 1), ([0], 2)]⟩, ⟨[0], [], []⟩, ⟨[1, 2, 3], [1], [([1], 3), ([0], 4)]⟩, ⟨[1], [], []⟩, ⟨[2, 3], [0, 0], [([0, 0], 5), ([0, 1], 6)]⟩, ⟨[2], [], []⟩, ⟨[3], [], []⟩]
theorem ex_diag : diagL (exL.map (mutF togM)) 4 = liT := by kernel_rfl
theorem ex_diagA : diagA togM exL = .tu [.sl false (liT.map ndC) .full, .sc (.int .i64 0)] := by
 have h1 : mutErr togM exL = 0 := by kernel_rfl
 rw [diagA, if_neg (by simp [h1]), if_neg (by simp [exL]), show exL.length = 4 from rfl, ex_diag]
theorem ex_cls : clsA togM [⟨1, 1, 1, 1, 0, 0⟩] = .tu [.sl true [] .unk, .sc (.int .i64 1)] := by kernel_rfl
set_option maxRecDepth 10000
abbrev fA (a b c d e f : Int) : List AV := [.sc (.int .i64 a), .sc (.int .i64 b), .sc (.int .i64 c), .sc (.int .i64 d), .sc (.int .i64 e), .sc (.int .i64 f)]
def togRs : List (List AV) := togM.rows.map rowC
abbrev togC : List AV := [.sc (.int .i64 2), .sc (.int .i64 2), .sl false togRs .unk]
theorem ex_tog_is : PureIs prog 32 [] (.ag togC) := toggle_is
abbrev iA (a : Int) : List AV := [.sc (.int .i64 a)]
abbrev exA : AV := .sl false [fA 0 0 0 0 0 1, fA 0 0 1 0 0 1, fA 0 1 0 0 0 0, fA 0 1 1 0 0 1] .full
theorem ex_one1_is : PureIs prog 41 [.sl false [iA 0, iA 0] .full, .sl false [iA 0, iA 0] .full] (.ag [.sc (.int .i64 2), .sc (.int .i64 2), .sl false [[.sl false [iA 0, iA 0] .unk, .sl false [iA 0, iA 0] .unk]] .unk]) :=
 (one_is false [0, 0] .full false [0, 0] .full).weakR
theorem ex_one2_is : PureIs prog 41 [.sl false [iA 0] .full, .sl false [iA 0] .full] (.ag [.sc (.int .i64 2), .sc (.int .i64 2), .sl false [[.sl false [iA 0] .unk, .sl false [iA 0] .unk]] .unk]) :=
 (one_is false [0] .full false [0] .full).weakR
theorem tog_rows : ∀ r ∈ togM.rows, r.2.length < 1000000 := by decide
theorem ex_susp1_is : PureIs prog 11 [.ag togC, .sl false [iA 0] .full, .ag [.sc (.int .i64 2), .sc (.int .i64 2), .sl false [[.sl false [iA 0, iA 0] .unk, .sl false [iA 0, iA 0] .unk]] .unk], .sc (.int .i64 4)] (.tu [.sl false [fA 0 1 0 0 0 0] .full, .sc (.bool false), .sc (.int .i64 0)]) := by
 have q := suspects_is togM tog_rows tog_noNil false [0] .unk (by decide) 2 2 false [⟨[0, 0], [0, 0], false, false⟩] ⟨by decide, by decide, by decide⟩ 4
 rw [ex_susp1] at q
 exact .weak q
theorem ex_susp2_is : PureIs prog 11 [.ag togC, .sl false [iA 0] .full, .ag [.sc (.int .i64 2), .sc (.int .i64 2), .sl false [[.sl false [iA 0] .unk, .sl false [iA 0] .unk]] .unk], .sc (.int .i64 4)] (.tu [.sl false [fA 0 0 1 0 0 1, fA 0 1 0 0 0 0, fA 0 1 1 0 0 1] .full, .sc (.bool true), .sc (.int .i64 0)]) := by
 have q := suspects_is togM tog_rows tog_noNil false [0] .unk (by decide) 2 2 false [⟨[0], [0], false, false⟩] ⟨by decide, by decide, by decide⟩ 4
 rw [ex_susp2] at q
 exact .weak q
theorem ex_next_is : PureIs prog 19 [.ag togC, exA, .sc (.int .i64 2)] (.tu [.sl false [iA 0, iA 0] .full, .sc (.int .i64 2), .sc (.int .i64 0)]) := by
 have q := next_is togM tog_rows tog_noNil false exL .unk (by decide) 2
 rw [ex_next] at q
 exact .weak q
theorem ex_diag_is : PureIs prog 22 [.ag togC, exA] (.tu [.sl false (liT.map ndC) .full, .sc (.int .i64 0)]) := by
 have q := diagnose_is togM tog_rows tog_noNil false exL .unk (by decide)
 rw [ex_diagA] at q
 exact .weak q
theorem ex_cls_is : PureIs prog 16 [.ag togC, .sl false [fA 1 1 1 1 0 0] .full] (.tu [.sl true [] .unk, .sc (.int .i64 1)]) := by
 have q := classes_is togM tog_rows tog_noNil false [⟨1, 1, 1, 1, 0, 0⟩] .unk (by decide)
 rw [ex_cls] at q
 exact .weak q
theorem ex_walk : walkA (liT.map ndG) togM = .tu [.sl false ([3].map intC) .full, .sl false ([[0], [1], [0, 0]].map askC) .full, .sc (.int .i64 0)] := by kernel_rfl
theorem ex_walk_is : PureIs prog 24 [.sl false (liT.map ndC) .full, .ag togC] (.tu [.sl false [iA 3] .full, .sl false [[.sl false [iA 0] .full], [.sl false [iA 1] .full], [.sl false [iA 0, iA 0] .full]] .full, .sc (.int .i64 0)]) := by
 have q := walk_is false (liT.map ndG) .full togM tog_rows (by
  intro d hd
  obtain ⟨x, hx, rfl⟩ := List.mem_map.1 hd
  have h1 : ∀ x ∈ liT, x.sus.length < 1000000 ∧ x.word.length < 1000000 ∧ x.br.length < 1000000 ∧ ∀ b ∈ x.br, b.1.length < 1000000 := by decide
  obtain ⟨g1, g2, g3, g4⟩ := h1 x hx
  refine ⟨⟨g1, g2, by show (x.br.map _).length < 1000000; rw [List.length_map]; exact g3, fun b hb => ?_⟩, ⟨(fun h => by cases h), fun h => ?_⟩⟩
  ·obtain ⟨y, hy, rfl⟩ := List.mem_map.1 hb
   exact g4 y hy
  ·exact List.isEmpty_iff.1 h) (by decide)
 rw [ex_walk, List.map_map, show ngC ∘ ndG = ndC from funext ndG_cells] at q
 exact q
theorem ex_same_is (na nb : Bool) (ca cb : Cp) (a : List Int) (hl : a.length < 1000000) : PureIs prog 21 [.sl na (a.map intC) ca, .sl nb (a.map intC) cb] (.sc (.bool true)) := by
 have q := same_is na a ca nb a cb hl
 rwa [decide_eq_true rfl] at q
theorem ex_sameF1_is : PureIs prog 13 [.sl false [fA 0 1 0 0 0 0] .full, .sl false [fA 0 1 0 0 0 0] .unk] (.sc (.bool true)) := by
 have q := sameF_is false [⟨0, 1, 0, 0, 0, 0⟩] .full false [⟨0, 1, 0, 0, 0, 0⟩] .unk (by decide)
 rwa [decide_eq_true rfl] at q
theorem ex_sameF2_is : PureIs prog 13 [.sl false [fA 0 0 1 0 0 1, fA 0 1 0 0 0 0, fA 0 1 1 0 0 1] .full, .sl false [fA 0 0 1 0 0 1, fA 0 1 0 0 0 0, fA 0 1 1 0 0 1] .full] (.sc (.bool true)) := by
 have q := sameF_is false [⟨0, 0, 1, 0, 0, 1⟩, ⟨0, 1, 0, 0, 0, 0⟩, ⟨0, 1, 1, 0, 0, 1⟩] .full false [⟨0, 0, 1, 0, 0, 1⟩, ⟨0, 1, 0, 0, 0, 0⟩, ⟨0, 1, 1, 0, 0, 1⟩] .full (by decide)
 rwa [decide_eq_true rfl] at q
set_option maxHeartbeats 4000000 in
theorem lives_is : PureIs prog 14 [] (.sc (.bool true)) := by
 refine PureIs.of1 16 [104, 165] func14 ntmps14 results14 fun _ => ?_
 refine EvC.a ?_
 apply EvC.s1
 ·apply Tr.run
  ·simp only [go_sem] <;> rfl
  ·simp
  apply Tr.cons
  ·exact .ca (ex_tog_is)
  apply Tr.done
  ·simp only [go_sem] <;> rfl
  ·simp
 refine EvC.z 2 ?_
 refine EvC.a ?_
 apply EvC.seq
 apply EvC.drw mixed
 ·apply Tr.run
  ·simp only [go_sem] <;> rfl
  ·simp
  apply Tr.cons
  ·exact .ca (ex_one1_is)
  apply Tr.run
  ·simp only [go_sem] <;> rfl
  ·simp
  apply Tr.cons
  ·exact .ca (ex_susp1_is)
  apply Tr.done
  ·simp only [go_sem] <;> rfl
  ·simp
 ·kernel_rfl
 apply EvC.seq
 apply EvC.drw mixed
 ·apply Tr.run
  ·simp only [go_sem] <;> rfl
  ·simp
  apply Tr.cons
  ·exact .ca (ex_one2_is)
  apply Tr.run
  ·simp only [go_sem] <;> rfl
  ·simp
  apply Tr.cons
  ·exact .ca (ex_susp2_is)
  apply Tr.done
  ·simp only [go_sem] <;> rfl
  ·simp
 ·kernel_rfl
 apply EvC.s1
 ·apply Tr.run
  ·simp only [go_sem] <;> rfl
  ·simp
  apply Tr.cons
  ·exact .ca (ex_next_is)
  apply Tr.done
  ·simp only [go_sem] <;> rfl
  ·simp
 have qd := ex_diag_is
 have qw := ex_walk_is
 have hTl : (liT.map ndC).length = 7 := rfl
 have hTn : (liT.map ndC).all AV.norefs = true := by decide
 have t0 : (liT.map ndC)[0]? = some [.sl false [iA 0, iA 1, iA 2, iA 3] .full, .sl false [iA 0] .full, bAV [([1], 1), ([0], 2)]] := rfl
 have t1 : (liT.map ndC)[1]? = some [.sl false [iA 0] .full, .sl true [] .zer, bAV []] := rfl
 have t2 : (liT.map ndC)[2]? = some [.sl false [iA 1, iA 2, iA 3] .full, .sl false [iA 1] .full, bAV [([1], 3), ([0], 4)]] := rfl
 have t3 : (liT.map ndC)[3]? = some [.sl false [iA 1] .full, .sl true [] .zer, bAV []] := rfl
 have t4 : (liT.map ndC)[4]? = some [.sl false [iA 2, iA 3] .full, .sl false [iA 0, iA 0] .full, bAV [([0, 0], 5), ([0, 1], 6)]] := rfl
 have t5 : (liT.map ndC)[5]? = some [.sl false [iA 2] .full, .sl true [] .zer, bAV []] := rfl
 have t6 : (liT.map ndC)[6]? = some [.sl false [iA 3] .full, .sl true [] .zer, bAV []] := rfl
 generalize liT.map ndC = T at qd qw hTl hTn t0 t1 t2 t3 t4 t5 t6
 apply EvC.s1
 ·apply Tr.run
  ·simp only [go_sem] <;> rfl
  ·simp
  apply Tr.cons
  ·exact .ca (qd)
  apply Tr.done
  ·simp only [go_sem] <;> rfl
  ·simp
 refine EvC.seq ?_
 apply EvC.s1
 ·apply Tr.run
  ·simp only [go_sem, hTl] <;> rfl
  ·simp
  apply Tr.cons
  ·exact .cg (ex_sameF1_is)
  apply Tr.run
  ·simp only [go_sem, hTl] <;> rfl
  ·simp
  apply Tr.cons
  ·exact .cg (ex_sameF2_is)
  apply Tr.run
  ·simp only [go_sem, hTl] <;> rfl
  ·simp
  apply Tr.cons
  ·exact .cg (ex_same_is false false .full .full [0, 0] (by decide))
  apply Tr.done
  ·simp only [go_sem] <;> rfl
  ·simp
 refine EvC.cs ?_ (by simp only [go_sem, hTl] <;> rfl)
 refine EvC.seq ?_
 apply EvC.s1
 ·apply Tr.run
  ·simp only [go_sem, hTl, t0, t1, t2, t3, t4, t5, t6] <;> rfl
  ·simp [hTl]
  apply Tr.cons
  ·exact .ca (ex_same_is false false .full .full [0] (by decide))
  apply Tr.run
  ·simp only [go_sem, hTl, t0, t1, t2, t3, t4, t5, t6] <;> rfl
  ·simp [hTl]
  apply Tr.cons
  ·exact .cg (ex_same_is false false .full .full [1] (by decide))
  apply Tr.run
  ·simp only [go_sem, hTl, t0, t1, t2, t3, t4, t5, t6] <;> rfl
  ·simp [hTl]
  apply Tr.cons
  ·exact .cg (ex_same_is false false .full .full [0, 0] (by decide))
  apply Tr.run
  ·simp only [go_sem, hTl, t0, t1, t2, t3, t4, t5, t6] <;> rfl
  ·simp [hTl]
  apply Tr.cons
  ·exact .cg (ex_same_is false false .full .full [0] (by decide))
  apply Tr.run
  ·simp only [go_sem, hTl, t0, t1, t2, t3, t4, t5, t6] <;> rfl
  ·simp [hTl]
  apply Tr.cons
  ·exact .cg (ex_same_is false false .full .full [1] (by decide))
  apply Tr.run
  ·simp only [go_sem, hTl, t0, t1, t2, t3, t4, t5, t6] <;> rfl
  ·simp [hTl]
  apply Tr.cons
  ·exact .cg (ex_same_is false false .full .full [2] (by decide))
  apply Tr.run
  ·simp only [go_sem, hTl, t0, t1, t2, t3, t4, t5, t6] <;> rfl
  ·simp [hTl]
  apply Tr.cons
  ·exact .cg (ex_same_is false false .full .full [3] (by decide))
  apply Tr.done
  ·simp only [go_sem] <;> rfl
  ·simp
 refine EvC.cs ?_
 apply EvC.s1
 ·apply Tr.run
  ·simp only [go_sem] <;> rfl
  ·simp
  apply Tr.cons
  ·exact .ca (qw)
  apply Tr.done
  ·simp only [go_sem] <;> rfl
  ·simp
 apply EvC.s1
 ·apply Tr.run
  ·simp only [go_sem] <;> rfl
  ·simp
  apply Tr.cons
  ·exact .ca (ex_cls_is)
  apply Tr.done
  ·simp only [go_sem] <;> rfl
  ·simp
 have qs : PureIs prog 17 [.sl false [[.sl false [iA 0] .full], [.sl false [iA 1] .full], [.sl false [iA 0, iA 0] .full]] .full, .sl false [[.sl false [iA 0] .full], [.sl false [iA 1] .full], [.sl false [iA 0, iA 0] .full]] .full] (.sc (.bool true)) := by
  have q := same37_is false false [(false, [0], .full), (false, [1], .full), (false, [0, 0], .full)] [(false, [0], .full), (false, [1], .full), (false, [0, 0], .full)] .full .full (by decide) (by decide)
  rw [sameW_refl] at q
  exact q
 apply EvC.s1
 ·apply Tr.run
  ·simp only [go_sem] <;> rfl
  ·simp
  apply Tr.cons
  ·exact .cg (ex_same_is false false .full .full [3] (by decide))
  apply Tr.run
  ·simp only [go_sem] <;> rfl
  ·simp
  apply Tr.cons
  ·exact .cg (qs)
  apply Tr.done
  ·simp only [go_sem] <;> rfl
  ·simp
 refine EvC.rz ?_
 simp only [go_sem]
theorem Valid.check {m : Mach} (h : Valid m) : checkM m = 0 := by
 have h1 := h.ins
 have h2 := h.outs
 have h3 := h.rows
 unfold checkM
 rw [if_neg (by omega), if_neg (by omega), if_pos]
 rw [List.all_eq_true]
 intro r hr
 obtain ⟨k1, k2⟩ := h.row r hr
 simp only [rowOk, Bool.and_eq_true, decide_eq_true_eq, Bool.not_eq_true', List.any_eq_false]
 exact ⟨k1, fun e he => by simpa using k2 e he⟩
theorem LM.small {x : LM} (h : x.Ok) : x.mach.rows.length ≤ 6 ∧ x.mach.ins ≤ 3 := by
 obtain ⟨b1, b2, b3, b4, b5, b6, -, -⟩ := LM.bounds h
 rw [show x.mach.rows.length = x.n by simp [LM.mach]]
 exact ⟨b2, by show (x.i : Int) ≤ 3; omega⟩
theorem LM.noNil (x : LM) : NoNil x.mach := fun r hr h => by
 simp only [LM.mach, List.mem_map] at hr
 obtain ⟨s, _, rfl⟩ := hr
 cases h
structure LogGood (m : Mach) (L : List TR) : Prop where
 len : L.length ≤ 8
 w : ∀ t ∈ L, t.w.length ≤ 8
 a : ∀ t ∈ L, ∀ a ∈ t.w, 0 ≤ a ∧ a < m.ins
 r : ∀ t ∈ L, t.r.length = t.w.length
 c : checkL m.ins m.outs L = 0
theorem sOfL_len (x : LM) (ls : List Int) : (sOfL x ls).length ≤ 16 := pickF_len _ _ 16
theorem sOfL_ok {x : LM} (hx : x.Ok) (ls : List Int) : ∀ f ∈ sOfL x ls, checkF x.mach f = 0 := fun f hf => checkF_small (faK_mem (pickF_mem hf)) (by have := (LM.small hx).1; omega)
theorem errFs_ok {m : Mach} : ∀ {fs : List FA}, (∀ f ∈ fs, checkF m f = 0) → errFs m fs = 0
 | [], _ => rfl
 | f :: fs, h => by rw [errFs, if_pos (h f List.mem_cons_self)]; exact errFs_ok fun g hg => h g (List.mem_cons_of_mem _ hg)
theorem mutErr_ok2 {m : Mach} {fs : List FA} (hv : Valid m) (hf : ∀ f ∈ fs, checkF m f = 0) (hl : fs.length ≤ 256) : mutErr m fs = 0 := by
 unfold mutErr
 rw [if_neg (by rw [hv.check]; simp), if_neg (by omega), errFs_ok hf]
theorem nextF_mem (X : List Mach) (n : Nat) : ∀ (ws : List (List Int)) (b : List Int) (l : Nat), (nextF X n ws b l).1 = b ∨ (nextF X n ws b l).1 ∈ ws
 | [], _, _ => .inl rfl
 | w :: ws, b, l => by
   rw [nextF]
   split
   ·rcases nextF_mem X n ws w (lgW X n w) with h | h
    ·exact .inr (by rw [h]; exact List.mem_cons_self)
    ·exact .inr (List.mem_cons_of_mem _ h)
   ·rcases nextF_mem X n ws b l with h | h
    ·exact .inl h
    ·exact .inr (List.mem_cons_of_mem _ h)
set_option maxHeartbeats 4000000 in
theorem culpritsNext_is {x : LM} (hx : x.Ok) (ln : Bool) (ls : List Int) (lc : Cp) (hls : ∀ v ∈ ls, 0 ≤ v ∧ v < 65536) (b : Int) (hb : 0 ≤ b ∧ b < 256) :
  PureIs prog 5 [.ag (x.cells ++ [.sl ln (ls.map u16C) lc]), .sc (.int .u8 b)] (.sc (.bool true)) := by
 have va := LM.valid hx
 have q0 := sOf19_is hx ln ls lc hls
 have hfv := sOfL_ok hx ls
 have hfl := sOfL_len x ls
 have hcl : x.cells ++ [AV.sl ln (ls.map u16C) lc] = [.sc (.int .u8 x.st), .sc (.int .u8 x.ins), .sc (.int .u8 x.outs), .sc (.bool x.part), .sl x.nl (x.es.map u16C) x.cap, .sl ln (ls.map u16C) lc] := rfl
 rw [hcl] at q0 ⊢
 have hnn := LM.noNil x
 have h3 := (LM.small hx).2
 generalize sOfL x ls = fs at q0 hfv hfl
 generalize x.mach = m at va q0 hfv hnn h3
 have hmi := va.ins
 obtain ⟨k, hk, hk1, hk2⟩ : ∃ k : Nat, (1 : Int) + b % 3 = k ∧ 1 ≤ k ∧ k ≤ 3 := ⟨(1 + b % 3).toNat, by omega, by omega, by omega⟩
 have hpow : m.ins.toNat ^ k ≤ 4096 := Nat.le_trans (Nat.pow_le_pow_left (show m.ins.toNat ≤ 3 by omega) k) (Nat.le_trans (Nat.pow_le_pow_right (by decide) hk2) (by decide))
 have q1 := next_is m va.small hnn fs.isEmpty fs .unk (by omega) k
 have q2 := refnext_is m va fs.isEmpty fs .unk hfv (by omega) k (by omega) hpow
 rw [nextA, if_neg (by rw [mutErr_ok2 va hfv (by omega)]; simp), show ((k : Int)).toNat = k from Int.toNat_natCast k] at q1
 have hn := fas_norefs fs
 have hfl2 : (fs.map FA.cells).length = fs.length := List.length_map _
 have q4 := lives_is
 have hI : inI64 (k : Int) = true := inI64_of (by omega) (by omega)
 have hI3 : inI64 (b % 3) = true := inI64_of (by omega) (by omega)
 have hI4 : inI64 b = true := inI64_of (by omega) (by omega)
 by_cases h0 : fs.length = 0
 ·rw [if_pos (by omega)] at q1
  generalize fs.map FA.cells = FS at q0 q1 q2 hn hfl2
  rw [Mach.cells] at q0 q1
  refine PureIs.of1 3 [4, 5, 6, 7, 8, 9, 10, 11, 12, 32] func5 ntmps5 results5 fun _ => ?_
  refine EvC.a ?_
  refine EvC.z 0 ?_
  apply EvC.s1
  ·apply Tr.run
   ·simp only [go_sem] <;> rfl
   ·simp
   apply Tr.cons
   ·exact .ca (q0)
   apply Tr.done
   ·simp only [go_sem] <;> rfl
   ·simp
  refine EvC.z 7 ?_
  refine EvC.a ?_ (by simp only [go_sem, hk] <;> rfl) (by simp [hI, hI3, hI4, hb.1])
  apply EvC.s1
  ·apply Tr.run
   ·simp only [go_sem] <;> rfl
   ·simp
   apply Tr.cons
   ·exact .ca (q1)
   apply Tr.done
   ·simp only [go_sem, hn] <;> rfl
   ·simp [hn]
  refine EvC.seq ?_
  refine EvC.a ?_ (by simp only [go_sem, hfl2] <;> rfl)
  refine EvC.ct ?_ (by simp only [go_sem, decide_eq_true (show (fs.length : Int) = 0 by omega)] <;> rfl)
  apply EvC.s1
  ·apply Tr.run
   ·simp only [go_sem] <;> rfl
   ·simp
   apply Tr.cons
   ·exact .cg (q4)
   apply Tr.done
   ·simp only [go_sem] <;> rfl
   ·simp
  refine EvC.rz ?_
  simp only [go_sem]
 rw [if_neg (by omega), if_neg (by rw [(fewN_pow (K := m.ins.toNat) (by omega) k 1 (by decide)).2 (by omega)]; simp)] at q1
 have hw : (nextF (fs.map (mutF m)) fs.length (upL m.ins.toNat k) [] (fs.length + 1)).1.length < 1000000 := by
  rcases nextF_mem (fs.map (mutF m)) fs.length (upL m.ins.toNat k) [] (fs.length + 1) with h | h
  ·rw [h]; decide
  ·have := (upL_mem (by omega) h).2.1; omega
 generalize nextF (fs.map (mutF m)) fs.length (upL m.ins.toNat k) [] (fs.length + 1) = R at q1 q2 hw
 have q3 := same_is false R.1 .full R.1.isEmpty R.1 .unk hw
 rw [decide_eq_true rfl] at q3
 have hW := norefs_intC R.1
 generalize R.1.map intC = W at q1 q2 q3 hW
 generalize fs.map FA.cells = FS at q0 q1 q2 hn hfl2
 rw [Mach.cells] at q0 q1 q2
 refine PureIs.of1 3 [4, 5, 6, 7, 8, 9, 10, 11, 12, 32] func5 ntmps5 results5 fun _ => ?_
 refine EvC.a ?_
 refine EvC.z 0 ?_
 apply EvC.s1
 ·apply Tr.run
  ·simp only [go_sem] <;> rfl
  ·simp
  apply Tr.cons
  ·exact .ca (q0)
  apply Tr.done
  ·simp only [go_sem] <;> rfl
  ·simp
 refine EvC.z 7 ?_
 refine EvC.a ?_ (by simp only [go_sem, hk] <;> rfl) (by simp [hI, hI3, hI4, hb.1])
 apply EvC.s1
 ·apply Tr.run
  ·simp only [go_sem] <;> rfl
  ·simp
  apply Tr.cons
  ·exact .ca (q1)
  apply Tr.done
  ·simp only [go_sem, hn] <;> rfl
  ·simp [hn, hW]
 refine EvC.seq ?_
 refine EvC.a ?_ (by simp only [go_sem, hfl2] <;> rfl)
 refine EvC.cs ?_ (by simp only [go_sem, decide_eq_false (show ¬ (fs.length : Int) = 0 by omega)] <;> rfl)
 apply EvC.s1
 ·apply Tr.run
  ·simp only [go_sem, hn, hW] <;> rfl
  ·simp
  apply Tr.cons
  ·exact .ca (q2)
  apply Tr.done
  ·simp only [go_sem, hn, hW] <;> rfl
  ·simp [hn, hW]
 apply EvC.s1
 ·apply Tr.run
  ·simp only [go_sem, hW] <;> rfl
  ·simp
  apply Tr.cons
  ·exact .cg (q3)
  apply Tr.run
  ·simp only [go_sem, hW] <;> rfl
  ·simp
  apply Tr.cons
  ·exact .cg (q4)
  apply Tr.done
  ·simp only [go_sem] <;> rfl
  ·simp
 refine EvC.rz ?_
 simp only [go_sem]
open Go Go.ChangeShapes Go.RowKit
def Live (w : World) : Nat → Nat → Prop := fun b _ => b < w.heap.size
section
variable {H : Type} {enc : TypeId × Value → H} {P : Program} {w : World} {α β : Type}
def Fits (P : Program) (t : TypeId) (d : DataW H) : Prop := ∀ n ∈ d.weights P t, n ≤ reachBytes
theorem fits_all {P : Program} {e : TypeId} : ∀ {l : List (DataW H)}, (∀ n ∈ DataW.weightsAll P e l, n ≤ reachBytes) → ∀ d ∈ l, Fits P e d
 | [], _, d, hd => by cases hd
 | a :: l, h, d, hd => by
   simp only [DataW.weightsAll, List.mem_append] at h
   rcases List.mem_cons.1 hd with rfl | hd
   ·exact fun n hn => h n (.inl hn)
   ·exact fits_all (fun n hn => h n (.inr hn)) d hd
theorem fits_each {P : Program} : ∀ {ts : List TypeId} {l : List (DataW H)}, (∀ n ∈ DataW.weightsEach P ts l, n ≤ reachBytes) → ∀ (i : Nat) t d, ts[i]? = some t → l[i]? = some d → Fits P t d
 | [], _, _, i, t, d, h1, _ => by simp at h1
 | _ :: _, [], _, i, t, d, _, h2 => by simp at h2
 | a :: ts, b :: l, h, i, t, d, h1, h2 => by
   simp only [DataW.weightsEach, List.mem_append] at h
   cases i with
   | zero =>
     simp only [List.getElem?_cons_zero, Option.some.injEq] at h1 h2
     subst h1; subst h2
     exact fun n hn => h n (.inl hn)
   | succ i => exact fits_each (fun n hn => h n (.inr hn)) i t d (by simpa using h1) (by simpa using h2)
def Reads (enc : TypeId × Value → H) (P : Program) (w : World) (t : TypeId) (f : α → List AV) (Ok : α → Prop) : Prop :=
 ∀ fuel cs x, Fits P t x.1 → DataW.trod enc P w 0 (fun _ => true) true fuel t cs = some x →
   ∃ a, Ok a ∧ Imms (Live w) w cs (f a) ∧ ∀ v ∈ cs, v.oneCell' = true
theorem Imms.one {F : Nat → Nat → Prop} {v : Value} {x : AV} (h : Imm F w v x) : Imms F w [v] [x] :=
 ⟨rfl, fun i h1 _ => by have : i = 0 := by simpa using h1
                        subst this; exact h⟩
theorem Imms.append {F : Nat → Nat → Prop} {vs vs' : List Value} {xs xs' : List AV} (h : Imms F w vs xs) (h' : Imms F w vs' xs') : Imms F w (vs ++ vs') (xs ++ xs') := by
 have e := h.1
 have e' := h'.1
 refine ⟨by simp [e, e'], fun i h1 h2 => ?_⟩
 by_cases hi : i < vs.length
 ·rw [List.getElem_append_left hi, List.getElem_append_left (by omega)]; exact h.2 i _ _
 ·rw [List.getElem_append_right (by omega), List.getElem_append_right (by omega)]
  have := h'.2 (i - vs.length) (by simp at h1; omega) (by simp at h2; omega)
  simpa only [e] using this
theorem Reads.mono {t : TypeId} {f : α → List AV} {Ok : α → Prop} {g : β → List AV} {Ok' : β → Prop} (h : Reads enc P w t f Ok) (hq : ∀ a, Ok a → ∃ b, Ok' b ∧ g b = f a) : Reads enc P w t g Ok' :=
 fun fuel cs x hs ht => let ⟨a, h1, h2, h3⟩ := h fuel cs x hs ht; let ⟨b, k1, k2⟩ := hq a h1; ⟨b, k1, by rw [k2]; exact h2, h3⟩
theorem Reads.int {t : TypeId} {k : IntKind} (ht : P.underlying t = some (.int k)) : Reads enc P w t (fun n : Int => [.sc (.int k n)]) (fun n => (Lit.int k n).wf = true) := fun fuel cs x _ h => by
 obtain ⟨n, rfl, rfl, hw⟩ := DataW.trod_int ht h
 exact ⟨n, hw, .one (.sc _), by simp [Value.oneCell']⟩
theorem Reads.bool {t : TypeId} (ht : P.underlying t = some .bool) : Reads enc P w t (fun b : Bool => [.sc (.bool b)]) (fun _ => True) := fun fuel cs x _ h => by
 obtain ⟨b, rfl, rfl⟩ := DataW.trod_bool ht h
 exact ⟨b, trivial, .one (.sc _), by simp [Value.oneCell']⟩
theorem pick {α : Type} {p : Nat → α → Prop} (n : Nat) (h : ∀ i, i < n → ∃ a, p i a) : ∃ l : List α, l.length = n ∧ ∀ i (hi : i < l.length), p i l[i] := by
 induction n with
 | zero => exact ⟨[], rfl, fun i hi => by simp at hi⟩
 | succ n ih =>
   obtain ⟨l, h1, h2⟩ := ih fun i hi => h i (by omega)
   obtain ⟨a, ha⟩ := h n (by omega)
   refine ⟨l ++ [a], by simp [h1], fun i hi => ?_⟩
   by_cases h3 : i < l.length
   ·rw [List.getElem_append_left h3]; exact h2 i h3
   ·have : i = l.length := by simp at hi; omega
    subst this
    rw [List.getElem_append_right (Nat.le_refl _)]
    simpa [h1] using ha
theorem Reads.slice {t e : TypeId} {f : α → List AV} {Ok : α → Prop} (ht : P.underlying t = some (.slice e)) (he : Reads enc P w e f Ok) (hz : ∀ a, (f a).length = P.cellsOf e) (hz0 : 0 < P.cellsOf e) :
  Reads enc P w t (fun x : Bool × List α => [.sl x.1 (x.2.map f) .unk]) (fun x => (∀ y ∈ x.2, Ok y) ∧ (x.1 = true → x.2 = []) ∧ x.2.length * P.bytesOf e ≤ reachBytes) := fun fuel cs x hs h => by
 rcases DataW.trod_slice ht h with ⟨rfl, rfl⟩ | ⟨a, len, cap, elems, rest, n, rfl, rfl, rfl, _, hlc, hcm, hlen, hel, hrest, _⟩
 ·exact ⟨(true, []), ⟨by simp, fun _ => rfl, by simp⟩, .one (.nil _ (.inl rfl)), by simp [Value.oneCell']⟩
 unfold Fits at hs
 simp only [DataW.weights, ht, List.mem_cons, List.mem_append, List.length_map] at hs
 have hbytes : len * P.bytesOf e ≤ reachBytes := by
  have := hs _ (.inl rfl)
  rw [hlen, Nat.add_mul] at this; omega
 have hfit : ∀ i (hi : i < elems.length), Fits P e elems[i].1 := fun i hi =>
  fits_all (l := elems.map (·.1)) (fun n hn => hs n (.inr (.inl hn))) _ (List.mem_map.2 ⟨_, List.getElem_mem hi, rfl⟩)
 by_cases hc0 : cap = 0
 ·have hl0 : len = 0 := by omega
  subst hc0; subst hl0
  exact ⟨(false, []), ⟨by simp, by simp, by simp⟩, .one (.sz a _ (.inl rfl)), by simp [Value.oneCell']⟩
 have hfirst : ∃ v, w.cell? a = some v := by
  have hcells : ∃ cs', w.cells? 0 a (P.cellsOf e) = some cs' := by
   by_cases hl0 : len = 0
   ·subst hl0
    have h1 := (hrest rfl).2 0 (by omega)
    rw [List.getElem?_eq_getElem (by rw [(hrest rfl).1]; omega)] at h1
    obtain ⟨cs', h2, _⟩ := Option.bind_eq_some_iff.1 h1
    refine ⟨cs', ?_⟩
    simpa [Addr.add] using h2
   ·have h1 := hel 0 (by omega)
    rw [List.getElem?_eq_getElem (by omega)] at h1
    obtain ⟨cs', h2, _⟩ := Option.bind_eq_some_iff.1 h1
    refine ⟨cs', ?_⟩
    simpa [Addr.add] using h2
  obtain ⟨cs', h2⟩ := hcells
  obtain ⟨_, q1, q2⟩ := World.cells?_some h2
  have := q2 0 hz0
  rw [List.getElem?_eq_getElem (by omega)] at this
  exact ⟨_, by simpa [Addr.add] using this⟩
 have hsp : a.spot = none := by
  obtain ⟨v, hv⟩ := hfirst
  unfold World.cell? at hv
  cases hsp : a.spot with
  | none => rfl
  | some k =>
    rw [hsp] at hv
    split at hv <;> simp at hv
 obtain ⟨b, off, spt⟩ := a
 cases hsp
 have key : ∀ i, i < len → ∃ y : α, Ok y ∧ ∃ cs', cs'.length = P.cellsOf e ∧ (∀ j (hj : j < cs'.length), w.cell? ⟨b, off + i * P.cellsOf e + j, none⟩ = some cs'[j]) ∧ Imms (Live w) w cs' (f y) ∧ ∀ v ∈ cs', v.oneCell' = true := fun i hi => by
  have h1 := hel i hi
  rw [List.getElem?_eq_getElem (by omega)] at h1
  obtain ⟨cs', h2, h3⟩ := Option.bind_eq_some_iff.1 h1
  obtain ⟨y, k1, k2, k3⟩ := he _ _ _ (hfit i (by omega)) h3
  obtain ⟨_, q1, q2⟩ := World.cells?_some h2
  refine ⟨y, k1, cs', q1, fun j hj => ?_, k2, k3⟩
  have := q2 j (by omega)
  rw [List.getElem?_eq_getElem hj] at this
  rw [← this]
  congr 1
  unfold Addr.add
  by_cases e1 : i * P.cellsOf e = 0
  ·rw [if_pos e1]
   by_cases e2 : j = 0
   ·subst e2; simp [e1]
   ·rw [if_neg e2]; simp [e1]
  ·rw [if_neg e1]
   by_cases e2 : j = 0
   ·subst e2; simp
   ·rw [if_neg e2]
 obtain ⟨l, hl, hp⟩ := pick len key
 refine ⟨(false, l), ⟨fun y hy => ?_, by simp, by rw [hl]; exact hbytes⟩, .one ?_, by simp [Value.oneCell']⟩
 ·obtain ⟨i, hi, rfl⟩ := List.getElem_of_mem hy
  exact (hp i hi).1
 ·
  have hcell : ∀ i j, i < len → j < P.cellsOf e → ∃ v, w.cell? ⟨b, off + i * P.cellsOf e + j, none⟩ = some v ∧ v.oneCell' = true ∧ ∀ (h : i < l.length) (h' : j < (f l[i]).length), Imm (Live w) w v (f l[i])[j] := fun i j hi hj => by
   obtain ⟨_, cs', q1, q2, q3, q4⟩ := hp i (by omega)
   exact ⟨cs'[j], q2 j (by omega), q4 _ (List.getElem_mem _), fun h h' => q3.2 j (by omega) h'⟩
  have hv := fun i j => show ∃ v, i < len → j < P.cellsOf e → w.cell? ⟨b, off + i * P.cellsOf e + j, none⟩ = some v ∧ v.oneCell' = true ∧ ∀ (h : i < l.length) (h' : j < (f l[i]).length), Imm (Live w) w v (f l[i])[j] from by
   by_cases h : i < len ∧ j < P.cellsOf e
   ·obtain ⟨v, hv⟩ := hcell i j h.1 h.2; exact ⟨v, fun _ _ => hv⟩
   ·exact ⟨undef, fun h1 h2 => absurd ⟨h1, h2⟩ h⟩
  have hvs : ∀ i j, ∃ v, v = Classical.choose (hv i j) := fun i j => ⟨_, rfl⟩
  have e0 : (l.map f).length = len := by simp [hl]
  have := Imm.sl (F := Live w) (w := w) b off cap (P.cellsOf e) (l.map f) .unk (fun i j => Classical.choose (hv i j)) (by rw [e0]; exact hlc) (.inl rfl) (fun i hi => by rw [List.getElem_map]; exact hz _)
   (fun i j hi hj => by
    obtain ⟨k1, k2, _⟩ := Classical.choose_spec (hv i j) (by rw [← e0]; exact hi) hj
    refine ⟨?_, k1, k2⟩
    unfold World.cell? at k1
    show b < w.heap.size
    cases hb : w.heap[b]? with
    | none => simp [hb] at k1
    | some o => exact (Array.getElem?_eq_some_iff.1 hb).1)
   (fun i j h h' => by
    have h'2 := h'
    rw [List.getElem_map, hz] at h'2
    have := (Classical.choose_spec (hv i j) (by rw [← e0]; exact h) h'2).2.2 (by simpa using h) (by rw [hz]; exact h'2)
    simpa only [List.getElem_map] using this)
  rw [e0] at this
  exact this
def RdF (enc : TypeId × Value → H) (P : Program) (w : World) (L : List Field) (k tot : Nat) (f : α → List AV) (Ok : α → Prop) : Prop :=
 ∀ (n : Nat) (cs : List Value), cs.length = tot → (∀ fd ∈ L, ∃ y, DataW.trod enc P w 0 (fun _ => true) true n fd.type ((cs.drop fd.offset).take (P.cellsOf fd.type)) = some y ∧ Fits P fd.type y.1) →
   ∃ a, Ok a ∧ Imms (Live w) w (cs.drop k) (f a) ∧ ∀ v ∈ cs.drop k, v.oneCell' = true
theorem RdF.nil {tot : Nat} : RdF enc P w [] tot tot (fun _ : Unit => []) (fun _ => True) := fun n cs hl _ => by
 have : cs.drop tot = [] := by rw [List.drop_eq_nil_iff]; omega
 rw [this]
 exact ⟨(), trivial, ⟨rfl, fun i h => by simp at h⟩, by simp⟩
theorem RdF.cons {fd : Field} {fs : List Field} {k k' sz tot : Nat} {f : α → List AV} {Ok : α → Prop} {g : β → List AV} {Ok' : β → Prop} (ho : fd.offset = k) (hz : P.cellsOf fd.type = sz) (hk : k + sz = k')
  (h : Reads enc P w fd.type f Ok) (hs : RdF enc P w fs k' tot g Ok') : RdF enc P w (fd :: fs) k tot (fun x : α × β => f x.1 ++ g x.2) (fun x => Ok x.1 ∧ Ok' x.2) := fun n cs hl hf => by
 obtain ⟨y, hy, hyf⟩ := hf fd List.mem_cons_self
 obtain ⟨a, h1, h2, h3⟩ := h _ _ _ hyf hy
 obtain ⟨b, k1, k2, k3⟩ := hs n cs hl fun fd' h' => hf fd' (List.mem_cons_of_mem _ h')
 have e : cs.drop k = (cs.drop k).take sz ++ cs.drop k' := by
  rw [← hk, ← List.drop_drop, List.take_append_drop]
 rw [ho, hz] at h2 h3
 refine ⟨(a, b), ⟨h1, k1⟩, by rw [e]; exact h2.append k2, fun v hv => ?_⟩
 rw [e, List.mem_append] at hv
 rcases hv with hv | hv
 ·exact h3 v hv
 ·exact k3 v hv
theorem Reads.struct {t : TypeId} {fs : Array Field} {tot : Nat} {f : α → List AV} {Ok : α → Prop} (ht : P.underlying t = some (.struct fs)) (hz : P.cellsOf t = tot) (h : RdF enc P w fs.toList 0 tot f Ok) : Reads enc P w t f Ok := fun fuel cs x hs hx => by
 obtain ⟨xs, n, _, rfl, hl, hlen, hf⟩ := DataW.trod_struct ht hx
 unfold Fits at hs
 simp only [DataW.weights, ht] at hs
 obtain ⟨a, h1, h2, h3⟩ := h n cs (hl.trans hz) fun fd hfd => by
  obtain ⟨i, hi, rfl⟩ := List.getElem_of_mem hfd
  have := hf i fs.toList[i] (by simp)
  have hix : i < xs.length := by simp at hi; omega
  rw [List.getElem?_eq_getElem hix] at this
  exact ⟨_, this, fits_each hs i _ _ (by rw [List.getElem?_map, List.getElem?_eq_getElem hi]; rfl) (by rw [List.getElem?_map, List.getElem?_eq_getElem hix]; rfl)⟩
 exact ⟨a, h1, by simpa using h2, by simpa using h3⟩
theorem arr_go {sz : Nat} {f : α → List AV} {Ok : α → Prop} : ∀ (n : Nat) (cs : List Value), cs.length = n * sz →
  (∀ i, i < n → ∃ a, Ok a ∧ Imms (Live w) w ((cs.drop (i * sz)).take sz) (f a) ∧ ∀ v ∈ (cs.drop (i * sz)).take sz, v.oneCell' = true) →
  ∃ l : List α, l.length = n ∧ (∀ a ∈ l, Ok a) ∧ Imms (Live w) w cs (l.map f).flatten ∧ ∀ v ∈ cs, v.oneCell' = true
 | 0, cs, hl, _ => by
   have : cs = [] := by cases cs with
    | nil => rfl
    | cons a l => simp at hl
   subst this
   exact ⟨[], rfl, by simp, ⟨rfl, fun i h => by simp at h⟩, by simp⟩
 | n + 1, cs, hl, h => by
   obtain ⟨a, h1, h2, h3⟩ := h 0 (by omega)
   obtain ⟨l, k1, k2, k3, k4⟩ := arr_go (sz := sz) n (cs.drop sz) (by rw [List.length_drop, hl, Nat.add_mul]; omega) fun i hi => by
    have := h (i + 1) (by omega)
    rwa [List.drop_drop, show sz + i * sz = (i + 1) * sz by rw [Nat.add_mul]; omega]
   simp only [Nat.zero_mul, List.drop_zero] at h2 h3
   have e := List.take_append_drop sz cs
   refine ⟨a :: l, by simp [k1], fun b hb => ?_, ?_, fun v hv => ?_⟩
   ·rcases List.mem_cons.1 hb with rfl | hb
    ·exact h1
    ·exact k2 b hb
   ·rw [← e]; simpa using h2.append k3
   ·rw [← e, List.mem_append] at hv
    rcases hv with hv | hv
    ·exact h3 v hv
    ·exact k4 v hv
theorem Reads.array {t e : TypeId} {n sz : Nat} {f : α → List AV} {Ok : α → Prop} (ht : P.underlying t = some (.array n e)) (hz : P.cellsOf e = sz) (ha : P.cellsOf t = n * sz) (h : Reads enc P w e f Ok) :
  Reads enc P w t (fun l : List α => (l.map f).flatten) (fun l => l.length = n ∧ ∀ a ∈ l, Ok a) := fun fuel cs x hs hx => by
 obtain ⟨xs, m, _, rfl, hl, hlen, hf⟩ := DataW.trod_array ht hx
 rw [ha] at hl
 rw [hz] at hf
 unfold Fits at hs
 simp only [DataW.weights, ht] at hs
 obtain ⟨l, h1, h2, h3, h4⟩ := arr_go n cs hl fun i hi => by
  have := hf i hi
  rw [List.getElem?_eq_getElem (by omega)] at this
  exact h _ _ _ (fits_all hs _ (List.mem_map.2 ⟨_, List.getElem_mem _, rfl⟩)) this
 exact ⟨l, ⟨h1, h2⟩, h3, h4⟩
theorem Reads.imm_struct {t : TypeId} {fs : Array Field} {f : α → List AV} {Ok : α → Prop} {r : Reach} {b0 : Nat} {v : Value} {d : DataW H} {ps : List MemPlace} (ht : P.underlying t = some (.struct fs)) (h : Reads enc P w t f Ok)
  (hv : Value.okWide P w r b0 t v) (hw : Fits P t d) (hd : DataW.Trod enc P w 0 (fun _ => true) true t v d ps) : ∃ a, Ok a ∧ Imm (Live w) w v (.ag (f a)) := by
 obtain ⟨cs, rfl, _⟩ := WideShapes.okWide_struct ht hv
 obtain ⟨fuel, hd⟩ := hd
 obtain ⟨a, h1, h2, _⟩ := h _ _ _ hw hd
 refine ⟨a, h1, ?_⟩
 have : (Value.agg cs) = .agg cs.toList.toArray := by simp
 rw [this]
 exact .ag _ _ h2.1 h2.2
theorem Grown.below {F F' : Nat → Nat → Prop} {w' : World} (g : Avl.Grown F w F' w') : Below w.heap.size w w' := ⟨g.kept.os, g.kept.tape, g.kept.output, g.size, g.old⟩
theorem trodAll_stays (hl : laidOutB P = true) {w' : World} (hb : Below w.heap.size w w') {spf : Nat → Bool} : ∀ {ts : List TypeId} {vs : List Value} {ds : List (DataW H)} {ps : List MemPlace}, (∀ t ∈ ts, P.readableRec t = true ∧ t < P.types.size) →
  DataW.TrodAll enc P w 0 (fun _ => true) true ts vs ds ps → (∀ p ∈ ps, p.block < w.heap.size) → (∀ p ∈ ps, spf p.block = true) → DataW.TrodAll enc P w' 0 spf true ts vs ds ps
 | [], [], [], _, _, h, _, _ => h
 | t :: ts, v :: vs, d :: ds, _, hr, ⟨p, q, h1, h2, e⟩, hlt, hsp => by
   subst e
   refine ⟨p, q, ?_, trodAll_stays hl hb (fun t ht => hr t (List.mem_cons_of_mem _ ht)) h2 (fun x hx => hlt x (List.mem_append_right _ hx)) fun x hx => hsp x (List.mem_append_right _ hx), rfl⟩
   have := hr t List.mem_cons_self
   exact WideElems.Trod_stays hl this.1 this.2 h1 (fun x hx => hb.same (hlt x (List.mem_append_left _ hx))) fun x hx => hsp x (List.mem_append_left _ hx)
 | [], _ :: _, _, _, _, h, _, _ => h.elim
 | [], [], _ :: _, _, _, h, _, _ => h.elim
 | _ :: _, [], _, _, _, h, _, _ => h.elim
 | _ :: _, _ :: _, [], _, _, h, _, _ => h.elim
theorem law_calls {f : FuncId} {fn : Func} {s : ChangeSpec} {apart fresh handsOn again : Bool} {args : Array Value} {avs : List AV} {ds : List (DataW H)} {before : List MemPlace} {tb : TypeId}
  (hl : laidOutB P = true) (hrd : (fn.params.toList.all fun t => P.readableRec t && decide (t < P.types.size)) = true) (hrt : fn.resultTypes = #[tb]) (htb : P.underlying tb = some .bool) (hvars : s.vars = [])
  (hs : s.fn H (ds ++ []) = { results := [.lit (.bool true)], args := ds })
  (h : PureIs P f avs (.sc (.bool true))) (hi : Imms (Live w) w args.toList avs) (hW : DataW.Whole enc P fn.params.toList s.vars apart w args.toList ds [] before) (hgl : Globs (Live w) w := by exact fun g vs hg => by cases hg) :
  Calls P f args w fun e W' => ∃ v, e = .returned v ∧ s.post enc P fn apart fresh handsOn again w args v W' := by
 have hW' := hW
 obtain ⟨p, q, hA, hV, rfl, hfz, hnd⟩ := hW
 rw [hvars] at hV
 obtain ⟨_, rfl⟩ := trodVars_none hV
 have hc := callsIn_wide.1 (h.2 (Live w) w args.toList ⟨fun _ _ h => h, hgl⟩ hi)
 rw [Array.toArray_toList] at hc
 refine hc.mono fun e W' ⟨v, F', he, hr, g⟩ => ?_
 have hv : v = .bool true := by cases hr; rfl
 subst hv
 have hb := Grown.below g
 refine ⟨_, he, post_of_same (pa := p) (pv := []) (by simpa using hW') (fun _ _ _ => ?_) (fun sp hsp => ?_) (fun _ _ => ?_) (by simp) (hb.frame _) g.kept.froz ?_⟩
 ·rw [hs, hrt]; exact trodAll_mk1 (shut_bool htb true)
 ·rw [hs]
  refine trodAll_stays hl hb (fun t ht => ?_) hA (fun x hx => hW'.lt x (by simpa using hx)) fun x hx => hsp x (by simpa using hx)
  have := List.all_eq_true.1 hrd t ht
  simpa using this
 ·rw [hvars, hs]; exact rfl
 ·exact ok_one hrt rfl (okWide_bool_mk htb true)
end
open Go Go.Proofs
theorem Reads.imm_int {H : Type} {enc : TypeId × Value → H} {w : World} {α : Type} {P : Program} {t : TypeId} {k : IntKind} {f : α → AV} {Ok : α → Prop} {r : Reach} {b0 : Nat} {v : Value} {d : DataW H} {ps : List MemPlace} (ht : P.underlying t = some (.int k)) (h : Reads enc P w t (fun a => [f a]) Ok)
  (hv : Value.okWide P w r b0 t v) (hw : Fits P t d) (hd : DataW.Trod enc P w 0 (fun _ => true) true t v d ps) : ∃ a, Ok a ∧ Imm (Live w) w v (f a) := by
 have hc : v.cells = #[v] := by
  simp only [Value.okWide, ht, Cell.okWide] at hv
  cases v <;> simp_all [Cell.ok, Value.cells]
 obtain ⟨fuel, hd⟩ := hd
 obtain ⟨a, h1, h2, _⟩ := h _ _ _ hw hd
 rw [hc] at h2
 exact ⟨a, h1, h2.2 0 (by simp) (by simp)⟩
end Go.Avl
namespace Go.Proofs.YtgdcjkcohmjbeaaDoor
open Go Go.Avl Go.Proofs Go.ChangeShapes Go.RowKit
theorem Tryd.own : ownKnob Tryd.prog.godebug = none := by kernel_rfl
theorem Tryd.laidOut : laidOutB Tryd.prog = true := by kernel_rfl
abbrev laidT : List (String × DataW Unit) := [("gauntlet/faults.table", Rows.laid_gauntlet_faults_table)]
section
variable {H : Type} {enc : TypeId × Value → H} {w : World}
theorem u8wf {n : Int} (h : (Lit.int .u8 n).wf = true) : 0 ≤ n ∧ n < 256 := by
 simp [Lit.wf, IntKind.min, IntKind.max, IntKind.signed, IntKind.bits] at h
 omega
theorem len_of {n b : Nat} (hb : 1 ≤ b) (h : n * b ≤ reachBytes) : (n : Int) ≤ 140737488355328 := by
 have h1 : n * 1 ≤ n * b := Nat.mul_le_mul_left n hb
 have h2 : reachBytes ≤ 140737488355328 := by decide
 omega
theorem rd_u8 : Reads enc Tryd.prog w 5 u8C (fun n => 0 ≤ n ∧ n < 256) := (Reads.int (by kernel_rfl)).mono fun a h => ⟨a, u8wf h, rfl⟩
theorem rd_u8' : Reads enc Tryd.prog w 5 (fun n : Int => [.sc (.int .u8 n)]) (fun n => 0 ≤ n ∧ n < 256) := rd_u8
theorem u16wf {n : Int} (h : (Lit.int .u16 n).wf = true) : 0 ≤ n ∧ n < 65536 := by
 simp [Lit.wf, IntKind.min, IntKind.max, IntKind.signed, IntKind.bits] at h
 omega
theorem rd_u16 : Reads enc Tryd.prog w 25 u16C (fun n => 0 ≤ n ∧ n < 65536) := (Reads.int (by kernel_rfl)).mono fun a h => ⟨a, u16wf h, rfl⟩
theorem rd_u16s : Reads enc Tryd.prog w 22 (fun x : Bool × List Int => [.sl x.1 (x.2.map u16C) .unk]) (fun x => (∀ e ∈ x.2, 0 ≤ e ∧ e < 65536) ∧ (x.2.length : Int) ≤ 140737488355328) :=
 (Reads.slice (by kernel_rfl) rd_u16 (fun a => by rw [show Program.cellsOf Tryd.prog 25 = 1 by kernel_rfl]; rfl) (by rw [show Program.cellsOf Tryd.prog 25 = 1 by kernel_rfl]; exact Nat.succ_pos _)).mono fun a h => ⟨a, ⟨h.1, len_of (b := Program.bytesOf Tryd.prog 25) (by decide +kernel) h.2.2⟩, rfl⟩
theorem rd_LM : Reads enc Tryd.prog w 24 LM.cells LM.Ok := by
 have := (Reads.struct (enc := enc) (w := w) (tot := 5) Tryd.underlying24 (by kernel_rfl) (.cons (sz := 1) rfl (by kernel_rfl) rfl rd_u8 (.cons (sz := 1) rfl (by kernel_rfl) rfl rd_u8 (.cons (sz := 1) rfl (by kernel_rfl) rfl rd_u8 (.cons (sz := 1) rfl (by kernel_rfl) rfl (Reads.bool Tryd.underlying4)
  (.cons (sz := 1) rfl (by kernel_rfl) rfl rd_u16s .nil))))))
 exact this.mono fun a h => ⟨⟨a.1, a.2.1, a.2.2.1, a.2.2.2.1, a.2.2.2.2.1.1, a.2.2.2.2.1.2, .unk⟩, ⟨h.1.1, h.2.1.1, h.2.2.1.1, h.2.2.2.2.1.1⟩, rfl⟩
theorem rd_S : Reads enc Tryd.prog w 50 (fun x : LM × Bool × List Int => x.1.cells ++ [.sl x.2.1 (x.2.2.map u16C) .unk]) (fun x => x.1.Ok ∧ ∀ e ∈ x.2.2, 0 ≤ e ∧ e < 65536) := by
 have := (Reads.struct (enc := enc) (w := w) (tot := 6) Tryd.underlying50 (by kernel_rfl) (.cons (sz := 5) rfl (by kernel_rfl) rfl rd_LM (.cons (sz := 1) rfl (by kernel_rfl) rfl rd_u16s .nil)))
 exact this.mono fun a h => ⟨⟨a.1, a.2.1.1, a.2.1.2⟩, ⟨h.1, h.2.1.1⟩, by simp⟩
end
theorem gTable : Tryd.prog.globalNamed "gauntlet/faults.table" = some 0 := by kernel_rfl
theorem tTable : (Tryd.prog.globals[0]?).map (·.type) = some 179 := by kernel_rfl
theorem string_eq {s t : ByteArray} (h : s.data.toList = t.data.toList) : s = t := by
 obtain ⟨⟨l⟩⟩ := s; obtain ⟨⟨k⟩⟩ := t
 simp only at h
 rw [h]
set_option maxRecDepth 100000 in
theorem kind_cells {W : World} {m : Nat} {cs : List Value} {n : List UInt8} {a b c : Bool} {ps : List MemPlace} (h : DataW.trod (fun _ => ()) Tryd.prog W 0 (fun _ => true) false m 178 cs = some (.agg [.lit (.string n), .lit (.bool a), .lit (.bool b), .lit (.bool c)], ps)) :
  cs = [kindN n, .bool a, .bool b, .bool c] := by
 obtain ⟨xs, k, _, he, hl, hlen, hf⟩ := DataW.trod_struct Tryd.underlying178 h
 have hl4 : cs.length = 4 := hl.trans (by kernel_rfl)
 match cs, hl4 with
 | [c0, c1, c2, c3], _ =>
   have h0 : DataW.trod (fun _ => ()) Tryd.prog W 0 (fun _ => true) false k 9 (([c0, c1, c2, c3].drop 0).take (Program.cellsOf Tryd.prog 9)) = xs[0]? := hf 0 _ rfl
   have h1 : DataW.trod (fun _ => ()) Tryd.prog W 0 (fun _ => true) false k 4 (([c0, c1, c2, c3].drop 1).take (Program.cellsOf Tryd.prog 4)) = xs[1]? := hf 1 _ rfl
   have h2 : DataW.trod (fun _ => ()) Tryd.prog W 0 (fun _ => true) false k 4 (([c0, c1, c2, c3].drop 2).take (Program.cellsOf Tryd.prog 4)) = xs[2]? := hf 2 _ rfl
   have h3 : DataW.trod (fun _ => ()) Tryd.prog W 0 (fun _ => true) false k 4 (([c0, c1, c2, c3].drop 3).take (Program.cellsOf Tryd.prog 4)) = xs[3]? := hf 3 _ rfl
   have e9 : Program.cellsOf Tryd.prog 9 = 1 := by kernel_rfl
   have e4 : Program.cellsOf Tryd.prog 4 = 1 := by kernel_rfl
   simp only [e9, e4, List.drop_zero, List.drop_succ_cons, List.take_succ_cons, List.take_zero] at h0 h1 h2 h3
   match xs, hlen with
   | [x0, x1, x2, x3], _ =>
     simp only [Prod.mk.injEq, DataW.agg.injEq, List.map_cons, List.map_nil, List.cons.injEq, and_true] at he
     obtain ⟨⟨e0, e1, e2, e3⟩, _⟩ := he
     obtain ⟨s, q0, r0, _⟩ := DataW.trod_string Tryd.underlying9 h0
     obtain ⟨b1, q1, r1⟩ := DataW.trod_bool Tryd.underlying4 h1
     obtain ⟨b2, q2, r2⟩ := DataW.trod_bool Tryd.underlying4 h2
     obtain ⟨b3, q3, r3⟩ := DataW.trod_bool Tryd.underlying4 h3
     rw [r0] at e0; rw [r1] at e1; rw [r2] at e2; rw [r3] at e3
     simp only [DataW.lit.injEq, Lit.string.injEq, Lit.bool.injEq] at e0 e1 e2 e3
     simp only [List.cons.injEq, and_true] at q0 q1 q2 q3
     subst q0 q1 q2 q3 e1 e2 e3
     have : s = ⟨n.toArray⟩ := string_eq (by simpa using e0.symm)
     rw [this]; rfl
set_option maxRecDepth 100000 in
theorem globs_of {W : World} (h : laidMetH Tryd.prog laidT W) : Globs (Live W) W := by
 rw [MakeChecks.laidMetH_plain _ _ _ (by kernel_rfl)] at h
 obtain ⟨ps, ⟨g, t, cs, fuel, p, q, hg, ht, hvar, hd, _, _⟩, _, _⟩ := h
 obtain rfl := Option.some.inj (gTable.symm.trans hg)
 obtain rfl := Option.some.inj (tTable.symm.trans ht)
 obtain ⟨xs, m, _, he, hl, hlen, hf⟩ := DataW.trod_array Tryd.underlying179 hd
 have e178 : Program.cellsOf Tryd.prog 178 = 4 := by kernel_rfl
 have hl20 : cs.toList.length = 20 := hl.trans (by kernel_rfl)
 have hcs : cs.toList = kindTab := by
  rw [e178] at hf
  match xs, hlen with
  | [x0, x1, x2, x3, x4], _ =>
    have h0 := hf 0 (by decide)
    have h1 := hf 1 (by decide)
    have h2 := hf 2 (by decide)
    have h3 := hf 3 (by decide)
    have h4 := hf 4 (by decide)
    simp only [Rows.laid_gauntlet_faults_table, Prod.mk.injEq, DataW.agg.injEq, List.map_cons, List.map_nil, List.cons.injEq, and_true] at he
    obtain ⟨⟨e0, e1, e2, e3, e4⟩, _⟩ := he
    obtain ⟨d0, p0⟩ := x0
    obtain ⟨d1, p1⟩ := x1
    obtain ⟨d2, p2⟩ := x2
    obtain ⟨d3, p3⟩ := x3
    obtain ⟨d4, p4⟩ := x4
    simp only at e0 e1 e2 e3 e4
    subst e0 e1 e2 e3 e4
    have k0 := kind_cells h0
    have k1 := kind_cells h1
    have k2 := kind_cells h2
    have k3 := kind_cells h3
    have k4 := kind_cells h4
    have key : cs.toList = (cs.toList.drop (0 * 4)).take 4 ++ ((cs.toList.drop (1 * 4)).take 4 ++ ((cs.toList.drop (2 * 4)).take 4 ++ ((cs.toList.drop (3 * 4)).take 4 ++ (cs.toList.drop (4 * 4)).take 4))) := by
     have e : (cs.toList.drop (4 * 4)).take 4 = cs.toList.drop (4 * 4) := List.take_of_length_le (by rw [List.length_drop, hl20]; decide)
     rw [e]
     have s : ∀ k, cs.toList.drop (k * 4) = (cs.toList.drop (k * 4)).take 4 ++ cs.toList.drop ((k + 1) * 4) := fun k => by
      rw [show (k + 1) * 4 = k * 4 + 4 by omega, ← List.drop_drop, List.take_append_drop]
     have z : cs.toList = cs.toList.drop (0 * 4) := by simp
     exact z.trans ((s 0).trans (congrArg _ ((s 1).trans (congrArg _ ((s 2).trans (congrArg _ ((s 3).trans (congrArg _ rfl))))))))
    rw [k0, k1, k2, k3, k4] at key
    rw [key]; rfl
 intro g vs hgv j hj
 match g, hgv with
 | 0, hgv =>
   have hgv : kindTab = vs := by simpa [laidAt] using hgv
   subst hgv
   have hc := World.var?_cell gTable hvar j
   have : cs[j]? = some kindTab[j] := by rw [← Array.getElem?_toList, hcs, List.getElem?_eq_getElem hj]
   rw [this] at hc
   refine ⟨?_, hc⟩
   unfold World.cell? at hc
   show 0 < W.heap.size
   cases hb : W.heap[0]? with
   | none => simp [hb] at hc
   | some o => exact (Array.getElem?_eq_some_iff.1 hb).1
theorem door_met (os : Os) (args : Array Value) : laidMetH Tryd.prog laidT ((World.doorLaid Tryd.prog 400 os).forCall (fun _ _ => 0) ⟨#[], args, []⟩).memory :=
 laidMetH_of_parts3 (fuel := 8) (laidMet_of_run' 8 (by kernel_rfl) (by kernel_rfl)) (by kernel_rfl) (by kernel_rfl)
end Go.Proofs.YtgdcjkcohmjbeaaDoor
