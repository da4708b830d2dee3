/-
  Lemmas.
-/
import Derived.Test.YtmmcendgdcmlkaaDoorPart8
set_option linter.unusedSimpArgs false
set_option linter.unusedVariables false
set_option linter.unnecessarySimpa false
set_option linter.deprecated false
namespace Go.Avl
open Go Go.Proofs.Tryd
set_option maxRecDepth 10000
def bk (s : Nat) : Nat → List FA → List FA
 | 0, l => srtE l
 | k + 1, l => srtE (l.take s) ++ bk s k (l.drop s)
def bkL (s : Nat) (l : List FA) : List FA := bk s (l.length / s) l
theorem bkL_step {s : Nat} {l : List FA} (hs : 0 < s) (h : s ≤ l.length) : bkL s l = srtE (l.take s) ++ bkL s (l.drop s) := by
 have h1 : l.length / s = (l.length - s) / s + 1 := by
  conv => lhs; rw [show l.length = l.length - s + s by omega]
  exact Nat.add_div_right _ hs
 unfold bkL
 rw [h1, bk, List.length_drop]
theorem bkL_last {s : Nat} {l : List FA} (h : l.length < s) : bkL s l = srtE l := by
 unfold bkL
 rw [Nat.div_eq_of_lt h, bk]
theorem bkL_all {s : Nat} {l : List FA} (hs : 0 < s) (h : l.length ≤ s) : bkL s l = srtE l := by
 by_cases e : l.length = s
 ·rw [bkL_step hs (by omega), List.take_of_length_le (by omega), List.drop_of_length_le (by omega), bkL_last (by simpa using hs)]
  exact List.append_nil _
 ·exact bkL_last (by omega)
theorem bkL_len {s : Nat} (hs : 0 < s) : ∀ (K : Nat) (l : List FA), l.length ≤ K → (bkL s l).length = l.length
 | 0, l, h => by rw [bkL_last (by omega), srtE_len]
 | K + 1, l, h => by
   by_cases e : s ≤ l.length
   ·rw [bkL_step hs e, List.length_append, srtE_len, bkL_len hs K _ (by rw [List.length_drop]; omega), List.length_take, List.length_drop]; omega
   ·rw [bkL_last (by omega), srtE_len]
set_option maxHeartbeats 8000000 in
theorem stable_body (L : List FA) (N : Nat) (hN : N = L.length) (hl : N < 1000000) :
  BodyIs prog 73 [.tv 0 N 0 N (.val N), .sc (.int .i64 N), .fn 44 []] (sM L) 1 (fun _ M _ => M = sM (srtE L)) := by
 refine BodyIs.of (nv := 3) (hid := [6, 7, 8, 9, 13, 30, 35, 54, 14, 15, 16, 17, 23, 24, 25, 26, 36, 37, 40, 41, 42, 55, 56, 57, 58, 59]) func73 rfl (by kernel_rfl) (by simp [ntmps73]) fun _ => ?_
 rw [ntmps73, results73]
 refine EvC.a ?_
 refine EvC.a ?_
 refine EvC.seq ?_
 refine EvC.block ?_
 refine EvC.loopS (σ := List FA × List FA) (fun g => ⟨[(0, .tv 0 N 0 N (.val N)), (1, .sc (.int .i64 N)), (2, .fn 44 []), (6, .sc (.int .i64 20)), (7, .sc (.int .i64 g.1.length)), (8, .sc (.int .i64 ((g.1.length + 20 : Nat) : Int)))], [], sM (g.1 ++ g.2), 1⟩) (fun g => g.2.length) (fun g => g.1 ++ bkL 20 g.2 = bkL 20 L ∧ g.1.length + g.2.length = N) [0, 1, 2, 6, 7, 8] 1 ?_ ?_
 ·exact ⟨[(0, 0)], ([], L), rfl, (by rw [show [] ++ L = L from rfl]; simp only [go_sem, sM_fcs, fcs_norefs, List.length_nil, Int.natCast_zero, Nat.zero_add] <;> rfl), rfl, by simp [hN]⟩
 rintro ⟨P, l⟩ ⟨i1, i2⟩
 simp only at i1 i2 ⊢
 obtain ⟨aZ, haZ⟩ : ∃ z : Int, z = (P.length : Int) := ⟨_, rfl⟩
 obtain ⟨bZ, hbZ⟩ : ∃ z : Int, z = ((P.length + 20 : Nat) : Int) := ⟨_, rfl⟩
 rw [← haZ, ← hbZ]
 refine EvC.seq ?_
 refine EvC.a ?_
 by_cases c1 : 20 ≤ l.length
 ·refine EvC.cr ?_ (by simp only [go_sem, decide_eq_true (show bZ ≤ (N : Int) by omega)] <;> rfl)
  refine EvC.block ?_
  apply EvC.seq
  apply EvC.region
  apply XR.run
  ·simp only [go_sem] <;> rfl
  ·simp
  refine XR.gcTo ⟨[(0, .tv 0 N 0 N (.val N)), (1, .sc (.int .i64 N)), (2, .fn 44 []), (6, .sc (.int .i64 20)), (7, .sc (.int .i64 aZ)), (8, .sc (.int .i64 bZ)), (14, .tv 0 N 0 N (.val N)), (15, .sc (.int .i64 P.length)), (16, .sc (.int .i64 ((P.length + 20 : Nat) : Int))), (17, .fn 44 [])], [], sM (P ++ l), 1⟩ [0, 1, 2, 6, 7, 8, 14, 15, 16, 17] [(0, 0)] rfl (by rw [← haZ, ← hbZ]; simp only [go_sem, sM_fcs, fcs_norefs] <;> rfl) ?_
  apply XR.callI rfl rfl (by simp only [go_sem] <;> rfl) (by simp only [go_sem] <;> rfl) (by simp only [go_sem] <;> rfl)
  have hs := insert_body P (l.take 20) (l.drop 20) P.length (P.length + 20) N rfl (by rw [List.length_take]; omega) (by simp; omega) hl
  rw [show P ++ l.take 20 ++ l.drop 20 = P ++ l by rw [List.append_assoc, List.take_append_drop]] at hs
  refine hs.mono fun _ M z h => ?_
  subst h
  refine XR.nil ?_
  refine EvC.a ?_
  refine EvC.b ?_ (hok := by exact inI64_of (by omega) (by omega))
  have hPl : (P ++ srtE (l.take 20)).length = P.length + 20 := by rw [List.length_append, srtE_len, List.length_take]; omega
  refine ⟨[(0, 0)], (P ++ srtE (l.take 20), l.drop 20), rfl, ?_, ⟨by rw [← i1, bkL_step (by decide) c1]; simp, by simp only [hPl, List.length_drop]; omega⟩, by simp only [List.length_drop]; omega⟩
  simp only [hPl]
  rw [show ((P.length + 20 + 20 : Nat) : Int) = bZ + 20 by omega, show ((P.length + 20 : Nat) : Int) = bZ by omega]
  simp only [go_sem, sM_fcs, fcs_norefs] <;> rfl
 refine EvC.cf ?_ (by simp only [go_sem, decide_eq_false (show ¬ bZ ≤ (N : Int) by omega)] <;> rfl)
 refine EvC.exit ?_
 rw [bkL_last (by omega)] at i1
 apply EvC.seq
 apply EvC.region
 apply XR.run
 ·simp only [go_sem] <;> rfl
 ·simp
 refine XR.gcTo ⟨[(0, .tv 0 N 0 N (.val N)), (1, .sc (.int .i64 N)), (2, .fn 44 []), (6, .sc (.int .i64 20)), (23, .tv 0 N 0 N (.val N)), (24, .sc (.int .i64 P.length)), (25, .sc (.int .i64 N)), (26, .fn 44 [])], [], sM (P ++ l), 1⟩ [0, 1, 2, 6, 23, 24, 25, 26] [(0, 0)] rfl (by rw [← haZ]; simp only [go_sem, sM_fcs, fcs_norefs] <;> rfl) ?_
 apply XR.callI rfl rfl (by simp only [go_sem] <;> rfl) (by simp only [go_sem] <;> rfl) (by simp only [go_sem] <;> rfl)
 have hs := insert_body P l [] P.length N N rfl (by omega) (by simp; omega) hl
 rw [List.append_nil, List.append_nil, i1] at hs
 refine hs.mono fun _ M z h => ?_
 subst h
 refine XR.nil ?_
 clear i1 i2 hs haZ hbZ c1
 refine EvC.block ?_
 refine EvC.loopS (σ := Nat) (fun s => ⟨[(0, .tv 0 N 0 N (.val N)), (1, .sc (.int .i64 N)), (2, .fn 44 []), (6, .sc (.int .i64 s))], [], sM (bkL s L), 1⟩) (fun s => N - s) (fun s => 20 ≤ s) [0, 1, 2, 6] 1 ?_ ?_
 ·exact ⟨[(0, 0)], 20, rfl, (by simp only [go_sem, sM_fcs, fcs_norefs, show ((20 : Nat) : Int) = 20 from rfl] <;> rfl), Nat.le_refl _⟩
 intro s hs20
 refine EvC.seq ?_
 refine EvC.a ?_
 by_cases c2 : s < N
 rotate_left
 ·refine EvC.cf ?_ (by simp only [go_sem, decide_eq_false (show ¬ (s : Int) < N by omega)] <;> rfl)
  refine EvC.exit ?_
  refine ⟨.inr rfl, _, rfl, ?_⟩
  rw [← bkL_all (s := s) (l := L) (by omega) (by omega)]; rfl
 refine EvC.cr ?_ (by simp only [go_sem, decide_eq_true (show (s : Int) < N by omega)] <;> rfl)
 refine EvC.block ?_
 obtain ⟨sZ, hsZ⟩ : ∃ z : Int, z = (s : Int) := ⟨_, rfl⟩
 rw [← hsZ]
 have hI1 : inI64 (2 * sZ) = true := inI64_of (by omega) (by omega)
 refine EvC.a ?_ (hok := by simp [hI1])
 refine EvC.seq ?_
 refine EvC.block ?_
 refine EvC.loopS (σ := List FA × List FA) (fun g => ⟨[(0, .tv 0 N 0 N (.val N)), (1, .sc (.int .i64 N)), (2, .fn 44 []), (6, .sc (.int .i64 sZ)), (7, .sc (.int .i64 g.1.length)), (8, .sc (.int .i64 ((g.1.length + 2 * s : Nat) : Int)))], [], sM (g.1 ++ bkL s g.2), 1⟩) (fun g => g.2.length) (fun g => g.1 ++ bkL (2 * s) g.2 = bkL (2 * s) L ∧ g.1.length + g.2.length = N) [0, 1, 2, 6, 7, 8] 1 ?_ ?_
 ·exact ⟨[(0, 0)], ([], L), rfl, (by rw [show [] ++ bkL s L = bkL s L from rfl, show ((([] : List FA).length + 2 * s : Nat) : Int) = 2 * sZ by simp; omega]; simp only [go_sem, sM_fcs, fcs_norefs, List.length_nil, Int.natCast_zero] <;> rfl), rfl, by simp [hN]⟩
 rintro ⟨P, l⟩ ⟨i1, i2⟩
 simp only at i1 i2 ⊢
 obtain ⟨aZ, haZ⟩ : ∃ z : Int, z = (P.length : Int) := ⟨_, rfl⟩
 obtain ⟨bZ, hbZ⟩ : ∃ z : Int, z = ((P.length + 2 * s : Nat) : Int) := ⟨_, rfl⟩
 rw [← haZ, ← hbZ]
 refine EvC.seq ?_
 refine EvC.a ?_
 have hI2 : inI64 (aZ + sZ) = true := inI64_of (by omega) (by omega)
 by_cases c3 : 2 * s ≤ l.length
 ·refine EvC.cr ?_ (by simp only [go_sem, decide_eq_true (show bZ ≤ (N : Int) by omega)] <;> rfl)
  refine EvC.block ?_
  apply EvC.seq
  apply EvC.region
  apply XR.run
  ·simp only [go_sem] <;> rfl
  ·simp [hI2]
  refine XR.gcTo ⟨[(0, .tv 0 N 0 N (.val N)), (1, .sc (.int .i64 N)), (2, .fn 44 []), (6, .sc (.int .i64 sZ)), (7, .sc (.int .i64 aZ)), (8, .sc (.int .i64 bZ)), (36, .tv 0 N 0 N (.val N)), (37, .sc (.int .i64 P.length)), (40, .sc (.int .i64 ((P.length + s : Nat) : Int))), (41, .sc (.int .i64 ((P.length + 2 * s : Nat) : Int))), (42, .fn 44 [])], [], sM (P ++ bkL s l), 1⟩ [0, 1, 2, 6, 7, 8, 36, 37, 40, 41, 42] [(0, 0)] rfl (by rw [show ((P.length + s : Nat) : Int) = aZ + sZ by omega, ← haZ, ← hbZ]; simp only [go_sem, sM_fcs, fcs_norefs] <;> rfl) ?_
  apply XR.callI rfl rfl (by simp only [go_sem] <;> rfl) (by simp only [go_sem] <;> rfl) (by simp only [go_sem] <;> rfl)
  have e1 : bkL s l = srtE (l.take s) ++ (srtE ((l.drop s).take s) ++ bkL s ((l.drop s).drop s)) := by
   rw [bkL_step (by omega) (by omega), bkL_step (l := l.drop s) (by omega) (by rw [List.length_drop]; omega)]
  have e2 : srtE (srtE (l.take s) ++ srtE ((l.drop s).take s)) = srtE (l.take (2 * s)) := by
   rw [srtE_srtE_app, show 2 * s = s + s by omega, List.take_add]
  have hA : (srtE (l.take s)).length = s := by rw [srtE_len, List.length_take]; omega
  have hB : (srtE ((l.drop s).take s)).length = s := by rw [srtE_len, List.length_take, List.length_drop]; omega
  have hC : (bkL s ((l.drop s).drop s)).length = l.length - 2 * s := by rw [bkL_len (by omega) _ _ (Nat.le_refl _), List.length_drop, List.length_drop]; omega
  have hs := merge_ok (2 * s) P (srtE (l.take s)) (srtE ((l.drop s).take s)) (bkL s ((l.drop s).drop s)) P.length (P.length + s) (P.length + 2 * s) N rfl (by omega) (by omega) (fun h => by rw [h] at hA; simp at hA; omega) (fun h => by rw [h] at hB; simp at hB; omega) (srtE_srt _) (srtE_srt _) (by simp only [List.length_append, hA, hB, hC]; omega) hl (by omega)
  rw [e2, show P ++ srtE (l.take s) ++ srtE ((l.drop s).take s) ++ bkL s ((l.drop s).drop s) = P ++ bkL s l by rw [e1]; simp] at hs
  refine hs.mono fun _ M z h => ?_
  subst h
  refine XR.nil ?_
  refine EvC.a ?_
  refine EvC.b ?_ (hok := by rw [show inI64 (2 * sZ) = true from hI1]; simp; exact inI64_of (by omega) (by omega))
  have hPl : (P ++ srtE (l.take (2 * s))).length = P.length + 2 * s := by rw [List.length_append, srtE_len, List.length_take]; omega
  refine ⟨[(0, 0)], (P ++ srtE (l.take (2 * s)), l.drop (2 * s)), rfl, ?_, ⟨by rw [← i1, bkL_step (s := 2 * s) (by omega) c3]; simp, by simp only [hPl, List.length_drop]; omega⟩, by simp only [List.length_drop]; omega⟩
  simp only [hPl]
  rw [show ((P.length + 2 * s + 2 * s : Nat) : Int) = bZ + 2 * sZ by omega, show ((P.length + 2 * s : Nat) : Int) = bZ by omega, show (l.drop s).drop s = l.drop (2 * s) by rw [List.drop_drop]; congr 1; omega]
  simp only [go_sem, sM_fcs, fcs_norefs] <;> rfl
 refine EvC.cf ?_ (by simp only [go_sem, decide_eq_false (show ¬ bZ ≤ (N : Int) by omega)] <;> rfl)
 refine EvC.exit ?_
 rw [bkL_last (by omega)] at i1
 refine EvC.mergeS (α := Unit) (fun _ => ⟨[(0, .tv 0 N 0 N (.val N)), (1, .sc (.int .i64 N)), (2, .fn 44 []), (6, .sc (.int .i64 sZ))], [], sM (bkL (2 * s) L), 1⟩) (fun _ => True) [0, 1, 2, 6] 1 ?_ ?_
 ·refine EvC.a ?_ (hok := by simp [hI2])
  refine EvC.a ?_
  by_cases c4 : s < l.length
  rotate_left
  ·refine EvC.cs ?_ (by simp only [go_sem, decide_eq_false (show ¬ aZ + sZ < (N : Int) by omega)] <;> rfl)
   rw [bkL_all (by omega) (by omega), i1]
   exact ⟨rfl, [(0, 0)], (), rfl, (by simp only [go_sem, sM_fcs, fcs_norefs] <;> rfl), trivial⟩
  refine EvC.ct ?_ (by simp only [go_sem, decide_eq_true (show aZ + sZ < (N : Int) by omega)] <;> rfl)
  apply EvC.region
  apply XR.run
  ·simp only [go_sem] <;> rfl
  ·simp
  refine XR.gcTo ⟨[(0, .tv 0 N 0 N (.val N)), (1, .sc (.int .i64 N)), (2, .fn 44 []), (6, .sc (.int .i64 sZ)), (55, .tv 0 N 0 N (.val N)), (56, .sc (.int .i64 P.length)), (57, .sc (.int .i64 ((P.length + s : Nat) : Int))), (58, .sc (.int .i64 N)), (59, .fn 44 [])], [], sM (P ++ bkL s l), 1⟩ [0, 1, 2, 6, 55, 56, 57, 58, 59] [(0, 0)] rfl (by rw [show ((P.length + s : Nat) : Int) = aZ + sZ by omega, ← haZ]; simp only [go_sem, sM_fcs, fcs_norefs] <;> rfl) ?_
  apply XR.callI rfl rfl (by simp only [go_sem] <;> rfl) (by simp only [go_sem] <;> rfl) (by simp only [go_sem] <;> rfl)
  have e1 : bkL s l = srtE (l.take s) ++ srtE (l.drop s) := by
   rw [bkL_step (by omega) (by omega), bkL_all (l := l.drop s) (by omega) (by rw [List.length_drop]; omega)]
  have e2 : srtE (srtE (l.take s) ++ srtE (l.drop s)) = srtE l := by rw [srtE_srtE_app, List.take_append_drop]
  have hA : (srtE (l.take s)).length = s := by rw [srtE_len, List.length_take]; omega
  have hB : (srtE (l.drop s)).length = l.length - s := by rw [srtE_len, List.length_drop]
  have hs := merge_ok (2 * s) P (srtE (l.take s)) (srtE (l.drop s)) [] P.length (P.length + s) N N rfl (by omega) (by omega) (fun h => by rw [h] at hA; simp at hA; omega) (fun h => by rw [h] at hB; simp at hB; omega) (srtE_srt _) (srtE_srt _) (by simp only [List.length_append, hA, hB, List.length_nil]; omega) hl (by omega)
  rw [e2, List.append_nil, List.append_nil, i1, List.append_assoc, ← e1] at hs
  refine hs.mono fun _ M z h => ?_
  subst h
  refine XR.nil ?_
  exact ⟨rfl, [(0, 0)], (), rfl, (by simp only [go_sem, sM_fcs, fcs_norefs] <;> rfl), trivial⟩
 rintro ⟨⟩ -
 have hI3 : inI64 (sZ * 2) = true := inI64_of (by omega) (by omega)
 refine EvC.b ?_ (hok := by simp [hI3])
 exact ⟨[(0, 0)], 2 * s, rfl, (by rw [show ((2 * s : Nat) : Int) = sZ * 2 by omega]; simp only [go_sem, sM_fcs, fcs_norefs] <;> rfl), show 20 ≤ 2 * s by omega, show N - 2 * s < N - s by omega⟩
theorem sort_body (L : List FA) (N : Nat) (hN : N = L.length) (hl : N < 1000000) :
  BodyIs prog 43 [.tv 0 N 0 N (.val N), .fn 44 []] (sM L) 1 (fun _ M _ => M = sM (srtE L)) := by
 refine BodyIs.of (nv := 2) (hid := [4, 6, 7]) func43 rfl (by kernel_rfl) (by simp [ntmps43]) fun _ => ?_
 rw [ntmps43, results43]
 have hNf : (fcs L).length = N := by rw [fcs, List.length_map, hN]
 have hNt : (List.take N (fcs L)).length = N := by rw [List.length_take, hNf]; omega
 apply EvC.region
 apply XR.run
 ·simp only [go_sem, sM_fcs, hNf, hNt] <;> rfl
 ·simp
 refine XR.gcTo ⟨[(4, .tv 0 N 0 N (.val N)), (6, .sc (.int .i64 N)), (7, .fn 44 [])], [], sM L, 1⟩ [4, 6, 7] [(0, 0)] rfl (by simp only [go_sem, sM_fcs, fcs_norefs] <;> rfl) ?_
 apply XR.callI rfl rfl (by simp only [go_sem] <;> rfl) (by simp only [go_sem] <;> rfl) (by simp only [go_sem] <;> rfl)
 refine (stable_body L N hN hl).mono fun _ M z h => ?_
 subst h
 refine XR.nil ?_
 exact ⟨.inr rfl, _, rfl, rfl⟩
theorem clip72_clips : Clips prog 72 := fun a n c h hlt => by
 refine PureIs.of1 3 [2] func72 ntmps72 results72 fun _ => ?_
 refine EvC.a ?_
 refine EvC.a ?_ (by simp only [go_sem, Int.toNat_natCast] <;> rfl) (by simp; try omega)
 refine EvC.rz ?_
 simp only [go_sem]
def aM (L : List FA) (n : Nat) : Mem := [(0, .cells [.tl 1 n false]), (1, .arr 6 (L.map FA.cells) false), (2, .cells [.tv 1 n 0 n (.val n)]), (3, .cells [.sc (.int .i64 0)])]
def allB (m : Mach) (ks : List Int) (most : Int) (r : AV) (M : Mem) (_ : Nat) : Prop :=
 if allR m ks most ≠ 0 then r = .tu [.sl true [] .zer, .sc (.int .i64 (allR m ks most))]
 else if alF m ks = [] then r = .tu [.sl true [] .full, .sc (.int .i64 0)]
 else r = .tu [.tv 1 (alF m ks).length 0 (alF m ks).length (.val (alF m ks).length), .sc (.int .i64 0)] ∧ M = aM (alF m ks) (alF m ks).length
theorem allB_bad {m : Mach} {ks : List Int} {most : Int} {r : AV} {M : Mem} {z : Nat} (h : allR m ks most ≠ 0) (hr : r = .tu [.sl true [] .zer, .sc (.int .i64 (allR m ks most))]) : allB m ks most r M z := by
 unfold allB; rw [if_pos h]; exact hr
theorem allB_nil {m : Mach} {ks : List Int} {most : Int} {r : AV} {M : Mem} {z : Nat} (h : allR m ks most = 0) (hL : [] = alF m ks) (hr : r = .tu [.sl true [] .full, .sc (.int .i64 0)]) : allB m ks most r M z := by
 unfold allB; rw [if_neg (fun e => e h), if_pos hL.symm]; exact hr
theorem allB_some {m : Mach} {ks : List Int} {most : Int} {r : AV} {M : Mem} {z n : Nat} (h : allR m ks most = 0) (hL : alF m ks ≠ []) (hn : n = (alF m ks).length) (hr : r = .tu [.tv 1 n 0 n (.val n), .sc (.int .i64 0)]) (hM : M = aM (alF m ks) n) : allB m ks most r M z := by
 subst hn
 unfold allB; rw [if_neg (fun e => e h), if_neg hL]; exact ⟨hr, hM⟩
set_option maxHeartbeats 4000000 in
theorem allB_body (m : Mach) (hm : ∀ r ∈ m.rows, r.2.length < 1000000) (kn : Bool) (ks : List Int) (kc : Cp) (hks : ks.length < 1000) (most : Int) :
  BodyIs prog 42 [.ag m.cells, .sl kn (ks.map intC) kc, .sc (.int .i64 most)] [] 0 (allB m ks most) := by
 refine BodyIs.of (nv := 4) (hid := [5, 6, 7, 8, 9, 10, 16, 20, 21, 25]) func42 rfl (by kernel_rfl) (by simp [ntmps42]) fun _ => ?_
 rw [ntmps42, results42]
 refine EvC.a ?_ (by simp only [go_sem, Mach.cells] <;> rfl)
 refine EvC.z 0 ?_
 refine EvC.z 1 ?_
 refine EvC.seq ?_
 refine EvC.k1 ?_ (h1 := by simp only [go_sem, Mach.cells] <;> rfl) (c1 := .ca (ready_is m hm kn ks kc (by omega) most))
 by_cases h0 : readyR m ks most = 0
 rotate_left
 ·refine EvC.a ?_
  refine EvC.ct ?_ (by simp only [go_sem, decide_eq_false h0] <;> rfl)
  refine EvC.a ?_
  have hR : allR m ks most = readyR m ks most := by unfold allR; rw [if_pos h0]
  refine EvC.ret ⟨.inl rfl, _, (by simp only [go_sem] <;> rfl), ?_⟩
  exact allB_bad (by rw [hR]; exact h0) (by rw [hR]; rfl)
 obtain ⟨hc0, hm0, hm1, lst, hlst⟩ := readyR_ok h0
 have hv := Valid.of hc0
 have hR : allR m ks most = if most < (alF m ks).length then 13 else 0 := by unfold allR; rw [if_neg (fun h => h h0)]
 have hal := alF_len hv ks
 refine EvC.a ?_
 refine EvC.cs ?_ (by simp only [go_sem, decide_eq_true h0] <;> rfl)
 refine EvC.a ?_
 refine EvC.ownC 11 0 6 (by simp only [go_sem] <;> rfl) ?_
 refine EvC.thaw 12 (by simp only [go_sem] <;> rfl) ?_
 refine EvC.seq ?_
 refine EvC.k1 ?_ (h1 := by simp only [go_sem, Mach.cells] <;> rfl) (c1 := .ca (all_is m kn ks kc))
 refine EvC.gcTo ⟨[(5, .ia [.sc (.int .i64 most)]), (6, .rf 2 0), (7, .rf 3 0), (9, .rf 0 0), (20, .fn 99 [.ia [.sl kn (ks.map intC) kc], .ia m.cells])], [], [(0, .cells [.tl 1 0 true]), (1, .arr 6 [] false), (2, .cells [.sl true [] .zer]), (3, .cells [.sc (.int .i64 0)])], 4⟩ [5, 6, 7, 9, 20] [(11, 0), (12, 1), (2, 2), (3, 3)] rfl (by simp only [go_sem] <;> rfl) ?_
 refine EvC.block ?_
 have hpk : ∀ p ∈ (#[21] : Array Nat), p < 32 := by decide
 refine EvC.range rfl (fun _ => rfl) (gf := 99) (caps := [.ia [.sl kn (ks.map intC) kc], .ia m.cells]) (xs := (alF m ks).map faV) (σ := List FA) (by simp only [go_sem] <;> rfl) (by simp only [go_sem, Mach.cells]) (all1_seq hv kn ks kc (by omega)) (fun x hx => by obtain ⟨p, _, rfl⟩ := List.mem_map.1 hx; rfl) hpk (Nat.zero_le _)
  (fun _ L => [(0, .cells [.tl 1 L.length L.isEmpty]), (1, .arr 6 (L.map FA.cells) false), (2, .cells [.sl true [] .zer]), (3, .cells [.sc (.int .i64 0)])]) (fun j L => L = (alF m ks).take j ∧ j ≤ most) ⟨[], rfl, rfl, by omega⟩ ?_ ?_
 rotate_left
 ·rintro L ⟨rfl, hle⟩
  have hle : ((alF m ks).length : Int) ≤ most := by simpa using hle
  have e1 : (alF m ks).take ((alF m ks).map faV).length = alF m ks := List.take_of_length_le (by simp)
  have hR0 : allR m ks most = 0 := by rw [hR, if_neg (by omega)]
  rw [e1]
  obtain ⟨L, hL⟩ : ∃ L, L = alF m ks := ⟨_, rfl⟩
  rw [← hL] at hal ⊢
  cases L with
  | nil =>
    refine EvC.frz 1 (by simp only [go_sem, List.map_nil] <;> rfl) ?_
    refine EvC.k1 ?_ (h1 := by simp only [go_sem, List.map_nil] <;> rfl) (c1 := .ca (clipF_is _ _ _ (fa_six [])))
    refine EvC.ret ⟨.inl rfl, _, (by simp only [go_sem] <;> rfl), ?_⟩
    exact allB_nil hR0 hL rfl
  | cons x L =>
    have hL1 : alF m ks ≠ [] := by rw [← hL]; simp
    have hL2 : (x :: L).length = (alF m ks).length := by rw [hL]
    have hLl : ((x :: L).map FA.cells).length = (x :: L).length := List.length_map _
    have hLp : (x :: L).length ≠ 0 := by simp
    have hLn := fas_norefs2 (x :: L)
    rw [show (x :: L).isEmpty = false from rfl]
    have hZL : (x :: L).map FA.cells = (alF m ks).map FA.cells := by rw [hL]
    generalize (x :: L).map FA.cells = Z at hLl hLn hZL ⊢
    generalize (x :: L).length = n at hLl hLp hal hL2 ⊢
    apply EvC.seq
    apply EvC.tr
    ·apply Tr.run
     ·simp only [go_sem] <;> rfl
     ·simp
     apply Tr.cons
     ·exact .clip rfl rfl (by simp only [go_sem] <;> rfl) (by simp only [go_sem] <;> rfl) (by simp only [go_sem] <;> rfl) (by simp only [go_sem] <;> rfl) hLl.symm hLp (by omega) (by simp only [go_sem] <;> rfl) clip72_clips
     apply Tr.done
     ·simp only [go_sem] <;> rfl
     ·simp [hLl]
    refine EvC.ret ⟨.inl rfl, _, (by simp only [go_sem] <;> rfl), ?_⟩
    refine allB_some hR0 hL1 hL2 rfl ?_
    rw [aM, ← hZL]; rfl
 rintro j L lp hj ⟨rfl, hle⟩
 have hj' : j < (alF m ks).length := by simpa using hj
 have hget : ((alF m ks).map faV)[j] = faV (alF m ks)[j] := List.getElem_map _
 rw [hget]
 have htk : (alF m ks).take (j + 1) = (alF m ks).take j ++ [(alF m ks)[j]] := by rw [List.take_succ, List.getElem?_eq_getElem hj']; rfl
 have hlj : ((alF m ks).take j).length = j := by rw [List.length_take]; omega
 generalize (alF m ks)[j] = f at htk ⊢
 generalize (alF m ks).take j = L at htk hlj ⊢
 obtain ⟨a1, a2, a3, a4, a5, a6⟩ := f
 clear hget
 rw [faV, FA.cells]
 refine EvC.b ?_
 refine ⟨rfl, ?_⟩
 simp only []
 refine EvC.z 4 ?_
 refine EvC.block ?_
 refine EvC.seq ?_
 refine EvC.a ?_
 by_cases he : (L.length : Int) = most
 ·refine EvC.ct ?_ (by simp only [go_sem, decide_eq_true he] <;> rfl)
  have hR1 : allR m ks most = 13 := by rw [hR, if_pos (by omega)]
  refine EvC.a ?_
  refine EvC.ret ⟨Or.inl rfl, _, (by simp only [go_sem] <;> rfl), ?_⟩
  exact allB_bad (by rw [hR1]; decide) (by rw [hR1]; rfl)
 refine EvC.cs ?_ (by simp only [go_sem, decide_eq_false he] <;> rfl)
 have hsn : L.map FA.cells ++ [[.sc (.int .i64 a1), .sc (.int .i64 a2), .sc (.int .i64 a3), .sc (.int .i64 a4), .sc (.int .i64 a5), .sc (.int .i64 a6)]] = (L ++ [(⟨a1, a2, a3, a4, a5, a6⟩ : FA)]).map FA.cells := by simp [FA.cells]
 have hsl : L.length + 1 = (L ++ [(⟨a1, a2, a3, a4, a5, a6⟩ : FA)]).length := by simp
 have hse : (L ++ [(⟨a1, a2, a3, a4, a5, a6⟩ : FA)]).isEmpty = false := by simp
 have hr2 : room (L.length + 1) 48 = true := by simp only [room_eq, decide_eq_true_eq]; omega
 rw [hsl] at hr2
 generalize L ++ [(⟨a1, a2, a3, a4, a5, a6⟩ : FA)] = T at hsn hsl hse hr2 htk
 refine EvC.b ?_ (by simp only [go_sem, hsn, hsl, List.length_map] <;> rfl) (by simp [hr2])
 exact ⟨[(0, 0), (1, 1), (2, 2), (3, 3)], T, rfl, (by rw [hse]; simp only [go_sem] <;> rfl), htk.symm, by omega⟩
theorem insert_nil : BodyIs prog 102 [.sl true [] .full, .sc (.int .i64 0), .sc (.int .i64 0), .fn 44 []] [] 0 (fun _ M _ => M = []) := by
 refine BodyIs.of (nv := 4) (hid := [8, 9, 14, 34]) func102 rfl (by kernel_rfl) (by simp [ntmps102]) fun _ => ?_
 rw [ntmps102, results102]
 have hI : inI64 1 = true := inI64_of (by omega) (by omega)
 refine EvC.a ?_ (hok := by simp [hI])
 refine EvC.block ?_
 refine EvC.loopS (σ := Unit) (fun _ => ⟨[(2, .sc (.int .i64 0)), (8, .sc (.int .i64 1))], [], [], 0⟩) (fun _ => 0) (fun _ => True) [2, 8] 0 ?_ ?_
 ·exact ⟨[], (), rfl, (by simp only [go_sem] <;> rfl), trivial⟩
 intro _ _
 refine EvC.seq ?_
 refine EvC.a ?_
 refine EvC.cf ?_
 refine EvC.exit ?_
 exact ⟨.inr rfl, _, rfl, rfl⟩
theorem stable_nil : BodyIs prog 73 [.sl true [] .full, .sc (.int .i64 0), .fn 44 []] [] 0 (fun _ M _ => M = []) := by
 refine BodyIs.of (nv := 3) (hid := [6, 7, 8, 9, 13, 30, 35, 54, 23, 24, 25, 26]) func73 rfl (by kernel_rfl) (by simp [ntmps73]) fun _ => ?_
 rw [ntmps73, results73]
 refine EvC.a ?_
 refine EvC.a ?_
 refine EvC.seq ?_
 refine EvC.block ?_
 refine EvC.loopS (σ := Unit) (fun _ => ⟨[(0, .sl true [] .full), (1, .sc (.int .i64 0)), (2, .fn 44 []), (6, .sc (.int .i64 20)), (7, .sc (.int .i64 0)), (8, .sc (.int .i64 20))], [], [], 0⟩) (fun _ => 0) (fun _ => True) [0, 1, 2, 6, 7, 8] 0 ?_ ?_
 ·exact ⟨[], (), rfl, (by simp only [go_sem] <;> rfl), trivial⟩
 intro _ _
 refine EvC.seq ?_
 refine EvC.a ?_
 refine EvC.cf ?_
 refine EvC.exit ?_
 apply EvC.seq
 apply EvC.region
 apply XR.run
 ·simp only [go_sem] <;> rfl
 ·simp [Mach.cells]
 refine XR.gcTo ⟨[(1, .sc (.int .i64 0)), (6, .sc (.int .i64 20)), (23, .sl true [] .full), (24, .sc (.int .i64 0)), (25, .sc (.int .i64 0)), (26, .fn 44 [])], [], [], 0⟩ [1, 6, 23, 24, 25, 26] [] rfl (by simp only [go_sem] <;> rfl) ?_
 apply XR.callI rfl rfl (by simp only [go_sem] <;> rfl) (by simp only [go_sem] <;> rfl) (by simp only [go_sem] <;> rfl)
 refine insert_nil.mono fun _ M z h => ?_
 subst h
 refine XR.nil ?_
 refine EvC.block ?_
 refine EvC.loopS (σ := Unit) (fun _ => ⟨[(1, .sc (.int .i64 0)), (6, .sc (.int .i64 20))], [], [], 0⟩) (fun _ => 0) (fun _ => True) [1, 6] 0 ?_ ?_
 ·exact ⟨[], (), rfl, (by simp only [go_sem] <;> rfl), trivial⟩
 intro _ _
 refine EvC.seq ?_
 refine EvC.a ?_
 refine EvC.cf ?_
 refine EvC.exit ?_
 exact ⟨.inr rfl, _, rfl, rfl⟩
theorem sort_nil : BodyIs prog 43 [.sl true [] .full, .fn 44 []] [] 0 (fun _ M _ => M = []) := by
 refine BodyIs.of (nv := 2) (hid := [4, 6, 7]) func43 rfl (by kernel_rfl) (by simp [ntmps43]) fun _ => ?_
 rw [ntmps43, results43]
 apply EvC.region
 apply XR.run
 ·simp only [go_sem] <;> rfl
 ·simp
 refine XR.gcTo ⟨[(4, .sl true [] .full), (6, .sc (.int .i64 0)), (7, .fn 44 [])], [], [], 0⟩ [4, 6, 7] [] rfl (by simp only [go_sem] <;> rfl) ?_
 apply XR.callI rfl rfl (by simp only [go_sem] <;> rfl) (by simp only [go_sem] <;> rfl) (by simp only [go_sem] <;> rfl)
 refine stable_nil.mono fun _ M z h => ?_
 subst h
 refine XR.nil ?_
 exact ⟨.inr rfl, _, rfl, rfl⟩
def prC (p : FA × FA) : List AV := p.1.cells ++ p.2.cells
def prsOf (f : FA) (l : List FA) : List (FA × FA) := (l.filter fun g => !decide (edgeI f g = 0)).map fun g => (f, g)
def prs : List FA → List (FA × FA)
 | [] => []
 | f :: l => prsOf f l ++ prs l
def pairsE (m : Mach) (ks : List Int) (most : Int) : Int :=
 if checkM m ≠ 0 then checkM m
 else if most < 0 ∨ 65536 < most ∨ (∃ k, ks.getLast? = some k ∧ 2 < k) then 1
 else if allR m ks 65536 ≠ 0 then allR m ks 65536
 else if most < (prs (srtE (alF m ks))).length then 13 else 0
def pairsA (m : Mach) (ks : List Int) (most : Int) : AV :=
 if pairsE m ks most ≠ 0 then .tu [.sl true [] .unk, .sc (.int .i64 (pairsE m ks most))]
 else .tu [.sl (prs (srtE (alF m ks))).isEmpty ((prs (srtE (alF m ks))).map prC) .full, .sc (.int .i64 0)]
theorem clipP_is (nl : Bool) (es : List (List AV)) (c : Cp) (h : (es.all fun y => decide (y.length = 12)) = true) : PureIs prog 45 [.sl nl es c] (.sl nl es .full) := by
 refine PureIs.of1 3 [] func45 ntmps45 results45 fun _ => ?_
 refine EvC.seq (EvC.rg (by simp only [go_sem] <;> rfl) rfl ?_)
 refine EvC.a ?_ (hok := by simp [h])
 refine EvC.ret ⟨.inl rfl, _, (by simp only [go_sem] <;> rfl), rfl, rfl⟩
theorem pairs_norefs (l : List (FA × FA)) : (l.map prC).all AV.norefs = true := by
 rw [List.all_eq_true]
 intro c hc
 obtain ⟨f, _, rfl⟩ := List.mem_map.1 hc
 rfl
theorem pair_twelve (l : List (FA × FA)) : ((l.map prC).all fun y => decide (y.length = 12)) = true := by simp [List.all_eq_true, prC, FA.cells]
set_option maxHeartbeats 8000000 in
theorem pairs_is (m : Mach) (hm : ∀ r ∈ m.rows, r.2.length < 1000000) (kn : Bool) (ks : List Int) (kc : Cp) (hks : ks.length < 1000) (most : Int) :
  PureIs prog 11 [.ag m.cells, .sl kn (ks.map intC) kc, .sc (.int .i64 most)] (pairsA m ks most) := by
 refine PureIs.of1 4 [6, 7, 8, 9, 10, 11, 12, 13, 15, 19, 40, 48, 52, 53, 54, 55, 62, 63, 64, 65, 71, 75, 41, 42, 43, 50] func11 ntmps11 results11 fun _ => ?_
 refine EvC.a ?_ (by simp only [go_sem, Mach.cells] <;> rfl)
 refine EvC.z 0 ?_
 refine EvC.seq ?_
 refine EvC.k1 ?_ (h1 := by simp only [go_sem, Mach.cells] <;> rfl) (c1 := .ca (check_is m hm))
 refine EvC.a ?_
 unfold pairsA
 by_cases h0 : checkM m = 0
 rotate_left
 ·have hR : pairsE m ks most = checkM m := by unfold pairsE; rw [if_pos h0]
  refine EvC.ct ?_ (by simp only [go_sem, decide_eq_false h0] <;> rfl)
  rw [hR, if_pos h0]
  refine EvC.a ?_
  refine EvC.rz ?_
  simp only [go_sem]
 refine EvC.cs ?_ (by simp only [go_sem, decide_eq_true h0] <;> rfl)
 obtain ⟨bad, hbad⟩ : ∃ b : Prop, b = (most < 0 ∨ 65536 < most ∨ ∃ k, ks.getLast? = some k ∧ 2 < k) := ⟨_, rfl⟩
 have hbd : Decidable bad := Classical.propDecidable bad
 obtain ⟨bB, hbB⟩ : ∃ b : Bool, b = decide bad := ⟨_, rfl⟩
 refine EvC.seq ?_
 refine EvC.mergeS (α := Unit) (fun _ => ⟨[(1, .sl kn (ks.map intC) kc), (2, .sc (.int .i64 most)), (3, .ia m.cells), (40, .sc (.bool bB))], [], [], 0⟩) (fun _ => True) [1, 2, 3, 40] 0 ?_ ?_
 ·rcases List.eq_nil_or_concat ks with rfl | ⟨ks', k, hk⟩
  ·by_cases c1 : most < 0
   ·have hv : bB = true := by rw [hbB]; exact decide_eq_true (by rw [hbad]; exact .inl c1)
    apply EvC.tr
    ·apply Tr.run
     ·simp only [go_sem, decide_eq_true c1, List.map_nil, List.length_nil, Int.natCast_zero] <;> rfl
     ·simp
     apply Tr.cons
     ·exact .skipv (.ia [.sc (.int .i64 0)]) rfl rfl (by simp only [go_sem] <;> rfl) (by simp only [go_sem] <;> rfl)
     apply Tr.done
     ·simp only [go_sem, decide_eq_true c1] <;> rfl
     ·simp
    exact ⟨rfl, [], (), rfl, (by rw [hv]; simp only [go_sem, Mach.cells] <;> rfl), trivial⟩
   by_cases c2 : 65536 < most
   ·have hv : bB = true := by rw [hbB]; exact decide_eq_true (by rw [hbad]; exact .inr (.inl c2))
    apply EvC.tr
    ·apply Tr.run
     ·simp only [go_sem, decide_eq_false c1, decide_eq_true c2, List.map_nil, List.length_nil, Int.natCast_zero] <;> rfl
     ·simp
     apply Tr.cons
     ·exact .skipv (.ia [.sc (.int .i64 0)]) rfl rfl (by simp only [go_sem] <;> rfl) (by simp only [go_sem] <;> rfl)
     apply Tr.done
     ·simp only [go_sem, decide_eq_false c1] <;> rfl
     ·simp
    exact ⟨rfl, [], (), rfl, (by rw [hv]; simp only [go_sem, Mach.cells] <;> rfl), trivial⟩
   have hv : bB = false := by rw [hbB]; exact decide_eq_false (by rw [hbad]; simp [c1, c2])
   apply EvC.tr
   ·apply Tr.run
    ·simp only [go_sem, decide_eq_false c1, decide_eq_false c2, List.map_nil, List.length_nil, Int.natCast_zero] <;> rfl
    ·simp
    apply Tr.cons
    ·exact .skipv (.ia [.sc (.int .i64 0)]) rfl rfl (by simp only [go_sem] <;> rfl) (by simp only [go_sem] <;> rfl)
    apply Tr.done
    ·simp only [go_sem, decide_eq_false c1] <;> rfl
    ·simp
   exact ⟨rfl, [], (), rfl, (by rw [hv]; simp only [go_sem, Mach.cells] <;> rfl), trivial⟩
  ·rw [List.concat_eq_append] at hk
   have hl : (ks.map intC).length = ks'.length + 1 := by rw [hk]; simp
   have hg : (ks.map intC)[(((ks'.length : Int) + 1) - 1).toNat]? = some [.sc (.int .i64 k)] := by
    rw [hk, show (((ks'.length : Int) + 1) - 1).toNat = ks'.length by omega, List.getElem?_map, List.getElem?_append_right (Nat.le_refl _), Nat.sub_self]; rfl
   have hlast : ks.getLast? = some k := by rw [hk]; simp
   have hp : decide ((0 : Int) < (ks'.length : Int) + 1) = true := decide_eq_true (by omega)
   have hI : inI64 ((ks'.length : Int) + 1 - 1) = true := inI64_of (by omega) (by rw [hk] at hks; simp at hks; omega)
   have hI2 : inI64 (ks'.length : Int) = true := inI64_of (by omega) (by rw [hk] at hks; simp at hks; omega)
   have hr : (((ks'.length : Int) + 1) - 1).toNat < ks'.length + 1 := by omega
   by_cases c1 : most < 0
   ·have hv : bB = true := by rw [hbB]; exact decide_eq_true (by rw [hbad]; exact .inl c1)
    refine EvC.gL ?_ (h := by simp only [go_sem, decide_eq_true c1, hl, hg, hp, Int.natCast_add, Int.natCast_one] <;> rfl)
    exact ⟨rfl, [], (), rfl, (by rw [hv]; simp only [go_sem, Mach.cells] <;> rfl), trivial⟩
   by_cases c2 : 65536 < most
   ·have hv : bB = true := by rw [hbB]; exact decide_eq_true (by rw [hbad]; exact .inr (.inl c2))
    refine EvC.gL ?_ (h := by simp only [go_sem, decide_eq_false c1, decide_eq_true c2, hl, hg, hp, Int.natCast_add, Int.natCast_one] <;> rfl)
    exact ⟨rfl, [], (), rfl, (by rw [hv]; simp only [go_sem, Mach.cells] <;> rfl), trivial⟩
   by_cases c3 : 2 < k
   ·have hv : bB = true := by rw [hbB]; exact decide_eq_true (by rw [hbad]; exact .inr (.inr ⟨k, hlast, c3⟩))
    refine EvC.gL ?_ (h := by simp only [go_sem, decide_eq_false c1, decide_eq_false c2, decide_eq_true c3, hl, hg, hp, Int.natCast_add, Int.natCast_one] <;> rfl) (hok := by simp [hI, hI2])
    exact ⟨rfl, [], (), rfl, (by rw [hv]; simp only [go_sem, Mach.cells] <;> rfl), trivial⟩
   have hv : bB = false := by rw [hbB]; exact decide_eq_false (by rw [hbad, hlast]; simp [c1, c2, c3])
   refine EvC.gL ?_ (h := by simp only [go_sem, decide_eq_false c1, decide_eq_false c2, decide_eq_false c3, hl, hg, hp, Int.natCast_add, Int.natCast_one] <;> rfl) (hok := by simp [hI, hI2])
   exact ⟨rfl, [], (), rfl, (by rw [hv]; simp only [go_sem, Mach.cells] <;> rfl), trivial⟩
 rintro ⟨⟩ -
 by_cases hb0 : bad
 ·have hv : bB = true := by rw [hbB]; exact decide_eq_true hb0
  have hR : pairsE m ks most = 1 := by unfold pairsE; rw [if_neg (fun h => h h0), if_pos (by rw [hbad] at hb0; exact hb0)]
  rw [hv, hR, if_pos (show (1 : Int) ≠ 0 by decide)]
  refine EvC.ct ?_
  refine EvC.a ?_
  refine EvC.rz ?_
  simp only [go_sem]
 have hv : bB = false := by rw [hbB]; exact decide_eq_false hb0
 rw [hv]
 refine EvC.cs ?_
 apply EvC.seq
 apply EvC.region
 apply XR.run
 ·simp only [go_sem] <;> rfl
 ·simp [Mach.cells]
 refine XR.gcTo ⟨[(2, .sc (.int .i64 most)), (42, .ag m.cells), (43, .sl kn (ks.map intC) kc)], [], [], 0⟩ [2, 42, 43] [] rfl (by simp only [go_sem, Mach.cells] <;> rfl) ?_
 apply XR.callI rfl rfl (by simp only [go_sem] <;> rfl) (by simp only [go_sem] <;> rfl) (by simp only [go_sem] <;> rfl)
 refine (allB_body m hm kn ks kc hks 65536).mono fun r M z h => ?_
 have hbase : pairsE m ks most = if allR m ks 65536 ≠ 0 then allR m ks 65536 else if most < (prs (srtE (alF m ks))).length then 13 else 0 := by
  unfold pairsE
  rw [if_neg (fun h => h h0), if_neg (by rw [hbad] at hb0; exact hb0)]
 unfold allB at h
 by_cases hA : allR m ks 65536 = 0
 rotate_left
 ·rw [if_pos hA] at h
  rw [if_pos hA] at hbase
  subst h
  apply XR.done
  ·simp only [go_sem] <;> rfl
  ·simp
  refine EvC.gcTo ⟨[(9, .sl true [] .zer), (10, .sc (.int .i64 (allR m ks 65536)))], [], [], 0⟩ [9, 10] [] rfl (by simp only [go_sem] <;> rfl) ?_
  refine EvC.seq ?_
  refine EvC.a ?_
  refine EvC.ct ?_ (by simp only [go_sem, decide_eq_false hA] <;> rfl)
  rw [hbase, if_pos hA]
  refine EvC.a ?_
  refine EvC.rz ?_
  simp only [go_sem]
 rw [if_neg (fun e => e hA)] at h hbase
 by_cases hL : alF m ks = []
 ·rw [if_pos hL] at h
  subst h
  have hprs : prs (srtE (alF m ks)) = [] := by rw [hL]; rfl
  have hm0 : 0 ≤ most := by
   rw [hbad] at hb0
   omega
  rw [hprs] at hbase ⊢
  rw [if_neg (by simp; omega)] at hbase
  rw [hbase]
  apply XR.done
  ·simp only [go_sem] <;> rfl
  ·simp
  refine EvC.gcTo ⟨[(2, .sc (.int .i64 most)), (9, .sl true [] .full), (10, .sc (.int .i64 0))], [], [], 0⟩ [2, 9, 10] [] rfl (by simp only [go_sem] <;> rfl) ?_
  refine EvC.seq ?_
  refine EvC.a ?_
  refine EvC.cs ?_
  apply EvC.seq
  apply EvC.region
  apply XR.run
  ·simp only [go_sem] <;> rfl
  ·simp
  refine XR.gcTo ⟨[(9, .sl true [] .full), (50, .sl true [] .full)], [], [], 0⟩ [9, 50] [] rfl (by simp only [go_sem] <;> rfl) ?_
  apply XR.callI rfl rfl (by simp only [go_sem] <;> rfl) (by simp only [go_sem] <;> rfl) (by simp only [go_sem] <;> rfl)
  refine sort_nil.mono fun _ M z h => ?_
  subst h
  refine XR.nil ?_
  refine EvC.gcTo ⟨[(9, .sl true [] .full)], [], [], 0⟩ [9] [] rfl (by simp only [go_sem] <;> rfl) ?_
  refine EvC.a ?_
  refine EvC.frz 0 (by simp only [go_sem] <;> rfl) ?_
  refine EvC.seq ?_
  refine EvC.a ?_
  refine EvC.block ?_
  refine EvC.loopS (σ := Unit) (fun _ => ⟨[(11, .sl true [] .unk), (53, .sc (.int .i64 0)), (54, .sc (.int .i64 0))], [], [], 0⟩) (fun _ => 0) (fun _ => True) [11, 53, 54] 0 ?_ ?_
  ·exact ⟨[], (), rfl, (by simp only [go_sem] <;> rfl), trivial⟩
  intro _ _
  refine EvC.a ?_
  refine EvC.seq ?_
  refine EvC.cf ?_
  refine EvC.exit ?_
  refine EvC.k1 ?_ (c1 := .ca (clipP_is true [] .unk rfl))
  refine EvC.rz ?_
  simp only [go_sem]
  rw [if_neg (show ¬ (0 : Int) ≠ 0 from fun h => h rfl)]
 rw [if_neg hL] at h
 obtain ⟨rfl, rfl⟩ := h
 have hv0 := (readyR_ok (show readyR m ks 65536 = 0 by
  unfold allR at hA
  split at hA
  ·rename_i e; exact absurd hA e
  ·rename_i e; exact Classical.not_not.1 e))
 have hal : ((alF m ks).length : Int) ≤ 65536 := by
  unfold allR at hA
  split at hA
  ·rename_i e; exact absurd hA e
  ·split at hA
   ·cases hA
   ·omega
 obtain ⟨S, hS⟩ : ∃ S, S = srtE (alF m ks) := ⟨_, rfl⟩
 obtain ⟨n, hn⟩ : ∃ n, n = (alF m ks).length := ⟨_, rfl⟩
 have hSl : S.length = n := by rw [hS, srtE_len, hn]
 have hm0 : 0 ≤ most ∧ most ≤ 65536 := by
  rw [hbad] at hb0
  omega
 rw [← hS] at hbase ⊢
 rw [← hn] at hal ⊢
 apply XR.done
 ·simp only [go_sem] <;> rfl
 ·simp
 refine EvC.gcTo ⟨[(2, .sc (.int .i64 most)), (9, .tv 0 n 0 n (.val n)), (10, .sc (.int .i64 0))], [], sM (alF m ks), 1⟩ [2, 9, 10] [(1, 0)] rfl (by simp only [go_sem, aM, sM_fcs, fas_norefs2, show (alF m ks).map FA.cells = fcs (alF m ks) from rfl, fcs_norefs] <;> rfl) ?_
 refine EvC.seq ?_
 refine EvC.a ?_
 refine EvC.cs ?_
 apply EvC.seq
 apply EvC.region
 apply XR.run
 ·simp only [go_sem] <;> rfl
 ·simp
 refine XR.gcTo ⟨[(2, .sc (.int .i64 most)), (9, .tv 0 n 0 n (.val n)), (50, .tv 0 n 0 n (.val n))], [], sM (alF m ks), 1⟩ [2, 9, 50] [(0, 0)] rfl (by simp only [go_sem, sM_fcs, fcs_norefs] <;> rfl) ?_
 apply XR.callI rfl rfl (by simp only [go_sem] <;> rfl) (by simp only [go_sem] <;> rfl) (by simp only [go_sem] <;> rfl)
 refine (sort_body (alF m ks) n hn (by omega)).mono fun _ M z h => ?_
 subst h
 rw [← hS]
 refine XR.nil ?_
 have hFl : (fcs S).length = n := by rw [fcs, List.length_map, hSl]
 have hFn := fcs_norefs S
 have hFt : List.take n (fcs S) = fcs S := List.take_of_length_le (by omega)
 refine EvC.gcTo ⟨[(2, .sc (.int .i64 most)), (9, .tv 0 n 0 n (.val n))], [], sM S, 1⟩ [2, 9] [(0, 0)] rfl (by simp only [go_sem, sM_fcs, fcs_norefs] <;> rfl) ?_
 refine EvC.frz 0 (by simp only [go_sem, sM_fcs, hFl, hFn, hFt] <;> rfl) ?_
 refine EvC.gcTo ⟨[(2, .sc (.int .i64 most)), (9, .sl false (fcs S) .full)], [], [], 0⟩ [2, 9] [] rfl (by simp only [go_sem] <;> rfl) ?_
 have hFg : ∀ (i : Nat) (f : FA), S[i]? = some f → (fcs S)[i]? = some f.cells := fun i f h => by rw [fcs, List.getElem?_map, h]; rfl
 have hFs : (fcs S).all (fun c => decide (c.length = 6)) = true := fa_six S
 refine EvC.a ?_
 refine EvC.seq ?_
 refine EvC.a ?_ (by simp only [go_sem, hFl] <;> rfl)
 refine EvC.block ?_
 refine EvC.loopS (σ := Nat × List (FA × FA)) (fun g => ⟨[(2, .sc (.int .i64 most)), (9, .sl false (fcs S) .full), (11, .tl 0 g.2.length g.2.isEmpty), (52, .sl false (fcs S) .full), (53, .sc (.int .i64 n)), (54, .sc (.int .i64 g.1))], [], [(0, .arr 12 (g.2.map prC) true)], 1⟩) (fun g => n - g.1) (fun g => g.1 ≤ n ∧ prs S = g.2 ++ prs (S.drop g.1) ∧ (g.2.length : Int) ≤ most) [2, 9, 11, 52, 53, 54] 1 ?_ ?_
 ·exact ⟨[(0, 0)], (0, []), rfl, (by simp only [go_sem, Int.natCast_zero, List.map_nil, List.length_nil, List.isEmpty_nil] <;> rfl), Nat.zero_le _, rfl, hm0.1⟩
 rintro ⟨i, out⟩ ⟨i1, i2, i3⟩
 simp only at i1 i2 i3 ⊢
 have hon := pairs_norefs out
 have hol : (out.map prC).length = out.length := List.length_map _
 refine EvC.a ?_
 refine EvC.seq ?_
 refine EvC.cond (by simp only [go_sem] <;> rfl) (fun hc => ?_) (fun hc => ?_)
 rotate_left
 ·refine EvC.exit ?_
  obtain rfl : i = n := by have : ¬ i < n := (by simpa using hc); omega
  clear hc
  rw [List.drop_of_length_le (by omega), prs, List.append_nil] at i2
  rw [i2] at hbase ⊢
  rw [if_neg (by omega)] at hbase
  rw [hbase, if_neg (show ¬ (0 : Int) ≠ 0 from fun h => h rfl)]
  have h12 := pair_twelve out
  generalize out.map prC = O at hon hol h12 ⊢
  refine EvC.frz 0 (by simp only [go_sem, hon, hol] <;> rfl) ?_
  refine EvC.k1 ?_ (h1 := by simp only [go_sem, hol] <;> rfl) (c1 := .ca (clipP_is out.isEmpty O .unk h12))
  refine EvC.rz ?_
  simp only [go_sem]
 have hil : i < n := by simpa using hc
 clear hc
 have hge : S[i]? = some S[i] := List.getElem?_eq_getElem (by omega)
 have hdr : S.drop i = S[i] :: S.drop (i + 1) := List.drop_eq_getElem_cons (by omega)
 generalize S[i] = f at hge hdr
 have hfg := hFg i f hge
 rw [hdr, prs] at i2
 have hit : (i : Int).toNat = i := Int.toNat_natCast i
 rw [FA.cells] at hfg
 refine EvC.skip ?_
 refine EvC.seq ?_
 refine EvC.block ?_
 refine EvC.a ?_ (by simp only [go_sem, hfg, hit, hFl] <;> rfl)
 refine EvC.z 5 ?_
 have hI1 : inI64 ((i : Int) + 1) = true := inI64_of (by omega) (by omega)
 have hi1 : ((i : Int) + 1).toNat = i + 1 := by omega
 have hil2 : (i : Int) + 1 ≤ n := by omega
 have hFs2 : ∀ y ∈ fcs S, y.length = 6 := fun y hy => by simpa using List.all_eq_true.1 hFs y hy
 have hdl : ((fcs S).drop (i + 1)).length = n - (i + 1) := by rw [List.length_drop, hFl]
 refine EvC.a ?_ (by simp only [go_sem, hFl, hi1, hdl] <;> rfl) (by simp [hI1, hil2]; exact ⟨hFs2, by omega⟩)
 obtain ⟨T, hT⟩ : ∃ T, T = S.drop (i + 1) := ⟨_, rfl⟩
 have hTc : (fcs S).drop (i + 1) = fcs T := by rw [hT, fcs, fcs, List.map_drop]
 have hTl : (fcs T).length = n - (i + 1) := by rw [← hTc, hdl]
 have hTl2 : T.length = n - (i + 1) := by rw [← hTl, fcs, List.length_map]
 rw [hTc]
 rw [← hT] at i2
 obtain ⟨k0, hk0⟩ : ∃ k, k = n - (i + 1) := ⟨_, rfl⟩
 rw [← hk0] at hTl hTl2 ⊢
 have hTg : ∀ (i : Nat) (f : FA), T[i]? = some f → (fcs T)[i]? = some f.cells := fun i f h => by rw [fcs, List.getElem?_map, h]; rfl
 obtain ⟨iZ, hiZ⟩ : ∃ z : Int, z = (i : Int) := ⟨_, rfl⟩
 rw [← hiZ]
 refine EvC.block ?_
 refine EvC.loopS (σ := Nat × List (FA × FA)) (fun g => ⟨[(2, .sc (.int .i64 most)), (9, .sl false (fcs S) .full), (52, .sl false (fcs S) .full), (53, .sc (.int .i64 n)), (54, .sc (.int .i64 iZ)), (11, .tl 0 g.2.length g.2.isEmpty), (13, .ia [.sc (.int .i64 f.kind), .sc (.int .i64 f.state), .sc (.int .i64 f.input), .sc (.int .i64 f.to), .sc (.int .i64 f.at'), .sc (.int .i64 f.out)]), (62, .sl false (fcs T) .full), (63, .sc (.int .i64 k0)), (64, .sc (.int .i64 g.1))], [], [(0, .arr 12 (g.2.map prC) true)], 1⟩) (fun g => k0 - g.1) (fun g => g.1 ≤ k0 ∧ prs S = g.2 ++ (prsOf f (T.drop g.1) ++ prs T) ∧ (g.2.length : Int) ≤ most) [2, 9, 52, 53, 54, 11, 13, 62, 63, 64] 1 ?_ ?_
 ·exact ⟨[(0, 0)], (0, out), rfl, (by simp only [go_sem, Int.natCast_zero, hon] <;> rfl), Nat.zero_le _, i2, i3⟩
 rintro ⟨k, out⟩ ⟨k1, k2, k3⟩
 clear hon hol i2 i3
 simp only at k1 k2 k3 ⊢
 have hon := pairs_norefs out
 have hol : (out.map prC).length = out.length := List.length_map _
 refine EvC.a ?_
 refine EvC.seq ?_
 refine EvC.cond (by simp only [go_sem] <;> rfl) (fun hc => ?_) (fun hc => ?_)
 rotate_left
 ·refine EvC.exit ?_
  obtain rfl : k = k0 := by have : ¬ k < k0 := (by simpa using hc); omega
  clear hc
  rw [List.drop_of_length_le (by omega), show prsOf f [] = [] from rfl, List.nil_append] at k2
  refine EvC.b ?_ (hok := by rw [hiZ]; exact hI1)
  exact ⟨[(0, 0)], (i + 1, out), rfl, (by rw [hiZ]; simp only [go_sem, hon, Int.natCast_add, Int.natCast_one] <;> rfl), ⟨by omega, by rw [← hT]; exact k2, k3⟩, by simp only; omega⟩
 have hkl : k < k0 := by simpa using hc
 clear hc
 have hgk : T[k]? = some T[k] := List.getElem?_eq_getElem (by omega)
 have hdk : T.drop k = T[k] :: T.drop (k + 1) := List.drop_eq_getElem_cons (by omega)
 generalize T[k] = g at hgk hdk
 have hgg := hTg k g hgk
 rw [FA.cells] at hgg
 rw [hdk] at k2
 have hkt : (k : Int).toNat = k := Int.toNat_natCast k
 have hI2 : inI64 ((k : Int) + 1) = true := inI64_of (by omega) (by omega)
 refine EvC.skip ?_
 refine EvC.seq ?_
 refine EvC.block ?_
 refine EvC.a ?_ (by simp only [go_sem, hgg, hkt, hTl] <;> rfl)
 refine EvC.z 4 ?_
 have q := edge_is f g
 rw [FA.cells, FA.cells] at q
 refine EvC.seq ?_
 refine EvC.k1 ?_ (c1 := .ca q)
 by_cases he : edgeI f g = 0
 ·have hp : prsOf f (g :: T.drop (k + 1)) = prsOf f (T.drop (k + 1)) := by rw [prsOf, List.filter_cons_of_neg (by simp [he])]; rfl
  rw [hp] at k2
  refine EvC.ct ?_ (by simp only [go_sem, decide_eq_true he] <;> rfl)
  refine EvC.exit ?_
  refine EvC.b ?_ (hok := by simp [hI2])
  exact ⟨[(0, 0)], (k + 1, out), rfl, (by simp only [go_sem, hon, Int.natCast_add, Int.natCast_one] <;> rfl), ⟨hkl, k2, k3⟩, by simp only; omega⟩
 have hp : prsOf f (g :: T.drop (k + 1)) = (f, g) :: prsOf f (T.drop (k + 1)) := by rw [prsOf, List.filter_cons_of_pos (by simp [he])]; rfl
 rw [hp] at k2
 refine EvC.cs ?_ (by simp only [go_sem, decide_eq_false he] <;> rfl)
 refine EvC.seq ?_
 refine EvC.a ?_ (by simp only [go_sem, hol] <;> rfl)
 by_cases hm1 : (out.length : Int) = most
 ·have hR : pairsE m ks most = 13 := by
    rw [hbase, if_pos]
    have := congrArg List.length k2
    simp only [List.length_append, List.length_cons] at this
    omega
  refine EvC.ct ?_ (by simp only [go_sem, decide_eq_true hm1] <;> rfl)
  rw [hR, if_pos (show (13 : Int) ≠ 0 by decide)]
  refine EvC.a ?_
  refine EvC.rz ?_
  simp only [go_sem]
 refine EvC.cs ?_ (by simp only [go_sem, decide_eq_false hm1] <;> rfl)
 have hsn : out.map prC ++ [[.sc (.int .i64 f.kind), .sc (.int .i64 f.state), .sc (.int .i64 f.input), .sc (.int .i64 f.to), .sc (.int .i64 f.at'), .sc (.int .i64 f.out), .sc (.int .i64 g.kind), .sc (.int .i64 g.state), .sc (.int .i64 g.input), .sc (.int .i64 g.to), .sc (.int .i64 g.at'), .sc (.int .i64 g.out)]] = (out ++ [(f, g)]).map prC := by rw [List.map_append]; rfl
 have hsl : out.length + 1 = (out ++ [(f, g)]).length := by simp
 have hse : (out ++ [(f, g)]).isEmpty = false := by simp
 have hk3 : ((out ++ [(f, g)]).length : Int) ≤ most := by rw [← hsl]; omega
 have hk2 : prs S = (out ++ [(f, g)]) ++ (prsOf f (T.drop (k + 1)) ++ prs T) := by rw [k2]; simp
 have hr2 : room (out.length + 1) 96 = true := by simp only [room_eq, decide_eq_true_eq]; omega
 rw [hsl] at hr2
 have hUn := pairs_norefs (out ++ [(f, g)])
 have hUl : ((out ++ [(f, g)]).map prC).length = (out ++ [(f, g)]).length := List.length_map _
 obtain ⟨U, hU⟩ : ∃ U, U = out ++ [(f, g)] := ⟨_, rfl⟩
 rw [← hU] at hsn hsl hse hr2 hUn hUl hk3 hk2
 obtain ⟨UC, hUC⟩ : ∃ U2, U2 = U.map prC := ⟨_, rfl⟩
 rw [← hUC] at hsn hUn hUl
 refine EvC.b ?_ (by simp only [go_sem, hsn, hsl, hol] <;> rfl) (by simp [hr2])
 refine EvC.b ?_ (hok := by simp [hI2])
 exact ⟨[(0, 0)], (k + 1, U), rfl, (by rw [hse, ← hUC]; simp only [go_sem, hUn, hUl, Int.natCast_add, Int.natCast_one] <;> rfl), ⟨hkl, hk2, hk3⟩, by simp only; omega⟩
theorem check46_bad {m : Mach} (hm : ∀ r ∈ m.rows, r.2.length < 1000000) (hc0 : checkM m ≠ 0) (f : FA) : PureIs prog 46 [.ag m.cells, .ag f.cells] (.sc (.int .i64 (checkM m))) := by
 have q0 := check_is m hm
 rw [FA.cells]
 refine PureIs.of1 8 [11, 24, 74, 117, 126] func46 ntmps46 results46 fun _ => ?_
 refine EvC.a ?_ (by simp only [go_sem, Mach.cells] <;> rfl)
 refine EvC.z 0 ?_
 refine EvC.z 1 ?_
 refine EvC.seq ?_
 refine EvC.k1 ?_ (h1 := by simp only [go_sem, Mach.cells] <;> rfl) (c1 := .ca q0)
 refine EvC.a ?_
 refine EvC.ct ?_ (by simp only [go_sem, decide_eq_false hc0] <;> rfl)
 refine EvC.a ?_
 refine EvC.rz ?_
 simp only [go_sem]
theorem check46_is {m : Mach} (hm : ∀ r ∈ m.rows, r.2.length < 1000000) (f : FA) : PureIs prog 46 [.ag m.cells, .ag f.cells] (.sc (.int .i64 (if checkM m ≠ 0 then checkM m else checkF m f))) := by
 by_cases h : checkM m = 0
 ·rw [if_neg (fun e => e h)]; exact check78_is (Valid.of h) h f
 ·rw [if_pos h]; exact check46_bad hm h f
theorem check61_is (m : Mach) (hm : ∀ r ∈ m.rows, r.2.length < 1000000) (fn : Bool) (fs : List FA) (fc : Cp) (hfl : fs.length < 1000000) :
  PureIs prog 61 [.ag m.cells, .sl fn (fs.map FA.cells) fc] (.sc (.int .i64 (mutErr m fs))) := by
 refine PureIs.of1 3 [4, 5, 7, 8, 12, 16, 17, 18, 19, 20, 27] func61 ntmps61 results61 fun _ => ?_
 refine EvC.a ?_ (by simp only [go_sem, Mach.cells] <;> rfl)
 refine EvC.z 0 ?_
 refine EvC.seq ?_
 refine EvC.k1 ?_ (h1 := by simp only [go_sem, Mach.cells] <;> rfl) (c1 := .ca (check_is m hm))
 refine EvC.a ?_
 by_cases h0 : checkM m = 0
 rotate_left
 ·refine EvC.ct ?_ (by simp only [go_sem, decide_eq_false h0] <;> rfl)
  have hR : mutErr m fs = checkM m := by unfold mutErr; rw [if_pos h0]
  rw [hR]
  refine EvC.a ?_
  refine EvC.rz ?_
  simp only [go_sem]
 have hv := Valid.of h0
 refine EvC.cs ?_ (by simp only [go_sem, decide_eq_true h0] <;> rfl)
 refine EvC.seq ?_
 refine EvC.a ?_ (by simp only [go_sem, List.length_map] <;> rfl)
 by_cases hb : 256 < (fs.length : Int)
 ·refine EvC.ct ?_ (by simp only [go_sem, decide_eq_true hb] <;> rfl)
  have hR : mutErr m fs = 3 := by unfold mutErr; rw [if_neg (fun h => h h0), if_pos hb]
  rw [hR]
  refine EvC.a ?_
  refine EvC.rz ?_
  simp only [go_sem]
 refine EvC.cf ?_ (by simp only [go_sem, decide_eq_false hb] <;> rfl)
 have hR : mutErr m fs = errFs m fs := by unfold mutErr; rw [if_neg (fun h => h h0), if_neg hb]
 rw [hR]
 refine EvC.skip ?_
 refine EvC.seq ?_
 refine EvC.a ?_ (by simp only [go_sem, List.length_map] <;> rfl)
 refine EvC.block ?_
 refine EvC.loopS (σ := Nat) (fun k => ⟨[(2, .ia [.sc (.int .i64 m.ins), .sc (.int .i64 m.outs), .sl m.nl (m.rows.map rowC) .unk]), (17, .sl fn (fs.map FA.cells) fc), (18, .sc (.int .i64 fs.length)), (19, .sc (.int .i64 k))], [], [], 0⟩) (fun k => fs.length - k) (fun k => k ≤ fs.length ∧ errFs m fs = errFs m (fs.drop k)) [2, 17, 18, 19] 0 ?_ ?_
 ·exact ⟨[], 0, rfl, (by simp only [go_sem, Int.natCast_zero] <;> rfl), Nat.zero_le _, rfl⟩
 rintro k ⟨hk1, hinv⟩
 refine EvC.a ?_
 refine EvC.seq ?_
 refine EvC.cond (by simp only [go_sem] <;> rfl) (fun hc => ?_) (fun hc => ?_)
 rotate_left
 ·refine EvC.exit ?_
  obtain rfl : fs.length = k := by have : ¬ k < fs.length := by simpa using hc
                                   omega
  rw [List.drop_length] at hinv
  rw [hinv, errFs]
  refine EvC.a ?_
  refine EvC.rz ?_
  simp only [go_sem]
 have hkl : k < fs.length := by simpa using hc
 clear hc
 have he : fs[k]? = some (fs[k]'hkl) := List.getElem?_eq_getElem hkl
 have hdr : fs.drop k = fs[k]'hkl :: fs.drop (k + 1) := List.drop_eq_getElem_cons hkl
 generalize fs[k]'hkl = f at he hdr
 rw [hdr, errFs] at hinv
 have hin : (k : Int).toNat = k := Int.toNat_natCast k
 have q := check78_is hv h0 f
 rw [FA.cells] at q
 refine EvC.skip ?_
 refine EvC.seq ?_
 refine EvC.block ?_
 refine EvC.a ?_ (by simp only [go_sem, he, hin, FA.cells, List.length_map] <;> rfl)
 refine EvC.k1 ?_ (h1 := by simp only [go_sem, Mach.cells] <;> rfl) (c1 := .ca q)
 refine EvC.a ?_
 by_cases h1 : checkF m f = 0
 ·rw [if_pos h1] at hinv
  refine EvC.cs ?_ (by simp only [go_sem, decide_eq_true h1] <;> rfl)
  refine EvC.b ?_ (hok := by exact inI64_of (by omega) (by omega))
  exact ⟨[], k + 1, rfl, (by simp only [go_sem, Int.natCast_add, Int.natCast_one] <;> rfl), ⟨hkl, hinv⟩, by omega⟩
 ·rw [if_neg h1] at hinv
  refine EvC.ct ?_ (by simp only [go_sem, decide_eq_false h1] <;> rfl)
  rw [hinv]
  refine EvC.a ?_
  refine EvC.rz ?_
  simp only [go_sem]
theorem mutants49_is (m : Mach) (hm : ∀ r ∈ m.rows, r.2.length < 1000000) (hnn : NoNil m) (fn : Bool) (fs : List FA) (fc : Cp) (hfl : fs.length < 1000000) :
  PureIs prog 49 [.ag m.cells, .sl fn (fs.map FA.cells) fc] (mutsA m fs) := by
 refine PureIs.of1 3 [4, 5, 6, 7, 9, 10, 11, 16, 18, 19, 20, 21, 31] func49 ntmps49 results49 fun _ => ?_
 refine EvC.a ?_ (by simp only [go_sem, Mach.cells] <;> rfl)
 refine EvC.z 0 ?_
 refine EvC.seq ?_
 refine EvC.k1 ?_ (h1 := by simp only [go_sem, Mach.cells] <;> rfl) (c1 := .ca (check61_is m hm fn fs fc hfl))
 refine EvC.a ?_
 unfold mutsA
 by_cases hE : mutErr m fs = 0
 rotate_left
 ·refine EvC.ct ?_ (by simp only [go_sem, decide_eq_false hE] <;> rfl)
  rw [if_neg hE]
  refine EvC.a ?_
  refine EvC.rz ?_
  simp only [go_sem]
 rw [if_pos hE]
 obtain ⟨h0, hb, hinv0⟩ := mutErr_ok hE
 have hv := Valid.of h0
 have hz := errFs_zero hinv0
 refine EvC.cs ?_ (by simp only [go_sem, decide_eq_true hE] <;> rfl)
 refine EvC.a ?_
 refine EvC.seq ?_
 refine EvC.a ?_ (by simp only [go_sem, List.length_map] <;> rfl)
 refine EvC.block ?_
 refine EvC.loopS (σ := Nat) (fun k => ⟨[(2, .ia [.sc (.int .i64 m.ins), .sc (.int .i64 m.outs), .sl m.nl (m.rows.map rowC) .unk]), (7, .tl 0 k (k == 0)), (18, .sl fn (fs.map FA.cells) fc), (19, .sc (.int .i64 fs.length)), (20, .sc (.int .i64 k))], [], [(0, .arr 3 (mutC m fs k) true)], 1⟩) (fun k => fs.length - k) (fun k => k ≤ fs.length) [2, 7, 18, 19, 20] 1 ?_ ?_
 ·refine ⟨[(9, 0)], 0, rfl, (by simp only [go_sem, Int.natCast_zero, mutC, List.take_zero, List.map_nil] <;> rfl), Nat.zero_le _⟩
 rintro k hk1
 have hml := mutC_len (m := m) hk1
 refine EvC.a ?_
 refine EvC.seq ?_
 refine EvC.cond (by simp only [go_sem] <;> rfl) (fun hc => ?_) (fun hc => ?_)
 rotate_left
 ·
  refine EvC.exit ?_
  obtain rfl : fs.length = k := by have : ¬ k < fs.length := by simpa using hc
                                   omega
  have hmc : (fs.map (mutF m)).map Mach.cells = mutC m fs fs.length := by rw [mutC, List.take_length]
  rw [hmc]
  have hn := norefs_mutC m fs fs.length
  have hie : (fs.length == 0) = fs.isEmpty := by cases fs <;> rfl
  rw [hie]
  generalize mutC m fs fs.length = L at hml hn
  refine EvC.frz 0 (by simp only [go_sem, hn, hml] <;> rfl) ?_
  refine EvC.a ?_ (by simp only [go_sem, hml] <;> rfl)
  refine EvC.ret ⟨.inl rfl, _, (by simp only [go_sem, hml] <;> rfl), ?_, by simp [AV.noref, AV.norefs, hn]⟩
  simp only [go_sem, hml]
 have hkl : k < fs.length := by simpa using hc
 clear hc
 have he : fs[k]? = some (fs[k]'hkl) := List.getElem?_eq_getElem hkl
 have hfz := hz _ (List.getElem_mem hkl)
 generalize fs[k]'hkl = f at he hfz
 have hin : (k : Int).toNat = k := Int.toNat_natCast k
 have q := apply71_is hv h0 hnn f
 have hs := mutC_succ (m := m) he
 have hml2 := mutC_len (m := m) (k := k + 1) hkl
 have hr2 : room (k + 1) 40 = true := by simp only [room_eq, decide_eq_true_eq]; omega
 refine EvC.skip ?_
 refine EvC.seq ?_
 refine EvC.block ?_
 refine EvC.a ?_ (by simp only [go_sem, he, hin, FA.cells, List.length_map] <;> rfl)
 unfold applyR at q
 generalize mutF m f = mf at q hs
 have hmr : AV.norefs mf.cells = true := norefs_mcells mf
 simp only [Mach.cells] at q hs hmr
 rw [if_pos hfz] at q
 refine EvC.k1 ?_ (h1 := by simp only [go_sem, Mach.cells, FA.cells] <;> rfl) (c1 := .ca q)
 refine EvC.seq ?_
 refine EvC.a ?_
 refine EvC.cs ?_
 refine EvC.b ?_ (by simp only [go_sem, hml, hr2, hs] <;> rfl)
 refine EvC.b ?_ (hok := by exact inI64_of (by omega) (by omega))
 exact ⟨[(0, 0)], k + 1, rfl, (by simp only [go_sem, Int.natCast_add, Int.natCast_one, hml2] <;> rfl), hkl, by omega⟩
def bothE (m : Mach) (p : FA × FA) : Int :=
 if checkM m ≠ 0 then checkM m else if checkF m p.1 ≠ 0 then checkF m p.1 else if checkF m p.2 ≠ 0 then checkF m p.2 else if 2 < (if p.1.kind ≤ p.2.kind then p.2.kind else p.1.kind) ∨ 0 ≤ edgeI p.1 p.2 then 1 else 0
def bothA (m : Mach) (p : FA × FA) : AV :=
 if bothE m p ≠ 0 then .tu [.ag [.sc (.int .i64 0), .sc (.int .i64 0), .sl true [] .zer], .sc (.int .i64 (bothE m p))] else applyR (mutF m p.1) p.2
set_option maxHeartbeats 4000000 in
theorem pairBoth_is (m : Mach) (hm : ∀ r ∈ m.rows, r.2.length < 1000000) (hnn : NoNil m) (p : FA × FA) : PureIs prog 14 [.ag m.cells, .ag (prC p)] (bothA m p) := by
 obtain ⟨f, g⟩ := p
 rw [prC]
 have q1 := check46_is hm f
 have q2 := check46_is hm g
 have q3 := edge_is f g
 unfold bothA
 simp only
 generalize hE : bothE m (f, g) = E
 have hE := hE.symm
 unfold bothE at hE
 simp only at hE
 rw [FA.cells] at q1 q2
 rw [FA.cells, FA.cells] at q3
 simp only [FA.cells, List.cons_append, List.nil_append]
 refine PureIs.of1 6 [7, 8, 9, 10, 15, 16, 17, 18, 25, 44, 54] func14 ntmps14 results14 fun _ => ?_
 refine EvC.a ?_ (by simp only [go_sem, Mach.cells] <;> rfl)
 refine EvC.z 0 ?_
 refine EvC.z 1 ?_
 refine EvC.seq ?_
 refine EvC.a ?_
 refine EvC.frz 8 (by simp only [go_sem] <;> rfl) ?_
 refine EvC.block ?_
 obtain ⟨e1, he1⟩ : ∃ e, e = if checkM m ≠ 0 then checkM m else checkF m f := ⟨_, rfl⟩
 obtain ⟨e2, he2⟩ : ∃ e, e = if checkM m ≠ 0 then checkM m else checkF m g := ⟨_, rfl⟩
 rw [← he1] at q1
 rw [← he2] at q2
 have hEE : E = if e1 ≠ 0 then e1 else if e2 ≠ 0 then e2 else if 2 < (if f.kind ≤ g.kind then g.kind else f.kind) ∨ 0 ≤ edgeI f g then 1 else 0 := by
  rw [hE, he1, he2]
  by_cases h : checkM m = 0
  ·simp [h]
  ·simp [h]
 refine EvC.loopS (σ := Nat) (fun i => ⟨[(2, .ia m.cells), (3, .ia [.sc (.int .i64 f.kind), .sc (.int .i64 f.state), .sc (.int .i64 f.input), .sc (.int .i64 f.to), .sc (.int .i64 f.at'), .sc (.int .i64 f.out), .sc (.int .i64 g.kind), .sc (.int .i64 g.state), .sc (.int .i64 g.input), .sc (.int .i64 g.to), .sc (.int .i64 g.at'), .sc (.int .i64 g.out)]), (4, .rf 0 0), (15, .sl false [[.sc (.int .i64 f.kind), .sc (.int .i64 f.state), .sc (.int .i64 f.input), .sc (.int .i64 f.to), .sc (.int .i64 f.at'), .sc (.int .i64 f.out)], [.sc (.int .i64 g.kind), .sc (.int .i64 g.state), .sc (.int .i64 g.input), .sc (.int .i64 g.to), .sc (.int .i64 g.at'), .sc (.int .i64 g.out)]] .unk), (16, .sc (.int .i64 2)), (17, .sc (.int .i64 i))], [], [(0, .cells [.sc (.int .i64 0), .sc (.int .i64 0), .sl true [] .zer])], 1⟩) (fun i => 2 - i) (fun i => i ≤ 2 ∧ (1 ≤ i → e1 = 0) ∧ (2 ≤ i → e2 = 0)) [2, 3, 4, 15, 16, 17] 1 ?_ ?_
 ·exact ⟨[(2, 0)], 0, rfl, (by simp only [go_sem, Int.natCast_zero, Mach.cells] <;> rfl), by omega, by omega, by omega⟩
 rintro i ⟨i1, i2, i3⟩
 refine EvC.a ?_
 refine EvC.seq ?_
 rcases (show i = 0 ∨ i = 1 ∨ i = 2 by omega) with rfl | rfl | rfl
 ·refine EvC.cr ?_ (by simp only [go_sem, Int.natCast_zero] <;> rfl)
  refine EvC.seq ?_
  refine EvC.block ?_
  refine EvC.a ?_ (by simp only [go_sem, Int.natCast_zero, List.getElem?_cons_zero, Int.toNat_zero] <;> rfl)
  refine EvC.z 4 ?_
  refine EvC.k1 ?_ (h1 := by simp only [go_sem, Mach.cells] <;> rfl) (c1 := .ca q1)
  refine EvC.a ?_
  by_cases h : e1 = 0
  ·refine EvC.cs ?_ (by simp only [go_sem, decide_eq_true h] <;> rfl)
   refine EvC.b ?_ (hok := by exact inI64_of (by omega) (by omega))
   exact ⟨[(0, 0)], 1, rfl, (by simp only [go_sem, Int.natCast_one, Mach.cells] <;> rfl), ⟨by omega, fun _ => h, by omega⟩, by omega⟩
  ·refine EvC.ct ?_ (by simp only [go_sem, decide_eq_false h] <;> rfl)
   rw [if_pos h] at hEE
   rw [hEE, if_pos h]
   refine EvC.a ?_
   refine EvC.rz ?_
   simp only [go_sem]
 ·refine EvC.cr ?_ (by simp only [go_sem, Int.natCast_one] <;> rfl)
  refine EvC.seq ?_
  refine EvC.block ?_
  refine EvC.a ?_ (by simp only [go_sem, Int.natCast_one, show (1 : Int).toNat = 1 from rfl] <;> rfl)
  refine EvC.z 4 ?_
  refine EvC.k1 ?_ (h1 := by simp only [go_sem, Mach.cells] <;> rfl) (c1 := .ca q2)
  refine EvC.a ?_
  have h1 := i2 (Nat.le_refl _)
  by_cases h : e2 = 0
  ·refine EvC.cs ?_ (by simp only [go_sem, decide_eq_true h] <;> rfl)
   refine EvC.b ?_ (hok := by exact inI64_of (by omega) (by omega))
   exact ⟨[(0, 0)], 2, rfl, (by simp only [go_sem, show ((2 : Nat) : Int) = 2 from rfl, Mach.cells] <;> rfl), ⟨by omega, fun _ => h1, fun _ => h⟩, by omega⟩
  ·refine EvC.ct ?_ (by simp only [go_sem, decide_eq_false h] <;> rfl)
   rw [if_neg (fun e => e h1), if_pos h] at hEE
   rw [hEE, if_pos h]
   refine EvC.a ?_
   refine EvC.rz ?_
   simp only [go_sem]
 have h1 := i2 (by omega)
 have h2 := i3 (Nat.le_refl _)
 rw [if_neg (fun e => e h1), if_neg (fun e => e h2)] at hEE
 have h0 : checkM m = 0 := by
  by_cases h : checkM m = 0
  ·exact h
  ·rw [if_pos h] at he1; exact absurd (he1.symm.trans h1) h
 have hf : checkF m f = 0 := by rw [if_neg (fun e => e h0)] at he1; exact he1.symm.trans h1
 have hv := Valid.of h0
 refine EvC.cf ?_ (by simp only [go_sem, show ((2 : Nat) : Int) = 2 from rfl] <;> rfl)
 refine EvC.exit ?_
 refine EvC.seq ?_
 by_cases hk : 2 < (if f.kind ≤ g.kind then g.kind else f.kind)
 ·rw [if_pos (.inl hk)] at hEE
  rw [hEE, if_pos (show (1 : Int) ≠ 0 by decide)]
  have hkd := decide_eq_true hk
  apply EvC.s1
  ·apply Tr.run
   ·simp only [go_sem, hkd] <;> rfl
   ·simp
   apply Tr.cons
   ·exact .skipv (.sc (.int .i64 0)) rfl rfl (by simp only [go_sem] <;> rfl) (by simp only [go_sem] <;> rfl)
   apply Tr.done
   ·simp only [go_sem, hkd] <;> rfl
   ·simp
  refine EvC.ct ?_
  refine EvC.a ?_
  refine EvC.rz ?_
  simp only [go_sem]
 have hkd := decide_eq_false hk
 refine EvC.k1 ?_ (h1 := by simp only [go_sem, hkd] <;> rfl) (c1 := .cg q3) (h2 := by simp only [go_sem, hkd] <;> rfl)
 by_cases he : 0 ≤ edgeI f g
 ·rw [if_pos (.inr he)] at hEE
  rw [hEE, if_pos (show (1 : Int) ≠ 0 by decide)]
  refine EvC.ct ?_ (by simp only [go_sem, decide_eq_true he] <;> rfl)
  refine EvC.a ?_
  refine EvC.rz ?_
  simp only [go_sem]
 rw [if_neg (fun h => h.elim hk he)] at hEE
 rw [hEE, if_neg (show ¬ (0 : Int) ≠ 0 from fun h => h rfl)]
 refine EvC.cs ?_ (by simp only [go_sem, decide_eq_false he] <;> rfl)
 have q4 := apply71_is hv h0 hnn f
 unfold applyR at q4
 rw [if_pos hf] at q4
 have hv2 := mutF_valid hv hf
 have q5 := apply71_is hv2 (checkM_of hv2) (mutF_noNil m f) g
 obtain ⟨mf, hmf⟩ : ∃ mf, mf = mutF m f := ⟨_, rfl⟩
 rw [← hmf] at q4 q5 ⊢
 rw [FA.cells] at q4 q5
 have hmr : AV.norefs mf.cells = true := norefs_mcells mf
 simp only [Mach.cells] at q4 q5 hmr
 refine EvC.k1 ?_ (h1 := by simp only [go_sem, Mach.cells] <;> rfl) (c1 := .ca q4)
 refine EvC.z 25 ?_
 refine EvC.seq ?_
 refine EvC.a ?_
 refine EvC.cs ?_
 by_cases h5 : checkF mf g = 0
 ·rw [applyR, if_pos h5] at q5 ⊢
  generalize mutF mf g = mg at q5 ⊢
  simp only [Mach.cells] at q5 ⊢
  refine EvC.k1 ?_ (c1 := .ca q5)
  refine EvC.rz ?_
  simp only [go_sem]
 ·rw [applyR, if_neg h5] at q5 ⊢
  refine EvC.k1 ?_ (c1 := .ca q5)
  refine EvC.rz ?_
  simp only [go_sem]
def eqM (a b : Mach) : Bool := (equalR a b).1
def atM (X : List Mach) (i : Int) : Mach := X.getD i.toNat ⟨0, 0, true, []⟩
def findIdxM (p : Mach → Bool) : List Mach → Int → Int
 | [], _ => -1
 | e :: es, i => if p e = true then i else findIdxM p es (i + 1)
def fstM (p : Mach → Bool) : List Mach → Nat
 | [] => 0
 | e :: es => if p e = true then 0 else fstM p es + 1
theorem fstM_le (p : Mach → Bool) : ∀ es : List Mach, fstM p es ≤ es.length
 | [] => Nat.le_refl _
 | e :: es => by
   have := fstM_le p es
   rw [fstM, List.length_cons]
   split <;> omega
theorem findIdxM_fst (p : Mach → Bool) : ∀ (es : List Mach) (i : Int), findIdxM p es i = if fstM p es < es.length then i + fstM p es else -1
 | [], i => by simp [findIdxM, fstM]
 | e :: es, i => by
   rw [findIdxM, fstM]
   split
   ·simp
   ·rw [findIdxM_fst p es, List.length_cons]
    by_cases h : fstM p es < es.length
    ·rw [if_pos h, if_pos (by omega)]; omega
    ·rw [if_neg h, if_neg (by omega)]
theorem indexM_is (nl : Bool) (xs : List Mach) (c : Cp) (f : FuncId) (cs : List AV) (hcs : AV.norefs cs = true) (p : Mach → Bool) (hp : ∀ e ∈ xs, PureIs prog f (.ag (Mach.cells e) :: cs) (.sc (.bool (p e)))) (hl : xs.length < 1000000) :
  PureIs prog 52 [.sl nl (xs.map Mach.cells) c, .fn f cs] (.sc (.int .i64 (findIdxM p xs 0))) := by
 refine PureIs.of1 2 [4, 5, 7, 8, 9, 16] func52 ntmps52 results52 fun _ => ?_
 refine EvC.a ?_
 refine EvC.seq ?_
 refine EvC.a ?_ (by simp only [go_sem, List.length_map] <;> rfl)
 refine EvC.block ?_
 refine EvC.loopS (σ := Nat) (fun i => ⟨[(0, .sl nl (xs.map Mach.cells) c), (1, .fn f cs), (7, .sc (.int .i64 xs.length)), (8, .sc (.int .i64 i))], [], [], 0⟩) (fun i => xs.length - i) (fun i => i ≤ xs.length ∧ findIdxM p xs 0 = findIdxM p (xs.drop i) i) [0, 1, 7, 8] 0 ?_ ?_
 ·refine ⟨[], 0, rfl, (by simp only [go_sem, hcs, Int.natCast_zero] <;> rfl), Nat.zero_le _, by simp⟩
 rintro i ⟨h1, h2⟩
 refine EvC.a ?_
 refine EvC.seq ?_
 refine EvC.cond (by simp only [go_sem] <;> rfl) (fun hc => ?_) (fun hc => ?_)
 rotate_left
 ·refine EvC.exit ?_
  have hi : ¬ i < xs.length := by simpa using hc
  refine EvC.a ?_
  refine EvC.rz ?_
  simp only [go_sem]
  rw [h2, List.drop_of_length_le (by omega)]; rfl
 have hi : i < xs.length := by simpa using hc
 have he : xs[i]? = some xs[i] := List.getElem?_eq_getElem hi
 have hd : xs.drop i = xs[i] :: xs.drop (i + 1) := List.drop_eq_getElem_cons hi
 have hm : xs[i] ∈ xs := List.getElem_mem hi
 generalize xs[i] = e at he hd hm
 refine EvC.skip ?_
 refine EvC.seq ?_
 refine EvC.block ?_
 refine EvC.a ?_
 have hq := hp e hm
 apply EvC.s1
 ·apply Tr.run
  ·simp only [go_sem, he, Mach.cells, List.length_map] <;> rfl
  ·simp; try omega
  apply Tr.cons
  ·exact .call rfl rfl (by simp only [go_sem] <;> rfl) (by simp only [go_sem] <;> rfl) (by simp only [go_sem] <;> rfl) (by simp only [go_sem, hcs] <;> rfl) (by simp only [go_sem] <;> rfl) (hq)
  apply Tr.done
  ·simp only [go_sem] <;> rfl
  ·simp
 refine EvC.cond (by simp only [go_sem] <;> rfl) (fun hc => ?_) (fun hc => ?_)
 ·refine EvC.a ?_
  refine EvC.rz ?_
  simp only [go_sem]
  rw [h2, hd, findIdxM, if_pos hc]
 refine EvC.skip ?_
 refine EvC.b ?_ (hok := by exact inI64_of (by omega) (by omega))
 refine ⟨[], i + 1, rfl, (by simp only [go_sem, hcs, Int.natCast_add, Int.natCast_one] <;> rfl), ⟨by omega, ?_⟩, by omega⟩
 rw [h2, hd, findIdxM, if_neg (by simp [hc])]; rfl
theorem clipB_is (nl : Bool) (es : List (List AV)) (c : Cp) (h : (es.all fun y => decide (y.length = 1)) = true) : PureIs prog 51 [.sl nl es c] (.sl nl es .full) := by
 refine PureIs.of1 3 [] func51 ntmps51 results51 fun _ => ?_
 refine EvC.seq (EvC.rg (by simp only [go_sem] <;> rfl) rfl ?_)
 refine EvC.a ?_ (hok := by simp [h])
 refine EvC.ret ⟨.inl rfl, _, (by simp only [go_sem] <;> rfl), rfl, rfl⟩
def rowsSm (m : Mach) : Prop := ∀ r ∈ m.rows, r.2.length < 1000000
def equalsL (m : Mach) (X : List Mach) : List Bool := X.map (eqM m)
def equalsA (m : Mach) (fs : List FA) : AV :=
 if mutErr m fs ≠ 0 then .tu [.sl true [] .unk, .sc (.int .i64 (mutErr m fs))] else .tu [.sl fs.isEmpty ((equalsL m (fs.map (mutF m))).map boolC) .full, .sc (.int .i64 0)]
theorem norefs_bools (l : List Bool) : (l.map boolC).all AV.norefs = true := by
 rw [List.all_eq_true]
 intro c hc
 obtain ⟨f, _, rfl⟩ := List.mem_map.1 hc
 rfl
theorem bool_one (l : List Bool) : ((l.map boolC).all fun y => decide (y.length = 1)) = true := by simp [List.all_eq_true, boolC]
theorem muts_sm {m : Mach} {fs : List FA} (h : mutErr m fs = 0) : ∀ x ∈ fs.map (mutF m), Valid x ∧ x.ins = m.ins := fun x hx => by
 obtain ⟨h0, _, h2⟩ := mutErr_ok h
 obtain ⟨f, hf, rfl⟩ := List.mem_map.1 hx
 exact ⟨mutF_valid (Valid.of h0) (errFs_zero h2 f hf), rfl⟩
theorem valid_sm {m : Mach} (hv : Valid m) : rowsSm m := fun r hr => by have := (hv.row r hr).1; have := hv.ins; omega
set_option maxHeartbeats 4000000 in
theorem equals19_is (m : Mach) (hm : ∀ r ∈ m.rows, r.2.length < 1000000) (hnn : NoNil m) (fn : Bool) (fs : List FA) (fc : Cp) (hfl : fs.length < 1000000) :
  PureIs prog 19 [.ag m.cells, .sl fn (fs.map FA.cells) fc] (equalsA m fs) := by
 refine PureIs.of1 3 [4, 5, 6, 7, 8, 10, 11, 20, 22, 23, 24, 25] func19 ntmps19 results19 fun _ => ?_
 have q := mutants49_is m hm hnn fn fs fc hfl
 unfold mutsA at q
 unfold equalsA
 refine EvC.a ?_ (by simp only [go_sem, Mach.cells] <;> rfl)
 refine EvC.z 0 ?_
 by_cases hE : mutErr m fs = 0
 rotate_left
 ·rw [if_neg hE] at q
  rw [if_pos hE]
  refine EvC.k1 ?_ (h1 := by simp only [go_sem, Mach.cells] <;> rfl) (c1 := .ca q)
  refine EvC.seq ?_
  refine EvC.a ?_
  refine EvC.ct ?_ (by simp only [go_sem, decide_eq_false hE] <;> rfl)
  refine EvC.a ?_
  refine EvC.rz ?_
  simp only [go_sem]
 rw [if_pos hE] at q
 rw [if_neg (show ¬ mutErr m fs ≠ 0 from fun h => h hE)]
 have hX := muts_sm hE
 have hXl : (fs.map (mutF m)).length = fs.length := List.length_map _
 generalize fs.map (mutF m) = X at q hX hXl ⊢
 have hXn := norefs_machs X
 have hfl2 := (mutErr_ok hE).2.1
 refine EvC.k1 ?_ (h1 := by simp only [go_sem, Mach.cells] <;> rfl) (c1 := .ca q) (h2 := by simp only [go_sem, hXn] <;> rfl)
 refine EvC.seq ?_
 refine EvC.a ?_
 refine EvC.cs ?_
 refine EvC.a ?_
 refine EvC.seq ?_
 refine EvC.a ?_ (by simp only [go_sem, List.length_map, hXl] <;> rfl)
 refine EvC.block ?_
 obtain ⟨N, hN⟩ : ∃ N, N = fs.length := ⟨_, rfl⟩
 have hfe : fs.isEmpty = (N == 0) := by rw [hN]; cases fs <;> rfl
 rw [← hN] at hXl hfl2 ⊢
 refine EvC.loopS (σ := Nat) (fun i => ⟨[(2, .ia m.cells), (8, .tl 0 i (i == 0)), (22, .sl fs.isEmpty (X.map Mach.cells) .unk), (23, .sc (.int .i64 N)), (24, .sc (.int .i64 i))], [], [(0, .arr 1 (((equalsL m X).take i).map boolC) true)], 1⟩) (fun i => N - i) (fun i => i ≤ N) [2, 8, 22, 23, 24] 1 ?_ ?_
 ·exact ⟨[(13, 0)], 0, rfl, (by simp only [go_sem, Int.natCast_zero, List.take_zero, List.map_nil, Mach.cells] <;> rfl), Nat.zero_le _⟩
 intro i hi
 have hel : (equalsL m X).length = N := by rw [equalsL, List.length_map, hXl]
 have hLn := norefs_bools ((equalsL m X).take i)
 have hLl : (((equalsL m X).take i).map boolC).length = i := by rw [List.length_map, List.length_take]; omega
 refine EvC.a ?_
 refine EvC.seq ?_
 refine EvC.cond (by simp only [go_sem] <;> rfl) (fun hc => ?_) (fun hc => ?_)
 rotate_left
 ·refine EvC.exit ?_
  obtain rfl : i = N := by have : ¬ i < N := (by simpa using hc); omega
  rw [List.take_of_length_le (by omega)] at hLn hLl ⊢
  have h1 := bool_one (equalsL m X)
  generalize (equalsL m X).map boolC = L at hLn hLl h1 ⊢
  refine EvC.frz 0 (by simp only [go_sem, hLn, hLl] <;> rfl) ?_
  refine EvC.k1 ?_ (h1 := by simp only [go_sem, hLl] <;> rfl) (c1 := .ca (clipB_is (i == 0) L .unk h1))
  refine EvC.rz ?_
  simp only [go_sem]
  rw [hfe]
 have hil : i < N := by simpa using hc
 clear hc
 have hge : X[i]? = some (X[i]'(by omega)) := List.getElem?_eq_getElem (by omega)
 have hxm := hX _ (List.getElem_mem (show i < X.length by omega))
 have htk : (equalsL m X).take (i + 1) = (equalsL m X).take i ++ [eqM m (X[i]'(by omega))] := by
  rw [List.take_succ_eq_append_getElem (by omega)]; simp [equalsL]
 generalize X[i]'(by omega) = x at hge hxm htk
 have hxg : (X.map Mach.cells)[i]? = some x.cells := by rw [List.getElem?_map, hge]; rfl
 have q2 := equals_equal_is m x hm (valid_sm hxm.1)
 have hit : (i : Int).toNat = i := Int.toNat_natCast i
 rw [show (equalR m x).1 = eqM m x from rfl] at q2
 simp only [Mach.cells] at q2 hxg
 refine EvC.skip ?_
 refine EvC.seq ?_
 refine EvC.block ?_
 refine EvC.a ?_ (by simp only [go_sem, hxg, hit, List.length_map, hXl] <;> rfl)
 refine EvC.z 4 ?_
 refine EvC.k1 ?_ (h1 := by simp only [go_sem, Mach.cells] <;> rfl) (c1 := .ca q2)
 have hs : ((equalsL m X).take i).map boolC ++ [[.sc (.bool (eqM m x))]] = ((equalsL m X).take (i + 1)).map boolC := by rw [htk, List.map_append]; rfl
 have hLn2 := norefs_bools ((equalsL m X).take (i + 1))
 have hr2 : room (i + 1) 1 = true := by simp only [room_eq, decide_eq_true_eq]; omega
 have hLl2 : (((equalsL m X).take (i + 1)).map boolC).length = i + 1 := by rw [List.length_map, List.length_take]; omega
 have hne : (i + 1 == 0) = false := rfl
 obtain ⟨L2, hL2⟩ : ∃ L, L = ((equalsL m X).take (i + 1)).map boolC := ⟨_, rfl⟩
 rw [← hL2] at hs hLn2 hLl2
 refine EvC.b ?_ (by simp only [go_sem, hs, hLl] <;> rfl) (by simp [hr2])
 refine EvC.b ?_ (hok := by exact inI64_of (by omega) (by omega))
 exact ⟨[(0, 0)], i + 1, rfl, (by rw [← hL2]; simp only [go_sem, Mach.cells, hLn2, hLl2, hne, Int.natCast_add, Int.natCast_one] <;> rfl), hil, by omega⟩
theorem norefs_intC (l : List Int) : (l.map intC).all AV.norefs = true := by simp [List.all_eq_true, intC, AV.norefs, AV.noref]
def distF (X : List Mach) (i : Nat) : Int := (fstM (fun x => eqM x (atM X i)) (X.take i) : Nat)
def distL (X : List Mach) : List Int := (List.range X.length).map (distF X)
def distinctA (m : Mach) (fs : List FA) : AV :=
 if mutErr m fs ≠ 0 then .tu [.sl true [] .unk, .sc (.int .i64 (mutErr m fs))] else .tu [.sl fs.isEmpty ((distL (fs.map (mutF m))).map intC) .full, .sc (.int .i64 0)]
theorem dist53_is (a b : Mach) (ha : rowsSm a) (hb : rowsSm b) : PureIs prog 53 [.ag a.cells, .ia b.cells] (.sc (.bool (eqM a b))) := by
 have q := equals_equal_is a b ha hb
 rw [show (equalR a b).1 = eqM a b from rfl] at q
 simp only [Mach.cells] at q ⊢
 refine PureIs.of1 5 [] func53 ntmps53 results53 fun _ => ?_
 refine EvC.a ?_
 refine EvC.z 0 ?_
 refine EvC.k1 ?_ (c1 := .ca q)
 refine EvC.a ?_
 refine EvC.rz ?_
 simp only [go_sem]
set_option maxHeartbeats 4000000 in
theorem distinct_is (m : Mach) (hm : ∀ r ∈ m.rows, r.2.length < 1000000) (hnn : NoNil m) (fn : Bool) (fs : List FA) (fc : Cp) (hfl : fs.length < 1000000) :
  PureIs prog 20 [.ag m.cells, .sl fn (fs.map FA.cells) fc] (distinctA m fs) := by
 refine PureIs.of1 3 [4, 5, 6, 7, 8, 9, 10, 11, 19, 21, 22, 23, 24, 34] func20 ntmps20 results20 fun _ => ?_
 have q := mutants49_is m hm hnn fn fs fc hfl
 unfold mutsA at q
 unfold distinctA
 refine EvC.a ?_ (by simp only [go_sem, Mach.cells] <;> rfl)
 refine EvC.z 0 ?_
 by_cases hE : mutErr m fs = 0
 rotate_left
 ·rw [if_neg hE] at q
  rw [if_pos hE]
  refine EvC.k1 ?_ (h1 := by simp only [go_sem, Mach.cells] <;> rfl) (c1 := .ca q)
  refine EvC.seq ?_
  refine EvC.a ?_
  refine EvC.ct ?_ (by simp only [go_sem, decide_eq_false hE] <;> rfl)
  refine EvC.a ?_
  refine EvC.rz ?_
  simp only [go_sem]
 rw [if_pos hE] at q
 rw [if_neg (show ¬ mutErr m fs ≠ 0 from fun h => h hE)]
 have hX := muts_sm hE
 have hXl : (fs.map (mutF m)).length = fs.length := List.length_map _
 generalize fs.map (mutF m) = X at q hX hXl ⊢
 have hXn := norefs_machs X
 have hfl2 := (mutErr_ok hE).2.1
 refine EvC.k1 ?_ (h1 := by simp only [go_sem, Mach.cells] <;> rfl) (c1 := .ca q) (h2 := by simp only [go_sem, hXn] <;> rfl)
 refine EvC.seq ?_
 refine EvC.a ?_
 refine EvC.cs ?_
 refine EvC.a ?_
 refine EvC.seq ?_
 refine EvC.a ?_ (by simp only [go_sem, List.length_map, hXl] <;> rfl)
 refine EvC.block ?_
 obtain ⟨N, hN⟩ : ∃ N, N = fs.length := ⟨_, rfl⟩
 have hfe : fs.isEmpty = (N == 0) := by rw [hN]; cases fs <;> rfl
 rw [← hN] at hXl hfl2 ⊢
 have hel : (distL X).length = N := by rw [distL, List.length_map, List.length_range, hXl]
 refine EvC.loopS (σ := Nat) (fun i => ⟨[(6, .sl fs.isEmpty (X.map Mach.cells) .unk), (8, .tl 0 i (i == 0)), (21, .sl fs.isEmpty (X.map Mach.cells) .unk), (22, .sc (.int .i64 N)), (23, .sc (.int .i64 i))], [], [(0, .arr 1 (((distL X).take i).map intC) true)], 1⟩) (fun i => N - i) (fun i => i ≤ N) [6, 8, 21, 22, 23] 1 ?_ ?_
 ·exact ⟨[(13, 0)], 0, rfl, (by simp only [go_sem, Int.natCast_zero, List.take_zero, List.map_nil] <;> rfl), Nat.zero_le _⟩
 intro i hi
 have hLn := norefs_intC ((distL X).take i)
 have hLl : (((distL X).take i).map intC).length = i := by rw [List.length_map, List.length_take]; omega
 refine EvC.a ?_
 refine EvC.seq ?_
 refine EvC.cond (by simp only [go_sem] <;> rfl) (fun hc => ?_) (fun hc => ?_)
 rotate_left
 ·refine EvC.exit ?_
  obtain rfl : i = N := by have : ¬ i < N := (by simpa using hc); omega
  rw [List.take_of_length_le (by omega)] at hLn hLl ⊢
  have h1 : (((distL X).map intC).all fun y => decide (y.length = 1)) = true := by simp [List.all_eq_true, intC]
  generalize (distL X).map intC = L at hLn hLl h1 ⊢
  refine EvC.frz 0 (by simp only [go_sem, hLn, hLl] <;> rfl) ?_
  refine EvC.k1 ?_ (h1 := by simp only [go_sem, hLl] <;> rfl) (c1 := .ca (clipI_is (i == 0) L .unk h1))
  refine EvC.rz ?_
  simp only [go_sem]
  rw [hfe]
 have hil : i < N := by simpa using hc
 clear hc
 have hge : X[i]? = some (X[i]'(by omega)) := List.getElem?_eq_getElem (by omega)
 have hxm := hX _ (List.getElem_mem (show i < X.length by omega))
 have hat : atM X i = X[i]'(by omega) := by rw [atM, Int.toNat_natCast, List.getD_eq_getElem?_getD, hge]; rfl
 have htk : (distL X).take (i + 1) = (distL X).take i ++ [distF X i] := by
  rw [List.take_succ_eq_append_getElem (by omega)]; simp [distL]
 rw [distF, hat] at htk
 generalize X[i]'(by omega) = x at hge hxm htk
 have hxg : (X.map Mach.cells)[i]? = some x.cells := by rw [List.getElem?_map, hge]; rfl
 have hit : (i : Int).toNat = i := Int.toNat_natCast i
 have hle := fstM_le (fun y => eqM y x) (X.take i)
 have hti : (X.take i).length = i := by rw [List.length_take]; omega
 rw [hti] at hle
 have q2 := indexM_is fs.isEmpty (X.take i) .unk 53 [.ia x.cells] (by simp [AV.norefs, AV.noref]) (fun y => eqM y x) (fun y hy => dist53_is y x (valid_sm (hX y (List.mem_of_mem_take hy)).1) (valid_sm hxm.1)) (by omega)
 rw [findIdxM_fst, hti, List.map_take, Int.zero_add] at q2
 obtain ⟨d, hd⟩ : ∃ d, d = fstM (fun y => eqM y x) (X.take i) := ⟨_, rfl⟩
 rw [← hd] at q2 htk hle
 have hxc : x.cells = [.sc (.int .i64 x.ins), .sc (.int .i64 x.outs), .sl x.nl (x.rows.map rowC) .unk] := rfl
 rw [hxc] at hxg q2
 refine EvC.skip ?_
 refine EvC.seq ?_
 refine EvC.block ?_
 refine EvC.a ?_ (by simp only [go_sem, hxg, hit, List.length_map, hXl] <;> rfl)
 refine EvC.z 5 ?_
 have hlm : (X.map Mach.cells).length = N := by rw [List.length_map, hXl]
 have hm3 : ∀ y ∈ X, (Mach.cells y).length = 3 := fun _ _ => rfl
 refine EvC.k1 ?_ (h1 := by simp only [go_sem, hit, hlm] <;> rfl) (k1 := by simp; exact ⟨hm3, by omega⟩) (c1 := .ca q2) (h2 := by simp only [go_sem, hXn] <;> rfl)
 have hs : ((distL X).take i).map intC ++ [[.sc (.int .i64 d)]] = ((distL X).take (i + 1)).map intC := by rw [htk, List.map_append]; rfl
 have hLn2 := norefs_intC ((distL X).take (i + 1))
 have hr2 : room (i + 1) 8 = true := by simp only [room_eq, decide_eq_true_eq]; omega
 have hLl2 : (((distL X).take (i + 1)).map intC).length = i + 1 := by rw [List.length_map, List.length_take]; omega
 have hne : (i + 1 == 0) = false := rfl
 obtain ⟨L2, hL2⟩ : ∃ L, L = ((distL X).take (i + 1)).map intC := ⟨_, rfl⟩
 rw [← hL2] at hs hLn2 hLl2
 refine EvC.seq ?_
 by_cases hdi : d < i
 ·rw [if_pos hdi]
  refine EvC.a ?_
  refine EvC.cs ?_ (by simp only [go_sem, decide_eq_false (show ¬ (d : Int) < 0 by omega)] <;> rfl)
  refine EvC.b ?_ (by simp only [go_sem, hs, hLl] <;> rfl) (by simp [hr2])
  refine EvC.b ?_ (hok := by exact inI64_of (by omega) (by omega))
  exact ⟨[(0, 0)], i + 1, rfl, (by rw [← hL2]; simp only [go_sem, hLn2, hLl2, hne, Int.natCast_add, Int.natCast_one] <;> rfl), hil, by omega⟩
 ·obtain rfl : d = i := by omega
  rw [if_neg hdi]
  refine EvC.a ?_
  refine EvC.ct ?_
  refine EvC.b ?_
  refine EvC.b ?_ (by simp only [go_sem, hs, hLl] <;> rfl) (by simp [hr2])
  refine EvC.b ?_ (hok := by exact inI64_of (by omega) (by omega))
  exact ⟨[(0, 0)], d + 1, rfl, (by rw [← hL2]; simp only [go_sem, hLn2, hLl2, hne, Int.natCast_add, Int.natCast_one] <;> rfl), hil, by omega⟩
def idxI (x : Int) : List Int → Int → Int
 | [], _ => -1
 | e :: es, i => if x = e then i else idxI x es (i + 1)
theorem idxI_any (x : Int) : ∀ (es : List Int) (i : Int), 0 ≤ i → decide (0 ≤ idxI x es i) = es.contains x
 | [], i, _ => by simp [idxI]
 | e :: es, i, h => by
   unfold idxI
   split
   ·rename_i hp; simp [hp, h]
   ·rename_i hp
    rw [idxI_any x es (i + 1) (by omega)]
    simp [hp]
theorem indexI_is (nl : Bool) (xs : List Int) (c : Cp) (x : Int) (hl : xs.length < 1000000) :
  PureIs prog 127 [.sl nl (xs.map intC) c, .sc (.int .i64 x)] (.sc (.int .i64 (idxI x xs 0))) := by
 refine PureIs.of1 2 [4, 5, 7, 8, 9, 16] func127 ntmps127 results127 fun _ => ?_
 refine EvC.a ?_
 refine EvC.seq ?_
 refine EvC.a ?_ (by simp only [go_sem, List.length_map] <;> rfl)
 refine EvC.block ?_
 refine EvC.loopS (σ := Nat) (fun i => ⟨[(0, .sl nl (xs.map intC) c), (1, .sc (.int .i64 x)), (7, .sc (.int .i64 xs.length)), (8, .sc (.int .i64 i))], [], [], 0⟩) (fun i => xs.length - i) (fun i => i ≤ xs.length ∧ idxI x xs 0 = idxI x (xs.drop i) i) [0, 1, 7, 8] 0 ?_ ?_
 ·refine ⟨[], 0, rfl, (by simp only [go_sem, Int.natCast_zero] <;> rfl), Nat.zero_le _, by simp⟩
 rintro i ⟨h1, h2⟩
 refine EvC.a ?_
 refine EvC.seq ?_
 refine EvC.cond (by simp only [go_sem] <;> rfl) (fun hc => ?_) (fun hc => ?_)
 rotate_left
 ·refine EvC.exit ?_
  have hi : ¬ i < xs.length := by simpa using hc
  refine EvC.a ?_
  refine EvC.rz ?_
  simp only [go_sem]
  rw [h2, List.drop_of_length_le (by omega)]; rfl
 have hi : i < xs.length := by simpa using hc
 clear hc
 have he : xs[i]? = some xs[i] := List.getElem?_eq_getElem hi
 have hd : xs.drop i = xs[i] :: xs.drop (i + 1) := List.drop_eq_getElem_cons hi
 generalize xs[i] = e at he hd
 have hg : (xs.map intC)[i]? = some [.sc (.int .i64 e)] := by rw [List.getElem?_map, he]; rfl
 have hit : (i : Int).toNat = i := Int.toNat_natCast i
 rw [hd, idxI] at h2
 refine EvC.skip ?_
 refine EvC.seq ?_
 refine EvC.block ?_
 refine EvC.a ?_
 refine EvC.a ?_ (by simp only [go_sem, hg, hit, List.length_map] <;> rfl) (by simp; try omega)
 by_cases hxe : x = e
 ·rw [if_pos hxe] at h2
  refine EvC.ct ?_ (by simp only [go_sem, decide_eq_true hxe] <;> rfl)
  rw [h2]
  refine EvC.a ?_
  refine EvC.rz ?_
  simp only [go_sem]
 ·rw [if_neg hxe] at h2
  refine EvC.cs ?_ (by simp only [go_sem, decide_eq_false hxe] <;> rfl)
  refine EvC.b ?_ (hok := by exact inI64_of (by omega) (by omega))
  exact ⟨[], i + 1, rfl, (by simp only [go_sem, Int.natCast_add, Int.natCast_one] <;> rfl), ⟨by omega, h2⟩, by omega⟩
theorem containsI_is (nl : Bool) (xs : List Int) (c : Cp) (x : Int) (hl : xs.length < 1000000) :
  PureIs prog 115 [.sl nl (xs.map intC) c, .sc (.int .i64 x)] (.sc (.bool (xs.contains x))) := by
 refine PureIs.of1 2 [4] func115 ntmps115 results115 fun _ => ?_
 refine EvC.a ?_
 refine EvC.k1 ?_ (c1 := .ca (indexI_is nl xs c x hl))
 refine EvC.rz ?_
 simp only [go_sem]
 rw [idxI_any x xs 0 (Int.le_refl _)]
theorem has93_is (nl : Bool) (xs : List Int) (c : Cp) (x : Int) (hl : xs.length < 1000000) :
  PureIs prog 93 [.ag [.sl nl (xs.map intC) c], .sc (.int .i64 x)] (.sc (.bool (xs.contains x))) := by
 refine PureIs.of1 3 [4] func93 ntmps93 results93 fun _ => ?_
 refine EvC.a ?_
 refine EvC.z 0 ?_
 refine EvC.k1 ?_ (c1 := .ca (containsI_is nl xs c x hl))
 refine EvC.rz ?_
 simp only [go_sem]
theorem within92_is (nl : Bool) (xs : List Int) (c : Cp) (x : Int) (hl : xs.length < 1000000) :
  PureIs prog 92 [.sc (.int .i64 x), .ia [.sl nl (xs.map intC) c]] (.sc (.bool (!xs.contains x))) := by
 refine PureIs.of1 2 [3] func92 ntmps92 results92 fun _ => ?_
 refine EvC.a ?_
 refine EvC.k1 ?_ (c1 := .ca (has93_is nl xs c x hl))
 refine EvC.rz ?_
 simp only [go_sem]
def subB (a b : List Int) : Bool := !(a.any fun x => !b.contains x)
theorem within63_is (na : Bool) (a : List Int) (ca : Cp) (nb : Bool) (b : List Int) (cb : Cp) (ha : a.length < 1000000) (hb : b.length < 1000000) :
  PureIs prog 63 [.ag [.sl na (a.map intC) ca], .ag [.sl nb (b.map intC) cb]] (.sc (.bool (subB a b))) := by
 have hbn := norefs_intC b
 have q := containsInt_is na a ca 92 [.ia [.sl nb (b.map intC) cb]] (by simp [AV.norefs, AV.noref]) (fun x => !b.contains x) (fun x _ => within92_is nb b cb x hb) ha
 refine PureIs.of1 5 [] func63 ntmps63 results63 fun _ => ?_
 refine EvC.a ?_
 refine EvC.z 0 ?_
 refine EvC.z 1 ?_
 refine EvC.k1 ?_ (c1 := .ca q)
 refine EvC.rz ?_
 simp only [go_sem]
 rfl
def killL (m t : Mach) : List RW → Nat → List Int
 | [], _ => []
 | w :: ws, i => if runR m 0 w.2.1 = runR t 0 w.2.1 then killL m t ws (i + 1) else (i : Int) :: killL m t ws (i + 1)
theorem killL_len (m t : Mach) : ∀ (ws : List RW) (i : Nat), (killL m t ws i).length ≤ ws.length
 | [], _ => Nat.le_refl _
 | w :: ws, i => by
   have := killL_len m t ws (i + 1)
   rw [killL]
   split <;> simp only [List.length_cons] <;> omega
def killersA (m : Mach) (W : List RW) (f : FA) : AV :=
 if checkF m f ≠ 0 then .tu [.ag [.sl true [] .zer], .sc (.int .i64 (checkF m f))]
 else .tu [.ag [.sl (killL m (mutF m f) W 0).isEmpty ((killL m (mutF m f) W 0).map intC) .unk], .sc (.int .i64 0)]
structure WordsOk (m : Mach) (W : List RW) : Prop where
 e : ∀ w ∈ W, wordErr m.ins w.2.1 = 0
 l : ∀ w ∈ W, w.2.1.length < 1000000
 n : W.length < 1000000
set_option maxHeartbeats 4000000 in
theorem killers_is {m : Mach} (hv : Valid m) (hnn : NoNil m) (wn : Bool) (W : List RW) (wc : Cp) (hW : WordsOk m W) (f : FA) :
  PureIs prog 62 [.ag m.cells, .sl wn (W.map rwC) wc, .ag f.cells] (killersA m W f) := by
 have q := apply71_is hv (checkM_of hv) hnn f
 unfold applyR at q
 unfold killersA
 have hWn := norefs_rw W
 have hfc : f.cells = [.sc (.int .i64 f.kind), .sc (.int .i64 f.state), .sc (.int .i64 f.input), .sc (.int .i64 f.to), .sc (.int .i64 f.at'), .sc (.int .i64 f.out)] := rfl
 rw [hfc] at q ⊢
 refine PureIs.of1 4 [5, 6, 7, 8, 9, 10, 11, 13, 22, 25, 26, 27, 28, 47] func62 ntmps62 results62 fun _ => ?_
 refine EvC.a ?_ (by simp only [go_sem, Mach.cells] <;> rfl)
 refine EvC.z 0 ?_
 refine EvC.z 1 ?_
 by_cases h0 : checkF m f = 0
 rotate_left
 ·rw [if_neg h0] at q
  rw [if_pos h0]
  refine EvC.k1 ?_ (h1 := by simp only [go_sem, Mach.cells] <;> rfl) (c1 := .ca q)
  refine EvC.seq ?_
  refine EvC.a ?_
  refine EvC.ct ?_ (by simp only [go_sem, decide_eq_false h0] <;> rfl)
  refine EvC.a ?_
  refine EvC.rz ?_
  simp only [go_sem]
 rw [if_pos h0] at q
 rw [if_neg (show ¬ checkF m f ≠ 0 from fun h => h h0)]
 have hvt := mutF_valid hv h0
 have hti : (mutF m f).ins = m.ins := rfl
 obtain ⟨t, ht⟩ : ∃ t, t = mutF m f := ⟨_, rfl⟩
 rw [← ht] at q hvt hti ⊢
 have htc : t.cells = [.sc (.int .i64 t.ins), .sc (.int .i64 t.outs), .sl t.nl (t.rows.map rowC) .unk] := rfl
 rw [htc] at q
 refine EvC.k1 ?_ (h1 := by simp only [go_sem, Mach.cells] <;> rfl) (c1 := .ca q)
 refine EvC.z 10 ?_
 refine EvC.seq ?_
 refine EvC.a ?_
 refine EvC.cs ?_
 refine EvC.seq ?_
 refine EvC.a ?_ (by simp only [go_sem, List.length_map] <;> rfl)
 refine EvC.block ?_
 refine EvC.gcTo ⟨[(3, .ia m.cells), (6, .rf 0 0), (8, .ia t.cells), (25, .sl wn (W.map rwC) wc), (26, .sc (.int .i64 W.length)), (27, .sc (.int .i64 0))], [], [(0, .cells [.sl true [] .zer])], 1⟩ [3, 6, 8, 25, 26, 27] [(2, 0)] rfl (by simp only [go_sem, Mach.cells] <;> rfl) ?_
 refine EvC.ownC 0 0 1 (by simp only [go_sem] <;> rfl) ?_
 have hWe := hW.e
 have hWl := hW.l
 have hWn2 := hW.n
 refine EvC.loopS (σ := Nat × List Int) (fun g => ⟨[(3, .ia m.cells), (6, .rf 0 0), (8, .ia t.cells), (25, .sl wn (W.map rwC) wc), (26, .sc (.int .i64 W.length)), (27, .sc (.int .i64 g.1))], [], [(0, .cells [.tl 1 g.2.length g.2.isEmpty]), (1, .arr 1 (g.2.map intC) true)], 2⟩) (fun g => W.length - g.1) (fun g => g.1 ≤ W.length ∧ killL m t W 0 = g.2 ++ killL m t (W.drop g.1) g.1 ∧ g.2.length ≤ g.1) [3, 6, 8, 25, 26, 27] 2 ?_ ?_
 ·exact ⟨[(0, 0), (1, 1)], (0, []), rfl, (by simp only [go_sem, Int.natCast_zero, List.map_nil, List.length_nil, List.isEmpty_nil, Mach.cells] <;> rfl), Nat.zero_le _, rfl, Nat.le_refl _⟩
 rintro ⟨i, L⟩ ⟨i1, i2, i3⟩
 simp only at i1 i2 i3 ⊢
 have hLn := norefs_intC L
 have hLl : (L.map intC).length = L.length := List.length_map _
 refine EvC.a ?_
 refine EvC.seq ?_
 refine EvC.cond (by simp only [go_sem] <;> rfl) (fun hc => ?_) (fun hc => ?_)
 rotate_left
 ·refine EvC.exit ?_
  obtain rfl : i = W.length := by have : ¬ i < W.length := (by simpa using hc); omega
  clear hc
  rw [List.drop_length, killL, List.append_nil] at i2
  rw [i2]
  generalize L.map intC = L1 at hLn hLl ⊢
  refine EvC.frzD 1 (by simp only [go_sem, hLn, hLl] <;> rfl) ?_
  refine EvC.a ?_
  refine EvC.rz ?_
  simp only [go_sem]
 have hil : i < W.length := by simpa using hc
 clear hc
 have hge := List.getElem?_eq_getElem hil
 have hwm := List.getElem_mem hil
 have hdr : W.drop i = W[i] :: W.drop (i + 1) := List.drop_eq_getElem_cons hil
 generalize W[i] = w at hge hwm hdr
 have hwg : (W.map rwC)[i]? = some [.sl w.1 (w.2.1.map intC) w.2.2] := by rw [List.getElem?_map, hge]; rfl
 have hit : (i : Int).toNat = i := Int.toNat_natCast i
 rw [hdr, killL] at i2
 have hmr := hv.rows
 have htr := hvt.rows
 have q1 := run52_is hv 0 (by omega) w.1 w.2.1 w.2.2 (hWe w hwm) (hWl w hwm)
 have q2 := run52_is hvt 0 (by omega) w.1 w.2.1 w.2.2 (by rw [hti]; exact hWe w hwm) (hWl w hwm)
 have hr1 : (runR m 0 w.2.1).length < 1000000 := by rw [runR_len]; exact hWl w hwm
 have q3 := equal53_is false false (runR m 0 w.2.1) (runR t 0 w.2.1) .unk .unk hr1
 rw [show m.cells = [.sc (.int .i64 m.ins), .sc (.int .i64 m.outs), .sl m.nl (m.rows.map rowC) .unk] from rfl] at q1
 rw [htc] at q2
 refine EvC.skip ?_
 refine EvC.seq ?_
 refine EvC.block ?_
 refine EvC.a ?_ (by simp only [go_sem, hwg, hit, List.length_map] <;> rfl) (by simp; try omega)
 refine EvC.k1 ?_ (h1 := by simp only [go_sem, Mach.cells] <;> rfl) (c1 := .ca q1)
 refine EvC.k1 ?_ (h1 := by simp only [go_sem, Mach.cells] <;> rfl) (c1 := .ca q2)
 refine EvC.k1 ?_ (c1 := .ca q3)
 by_cases he : runR m 0 w.2.1 = runR t 0 w.2.1
 ·rw [if_pos he] at i2
  refine EvC.cs ?_ (by simp only [go_sem, decide_eq_true he] <;> rfl)
  refine EvC.b ?_ (hok := by exact inI64_of (by omega) (by omega))
  exact ⟨[(0, 0), (1, 1)], (i + 1, L), rfl, (by simp only [go_sem, hLn, Mach.cells, Int.natCast_add, Int.natCast_one] <;> rfl), ⟨hil, i2, by simp only; omega⟩, by simp only; omega⟩
 ·rw [if_neg he] at i2
  refine EvC.ct ?_ (by simp only [go_sem, decide_eq_false he] <;> rfl)
  have hs : L.map intC ++ [[.sc (.int .i64 i)]] = (L ++ [(i : Int)]).map intC := by rw [List.map_append]; rfl
  have hl2 : L.length + 1 = (L ++ [(i : Int)]).length := by simp
  have hn2 : (L ++ [(i : Int)]).isEmpty = false := by simp
  have hr2 : room (L.length + 1) 8 = true := by simp only [room_eq, decide_eq_true_eq]; omega
  have hk : killL m t W 0 = (L ++ [(i : Int)]) ++ killL m t (W.drop (i + 1)) (i + 1) := by rw [i2]; simp
  have hLn2 := norefs_intC (L ++ [(i : Int)])
  have hLl2 : ((L ++ [(i : Int)]).map intC).length = (L ++ [(i : Int)]).length := List.length_map _
  have hle : (L ++ [(i : Int)]).length ≤ i + 1 := by simp; omega
  rw [hl2] at hr2
  generalize L ++ [(i : Int)] = L2 at hs hl2 hn2 hr2 hk hLn2 hLl2 hle
  obtain ⟨U, hU⟩ : ∃ U, U = L2.map intC := ⟨_, rfl⟩
  rw [← hU] at hs hLn2 hLl2
  refine EvC.b ?_ (by simp only [go_sem, hs, hl2, hLl] <;> rfl) (by simp [hr2])
  refine EvC.b ?_ (hok := by exact inI64_of (by omega) (by omega))
  exact ⟨[(0, 0), (1, 1)], (i + 1, L2), rfl, (by rw [hn2, ← hU]; simp only [go_sem, hLn2, hLl2, Mach.cells, Int.natCast_add, Int.natCast_one] <;> rfl), ⟨hil, hk, by simp only; omega⟩, by simp only; omega⟩
def sCmp : List Int → List Int → Int
 | [], [] => 0
 | [], _ :: _ => -1
 | _ :: _, [] => 1
 | x :: a, y :: b => if cmpJ x y ≠ 0 then cmpJ x y else sCmp a b
theorem sCmp_eq : ∀ {a b : List Int}, a.length = b.length → sCmp a b = cmpI a b
 | [], [], _ => rfl
 | [], _ :: _, h => by simp at h
 | _ :: _, [], h => by simp at h
 | x :: a, y :: b, h => by
   have ih := sCmp_eq (a := a) (b := b) (by simpa using h)
   rw [sCmp, cmpI, ih]
   unfold cmpJ
   by_cases h1 : x < y
   ·simp [h1]
   ·by_cases h2 : y < x
    ·simp [h1, h2]
    ·simp [h1, h2]
theorem sCompare_is (na : Bool) (a : List Int) (ca : Cp) (nb : Bool) (b : List Int) (cb : Cp) (ha : a.length < 1000000) :
  PureIs prog 131 [.sl na (a.map intC) ca, .sl nb (b.map intC) cb] (.sc (.int .i64 (sCmp a b))) := by
 have hal : (a.map intC).length = a.length := List.length_map _
 have hbl : (b.map intC).length = b.length := List.length_map _
 have hag : ∀ (i : Nat) (x : Int), a[i]? = some x → (a.map intC)[i]? = some [.sc (.int .i64 x)] := fun i x h => by rw [List.getElem?_map, h]; rfl
 have hbg : ∀ (i : Nat) (x : Int), b[i]? = some x → (b.map intC)[i]? = some [.sc (.int .i64 x)] := fun i x h => by rw [List.getElem?_map, h]; rfl
 generalize a.map intC = A at hal hag ⊢
 generalize b.map intC = B at hbl hbg ⊢
 refine PureIs.of1 2 [4, 5, 6, 7, 8, 9, 10, 11, 12, 19, 28, 35] func131 ntmps131 results131 fun _ => ?_
 refine EvC.a ?_
 refine EvC.seq ?_
 refine EvC.a ?_ (by simp only [go_sem, hal] <;> rfl)
 refine EvC.block ?_
 refine EvC.loopS (σ := Nat) (fun i => ⟨[(0, .sl na A ca), (1, .sl nb B cb), (9, .sl na A ca), (10, .sc (.int .i64 a.length)), (11, .sc (.int .i64 i))], [], [], 0⟩) (fun i => a.length - i) (fun i => i ≤ a.length ∧ i ≤ b.length ∧ sCmp a b = sCmp (a.drop i) (b.drop i)) [0, 1, 9, 10, 11] 0 ?_ ?_
 ·exact ⟨[], 0, rfl, (by simp only [go_sem, Int.natCast_zero] <;> rfl), Nat.zero_le _, Nat.zero_le _, rfl⟩
 rintro i ⟨i1, i2, i3⟩
 refine EvC.a ?_
 refine EvC.seq ?_
 by_cases hi : i < a.length
 rotate_left
 ·refine EvC.cf ?_ (by simp only [go_sem, decide_eq_false (show ¬ (i : Int) < a.length by omega)] <;> rfl)
  refine EvC.exit ?_
  rw [List.drop_of_length_le (l := a) (by omega)] at i3
  refine EvC.seq ?_
  refine EvC.a ?_ (by simp only [go_sem, hal, hbl] <;> rfl)
  by_cases hb : b.length = a.length
  ·rw [List.drop_of_length_le (by omega), sCmp] at i3
   refine EvC.cs ?_ (by simp only [go_sem, decide_eq_false (show ¬ (a.length : Int) < b.length by omega)] <;> rfl)
   rw [i3]
   refine EvC.a ?_
   refine EvC.rz ?_
   simp only [go_sem]
  ·rw [List.drop_eq_getElem_cons (show i < b.length by omega), sCmp] at i3
   refine EvC.ct ?_ (by simp only [go_sem, decide_eq_true (show (a.length : Int) < b.length by omega)] <;> rfl)
   rw [i3]
   refine EvC.a ?_
   refine EvC.rz ?_
   simp only [go_sem]
 have hge := List.getElem?_eq_getElem hi
 have hda : a.drop i = a[i] :: a.drop (i + 1) := List.drop_eq_getElem_cons hi
 generalize a[i] = x at hge hda
 rw [hda] at i3
 have hxg := hag i x hge
 have hit : (i : Int).toNat = i := Int.toNat_natCast i
 refine EvC.cr ?_ (by simp only [go_sem, decide_eq_true (show (i : Int) < a.length by omega)] <;> rfl)
 refine EvC.seq ?_
 refine EvC.block ?_
 refine EvC.a ?_ (by simp only [go_sem, hxg, hit, hal] <;> rfl) (by simp; try omega)
 refine EvC.seq ?_
 refine EvC.a ?_ (by simp only [go_sem, hbl] <;> rfl)
 by_cases hb : i < b.length
 rotate_left
 ·rw [List.drop_of_length_le (l := b) (by omega), sCmp] at i3
  refine EvC.ct ?_ (by simp only [go_sem, decide_eq_true (show (b.length : Int) ≤ i by omega)] <;> rfl)
  rw [i3]
  refine EvC.a ?_
  refine EvC.rz ?_
  simp only [go_sem]
 have hgb := List.getElem?_eq_getElem hb
 have hdb : b.drop i = b[i] :: b.drop (i + 1) := List.drop_eq_getElem_cons hb
 generalize b[i] = y at hgb hdb
 rw [hdb, sCmp] at i3
 have hyg := hbg i y hgb
 refine EvC.cs ?_ (by simp only [go_sem, decide_eq_false (show ¬ (b.length : Int) ≤ i by omega)] <;> rfl)
 refine EvC.a ?_ (by simp only [go_sem, hyg, hit, hbl] <;> rfl) (by simp; try omega)
 refine EvC.k1 ?_ (c1 := .ca (compareI_is x y))
 refine EvC.a ?_
 by_cases hc : cmpJ x y = 0
 ·rw [if_neg (fun h => h hc)] at i3
  refine EvC.cs ?_ (by simp only [go_sem, decide_eq_true hc] <;> rfl)
  refine EvC.b ?_ (hok := by exact inI64_of (by omega) (by omega))
  exact ⟨[], i + 1, rfl, (by simp only [go_sem, Int.natCast_add, Int.natCast_one] <;> rfl), ⟨hi, hb, i3⟩, by omega⟩
 ·rw [if_pos hc] at i3
  refine EvC.ct ?_ (by simp only [go_sem, decide_eq_false hc] <;> rfl)
  rw [i3]
  refine EvC.a ?_
  refine EvC.rz ?_
  simp only [go_sem]
theorem wCompare_is (na : Bool) (a : List Int) (ca : Cp) (nb : Bool) (b : List Int) (cb : Cp) (ha : a.length < 1000000) :
  PureIs prog 125 [.sl na (a.map intC) ca, .sl nb (b.map intC) cb] (.sc (.int .i64 (cmpL a b))) := by
 have q := orI_is false [cmpJ a.length b.length, sCmp a b] .full (by simp)
 simp only [List.map_cons, List.map_nil, intC] at q
 have hR : orR [cmpJ a.length b.length, sCmp a b] = cmpL a b := by
  simp only [orR, cmpL, cmpJ]
  by_cases h : a.length = b.length
  ·rw [sCmp_eq h, if_pos h]
   by_cases hz : cmpI a b = 0 <;> simp [h, hz]
  ·by_cases h2 : a.length < b.length
   ·simp [h, h2]
   ·simp [h, h2, show b.length < a.length by omega]
 rw [hR] at q
 refine PureIs.of1 2 [4] func125 ntmps125 results125 fun _ => ?_
 refine EvC.a ?_
 refine EvC.k3 ?_ (h1 := by simp only [go_sem, List.length_map] <;> rfl) (c1 := .ca (compareI_is a.length b.length)) (h2 := by simp only [go_sem, List.length_map] <;> rfl) (c2 := .ca (sCompare_is na a ca nb b cb ha)) (h3 := by simp only [go_sem, List.length_map] <;> rfl) (c3 := .ca q)
 refine EvC.rz ?_
 simp only [go_sem]
def stepsW (W : List RW) : Nat := (W.map fun w => w.2.1.length).sum
def aheadB : List RW → Bool
 | [] => true
 | [_] => true
 | a :: b :: l => decide (cmpL a.2.1 b.2.1 < 0) && aheadB (b :: l)
def errW (n : Int) : List RW → Int
 | [] => 0
 | w :: W => if wordErr n w.2.1 ≠ 0 then wordErr n w.2.1 else errW n W
def looseE (n : Int) (W : List RW) : Int := if 16 < n ∨ 4096 < (W.length : Int) then 3 else if n < 1 then 1 else errW n W
def triesE (n : Int) (W : List RW) : Int := if looseE n W ≠ 0 then looseE n W else if aheadB W = false then 1 else if 65536 < (stepsW W : Int) then 3 else 0
def readyE (m : Mach) (W : List RW) : Int := if checkM m ≠ 0 then checkM m else triesE m.ins W
theorem rw_get {W : List RW} {i : Nat} {w : RW} (h : W[i]? = some w) : (W.map rwC)[i]? = some [.sl w.1 (w.2.1.map intC) w.2.2] := by rw [List.getElem?_map, h]; rfl
theorem loose_is (wn : Bool) (W : List RW) (wc : Cp) (n : Int) (hW : ∀ w ∈ W, w.2.1.length < 1000000) (hWl : W.length < 1000000) :
  PureIs prog 108 [.sl wn (W.map rwC) wc, .sc (.int .i64 n)] (.sc (.int .i64 (looseE n W))) := by
 have hWn := norefs_rw W
 have hl : (W.map rwC).length = W.length := List.length_map _
 refine PureIs.of1 2 [4, 6, 7, 14, 16, 17, 18, 19, 20, 27] func108 ntmps108 results108 fun _ => ?_
 refine EvC.a ?_
 refine EvC.seq ?_
 by_cases c1 : 16 < n
 ·rw [show looseE n W = 3 by unfold looseE; rw [if_pos (.inl c1)]]
  refine EvC.g ?_ (h := by simp only [go_sem, decide_eq_true c1, hl] <;> rfl)
  refine EvC.ct ?_
  refine EvC.a ?_
  refine EvC.rz ?_
  simp only [go_sem]
 by_cases c2 : 4096 < (W.length : Int)
 ·rw [show looseE n W = 3 by unfold looseE; rw [if_pos (.inr c2)]]
  refine EvC.g ?_ (h := by simp only [go_sem, decide_eq_false c1, decide_eq_true c2, hl] <;> rfl)
  refine EvC.ct ?_
  refine EvC.a ?_
  refine EvC.rz ?_
  simp only [go_sem]
 refine EvC.g ?_ (h := by simp only [go_sem, decide_eq_false c1, decide_eq_false c2, hl] <;> rfl)
 refine EvC.cs ?_
 refine EvC.seq ?_
 refine EvC.a ?_
 by_cases c3 : n < 1
 ·rw [show looseE n W = 1 by unfold looseE; rw [if_neg (fun h => h.elim c1 c2), if_pos c3]]
  refine EvC.ct ?_ (by simp only [go_sem, decide_eq_true c3] <;> rfl)
  refine EvC.a ?_
  refine EvC.rz ?_
  simp only [go_sem]
 rw [show looseE n W = errW n W by unfold looseE; rw [if_neg (fun h => h.elim c1 c2), if_neg c3]]
 refine EvC.cs ?_ (by simp only [go_sem, decide_eq_false c3] <;> rfl)
 refine EvC.seq ?_
 refine EvC.a ?_ (by simp only [go_sem, hl] <;> rfl)
 refine EvC.block ?_
 refine EvC.loopS (σ := Nat) (fun i => ⟨[(1, .sc (.int .i64 n)), (17, .sl wn (W.map rwC) wc), (18, .sc (.int .i64 W.length)), (19, .sc (.int .i64 i))], [], [], 0⟩) (fun i => W.length - i) (fun i => i ≤ W.length ∧ errW n W = errW n (W.drop i)) [1, 17, 18, 19] 0 ?_ ?_
 ·exact ⟨[], 0, rfl, (by simp only [go_sem, Int.natCast_zero] <;> rfl), Nat.zero_le _, rfl⟩
 rintro i ⟨i1, i2⟩
 refine EvC.a ?_
 refine EvC.seq ?_
 refine EvC.cond (by simp only [go_sem] <;> rfl) (fun hc => ?_) (fun hc => ?_)
 rotate_left
 ·refine EvC.exit ?_
  have hi : ¬ i < W.length := by simpa using hc
  rw [List.drop_of_length_le (by omega), errW] at i2
  rw [i2]
  refine EvC.a ?_
  refine EvC.rz ?_
  simp only [go_sem]
 have hil : i < W.length := by simpa using hc
 clear hc
 have hge := List.getElem?_eq_getElem hil
 have hwm := List.getElem_mem hil
 have hdr : W.drop i = W[i] :: W.drop (i + 1) := List.drop_eq_getElem_cons hil
 generalize W[i] = w at hge hwm hdr
 have hwg := rw_get hge
 have hit : (i : Int).toNat = i := Int.toNat_natCast i
 rw [hdr, errW] at i2
 refine EvC.skip ?_
 refine EvC.seq ?_
 refine EvC.block ?_
 refine EvC.a ?_ (by simp only [go_sem, hwg, hit, hl] <;> rfl) (by simp; try omega)
 refine EvC.k1 ?_ (c1 := .ca (wordCheck_is w.1 w.2.1 w.2.2 n (hW w hwm)))
 refine EvC.a ?_
 by_cases he : wordErr n w.2.1 = 0
 ·rw [if_neg (fun h => h he)] at i2
  refine EvC.cs ?_ (by simp only [go_sem, decide_eq_true he] <;> rfl)
  refine EvC.b ?_ (hok := by exact inI64_of (by omega) (by omega))
  exact ⟨[], i + 1, rfl, (by simp only [go_sem, Int.natCast_add, Int.natCast_one] <;> rfl), ⟨hil, i2⟩, by omega⟩
 ·rw [if_pos he] at i2
  refine EvC.ct ?_ (by simp only [go_sem, decide_eq_false he] <;> rfl)
  rw [i2]
  refine EvC.a ?_
  refine EvC.rz ?_
  simp only [go_sem]
theorem aheadB_drop {W : List RW} {i : Nat} (h : i + 1 < W.length) : aheadB (W.drop i) = (decide (cmpL (W[i]'(by omega)).2.1 (W[i + 1]).2.1 < 0) && aheadB (W.drop (i + 1))) := by
 rw [List.drop_eq_getElem_cons (show i < W.length by omega), List.drop_eq_getElem_cons h, aheadB]
theorem ahead_is (wn : Bool) (W : List RW) (wc : Cp) (hW : ∀ w ∈ W, w.2.1.length < 1000000) (hWl : W.length < 1000000) :
  PureIs prog 109 [.sl wn (W.map rwC) wc] (.sc (.bool (aheadB W))) := by
 have hWn := norefs_rw W
 have hl : (W.map rwC).length = W.length := List.length_map _
 refine PureIs.of1 1 [2, 3, 7, 20] func109 ntmps109 results109 fun _ => ?_
 refine EvC.a ?_
 refine EvC.seq ?_
 refine EvC.a ?_
 refine EvC.block ?_
 refine EvC.loopS (σ := Nat) (fun i => ⟨[(0, .sl wn (W.map rwC) wc), (3, .sc (.int .i64 ((i + 1 : Nat) : Int)))], [], [], 0⟩) (fun i => W.length - i) (fun i => (i < W.length ∨ i = 0) ∧ aheadB W = aheadB (W.drop i)) [0, 3] 0 ?_ ?_
 ·exact ⟨[], 0, rfl, (by simp only [go_sem, show ((0 + 1 : Nat) : Int) = 1 from rfl] <;> rfl), .inr rfl, rfl⟩
 rintro i ⟨i1, i2⟩
 obtain ⟨iZ, hiZ⟩ : ∃ z : Int, z = ((i + 1 : Nat) : Int) := ⟨_, rfl⟩
 rw [← hiZ]
 refine EvC.seq ?_
 refine EvC.a ?_ (by simp only [go_sem, hl] <;> rfl)
 by_cases hil : i + 1 < W.length
 rotate_left
 ·refine EvC.cf ?_ (by simp only [go_sem, decide_eq_false (show ¬ iZ < (W.length : Int) by omega)] <;> rfl)
  refine EvC.exit ?_
  have : aheadB (W.drop i) = true := by
   have hd : (W.drop i).length ≤ 1 := by rw [List.length_drop]; omega
   match W.drop i, hd with
   | [], _ => rfl
   | [_], _ => rfl
  rw [i2, this]
  refine EvC.a ?_
  refine EvC.rz ?_
  simp only [go_sem]
 rw [aheadB_drop hil] at i2
 have hga := List.getElem?_eq_getElem (show i < W.length by omega)
 have hgb := List.getElem?_eq_getElem hil
 have ham := hW _ (List.getElem_mem (show i < W.length by omega))
 generalize W[i]'(by omega) = a at hga i2 ham
 generalize W[i + 1] = b at hgb i2
 have hag := rw_get hga
 have hbg := rw_get hgb
 have h1 : (iZ - 1).toNat = i := by omega
 have h2 : iZ.toNat = i + 1 := by omega
 have hI : inI64 (iZ - 1) = true := inI64_of (by omega) (by omega)
 have hb : 1 ≤ iZ ∧ i < W.length ∧ 0 ≤ iZ := by omega
 have q := wCompare_is a.1 a.2.1 a.2.2 b.1 b.2.1 b.2.2 ham
 refine EvC.cr ?_ (by simp only [go_sem, decide_eq_true (show iZ < (W.length : Int) by omega)] <;> rfl)
 refine EvC.seq ?_
 refine EvC.block ?_
 refine EvC.k1D mixed ?_ (h1 := by simp only [go_sem, hag, hbg, h1, h2, hl] <;> rfl) (k1 := by simp [hI, hb, hil]; try omega) (c1 := .ca q) (h2 := by simp only [go_sem, hWn] <;> rfl)
 by_cases hc : cmpL a.2.1 b.2.1 < 0
 ·rw [decide_eq_true hc, Bool.true_and] at i2
  refine EvC.cs ?_ (by simp only [go_sem, decide_eq_false (show ¬ 0 ≤ cmpL a.2.1 b.2.1 by omega)] <;> rfl)
  refine EvC.b ?_ (hok := by exact inI64_of (by omega) (by omega))
  exact ⟨[], i + 1, rfl, (by rw [show ((i + 1 + 1 : Nat) : Int) = iZ + 1 by omega]; simp only [go_sem] <;> rfl), ⟨.inl hil, i2⟩, by omega⟩
 ·rw [decide_eq_false hc, Bool.false_and] at i2
  refine EvC.ct ?_ (by simp only [go_sem, decide_eq_true (show 0 ≤ cmpL a.2.1 b.2.1 by omega)] <;> rfl)
  rw [i2]
  refine EvC.a ?_
  refine EvC.rz ?_
  simp only [go_sem]
theorem steps_is (wn : Bool) (W : List RW) (wc : Cp) (hW : ∀ w ∈ W, w.2.1.length < 1000000) (hWl : W.length < 1000000) :
  PureIs prog 110 [.sl wn (W.map rwC) wc] (.sc (.int .i64 (stepsW W))) := by
 have hl : (W.map rwC).length = W.length := List.length_map _
 refine PureIs.of1 1 [2, 4, 5, 6, 7, 8] func110 ntmps110 results110 fun _ => ?_
 refine EvC.a ?_
 refine EvC.seq ?_
 refine EvC.a ?_ (by simp only [go_sem, hl] <;> rfl)
 refine EvC.block ?_
 refine EvC.loopS (σ := Nat × Nat) (fun g => ⟨[(2, .sc (.int .i64 g.2)), (5, .sl wn (W.map rwC) wc), (6, .sc (.int .i64 W.length)), (7, .sc (.int .i64 g.1))], [], [], 0⟩) (fun g => W.length - g.1) (fun g => g.1 ≤ W.length ∧ stepsW W = g.2 + stepsW (W.drop g.1) ∧ g.2 ≤ g.1 * 1000000) [2, 5, 6, 7] 0 ?_ ?_
 ·exact ⟨[], (0, 0), rfl, (by simp only [go_sem, Int.natCast_zero] <;> rfl), Nat.zero_le _, by simp only [Nat.zero_add]; rfl, Nat.le_refl _⟩
 rintro ⟨i, s⟩ ⟨i1, i2, i3⟩
 simp only at i1 i2 i3 ⊢
 refine EvC.a ?_
 refine EvC.seq ?_
 refine EvC.cond (by simp only [go_sem] <;> rfl) (fun hc => ?_) (fun hc => ?_)
 rotate_left
 ·refine EvC.exit ?_
  have hi : ¬ i < W.length := by simpa using hc
  rw [List.drop_of_length_le (by omega), show stepsW [] = 0 from rfl, Nat.add_zero] at i2
  rw [i2]
  refine EvC.a ?_
  refine EvC.rz ?_
  simp only [go_sem]
 have hil : i < W.length := by simpa using hc
 clear hc
 have hge := List.getElem?_eq_getElem hil
 have hwm := hW _ (List.getElem_mem hil)
 have hdr : W.drop i = W[i] :: W.drop (i + 1) := List.drop_eq_getElem_cons hil
 generalize W[i] = w at hge hwm hdr
 have hwg := rw_get hge
 have hit : (i : Int).toNat = i := Int.toNat_natCast i
 have i4 : stepsW W = (s + w.2.1.length) + stepsW (W.drop (i + 1)) := by rw [i2, hdr]; simp only [stepsW, List.map_cons, List.sum_cons]; omega
 have hI : inI64 ((s : Int) + w.2.1.length) = true := inI64_of (by omega) (by omega)
 refine EvC.skip ?_
 refine EvC.seq ?_
 refine EvC.block ?_
 refine EvC.a ?_ (by simp only [go_sem, hwg, hit, hl] <;> rfl) (by simp; try omega)
 refine EvC.b ?_ (by simp only [go_sem, List.length_map] <;> rfl) (by simp [hI])
 refine EvC.b ?_ (hok := by exact inI64_of (by omega) (by omega))
 exact ⟨[], (i + 1, s + w.2.1.length), rfl, (by simp only [go_sem, Int.natCast_add, Int.natCast_one] <;> rfl), ⟨hil, i4, by simp only; omega⟩, by simp only; omega⟩
theorem tries_is (wn : Bool) (W : List RW) (wc : Cp) (n : Int) (hW : ∀ w ∈ W, w.2.1.length < 1000000) (hWl : W.length < 1000000) :
  PureIs prog 88 [.sl wn (W.map rwC) wc, .sc (.int .i64 n)] (.sc (.int .i64 (triesE n W))) := by
 have hWn := norefs_rw W
 refine PureIs.of1 2 [4, 5, 10, 14, 17] func88 ntmps88 results88 fun _ => ?_
 refine EvC.a ?_
 refine EvC.seq ?_
 refine EvC.k1 ?_ (c1 := .ca (loose_is wn W wc n hW hWl)) (h2 := by simp only [go_sem, hWn] <;> rfl)
 refine EvC.a ?_
 by_cases h1 : looseE n W = 0
 rotate_left
 ·rw [show triesE n W = looseE n W by unfold triesE; rw [if_pos h1]]
  refine EvC.ct ?_ (by simp only [go_sem, decide_eq_false h1] <;> rfl)
  refine EvC.a ?_
  refine EvC.rz ?_
  simp only [go_sem]
 refine EvC.cs ?_ (by simp only [go_sem, decide_eq_true h1] <;> rfl)
 refine EvC.seq ?_
 refine EvC.k1 ?_ (c1 := .ca (ahead_is wn W wc hW hWl)) (h2 := by simp only [go_sem, hWn] <;> rfl)
 cases h2 : aheadB W with
 | false =>
   rw [show triesE n W = 1 by unfold triesE; rw [if_neg (fun h => h h1), if_pos h2]]
   refine EvC.ct ?_ (by simp only [go_sem, h2] <;> rfl)
   refine EvC.a ?_
   refine EvC.rz ?_
   simp only [go_sem]
 | true =>
   refine EvC.cs ?_ (by simp only [go_sem, h2] <;> rfl)
   refine EvC.seq ?_
   refine EvC.k1 ?_ (c1 := .ca (steps_is wn W wc hW hWl)) (h2 := by simp only [go_sem, hWn] <;> rfl)
   by_cases h3 : 65536 < (stepsW W : Int)
   ·rw [show triesE n W = 3 by unfold triesE; rw [if_neg (fun h => h h1), if_neg (by rw [h2]; simp), if_pos h3]]
    refine EvC.ct ?_ (by simp only [go_sem, decide_eq_true h3] <;> rfl)
    refine EvC.a ?_
    refine EvC.rz ?_
    simp only [go_sem]
   rw [show triesE n W = 0 by unfold triesE; rw [if_neg (fun h => h h1), if_neg (by rw [h2]; simp), if_neg h3]]
   refine EvC.cs ?_ (by simp only [go_sem, decide_eq_false h3] <;> rfl)
   refine EvC.a ?_
   refine EvC.rz ?_
   simp only [go_sem]
theorem ready60_is (m : Mach) (hm : ∀ r ∈ m.rows, r.2.length < 1000000) (wn : Bool) (W : List RW) (wc : Cp) (hW : ∀ w ∈ W, w.2.1.length < 1000000) (hWl : W.length < 1000000) :
  PureIs prog 60 [.ag m.cells, .sl wn (W.map rwC) wc] (.sc (.int .i64 (readyE m W))) := by
 have hWn := norefs_rw W
 refine PureIs.of1 3 [4, 5, 9] func60 ntmps60 results60 fun _ => ?_
 refine EvC.a ?_ (by simp only [go_sem, Mach.cells] <;> rfl)
 refine EvC.z 0 ?_
 refine EvC.seq ?_
 refine EvC.k1 ?_ (h1 := by simp only [go_sem, Mach.cells] <;> rfl) (c1 := .ca (check_is m hm))
 refine EvC.a ?_
 by_cases h1 : checkM m = 0
 rotate_left
 ·rw [show readyE m W = checkM m by unfold readyE; rw [if_pos h1]]
  refine EvC.ct ?_ (by simp only [go_sem, decide_eq_false h1] <;> rfl)
  refine EvC.a ?_
  refine EvC.rz ?_
  simp only [go_sem]
 rw [show readyE m W = triesE m.ins W by unfold readyE; rw [if_neg (fun h => h h1)]]
 refine EvC.cs ?_ (by simp only [go_sem, decide_eq_true h1] <;> rfl)
 refine EvC.k1 ?_ (c1 := .ca (tries_is wn W wc m.ins hW hWl)) (h2 := by simp only [go_sem, hWn] <;> rfl)
 refine EvC.rz ?_
 simp only [go_sem]
theorem errW_zero {n : Int} : ∀ {W : List RW}, errW n W = 0 → ∀ w ∈ W, wordErr n w.2.1 = 0
 | [], _, _, h => by cases h
 | v :: W, h, w, hw => by
   rw [errW] at h
   split at h
   ·rename_i h1; exact absurd h h1
   ·rename_i h1
    rcases List.mem_cons.1 hw with rfl | hw
    ·exact Classical.not_not.1 h1
    ·exact errW_zero h w hw
theorem readyE_ok {m : Mach} {W : List RW} (h : readyE m W = 0) : checkM m = 0 ∧ W.length ≤ 4096 ∧ ∀ w ∈ W, wordErr m.ins w.2.1 = 0 := by
 unfold readyE at h
 split at h
 ·rename_i h1; exact absurd h h1
 rename_i h1
 unfold triesE at h
 split at h
 ·rename_i h2; exact absurd h h2
 rename_i h2
 have h2 := Classical.not_not.1 h2
 unfold looseE at h2
 split at h2
 ·cases h2
 rename_i h3
 split at h2
 ·cases h2
 exact ⟨Classical.not_not.1 h1, by omega, errW_zero h2⟩
def killW (m : Mach) (W : List RW) (f : FA) : List Int := killL m (mutF m f) W 0
def subE (m : Mach) (W : List RW) (f g : FA) : Int := if readyE m W ≠ 0 then readyE m W else if checkF m f ≠ 0 then checkF m f else checkF m g
def subV (m : Mach) (W : List RW) (f g : FA) : Bool := decide ((0 : Int) < (killW m W f).length) && subB (killW m W f) (killW m W g)
def subsumesA (m : Mach) (W : List RW) (f g : FA) : AV :=
 if subE m W f g ≠ 0 then .tu [.sc (.bool false), .sc (.int .i64 (subE m W f g))] else .tu [.sc (.bool (subV m W f g)), .sc (.int .i64 0)]
set_option maxHeartbeats 4000000 in
theorem subsumes_is (m : Mach) (hm : ∀ r ∈ m.rows, r.2.length < 1000000) (hnn : NoNil m) (wn : Bool) (W : List RW) (wc : Cp) (hW : ∀ w ∈ W, w.2.1.length < 1000000) (hWl : W.length < 1000000) (f g : FA) :
  PureIs prog 38 [.ag m.cells, .sl wn (W.map rwC) wc, .ag f.cells, .ag g.cells] (subsumesA m W f g) := by
 have hWn := norefs_rw W
 have q0 := ready60_is m hm wn W wc hW hWl
 unfold subsumesA
 generalize hE : subE m W f g = E
 have hE := hE.symm
 unfold subE at hE
 have hfc : f.cells = [.sc (.int .i64 f.kind), .sc (.int .i64 f.state), .sc (.int .i64 f.input), .sc (.int .i64 f.to), .sc (.int .i64 f.at'), .sc (.int .i64 f.out)] := rfl
 have hgc : g.cells = [.sc (.int .i64 g.kind), .sc (.int .i64 g.state), .sc (.int .i64 g.input), .sc (.int .i64 g.to), .sc (.int .i64 g.at'), .sc (.int .i64 g.out)] := rfl
 by_cases h0 : readyE m W = 0
 rotate_left
 ·rw [if_pos h0] at hE
  rw [hE, if_pos h0, hfc, hgc]
  refine PureIs.of1 5 [6, 7, 8, 9, 10, 11, 12, 13, 18, 28, 38] func38 ntmps38 results38 fun _ => ?_
  refine EvC.a ?_ (by simp only [go_sem, Mach.cells] <;> rfl)
  refine EvC.z 0 ?_
  refine EvC.z 1 ?_
  refine EvC.z 2 ?_
  refine EvC.seq ?_
  refine EvC.k1 ?_ (h1 := by simp only [go_sem, Mach.cells] <;> rfl) (c1 := .ca q0) (h2 := by simp only [go_sem, hWn] <;> rfl)
  refine EvC.a ?_
  refine EvC.ct ?_ (by simp only [go_sem, decide_eq_false h0] <;> rfl)
  refine EvC.a ?_
  refine EvC.rz ?_
  simp only [go_sem]
 rw [if_neg (fun h => h h0)] at hE
 obtain ⟨hc0, _, hWe⟩ := readyE_ok h0
 have hv := Valid.of hc0
 have q1 := killers_is hv hnn wn W wc ⟨hWe, hW, hWl⟩ f
 have q2 := killers_is hv hnn wn W wc ⟨hWe, hW, hWl⟩ g
 unfold killersA at q1 q2
 have hl1 := killL_len m (mutF m f) W 0
 have hl2 := killL_len m (mutF m g) W 0
 rw [hfc] at q1 ⊢
 rw [hgc] at q2 ⊢
 rw [h0] at q0
 refine PureIs.of1 5 [6, 7, 8, 9, 10, 11, 12, 13, 18, 28, 38] func38 ntmps38 results38 fun _ => ?_
 refine EvC.a ?_ (by simp only [go_sem, Mach.cells] <;> rfl)
 refine EvC.z 0 ?_
 refine EvC.z 1 ?_
 refine EvC.z 2 ?_
 refine EvC.seq ?_
 refine EvC.k1 ?_ (h1 := by simp only [go_sem, Mach.cells] <;> rfl) (c1 := .ca q0) (h2 := by simp only [go_sem, hWn] <;> rfl)
 refine EvC.a ?_
 refine EvC.cs ?_
 by_cases h1 : checkF m f = 0
 rotate_left
 ·rw [if_pos h1] at hE q1
  rw [hE, if_pos h1]
  refine EvC.k1 ?_ (h1 := by simp only [go_sem, Mach.cells] <;> rfl) (c1 := .ca q1) (h2 := by simp only [go_sem, hWn] <;> rfl)
  refine EvC.seq ?_
  refine EvC.a ?_
  refine EvC.ct ?_ (by simp only [go_sem, decide_eq_false h1] <;> rfl)
  refine EvC.a ?_
  refine EvC.rz ?_
  simp only [go_sem]
 rw [if_neg (fun h => h h1)] at hE q1
 obtain ⟨K1, hK1⟩ : ∃ K, K = killL m (mutF m f) W 0 := ⟨_, rfl⟩
 rw [← hK1] at q1 hl1
 have hn1 := norefs_intC K1
 refine EvC.k1 ?_ (h1 := by simp only [go_sem, Mach.cells] <;> rfl) (c1 := .ca q1) (h2 := by simp only [go_sem, hn1] <;> rfl)
 refine EvC.z 18 ?_
 refine EvC.seq ?_
 refine EvC.a ?_
 refine EvC.cs ?_
 by_cases h2 : checkF m g = 0
 rotate_left
 ·rw [if_pos h2] at q2
  rw [hE, if_pos h2]
  refine EvC.k1 ?_ (h1 := by simp only [go_sem, Mach.cells] <;> rfl) (c1 := .ca q2) (h2 := by simp only [go_sem, hWn] <;> rfl)
  refine EvC.seq ?_
  refine EvC.a ?_
  refine EvC.ct ?_ (by simp only [go_sem, decide_eq_false h2] <;> rfl)
  refine EvC.a ?_
  refine EvC.rz ?_
  simp only [go_sem]
 rw [h2] at hE
 rw [if_neg (fun h => h h2)] at q2
 obtain ⟨K2, hK2⟩ : ∃ K, K = killL m (mutF m g) W 0 := ⟨_, rfl⟩
 rw [← hK2] at q2 hl2
 have hn2 := norefs_intC K2
 rw [hE, if_neg (show ¬ (0 : Int) ≠ 0 from fun h => h rfl), subV, killW, killW, ← hK1, ← hK2]
 refine EvC.k1 ?_ (h1 := by simp only [go_sem, Mach.cells] <;> rfl) (c1 := .ca q2) (h2 := by simp only [go_sem, hn2] <;> rfl)
 refine EvC.z 30 ?_
 refine EvC.seq ?_
 refine EvC.a ?_
 refine EvC.cs ?_
 have hkl : (K1.map intC).length = K1.length := List.length_map _
 by_cases hp : (0 : Int) < K1.length
 ·rw [decide_eq_true hp]
  have q3 := within63_is K1.isEmpty K1 .unk K2.isEmpty K2 .unk (by omega) (by omega)
  refine EvC.k1 ?_ (h1 := by simp only [go_sem, hkl, decide_eq_true hp] <;> rfl) (c1 := .cg q3) (h2 := by simp only [go_sem, hkl, decide_eq_true hp, hn1, hn2] <;> rfl)
  refine EvC.rz ?_
  simp only [go_sem]
 ·rw [decide_eq_false hp]
  apply EvC.s1
  ·apply Tr.run
   ·simp only [go_sem, hkl, decide_eq_false hp] <;> rfl
   ·simp
   apply Tr.cons
   ·exact .skipv (.sc (.bool false)) rfl rfl (by simp only [go_sem] <;> rfl) (by simp only [go_sem] <;> rfl)
   apply Tr.done
   ·simp only [go_sem, hkl, decide_eq_false hp, hn1, hn2] <;> rfl
   ·simp
  refine EvC.rz ?_
  simp only [go_sem]
def badB (S : List (List Int)) (i k : Nat) : Bool :=
 !decide (k = i) && (decide ((0 : Int) < (S.getD k []).length) && (subB (S.getD k []) (S.getD i []) && (decide (k < i) || !subB (S.getD i []) (S.getD k []))))
def keepB (S : List (List Int)) (i : Nat) : Bool := !decide ((S.getD i []).length = 0) && !((List.range S.length).any (badB S i))
def leastL (S : List (List Int)) : List Int := ((List.range S.length).filter (keepB S)).map fun i : Nat => (i : Int)
def leastE (m : Mach) (W : List RW) (fs : List FA) : Int := if readyE m W ≠ 0 then readyE m W else mutErr m fs
def leastA (m : Mach) (W : List RW) (fs : List FA) : AV :=
 if leastE m W fs ≠ 0 then .tu [.sl true [] .unk, .sc (.int .i64 (leastE m W fs))] else .tu [.sl (leastL (fs.map (killW m W))).isEmpty ((leastL (fs.map (killW m W))).map intC) .full, .sc (.int .i64 0)]
def setC (S : List Int) : List AV := [.sl S.isEmpty (S.map intC) .unk]
theorem norefs_sets (l : List (List Int)) : (l.map setC).all AV.norefs = true := by simp [List.all_eq_true, setC, AV.norefs, AV.noref]
def leastTo (S : List (List Int)) (i : Nat) : List Int := ((List.range i).filter (keepB S)).map fun i : Nat => (i : Int)
theorem leastTo_succ (S : List (List Int)) (i : Nat) : leastTo S (i + 1) = leastTo S i ++ if keepB S i = true then [(i : Int)] else [] := by
 unfold leastTo
 rw [List.range_succ, List.filter_append, List.map_append]
 congr 1
 by_cases h : keepB S i = true
 ·rw [if_pos h, List.filter_cons_of_pos h]; rfl
 ·rw [if_neg h, List.filter_cons_of_neg h]; rfl
theorem leastTo_len (S : List (List Int)) (i : Nat) : (leastTo S i).length ≤ i := by
 unfold leastTo
 rw [List.length_map]
 have := List.length_filter_le (keepB S) (List.range i)
 rw [List.length_range] at this
 exact this
set_option maxHeartbeats 8000000 in
theorem least_is (m : Mach) (hm : ∀ r ∈ m.rows, r.2.length < 1000000) (hnn : NoNil m) (wn : Bool) (W : List RW) (wc : Cp) (hW : ∀ w ∈ W, w.2.1.length < 1000000) (hWl : W.length < 1000000) (fn : Bool) (fs : List FA) (fc : Cp) (hfl : fs.length < 1000000) :
  PureIs prog 26 [.ag m.cells, .sl wn (W.map rwC) wc, .sl fn (fs.map FA.cells) fc] (leastA m W fs) := by
 have hWn := norefs_rw W
 have q0 := ready60_is m hm wn W wc hW hWl
 have q1 := check61_is m hm fn fs fc hfl
 have hFn := fas_norefs2 fs
 unfold leastA
 generalize hE : leastE m W fs = E
 have hE := hE.symm
 unfold leastE at hE
 refine PureIs.of1 4 [6, 7, 8, 9, 10, 12, 13, 15, 16, 17, 18, 19, 20, 25, 31, 33, 34, 35, 36, 51, 52, 53, 54, 61, 62, 63, 64, 65, 95] func26 ntmps26 results26 fun _ => ?_
 refine EvC.a ?_ (by simp only [go_sem, Mach.cells] <;> rfl)
 refine EvC.z 0 ?_
 refine EvC.scope ?_
 refine EvC.seq ?_
 refine EvC.k1 ?_ (h1 := by simp only [go_sem, Mach.cells] <;> rfl) (c1 := .ca q0) (h2 := by simp only [go_sem, hWn] <;> rfl)
 refine EvC.a ?_
 by_cases h0 : readyE m W = 0
 rotate_left
 ·rw [if_pos h0] at hE
  rw [hE, if_pos h0]
  refine EvC.ct ?_ (by simp only [go_sem, decide_eq_false h0] <;> rfl)
  refine EvC.a ?_
  refine EvC.rz ?_
  simp only [go_sem]
 rw [if_neg (fun h => h h0)] at hE
 refine EvC.cs ?_ (by simp only [go_sem, decide_eq_true h0] <;> rfl)
 refine EvC.seq ?_
 refine EvC.k1 ?_ (h1 := by simp only [go_sem, Mach.cells] <;> rfl) (c1 := .ca q1) (h2 := by simp only [go_sem, hFn] <;> rfl)
 refine EvC.a ?_
 by_cases h1 : mutErr m fs = 0
 rotate_left
 ·rw [hE, if_pos h1]
  refine EvC.ct ?_ (by simp only [go_sem, decide_eq_false h1] <;> rfl)
  refine EvC.a ?_
  refine EvC.rz ?_
  simp only [go_sem]
 rw [h1] at hE
 rw [hE, if_neg (show ¬ (0 : Int) ≠ 0 from fun h => h rfl)]
 refine EvC.cs ?_ (by simp only [go_sem, decide_eq_true h1] <;> rfl)
 obtain ⟨hc0, _, hWe⟩ := readyE_ok h0
 have hv := Valid.of hc0
 obtain ⟨_, hf2, hf3⟩ := mutErr_ok h1
 have hfz := errFs_zero hf3
 have qk := fun f => killers_is hv hnn wn W wc ⟨hWe, hW, hWl⟩ f
 have hkl := fun f => killL_len m (mutF m f) W 0
 refine EvC.a ?_
 refine EvC.seq ?_
 refine EvC.a ?_ (by simp only [go_sem, List.length_map] <;> rfl)
 refine EvC.block ?_
 obtain ⟨N, hN⟩ : ∃ N, N = fs.length := ⟨_, rfl⟩
 obtain ⟨S, hS⟩ : ∃ S, S = fs.map (killW m W) := ⟨_, rfl⟩
 have hSl : S.length = N := by rw [hS, List.length_map, hN]
 have hSb : ∀ s ∈ S, s.length < 1000000 := fun s hs => by
  rw [hS] at hs
  obtain ⟨f, _, rfl⟩ := List.mem_map.1 hs
  have := hkl f
  unfold killW; omega
 rw [← hN] at hf2 ⊢
 rw [← hS]
 refine EvC.loopS (σ := Nat) (fun i => ⟨[(1, .sl wn (W.map rwC) wc), (3, .ia m.cells), (10, .tl 0 i (i == 0)), (33, .sl fn (fs.map FA.cells) fc), (34, .sc (.int .i64 N)), (35, .sc (.int .i64 i))], [], [(0, .arr 1 ((S.take i).map setC) true)], 1⟩) (fun i => N - i) (fun i => i ≤ N) [1, 3, 10, 33, 34, 35] 1 ?_ ?_
 ·exact ⟨[(15, 0)], 0, rfl, (by simp only [go_sem, Int.natCast_zero, List.take_zero, List.map_nil, Mach.cells] <;> rfl), Nat.zero_le _⟩
 intro i hi
 have hLn := norefs_sets (S.take i)
 have hLl : ((S.take i).map setC).length = i := by rw [List.length_map, List.length_take]; omega
 refine EvC.a ?_
 refine EvC.seq ?_
 refine EvC.cond (by simp only [go_sem] <;> rfl) (fun hc => ?_) (fun hc => ?_)
 rotate_left
 ·refine EvC.exit ?_
  obtain rfl : i = N := by have : ¬ i < N := (by simpa using hc); omega
  clear hc
  rw [List.take_of_length_le (by omega)] at hLn hLl ⊢
  have hSg : ∀ (k : Nat), k < i → (S.map setC)[k]? = some [.sl (S.getD k []).isEmpty ((S.getD k []).map intC) .unk] := fun k hk => by
   rw [List.getElem?_map, List.getElem?_eq_getElem (by omega), List.getD_eq_getElem?_getD, List.getElem?_eq_getElem (by omega)]; rfl
  have hSb2 : ∀ k, k < i → (S.getD k []).length < 1000000 := fun k hk => hSb _ (by
   rw [List.getD_eq_getElem?_getD, List.getElem?_eq_getElem (by omega)]; exact List.getElem_mem _)
  generalize S.map setC = SC at hLn hLl hSg ⊢
  refine EvC.frz 0 (by simp only [go_sem, hLn, hLl] <;> rfl) ?_
  refine EvC.a ?_
  refine EvC.a ?_
  refine EvC.seq ?_
  refine EvC.label ?_
  refine EvC.seq ?_
  refine EvC.a ?_ (by simp only [go_sem, hLl] <;> rfl)
  refine EvC.block ?_
  obtain ⟨N, hNi⟩ : ∃ N, N = i := ⟨_, rfl⟩
  rw [← hNi] at hLl hSg hSb2 hf2 hSl ⊢
  clear hi
  refine EvC.loopS (σ := Nat) (fun i => ⟨[(10, .sl (N == 0) SC .unk), (15, .fn 63 []), (16, .tl 0 (leastTo S i).length (leastTo S i).isEmpty), (51, .sl (N == 0) SC .unk), (52, .sc (.int .i64 N)), (53, .sc (.int .i64 i))], [], [(0, .arr 1 ((leastTo S i).map intC) true)], 1⟩) (fun i => N - i) (fun i => i ≤ N) [10, 15, 16, 51, 52, 53] 1 ?_ ?_
  ·exact ⟨[(3, 0)], 0, rfl, (by (simp only [go_sem, Int.natCast_zero, show leastTo S 0 = [] from rfl, List.map_nil, List.length_nil, List.isEmpty_nil]) <;> rfl), Nat.zero_le _⟩
  intro i hi
  have hOn := norefs_intC (leastTo S i)
  have hOl : ((leastTo S i).map intC).length = (leastTo S i).length := List.length_map _
  have hOb := leastTo_len S i
  refine EvC.a ?_
  refine EvC.seq ?_
  refine EvC.cond (by simp only [go_sem] <;> rfl) (fun hc => ?_) (fun hc => ?_)
  rotate_left
  ·refine EvC.exit ?_
   obtain rfl : i = N := by have : ¬ i < N := (by simpa using hc); omega
   clear hc
   have hLe : leastL S = leastTo S i := by rw [leastL, leastTo, hSl]
   rw [hLe]
   have h1 : (((leastTo S i).map intC).all fun y => decide (y.length = 1)) = true := by simp [List.all_eq_true, intC]
   generalize (leastTo S i).map intC = L at hOn hOl h1 ⊢
   refine EvC.frz 0 (by simp only [go_sem, hOn, hOl] <;> rfl) ?_
   refine EvC.k1 ?_ (h1 := by simp only [go_sem, hOl] <;> rfl) (c1 := .ca (clipI_is _ L .unk h1))
   refine EvC.rz ?_
   simp only [go_sem]
  have hil : i < N := by simpa using hc
  clear hc
  have hgi := hSg i hil
  have hbi := hSb2 i hil
  have hit : (i : Int).toNat = i := Int.toNat_natCast i
  have hsu := leastTo_succ S i
  have hOl2 := leastTo_len S (i + 1)
  obtain ⟨Ti, hTi⟩ : ∃ T, T = S.getD i [] := ⟨_, rfl⟩
  rw [← hTi] at hgi hbi
  refine EvC.skip ?_
  refine EvC.seq ?_
  refine EvC.block ?_
  refine EvC.a ?_ (by simp only [go_sem, hgi, hit, hLl] <;> rfl) (by simp; try omega)
  refine EvC.z 5 ?_
  have hTl : (Ti.map intC).length = Ti.length := List.length_map _
  have hTn := norefs_intC Ti
  have hI1 : inI64 ((i : Int) + 1) = true := inI64_of (by omega) (by omega)
  have hno : keepB S i = false → leastTo S (i + 1) = leastTo S i := fun h => by rw [hsu, h]; simp
  refine EvC.seq ?_
  refine EvC.a ?_ (by simp only [go_sem, hTl] <;> rfl)
  by_cases hz : Ti.length = 0
  ·refine EvC.ct ?_ (by simp only [go_sem, decide_eq_true (show (Ti.length : Int) = 0 by omega)] <;> rfl)
   refine EvC.exit ?_
   have hk : keepB S i = false := by unfold keepB; rw [← hTi, decide_eq_true hz]; rfl
   refine EvC.b ?_ (hok := by simp [hI1])
   exact ⟨[(0, 0)], i + 1, rfl, (by rw [hno hk]; simp only [go_sem, hOn, Int.natCast_add, Int.natCast_one] <;> rfl), hil, by omega⟩
  refine EvC.cs ?_ (by simp only [go_sem, decide_eq_false (show ¬ (Ti.length : Int) = 0 by omega)] <;> rfl)
  refine EvC.seq ?_
  refine EvC.a ?_ (by simp only [go_sem, hLl] <;> rfl)
  refine EvC.block ?_
  refine EvC.loopS (σ := Nat) (fun k => ⟨[(10, .sl (N == 0) SC .unk), (15, .fn 63 []), (16, .tl 0 (leastTo S i).length (leastTo S i).isEmpty), (17, .sc (.int .i64 i)), (18, .ia [.sl Ti.isEmpty (Ti.map intC) .unk]), (51, .sl (N == 0) SC .unk), (52, .sc (.int .i64 N)), (53, .sc (.int .i64 i)), (62, .sl (N == 0) SC .unk), (63, .sc (.int .i64 N)), (64, .sc (.int .i64 k))], [], [(0, .arr 1 ((leastTo S i).map intC) true)], 1⟩) (fun k => N - k) (fun k => k ≤ N ∧ ∀ j, j < k → badB S i j = false) [10, 15, 16, 17, 18, 51, 52, 53, 62, 63, 64] 1 ?_ ?_
  ·exact ⟨[(0, 0)], 0, rfl, (by simp only [go_sem, hOn, Int.natCast_zero] <;> rfl), Nat.zero_le _, fun j h => absurd h (Nat.not_lt_zero _)⟩
  rintro k ⟨k1, k2⟩
  refine EvC.a ?_
  refine EvC.seq ?_
  refine EvC.cond (by simp only [go_sem] <;> rfl) (fun hc => ?_) (fun hc => ?_)
  rotate_left
  ·refine EvC.exit ?_
   obtain rfl : k = N := by have : ¬ k < N := (by simpa using hc); omega
   clear hc
   have hk : keepB S i = true := by
    unfold keepB
    rw [← hTi, decide_eq_false hz]
    simp only [Bool.not_false, Bool.true_and, Bool.not_eq_true']
    rw [List.any_eq_false]
    intro j hj
    rw [List.mem_range, hSl] at hj
    rw [k2 j hj]; simp
   rw [hk, if_pos rfl] at hsu
   have hs : (leastTo S i).map intC ++ [[.sc (.int .i64 i)]] = (leastTo S (i + 1)).map intC := by rw [hsu, List.map_append]; rfl
   have hl2 : (leastTo S i).length + 1 = (leastTo S (i + 1)).length := by rw [hsu]; simp
   have hn2 : (leastTo S (i + 1)).isEmpty = false := by rw [hsu]; simp
   have hr2 : room (leastTo S (i + 1)).length 8 = true := by simp only [room_eq, decide_eq_true_eq]; omega
   have hOn2 := norefs_intC (leastTo S (i + 1))
   have hOl3 : ((leastTo S (i + 1)).map intC).length = (leastTo S (i + 1)).length := List.length_map _
   obtain ⟨U, hU⟩ : ∃ U, U = (leastTo S (i + 1)).map intC := ⟨_, rfl⟩
   rw [← hU] at hs hOn2 hOl3
   refine EvC.b ?_ (by simp only [go_sem, hs, hl2, hOl] <;> rfl) (by simp [hr2])
   refine EvC.b ?_ (hok := by simp [hI1])
   exact ⟨[(0, 0)], i + 1, rfl, (by rw [hn2, ← hU]; simp only [go_sem, hOn2, hOl3, Int.natCast_add, Int.natCast_one] <;> rfl), hil, by omega⟩
  have hkl2 : k < N := by simpa using hc
  clear hc
  have hgk := hSg k hkl2
  have hbk := hSb2 k hkl2
  have hkt : (k : Int).toNat = k := Int.toNat_natCast k
  have hI2 : inI64 ((k : Int) + 1) = true := inI64_of (by omega) (by omega)
  obtain ⟨Tk, hTk⟩ : ∃ T, T = S.getD k [] := ⟨_, rfl⟩
  rw [← hTk] at hgk hbk
  have hTkl : (Tk.map intC).length = Tk.length := List.length_map _
  have hTkn := norefs_intC Tk
  have hbad : badB S i k = (!decide (k = i) && (decide ((0 : Int) < Tk.length) && (subB Tk Ti && (decide (k < i) || !subB Ti Tk)))) := by unfold badB; rw [← hTi, ← hTk]
  have hnext : badB S i k = false → ∀ j, j < k + 1 → badB S i j = false := fun h j hj => by
   by_cases e : j = k
   ·rw [e]; exact h
   ·exact k2 j (by omega)
  have hkeep : badB S i k = true → keepB S i = false := fun h => by
   unfold keepB
   have : (List.range S.length).any (badB S i) = true := List.any_eq_true.2 ⟨k, List.mem_range.2 (by omega), h⟩
   rw [this]; simp
  refine EvC.skip ?_
  refine EvC.seq ?_
  refine EvC.block ?_
  refine EvC.a ?_ (by simp only [go_sem, hgk, hkt, hLl] <;> rfl) (by simp; try omega)
  refine EvC.z 5 ?_
  have qa := within63_is Tk.isEmpty Tk .unk Ti.isEmpty Ti .unk hbk hbi
  have qb := within63_is Ti.isEmpty Ti .unk Tk.isEmpty Tk .unk hbi hbk
  by_cases e1 : k = i
  ·have hb : badB S i k = false := by rw [hbad, decide_eq_true e1]; rfl
   have d1 : decide ((k : Int) = i) = true := decide_eq_true (by omega)
   apply EvC.s1
   ·apply Tr.run
    ·simp only [go_sem, d1, hTkl] <;> rfl
    ·simp
    apply Tr.cons
    ·exact .skipv (.sc (.bool false)) rfl rfl (by simp only [go_sem] <;> rfl) (by simp only [go_sem] <;> rfl)
    apply Tr.run
    ·simp only [go_sem, d1, hTkl] <;> rfl
    ·simp
    apply Tr.cons
    ·exact .skipv (.sc (.bool false)) rfl rfl (by simp only [go_sem] <;> rfl) (by simp only [go_sem] <;> rfl)
    apply Tr.done
    ·simp only [go_sem, d1, hTkl] <;> rfl
    ·simp
   refine EvC.cs ?_
   refine EvC.b ?_ (hok := by simp [hI2])
   exact ⟨[(0, 0)], k + 1, rfl, (by simp only [go_sem, hOn, Int.natCast_add, Int.natCast_one] <;> rfl), ⟨hkl2, hnext hb⟩, by omega⟩
  have d1 : decide ((k : Int) = i) = false := decide_eq_false (by omega)
  by_cases e2 : Tk.length = 0
  ·have hb : badB S i k = false := by rw [hbad, decide_eq_false (show ¬ (0 : Int) < Tk.length by omega)]; simp
   have d2 : decide ((0 : Int) < Tk.length) = false := decide_eq_false (by omega)
   apply EvC.s1
   ·apply Tr.run
    ·simp only [go_sem, d1, d2, hTkl] <;> rfl
    ·simp
    apply Tr.cons
    ·exact .skipv (.sc (.bool false)) rfl rfl (by simp only [go_sem] <;> rfl) (by simp only [go_sem] <;> rfl)
    apply Tr.run
    ·simp only [go_sem, d1, d2, hTkl] <;> rfl
    ·simp
    apply Tr.cons
    ·exact .skipv (.sc (.bool false)) rfl rfl (by simp only [go_sem] <;> rfl) (by simp only [go_sem] <;> rfl)
    apply Tr.done
    ·simp only [go_sem, d1, d2, hTkl] <;> rfl
    ·simp
   refine EvC.cs ?_
   refine EvC.b ?_ (hok := by simp [hI2])
   exact ⟨[(0, 0)], k + 1, rfl, (by simp only [go_sem, hOn, Int.natCast_add, Int.natCast_one] <;> rfl), ⟨hkl2, hnext hb⟩, by omega⟩
  have d2 : decide ((0 : Int) < Tk.length) = true := decide_eq_true (by omega)
  rw [decide_eq_false e1, d2] at hbad
  by_cases e3 : subB Tk Ti = true
  rotate_left
  ·have e3' : subB Tk Ti = false := by simpa using e3
   have hb : badB S i k = false := by rw [hbad, e3']; rfl
   rw [e3'] at qa
   apply EvC.s1
   ·apply Tr.run
    ·simp only [go_sem, d1, d2, hTkl] <;> rfl
    ·simp
    apply Tr.cons
    ·exact .cg (qa)
    apply Tr.run
    ·simp only [go_sem, d1, d2, hTkl] <;> rfl
    ·simp
    apply Tr.cons
    ·exact .skipv (.sc (.bool false)) rfl rfl (by simp only [go_sem] <;> rfl) (by simp only [go_sem] <;> rfl)
    apply Tr.done
    ·simp only [go_sem, d1, d2, hTkl, hTkn, hTn] <;> rfl
    ·simp
   refine EvC.cs ?_
   refine EvC.b ?_ (hok := by simp [hI2])
   exact ⟨[(0, 0)], k + 1, rfl, (by simp only [go_sem, hOn, Int.natCast_add, Int.natCast_one] <;> rfl), ⟨hkl2, hnext hb⟩, by omega⟩
  rw [e3] at qa hbad
  by_cases e4 : k < i
  ·have hb : badB S i k = true := by rw [hbad, decide_eq_true e4]; rfl
   have d3 : decide ((k : Int) < i) = true := decide_eq_true (by omega)
   apply EvC.s1
   ·apply Tr.run
    ·simp only [go_sem, d1, d2, d3, hTkl] <;> rfl
    ·simp
    apply Tr.cons
    ·exact .cg (qa)
    apply Tr.run
    ·simp only [go_sem, d1, d2, d3, hTkl] <;> rfl
    ·simp
    apply Tr.cons
    ·exact .skipv (.sc (.bool false)) rfl rfl (by simp only [go_sem] <;> rfl) (by simp only [go_sem] <;> rfl)
    apply Tr.done
    ·simp only [go_sem, d1, d2, d3, hTkl, hTkn, hTn] <;> rfl
    ·simp
   refine EvC.ct ?_
   refine EvC.exit ?_
   refine EvC.b ?_ (hok := by simp [hI1])
   exact ⟨[(0, 0)], i + 1, rfl, (by rw [hno (hkeep hb)]; simp only [go_sem, hOn, Int.natCast_add, Int.natCast_one] <;> rfl), hil, by omega⟩
  have d3 : decide ((k : Int) < i) = false := decide_eq_false (by omega)
  rw [decide_eq_false e4] at hbad
  by_cases e5 : subB Ti Tk = true
  ·have hb : badB S i k = false := by rw [hbad, e5]; rfl
   rw [e5] at qb
   refine EvC.k2 ?_ (h1 := by simp only [go_sem, d1, d2, d3, hTkl] <;> rfl) (c1 := .cg qa) (h2 := by simp only [go_sem, d1, d2, d3, hTkl] <;> rfl) (c2 := .cg qb) (h3 := by simp only [go_sem, d1, d2, d3, hTkl, hTkn, hTn] <;> rfl)
   refine EvC.cs ?_
   refine EvC.b ?_ (hok := by simp [hI2])
   exact ⟨[(0, 0)], k + 1, rfl, (by simp only [go_sem, hOn, Int.natCast_add, Int.natCast_one] <;> rfl), ⟨hkl2, hnext hb⟩, by omega⟩
  have e5' : subB Ti Tk = false := by simpa using e5
  have hb : badB S i k = true := by rw [hbad, e5']; rfl
  rw [e5'] at qb
  refine EvC.k2 ?_ (h1 := by simp only [go_sem, d1, d2, d3, hTkl] <;> rfl) (c1 := .cg qa) (h2 := by simp only [go_sem, d1, d2, d3, hTkl] <;> rfl) (c2 := .cg qb) (h3 := by simp only [go_sem, d1, d2, d3, hTkl, hTkn, hTn] <;> rfl)
  refine EvC.ct ?_
  refine EvC.exit ?_
  refine EvC.b ?_ (hok := by simp [hI1])
  exact ⟨[(0, 0)], i + 1, rfl, (by rw [hno (hkeep hb)]; simp only [go_sem, hOn, Int.natCast_add, Int.natCast_one] <;> rfl), hil, by omega⟩
 have hil : i < N := by simpa using hc
 clear hc
 have hge : fs[i]? = some (fs[i]'(by omega)) := List.getElem?_eq_getElem (by omega)
 have hfz2 := hfz _ (List.getElem_mem (show i < fs.length by omega))
 have htk : S.take (i + 1) = S.take i ++ [killW m W (fs[i]'(by omega))] := by
  rw [List.take_succ_eq_append_getElem (by omega)]; simp [hS]
 generalize fs[i]'(by omega) = f at hge hfz2 htk
 have hfg : (fs.map FA.cells)[i]? = some f.cells := by rw [List.getElem?_map, hge]; rfl
 have hit : (i : Int).toNat = i := Int.toNat_natCast i
 have q2 := qk f
 unfold killersA at q2
 rw [if_neg (fun h => h hfz2)] at q2
 have hK := hkl f
 rw [show killL m (mutF m f) W 0 = killW m W f from rfl] at q2 hK
 generalize killW m W f = K at q2 htk hK
 have hKn := norefs_intC K
 rw [FA.cells] at hfg q2
 have hfcl : (fs.map FA.cells).length = N := by rw [List.length_map, hN]
 refine EvC.skip ?_
 refine EvC.seq ?_
 refine EvC.block ?_
 refine EvC.a ?_ (by simp only [go_sem, hfg, hit, hfcl] <;> rfl) (by simp; try omega)
 refine EvC.z 4 ?_
 refine EvC.k1 ?_ (h1 := by simp only [go_sem, Mach.cells] <;> rfl) (c1 := .ca q2) (h2 := by simp only [go_sem, hWn, hKn] <;> rfl)
 refine EvC.z 13 ?_
 have hs : (S.take i).map setC ++ [[.sl K.isEmpty (K.map intC) .unk]] = (S.take (i + 1)).map setC := by rw [htk, List.map_append]; rfl
 have hLn2 := norefs_sets (S.take (i + 1))
 have hr2 : room (i + 1) 24 = true := by simp only [room_eq, decide_eq_true_eq]; omega
 have hLl2 : ((S.take (i + 1)).map setC).length = i + 1 := by rw [List.length_map, List.length_take]; omega
 have hne : (i + 1 == 0) = false := rfl
 obtain ⟨L2, hL2⟩ : ∃ L, L = (S.take (i + 1)).map setC := ⟨_, rfl⟩
 rw [← hL2] at hs hLn2 hLl2
 refine EvC.b ?_ (by simp only [go_sem, hs, hLl] <;> rfl) (by simp [hr2])
 refine EvC.b ?_ (hok := by exact inI64_of (by omega) (by omega))
 exact ⟨[(0, 0)], i + 1, rfl, (by rw [← hL2]; simp only [go_sem, Mach.cells, hLn2, hLl2, hne, Int.natCast_add, Int.natCast_one] <;> rfl), hil, by omega⟩
theorem refEquivalent_is {m : Mach} (hv : Valid m) (f : FA) (hf : faultB m f = true) (hv2 : Valid (mutF m f)) (hi : m.ins = (mutF m f).ins) :
  PureIs prog 23 [.ag m.cells, .ag f.cells] (.sc (.bool (diffO m (mutF m f)).isNone)) := by
 have q1 := apply55_is hv f hf
 have q2 := ref10_is hv hv2 hi
 have hn : ((diffW m (mutF m f)).map intC).all AV.norefs = true := norefs_intC _
 generalize mutF m f = t at q1 q2 hn
 have hmr : AV.norefs t.cells = true := norefs_mcells t
 rw [FA.cells, Mach.cells] at q1
 simp only [FA.cells]
 simp only [Mach.cells] at q2 q1 hmr ⊢
 generalize (diffW m t).map intC = L at q2 hn
 refine PureIs.of1 5 [6] func23 ntmps23 results23 fun _ => ?_
 refine EvC.a ?_ (by simp only [go_sem, Mach.cells] <;> rfl)
 refine EvC.z 0 ?_
 refine EvC.z 1 ?_
 refine EvC.k2D mixed ?_ (h1 := by simp only [go_sem, Mach.cells] <;> rfl) (c1 := .ca q1) (h2 := by simp only [go_sem, Mach.cells] <;> rfl) (c2 := .ca q2) (h3 := by simp only [go_sem, hn, hmr] <;> rfl)
 refine EvC.a ?_
 refine EvC.rz ?_
 simp only [go_sem]
 cases diffO m t <;> rfl
theorem refEqual_is {m : Mach} (hv : Valid m) (f g : FA) (hf : faultB m f = true) (hg : faultB m g = true) (hv1 : Valid (mutF m f)) (hv2 : Valid (mutF m g)) (hi : (mutF m f).ins = (mutF m g).ins) :
  PureIs prog 56 [.ag m.cells, .ag f.cells, .ag g.cells] (.sc (.bool (diffO (mutF m f) (mutF m g)).isNone)) := by
 have q1 := apply55_is hv f hf
 have q2 := apply55_is hv g hg
 have q3 := ref10_is hv1 hv2 hi
 have hn : ((diffW (mutF m f) (mutF m g)).map intC).all AV.norefs = true := norefs_intC _
 generalize mutF m f = t at q1 q3 hn
 generalize mutF m g = u at q2 q3 hn
 have hmr : AV.norefs t.cells = true := norefs_mcells t
 have hur : AV.norefs u.cells = true := norefs_mcells u
 rw [FA.cells, Mach.cells] at q1 q2
 simp only [FA.cells]
 simp only [Mach.cells] at q3 q2 q1 hmr hur ⊢
 generalize (diffW t u).map intC = L at q3 hn
 refine PureIs.of1 7 [8] func56 ntmps56 results56 fun _ => ?_
 refine EvC.a ?_ (by simp only [go_sem, Mach.cells] <;> rfl)
 refine EvC.z 0 ?_
 refine EvC.z 1 ?_
 refine EvC.z 2 ?_
 apply EvC.seq
 apply EvC.drw mixed
 ·apply Tr.run
  ·simp only [go_sem, Mach.cells] <;> rfl
  ·simp
  apply Tr.cons
  ·exact .ca (q1)
  apply Tr.run
  ·simp only [go_sem, Mach.cells] <;> rfl
  ·simp
  apply Tr.cons
  ·exact .ca (q2)
  apply Tr.run
  ·simp only [go_sem, Mach.cells] <;> rfl
  ·simp
  apply Tr.cons
  ·exact .ca (q3)
  apply Tr.done
  ·simp only [go_sem, hn, hmr, hur] <;> rfl
  ·simp
 ·kernel_rfl
 refine EvC.a ?_
 refine EvC.rz ?_
 simp only [go_sem]
 cases diffO t u <;> rfl
def dR (E : FA → FA → Bool) (fs : List FA) : List Int := fs.map fun f => ((fs.findIdx fun g => E g f : Nat) : Int)
set_option maxHeartbeats 4000000 in
theorem refDistinct_is {m : Mach} (fn : Bool) (fs : List FA) (fc : Cp) (hfl : fs.length < 1000000) (E : FA → FA → Bool)
  (hE : ∀ f ∈ fs, ∀ g ∈ fs, PureIs prog 56 [.ag m.cells, .ag f.cells, .ag g.cells] (.sc (.bool (E f g)))) (hr : ∀ f ∈ fs, E f f = true) :
  PureIs prog 22 [.ag m.cells, .sl fn (fs.map FA.cells) fc] (.sl fs.isEmpty ((dR E fs).map intC) .unk) := by
 refine PureIs.of1 3 [4, 5, 6, 7, 11, 24] func22 ntmps22 results22 fun _ => ?_
 refine EvC.a ?_ (by simp only [go_sem, Mach.cells] <;> rfl)
 refine EvC.z 0 ?_
 refine EvC.a ?_
 refine EvC.seq ?_
 refine EvC.a ?_
 refine EvC.block ?_
 obtain ⟨N, hN⟩ : ∃ N, N = fs.length := ⟨_, rfl⟩
 have hfe : fs.isEmpty = (N == 0) := by rw [hN]; cases fs <;> rfl
 have hel : (dR E fs).length = N := by rw [dR, List.length_map, hN]
 have hll : (fs.map FA.cells).length = N := by rw [List.length_map, hN]
 refine EvC.loopS (σ := Nat) (fun i => ⟨[(1, .sl fn (fs.map FA.cells) fc), (2, .ia m.cells), (5, .tl 0 i (i == 0)), (6, .sc (.int .i64 i))], [], [(0, .arr 1 (((dR E fs).take i).map intC) true)], 1⟩) (fun i => N - i) (fun i => i ≤ N) [1, 2, 5, 6] 1 ?_ ?_
 ·exact ⟨[(2, 0)], 0, rfl, (by simp only [go_sem, Mach.cells, Int.natCast_zero, List.take_zero, List.map_nil] <;> rfl), Nat.zero_le _⟩
 intro i hi
 have hLn := norefs_intC ((dR E fs).take i)
 have hLl : (((dR E fs).take i).map intC).length = i := by rw [List.length_map, List.length_take]; omega
 refine EvC.seq ?_
 refine EvC.a ?_ (by simp only [go_sem, hll] <;> rfl)
 refine EvC.cond (by simp only [go_sem] <;> rfl) (fun hc => ?_) (fun hc => ?_)
 rotate_left
 ·refine EvC.exit ?_
  obtain rfl : i = N := by have : ¬ i < N := (by simpa using hc); omega
  rw [List.take_of_length_le (by omega)] at hLn hLl ⊢
  generalize (dR E fs).map intC = L at hLn hLl ⊢
  refine EvC.frz 0 (by simp only [go_sem, hLn, hLl] <;> rfl) ?_
  refine EvC.a ?_
  refine EvC.rz ?_
  simp only [go_sem]
  rw [hfe]
 have hil : i < N := by simpa using hc
 clear hc
 have he : fs[i]? = some (fs[i]'(by omega)) := List.getElem?_eq_getElem (by omega)
 have hm2 := List.getElem_mem (show i < fs.length by omega)
 have hidx : ∀ k, k ≤ i → (∀ g ∈ fs.take k, E g (fs[i]'(by omega)) = false) → ∀ hk : k < fs.length, E (fs[k]'hk) (fs[i]'(by omega)) = true → (dR E fs).take (i + 1) = (dR E fs).take i ++ [(k : Int)] := by
  intro k hk h1 hk2 h2
  rw [List.take_succ_eq_append_getElem (by omega)]
  congr 1
  rw [List.cons.injEq]
  refine ⟨?_, rfl⟩
  unfold dR
  rw [List.getElem_map]
  rw [(List.findIdx_eq hk2).2 ⟨h2, fun j hj => by
   have := h1 (fs[j]'(by omega)) (by rw [List.mem_take_iff_getElem]; exact ⟨j, by omega, rfl⟩)
   exact this⟩]
 have hself := hr _ hm2
 have hit : (i : Int).toNat = i := Int.toNat_natCast i
 obtain ⟨f, hf⟩ : ∃ f, f = fs[i]'(by omega) := ⟨_, rfl⟩
 rw [← hf] at he hm2 hself
 simp only [← hf] at hidx
 have hfc : (fs.map FA.cells)[i]? = some f.cells := by rw [List.getElem?_map, he]; rfl
 rw [FA.cells] at hfc
 refine EvC.skip ?_
 refine EvC.seq ?_
 refine EvC.block ?_
 refine EvC.a ?_
 refine EvC.seq ?_
 refine EvC.block ?_
 refine EvC.loopS (σ := Nat) (fun k => ⟨[(1, .sl fn (fs.map FA.cells) fc), (2, .ia m.cells), (5, .tl 0 i (i == 0)), (6, .sc (.int .i64 i)), (7, .sc (.int .i64 k))], [], [(0, .arr 1 (((dR E fs).take i).map intC) true)], 1⟩) (fun k => N - k) (fun k => k ≤ i ∧ ∀ g ∈ fs.take k, E g f = false) [1, 2, 5, 6, 7] 1 ?_ ?_
 ·exact ⟨[(0, 0)], 0, rfl, (by simp only [go_sem, Mach.cells, Int.natCast_zero, hLn, hLl] <;> rfl), Nat.zero_le _, by simp⟩
 rintro k ⟨h1, h2⟩
 have hkf : k < fs.length := by omega
 have hge : fs[k]? = some (fs[k]'hkf) := List.getElem?_eq_getElem hkf
 have hgm := List.getElem_mem hkf
 have htk : fs.take (k + 1) = fs.take k ++ [fs[k]'hkf] := by rw [List.take_succ_eq_append_getElem hkf]
 have hidx2 := hidx k h1 h2 hkf
 have hki : k = i → E (fs[k]'hkf) f = true := by
  intro e; subst e; rw [← hf]; exact hself
 have hkt : (k : Int).toNat = k := Int.toNat_natCast k
 generalize fs[k]'hkf = g at hge hgm htk hidx2 hki
 have hgc : (fs.map FA.cells)[k]? = some g.cells := by rw [List.getElem?_map, hge]; rfl
 rw [FA.cells] at hgc
 have q := hE g hgm f hm2
 rw [FA.cells, FA.cells] at q
 refine EvC.seq ?_
 by_cases hb : E g f = true
 ·have htk2 := hidx2 hb
  rw [hb] at q
  refine EvC.k1D mixed ?_ (h1 := by simp only [go_sem, hfc, hit, hgc, hkt, hll, Mach.cells] <;> rfl) (k1 := by simp; try omega) (c1 := .ca q)
  refine EvC.cf ?_
  refine EvC.exit ?_
  have hs : ((dR E fs).take i).map intC ++ [[.sc (.int .i64 (k : Int))]] = ((dR E fs).take (i + 1)).map intC := by rw [htk2, List.map_append]; rfl
  have hLn2 := norefs_intC ((dR E fs).take (i + 1))
  have hLl2 : (((dR E fs).take (i + 1)).map intC).length = i + 1 := by rw [List.length_map, List.length_take]; omega
  have hr2 : room (i + 1) 8 = true := by simp only [room_eq, decide_eq_true_eq]; omega
  have hne : (i + 1 == 0) = false := rfl
  obtain ⟨U, hU⟩ : ∃ U, U = ((dR E fs).take (i + 1)).map intC := ⟨_, rfl⟩
  rw [← hU] at hs hLn2 hLl2
  refine EvC.b ?_ (by simp only [go_sem, hs, hLl] <;> rfl) (by simp [hr2])
  refine EvC.b ?_ (hok := by exact inI64_of (by omega) (by omega))
  exact ⟨[(0, 0)], i + 1, rfl, (by rw [← hU]; simp only [go_sem, hLn2, hLl2, hne, Mach.cells, Int.natCast_add, Int.natCast_one] <;> rfl), hil, by omega⟩
 have hb2 : E g f = false := by simpa using hb
 have hlt : k < i := by
  rcases Nat.lt_or_ge k i with h | h
  ·exact h
  ·exact absurd (hki (by omega)) hb
 rw [hb2] at q
 refine EvC.k1D mixed ?_ (h1 := by simp only [go_sem, hfc, hit, hgc, hkt, hll, Mach.cells] <;> rfl) (k1 := by simp; try omega) (c1 := .ca q)
 refine EvC.cr ?_
 refine EvC.block ?_
 refine EvC.b ?_ (hok := by exact inI64_of (by omega) (by omega))
 exact ⟨[(0, 0)], k + 1, rfl, (by simp only [go_sem, hLn, hLl, Mach.cells, Int.natCast_add, Int.natCast_one] <;> rfl), ⟨hlt, fun x hx => by rw [htk] at hx; rcases List.mem_append.1 hx with h | h; exact h2 x h; rw [List.mem_singleton.1 h]; exact hb2⟩, by omega⟩
theorem rows_get {a b : Mach} (h : a.rows.map (·.2) = b.rows.map (·.2)) {i : Nat} {r : Row} (hr : a.rows[i]? = some r) : ∃ n, b.rows[i]? = some (n, r.2) := by
 have h2 := congrArg (fun l => l[i]?) h
 simp only [List.getElem?_map, hr, Option.map_some] at h2
 cases hb : b.rows[i]? with
 | none => rw [hb] at h2; cases h2
 | some q => rw [hb] at h2; simp only [Option.map_some, Option.some.injEq] at h2; exact ⟨q.1, by rw [h2]⟩
theorem sameM_is {a b : Mach} (h1 : a.ins = b.ins) (h2 : a.outs = b.outs) (h3 : a.rows.map (·.2) = b.rows.map (·.2)) (hl : a.rows.length < 1000000) (hr : ∀ r ∈ a.rows, r.2.length < 1000000) : PureIs prog 16 [.ag a.cells, .ag b.cells] (.sc (.bool true)) := by
 have hl2 : b.rows.length = a.rows.length := by have := congrArg List.length h3; simpa using this.symm
 refine PureIs.of1 7 [27, 32, 47, 55, 74] func16 ntmps16 results16 fun _ => ?_
 refine EvC.a ?_ (by simp only [go_sem, Mach.cells] <;> rfl)
 refine EvC.z 0 ?_
 refine EvC.z 1 ?_
 refine EvC.seq ?_
 refine EvC.g ?_ (h := by simp only [go_sem, h1, h2, hl2] <;> rfl)
 refine EvC.cs ?_
 refine EvC.seq ?_
 refine EvC.a ?_
 refine EvC.block ?_
 refine EvC.loopS (σ := Nat) (fun i => ⟨[(2, .ia a.cells), (3, .ia b.cells), (5, .sc (.int .i64 i))], [], [], 0⟩) (fun i => a.rows.length - i) (fun i => i ≤ a.rows.length) [2, 3, 5] 0 ?_ ?_
 ·exact ⟨[], 0, rfl, (by simp only [go_sem, Mach.cells, h1, h2] <;> rfl), Nat.zero_le _⟩
 intro i hi
 refine EvC.seq ?_
 refine EvC.a ?_ (by simp only [go_sem, Mach.cells] <;> rfl)
 refine EvC.cond (by simp only [go_sem] <;> rfl) (fun hc => ?_) (fun hc => ?_)
 rotate_left
 ·refine EvC.exit ?_
  refine EvC.a ?_
  refine EvC.rz ?_
  simp only [go_sem]
 have hi : i < a.rows.length := by simpa using hc
 have he : a.rows[i]? = some a.rows[i] := List.getElem?_eq_getElem hi
 have hm := List.getElem_mem hi
 generalize a.rows[i] = r at he hm
 obtain ⟨n, hb⟩ := rows_get h3 he
 obtain ⟨na, es⟩ := r
 have hes := hr _ hm
 simp only at hb hes
 refine EvC.skip ?_
 refine EvC.seq ?_
 refine EvC.block ?_
 refine EvC.seq ?_
 refine EvC.d mixed ?_ (h := by simp only [go_sem, he, hb, rowC, Mach.cells] <;> rfl)
 refine EvC.cs ?_
 refine EvC.a ?_
 refine EvC.block ?_
 refine EvC.loopS (σ := Nat) (fun k => ⟨[(2, .ia a.cells), (3, .ia b.cells), (5, .sc (.int .i64 i)), (6, .sc (.int .i64 k))], [], [], 0⟩) (fun k => es.length - k) (fun k => k ≤ es.length) [2, 3, 5, 6] 0 ?_ ?_
 ·exact ⟨[], 0, rfl, (by simp only [go_sem, Mach.cells, h1, h2] <;> rfl), Nat.zero_le _⟩
 intro k hk
 refine EvC.seq ?_
 refine EvC.a ?_ (by simp only [go_sem, he, rowC, Mach.cells] <;> rfl)
 refine EvC.cond (by simp only [go_sem] <;> rfl) (fun hc => ?_) (fun hc => ?_)
 rotate_left
 ·refine EvC.exit ?_
  refine EvC.b ?_ (hok := by exact inI64_of (by omega) (by omega))
  exact ⟨[], i + 1, rfl, (by simp only [go_sem, Mach.cells] <;> rfl), by omega, by omega⟩
 have hk : k < es.length := by simpa using hc
 have hek : es[k]? = some es[k] := List.getElem?_eq_getElem hk
 generalize es[k] = e at hek
 refine EvC.skip ?_
 refine EvC.seq ?_
 refine EvC.block ?_
 refine EvC.d mixed ?_ (h := by simp only [go_sem, he, hb, rowC, Mach.cells, hek, edgeC] <;> rfl)
 refine EvC.cs ?_
 refine EvC.b ?_ (hok := by exact inI64_of (by omega) (by omega))
 exact ⟨[], k + 1, rfl, (by simp only [go_sem, Mach.cells] <;> rfl), by omega, by omega⟩
theorem intsEq_is (na nb : Bool) (a : List Int) (cb : Cp) (hl : a.length < 1000000) : PureIs prog 21 [.sl na (a.map intC) .full, .sl nb (a.map intC) cb] (.sc (.bool true)) := by
 have q := same37_is false false [(na, a, .full)] [(nb, a, cb)] .full .full (by simp) (by simpa using hl)
 rw [show sameW [(na, a, Cp.full)] [(nb, a, cb)] = true by simp [sameW]] at q
 simp only [List.map_cons, List.map_nil, rwC] at q
 have hn := norefs_intC a
 have hll : (a.map intC).length = a.length := List.length_map _
 generalize a.map intC = L at q hn hll ⊢
 refine PureIs.of1 2 [4] func21 ntmps21 results21 fun _ => ?_
 refine EvC.a ?_
 refine EvC.k1 ?_ (c1 := .ca q) (h2 := by simp only [go_sem, hn, hll] <;> rfl)
 refine EvC.rz ?_
 simp only [go_sem]
theorem pairsEq_is (na nb : Bool) (a : List (FA × FA)) (cb : Cp) (hl : a.length < 1000000) : PureIs prog 13 [.sl na (a.map prC) .full, .sl nb (a.map prC) cb] (.sc (.bool true)) := by
 have hn := pairs_norefs a
 have hll : (a.map prC).length = a.length := List.length_map _
 refine PureIs.of1 2 [4, 5, 17, 21, 32] func13 ntmps13 results13 fun _ => ?_
 refine EvC.a ?_
 refine EvC.seq ?_
 refine EvC.g ?_ (h := by simp only [go_sem, hll] <;> rfl)
 refine EvC.cs ?_
 refine EvC.seq ?_
 refine EvC.a ?_
 refine EvC.block ?_
 refine EvC.loopS (σ := Nat) (fun i => ⟨[(0, .sl na (a.map prC) .full), (1, .sl nb (a.map prC) cb), (5, .sc (.int .i64 i))], [], [], 0⟩) (fun i => a.length - i) (fun i => i ≤ a.length) [0, 1, 5] 0 ?_ ?_
 ·exact ⟨[], 0, rfl, (by simp only [go_sem, Int.natCast_zero] <;> rfl), Nat.zero_le _⟩
 intro i hi
 refine EvC.seq ?_
 refine EvC.a ?_ (by simp only [go_sem, hll] <;> rfl)
 refine EvC.cond (by simp only [go_sem] <;> rfl) (fun hc => ?_) (fun hc => ?_)
 rotate_left
 ·refine EvC.exit ?_
  refine EvC.a ?_
  refine EvC.rz ?_
  simp only [go_sem]
 have hil : i < a.length := by simpa using hc
 clear hc
 have he : a[i]? = some (a[i]'hil) := List.getElem?_eq_getElem hil
 generalize a[i]'hil = p at he
 have hpc : (a.map prC)[i]? = some (prC p) := by rw [List.getElem?_map, he]; rfl
 obtain ⟨f, g⟩ := p
 unfold prC at hpc
 rw [List.getElem?_map, he, Option.map_some] at hpc
 clear hpc
 have hpc : (a.map prC)[i]? = some [.sc (.int .i64 f.kind), .sc (.int .i64 f.state), .sc (.int .i64 f.input), .sc (.int .i64 f.to), .sc (.int .i64 f.at'), .sc (.int .i64 f.out), .sc (.int .i64 g.kind), .sc (.int .i64 g.state), .sc (.int .i64 g.input), .sc (.int .i64 g.to), .sc (.int .i64 g.at'), .sc (.int .i64 g.out)] := by rw [List.getElem?_map, he]; rfl
 have hit : (i : Int).toNat = i := Int.toNat_natCast i
 refine EvC.skip ?_
 refine EvC.seq ?_
 refine EvC.block ?_
 refine EvC.d mixed ?_ (h := by simp only [go_sem, hpc, hit, hll] <;> rfl) (hok := by simp; try omega)
 refine EvC.cs ?_
 refine EvC.b ?_ (hok := by exact inI64_of (by omega) (by omega))
 exact ⟨[], i + 1, rfl, (by simp only [go_sem, Int.natCast_add, Int.natCast_one] <;> rfl), hil, by omega⟩
theorem fOf_is {m : Mach} (hv : Valid m) (n : Int) (hn : 0 ≤ n ∧ n < 65536) (f : FA) (hf : (allF m allK)[(n % ((allF m allK).length : Int)).toNat]? = some f) :
  PureIs prog 48 [.ag [.sc (.int .u16 n)], .ag m.cells] (.tu [.ag f.cells, .sc (.bool true)]) := by
 have q := all48_is hv false allK .full (by decide)
 have hAn := norefs_faL (allF m allK)
 have hlt := (List.getElem?_eq_some_iff.1 hf).1
 generalize allF m allK = A at q hAn hf hlt
 have hAl : (A.map FA.cells).length = A.length := List.length_map _
 have hne : (A.length : Int) ≠ 0 := by omega
 have ht : 0 ≤ n % (A.length : Int) := Int.emod_nonneg _ hne
 have ht2 : n % (A.length : Int) < A.length := Int.emod_lt_of_pos _ (by omega)
 have htt : Int.tmod n A.length = n % (A.length : Int) := Int.tmod_eq_emod_of_nonneg hn.1
 have hI : inI64 n = true := inI64_of (by omega) (by omega)
 rw [show allK.map intC = [[.sc (.int .i64 0)], [.sc (.int .i64 1)], [.sc (.int .i64 2)], [.sc (.int .i64 3)], [.sc (.int .i64 4)]] from rfl] at q
 rw [FA.cells]
 refine PureIs.of1 7 [12] func48 ntmps48 results48 fun _ => ?_
 refine EvC.a ?_ (by simp only [go_sem, Mach.cells] <;> rfl)
 refine EvC.z 0 ?_
 refine EvC.z 1 ?_
 refine EvC.k1 ?_ (h1 := by simp only [go_sem, Mach.cells] <;> rfl) (c1 := .ca q) (h2 := by simp only [go_sem, hAn] <;> rfl)
 refine EvC.seq ?_
 refine EvC.a ?_ (by simp only [go_sem, hAl] <;> rfl)
 refine EvC.cs ?_ (by simp only [go_sem, decide_eq_false hne] <;> rfl)
 refine EvC.a ?_ (by simp only [go_sem, hAl, hf, hI, FA.cells, decide_eq_true ht, decide_eq_false hne] <;> rfl) (by simp [hI, hne]; try omega)
 refine EvC.rz ?_
 simp only [go_sem]
end Go.Avl
