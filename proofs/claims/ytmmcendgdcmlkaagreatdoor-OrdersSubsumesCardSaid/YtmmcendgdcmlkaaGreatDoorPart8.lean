/-
  Lemmas.
-/
import Derived.Test.YtmmcendgdcmlkaaGreatDoorPart7
set_option linter.unusedSimpArgs false
set_option linter.unusedVariables false
set_option linter.unnecessarySimpa false
set_option linter.deprecated false
namespace Go.Avl
open Go Go.Proofs.Tryz
set_option maxRecDepth 10000
def fcs (L : List FA) : List (List AV) := L.map FA.cells
theorem sM_fcs (L : List FA) : sM L = [(0, .arr 6 (fcs L) false)] := rfl
theorem fcs_norefs (L : List FA) : (fcs L).all AV.norefs = true := fas_norefs2 L
set_option maxHeartbeats 4000000 in
theorem rotate_body (p u v r : List FA) (a m b N : Nat) (ha : a = p.length) (hm : m = a + u.length) (hb : b = m + v.length) (hu : u ≠ []) (hv : v ≠ []) (hN : N = (p ++ u ++ v ++ r).length) (hl : N < 1000000) :
  BodyIs prog 98 [.tv 0 N 0 N (.val N), .sc (.int .i64 a), .sc (.int .i64 m), .sc (.int .i64 b), .fn 45 []] (sM (p ++ u ++ v ++ r)) 1 (fun _ M _ => M = sM (p ++ v ++ u ++ r)) := by
 have hNn : (p ++ u ++ v ++ r).length = p.length + u.length + v.length + r.length := by simp; omega
 have hul := List.length_pos_iff.2 hu
 have hvl := List.length_pos_iff.2 hv
 refine BodyIs.of (nv := 5) (hid := [10, 11, 20, 23, 24, 27, 28, 29, 30, 35, 38, 43, 44, 45, 50, 53, 54, 55, 56]) func98 rfl (by kernel_rfl) (by simp [ntmps98]) fun _ => ?_
 rw [ntmps98, results98]
 have hI1 : inI64 ((m : Int) - a) = true := inI64_of (by omega) (by omega)
 have hI2 : inI64 ((b : Int) - m) = true := inI64_of (by omega) (by omega)
 refine EvC.a ?_ (hok := by simp [hI1])
 refine EvC.a ?_ (hok := by simp [hI2])
 refine EvC.seq ?_
 refine EvC.block ?_
 refine EvC.loopS (σ := List FA × List FA × List FA × List FA) (fun g => ⟨[(0, .tv 0 N 0 N (.val N)), (2, .sc (.int .i64 m)), (4, .fn 45 []), (10, .sc (.int .i64 g.2.1.length)), (11, .sc (.int .i64 g.2.2.1.length))], [], sM (g.1 ++ g.2.1 ++ g.2.2.1 ++ g.2.2.2), 1⟩) (fun g => g.2.1.length + g.2.2.1.length)
  (fun g => g.1 ++ g.2.2.1 ++ g.2.1 ++ g.2.2.2 = p ++ v ++ u ++ r ∧ g.2.1 ≠ [] ∧ g.2.2.1 ≠ [] ∧ g.1.length + g.2.1.length = m) [0, 2, 4, 10, 11] 1 ?_ ?_
 ·exact ⟨[(0, 0)], (p, u, v, r), rfl, (by simp only; rw [show (u.length : Int) = (m : Int) - a by omega, show (v.length : Int) = (b : Int) - m by omega]; simp only [go_sem, sM_fcs, fcs_norefs] <;> rfl), rfl, hu, hv, by simp only; omega⟩
 rintro ⟨P, X, Y, R⟩ ⟨k1, k2, k3, k4⟩
 simp only at k1 k2 k3 k4 ⊢
 have hXl := List.length_pos_iff.2 k2
 have hYl := List.length_pos_iff.2 k3
 have hLl : P.length + Y.length + X.length + R.length = N := by
  have := congrArg List.length k1
  simp only [List.length_append] at this
  omega
 obtain ⟨i, hi⟩ : ∃ i, i = X.length := ⟨_, rfl⟩
 obtain ⟨j, hj⟩ : ∃ j, j = Y.length := ⟨_, rfl⟩
 rw [← hi, ← hj]
 have hmi : (m : Int) - i = (P.length : Int) := by omega
 have hI3 : inI64 ((m : Int) - i) = true := inI64_of (by omega) (by omega)
 refine EvC.seq ?_
 refine EvC.a ?_
 by_cases hij : i = j
 ·have hb0 : decide ((i : Int) = j) = true := decide_eq_true (by omega)
  refine EvC.cf ?_ (by simp only [go_sem, hb0] <;> rfl)
  refine EvC.exit ?_
  apply EvC.region
  apply XR.run
  ·simp only [go_sem] <;> rfl
  ·simp [hI3]
  refine XR.gcTo ⟨[(50, .tv 0 N 0 N (.val N)), (53, .sc (.int .i64 P.length)), (54, .sc (.int .i64 m)), (55, .sc (.int .i64 i)), (56, .fn 45 [])], [], sM (P ++ X ++ Y ++ R), 1⟩ [50, 53, 54, 55, 56] [(0, 0)] rfl (by rw [← hmi]; simp only [go_sem, sM_fcs, fcs_norefs] <;> rfl) ?_
  apply XR.callI rfl rfl (by simp only [go_sem] <;> rfl) (by simp only [go_sem] <;> rfl) (by simp only [go_sem] <;> rfl)
  have hs := swap_body P X [] Y R P.length m i N rfl (by simp; omega) hi (by omega) (by simp; omega) hl
  rw [List.append_nil, List.append_nil] at hs
  refine hs.mono fun _ M z h => ?_
  subst h
  refine XR.nil ?_
  rw [k1]
  exact ⟨.inr rfl, _, rfl, rfl⟩
 have hb0 : decide ((i : Int) = j) = false := decide_eq_false (by omega)
 refine EvC.cr ?_ (by simp only [go_sem, hb0] <;> rfl)
 refine EvC.block ?_
 refine EvC.a ?_
 by_cases hji : j < i
 ·refine EvC.ct ?_ (by simp only [go_sem, decide_eq_true (show (j : Int) < i by omega)] <;> rfl)
  apply EvC.seq
  apply EvC.region
  apply XR.run
  ·simp only [go_sem] <;> rfl
  ·simp [hI3]
  refine XR.gcTo ⟨[(0, .tv 0 N 0 N (.val N)), (2, .sc (.int .i64 m)), (4, .fn 45 []), (10, .sc (.int .i64 i)), (11, .sc (.int .i64 j)), (24, .tv 0 N 0 N (.val N)), (27, .sc (.int .i64 P.length)), (28, .sc (.int .i64 m)), (29, .sc (.int .i64 j)), (30, .fn 45 [])], [], sM (P ++ X ++ Y ++ R), 1⟩ [0, 2, 4, 10, 11, 24, 27, 28, 29, 30] [(0, 0)] rfl (by rw [← hmi]; simp only [go_sem, sM_fcs, fcs_norefs] <;> rfl) ?_
  apply XR.callI rfl rfl (by simp only [go_sem] <;> rfl) (by simp only [go_sem] <;> rfl) (by simp only [go_sem] <;> rfl)
  obtain ⟨X1, X2, rfl, hX1⟩ : ∃ X1 X2, X = X1 ++ X2 ∧ X1.length = j := ⟨X.take j, X.drop j, (List.take_append_drop j X).symm, by simp; omega⟩
  have hX2 : X2.length = i - j := by rw [hi, List.length_append, hX1]; omega
  have hs := swap_body P X1 X2 Y R P.length m j N rfl (by rw [List.length_append] at k4; omega) hX1.symm hj.symm (by simp at hLl ⊢; omega) hl
  rw [show P ++ X1 ++ X2 ++ Y ++ R = P ++ (X1 ++ X2) ++ Y ++ R by simp] at hs
  refine hs.mono fun _ M z h => ?_
  subst h
  refine XR.nil ?_
  refine EvC.b ?_ (hok := by exact inI64_of (by omega) (by omega))
  refine ⟨[(0, 0)], (P ++ Y, X2, X1, R), rfl, ?_, ⟨by rw [← k1]; simp, fun (e : X2 = []) => by rw [e] at hX2; simp at hX2; omega, fun (e : X1 = []) => by rw [e] at hX1; simp at hX1; omega, by simp at k4 ⊢; omega⟩, by simp; omega⟩
  simp only
  rw [hX1, hX2, show ((i - j : Nat) : Int) = (i : Int) - j by omega]
  simp only [go_sem, sM_fcs, fcs_norefs] <;> rfl
 ·refine EvC.cf ?_ (by simp only [go_sem, decide_eq_false (show ¬ (j : Int) < i by omega)] <;> rfl)
  have hI5 : inI64 ((m : Int) + j) = true := inI64_of (by omega) (by omega)
  have hI6 : inI64 ((m : Int) + j - i) = true := inI64_of (by omega) (by omega)
  apply EvC.seq
  apply EvC.region
  apply XR.run
  ·simp only [go_sem] <;> rfl
  ·simp [hI3, hI5, hI6]
  have hmj : (m : Int) + j - i = ((m + j - i : Nat) : Int) := by omega
  refine XR.gcTo ⟨[(0, .tv 0 N 0 N (.val N)), (2, .sc (.int .i64 m)), (4, .fn 45 []), (10, .sc (.int .i64 i)), (11, .sc (.int .i64 j)), (35, .tv 0 N 0 N (.val N)), (38, .sc (.int .i64 P.length)), (43, .sc (.int .i64 ((m + j - i : Nat) : Int))), (44, .sc (.int .i64 i)), (45, .fn 45 [])], [], sM (P ++ X ++ Y ++ R), 1⟩ [0, 2, 4, 10, 11, 35, 38, 43, 44, 45] [(0, 0)] rfl (by rw [← hmi, ← hmj]; simp only [go_sem, sM_fcs, fcs_norefs] <;> rfl) ?_
  apply XR.callI rfl rfl (by simp only [go_sem] <;> rfl) (by simp only [go_sem] <;> rfl) (by simp only [go_sem] <;> rfl)
  obtain ⟨Y1, Y2, rfl, hY2⟩ : ∃ Y1 Y2, Y = Y1 ++ Y2 ∧ Y2.length = i := ⟨Y.take (j - i), Y.drop (j - i), (List.take_append_drop _ Y).symm, by simp; omega⟩
  have hY1 : Y1.length = j - i := by rw [hj, List.length_append, hY2]; omega
  have hs := swap_body P X Y1 Y2 R P.length (m + j - i) i N rfl (by omega) hi hY2 (by simp at hLl ⊢; omega) hl
  rw [show P ++ X ++ Y1 ++ Y2 ++ R = P ++ X ++ (Y1 ++ Y2) ++ R by simp] at hs
  refine hs.mono fun _ M z h => ?_
  subst h
  refine XR.nil ?_
  refine EvC.b ?_ (hok := by exact inI64_of (by omega) (by omega))
  refine ⟨[(0, 0)], (P, Y2, Y1, X ++ R), rfl, ?_, ⟨by rw [← k1]; simp, fun (e : Y2 = []) => by rw [e] at hY2; simp at hY2; omega, fun (e : Y1 = []) => by rw [e] at hY1; simp at hY1; omega, by simp; omega⟩, by simp; omega⟩
  simp only
  rw [hY1, hY2, show ((j - i : Nat) : Int) = (j : Int) - i by omega, show P ++ Y2 ++ Y1 ++ (X ++ R) = P ++ Y2 ++ Y1 ++ X ++ R by simp]
  simp only [go_sem, sM_fcs, fcs_norefs] <;> rfl
theorem half_u {z : Int} (h0 : 0 ≤ z) (h1 : z < 4000000) : shiftOf .shr .u64 (IntKind.wrap .u64 z) 1 = z / 2 := by
 have e : IntKind.wrap .u64 z = z := by
  simp only [IntKind.wrap, IntKind.signed, IntKind.bits, Bool.false_and, Bool.false_eq_true, if_false]
  exact Int.emod_eq_of_lt h0 (by omega)
 rw [e]
 show z.fdiv (2 ^ min 1 64) = _
 rw [Int.fdiv_eq_ediv_of_nonneg _ (by decide)]; rfl
theorem lt_le {f g h : FA} (h1 : leE f g = true) (h2 : ltE g h = true) : ltE f h = true := by
 rw [ltE_iff] at *; rw [leE_iff] at h1; omega
theorem le_lt {f g h : FA} (h1 : ltE f g = true) (h2 : leE g h = true) : ltE f h = true := by
 rw [ltE_iff] at *; rw [leE_iff] at h2; omega
theorem fa_swap3 {l r : List FA} {x y : FA} : (((l ++ x :: y :: r).map FA.cells).set l.length y.cells).set (l.length + 1) x.cells = (l ++ y :: x :: r).map FA.cells := by
 have h := fa_swap2 (l := l) (m := []) (r := r) (x := x) (y := y)
 simpa only [List.nil_append, List.length_nil, Nat.add_zero] using h
theorem fa_at1 {l r : List FA} {x y : FA} : ((l ++ x :: y :: r).map FA.cells)[l.length + 1]? = some y.cells := by
 have h := fa_at2 (l := l) (m := []) (r := r) (x := x) (y := y)
 simpa only [List.nil_append, List.length_nil, Nat.add_zero] using h
set_option maxHeartbeats 4000000 in
theorem merge1_body (p B r : List FA) (x : FA) (a m b N : Nat) (ha : a = p.length) (hm : m = a + 1) (hb : b = m + B.length) (hB : SrtE B) (hN : N = (p ++ [x] ++ B ++ r).length) (hl : N < 1000000) :
  BodyIs prog 92 [.tv 0 N 0 N (.val N), .sc (.int .i64 a), .sc (.int .i64 m), .sc (.int .i64 b), .fn 45 []] (sM (p ++ [x] ++ B ++ r)) 1 (fun _ M _ => M = sM (p ++ srtE ([x] ++ B) ++ r)) := by
 have hNn : (p ++ [x] ++ B ++ r).length = p.length + 1 + B.length + r.length := by simp; omega
 refine BodyIs.of (nv := 5) (hid := [10, 11, 12, 13, 14, 15, 16, 17, 18, 19, 20, 21, 22, 23, 24, 28, 33, 50, 58, 80, 85, 103, 110, 140, 151, 171, 185, 199, 213]) func92 rfl (by kernel_rfl) (by simp [ntmps92]) fun _ => ?_
 rw [ntmps92, results92]
 refine EvC.seq ?_
 have hNN : N = p.length + 1 + B.length + r.length := hN.trans hNn
 have hma : (m : Int) - a = 1 := by omega
 have hI1 : inI64 1 = true := inI64_of (by omega) (by omega)
 refine EvC.a ?_ (by simp only [go_sem, hma] <;> rfl) (by simp [hI1])
 refine EvC.ct ?_
 refine EvC.a ?_
 refine EvC.a ?_
 refine EvC.seq ?_
 refine EvC.block ?_
 refine EvC.loopS (σ := Nat × Nat) (fun g => ⟨[(0, .tv 0 N 0 N (.val N)), (1, .sc (.int .i64 a)), (4, .fn 45 []), (10, .sc (.int .i64 ((m + g.1 : Nat) : Int))), (11, .sc (.int .i64 ((m + g.2 : Nat) : Int)))], [], sM (p ++ [x] ++ B ++ r), 1⟩) (fun g => g.2 - g.1)
  (fun g => g.1 ≤ g.2 ∧ g.2 ≤ B.length ∧ (∀ y ∈ B.take g.1, ltE y x = true) ∧ ∀ y ∈ B.drop g.2, leE x y = true) [0, 1, 4, 10, 11] 1 ?_ ?_
 ·exact ⟨[(0, 0)], (0, B.length), rfl, (by simp only [Nat.add_zero]; rw [← hb]; simp only [go_sem, sM_fcs, fcs_norefs] <;> rfl), Nat.zero_le _, Nat.le_refl _, (fun y h => by simp at h), fun y h => by simp at h⟩
 rintro ⟨i, j⟩ ⟨i1, i2, i3, i4⟩
 simp only at i1 i2 i3 i4 ⊢
 obtain ⟨iZ, hiZ⟩ : ∃ z : Int, z = ((m + i : Nat) : Int) := ⟨_, rfl⟩
 obtain ⟨jZ, hjZ⟩ : ∃ z : Int, z = ((m + j : Nat) : Int) := ⟨_, rfl⟩
 rw [← hiZ, ← hjZ]
 refine EvC.seq ?_
 refine EvC.a ?_
 by_cases hij : i < j
 rotate_left
 ·refine EvC.cf ?_ (by simp only [go_sem, decide_eq_false (show ¬ iZ < jZ by omega)] <;> rfl)
  refine EvC.exit ?_
  obtain rfl : i = j := by omega
  obtain ⟨B1, hB1⟩ : ∃ B1, B1 = B.take i := ⟨_, rfl⟩
  obtain ⟨B2, hB2⟩ : ∃ B2, B2 = B.drop i := ⟨_, rfl⟩
  have hBe : B = B1 ++ B2 := by rw [hB1, hB2, List.take_append_drop]
  have hB1l : B1.length = i := by rw [hB1, List.length_take]; omega
  rw [← hB1] at i3
  rw [← hB2] at i4
  have hres : srtE ([x] ++ B) = B1 ++ x :: B2 := by
   symm
   rw [hBe] at hB ⊢
   obtain ⟨h1, h2, h3⟩ := List.pairwise_append.1 hB
   refine srtE_eq (List.pairwise_append.2 ⟨h1, List.pairwise_cons.2 ⟨i4, h2⟩, fun y hy z hz => ?_⟩) fun s k => ?_
   ·rcases List.mem_cons.1 hz with rfl | hz
    ·exact leE_of_lt (i3 y hy)
    ·exact h3 y hy z hz
   ·rw [List.filter_append, List.filter_append, List.filter_append]
    by_cases hx : atE s k x = true
    ·have : B1.filter (atE s k) = [] := by
       rw [List.filter_eq_nil_iff]
       intro y hy hy2
       rw [atE_iff] at hx hy2
       have := ltE_iff.1 (i3 y hy)
       omega
     rw [this, List.filter_cons_of_pos hx, List.filter_cons_of_pos hx]; rfl
    ·rw [List.filter_cons_of_neg hx, List.filter_cons_of_neg hx]; rfl
  rw [hres, hBe]
  rw [hBe, List.length_append] at hb hNN
  clear i1 i2 hB1 hB2 hres hBe hN hNn
  refine EvC.seq ?_
  refine EvC.a ?_
  refine EvC.block ?_
  refine EvC.loopS (σ := List FA × List FA) (fun g => ⟨[(0, .tv 0 N 0 N (.val N)), (10, .sc (.int .i64 iZ)), (13, .sc (.int .i64 ((a + g.1.length : Nat) : Int)))], [], sM (p ++ g.1 ++ x :: (g.2 ++ B2 ++ r)), 1⟩) (fun g => g.2.length) (fun g => g.1 ++ g.2 = B1) [0, 10, 13] 1 ?_ ?_
  ·exact ⟨[(0, 0)], ([], B1), rfl, (by rw [show p ++ [x] ++ (B1 ++ B2) ++ r = p ++ [] ++ x :: (B1 ++ B2 ++ r) by simp]; simp only [go_sem, sM_fcs, fcs_norefs, List.length_nil, Nat.add_zero] <;> rfl), rfl⟩
  rintro ⟨C1, C2⟩ k1
  simp only at k1 ⊢
  have hCl : C1.length + C2.length = i := by rw [← hB1l, ← k1, List.length_append]
  obtain ⟨kZ, hkZ⟩ : ∃ z : Int, z = ((a + C1.length : Nat) : Int) := ⟨_, rfl⟩
  rw [← hkZ]
  have hI4 : inI64 (iZ - 1) = true := inI64_of (by omega) (by omega)
  refine EvC.seq ?_
  refine EvC.a ?_ (hok := by simp [hI4])
  cases C2 with
  | nil =>
    simp at hCl
    refine EvC.cf ?_ (by simp only [go_sem, decide_eq_false (show ¬ kZ < iZ - 1 by omega)] <;> rfl)
    refine EvC.exit ?_
    refine EvC.ret ⟨.inl rfl, _, rfl, ?_⟩
    rw [List.append_nil] at k1
    rw [k1]
    show sM _ = sM _
    simp
  | cons y C2 =>
    simp at hCl
    refine EvC.cr ?_ (by simp only [go_sem, decide_eq_true (show kZ < iZ - 1 by omega)] <;> rfl)
    refine EvC.seq ?_
    refine EvC.block ?_
    have hW : p ++ C1 ++ x :: (y :: C2 ++ B2 ++ r) = (p ++ C1) ++ x :: y :: (C2 ++ B2 ++ r) := by simp
    rw [hW]
    have hkn : kZ.toNat = (p ++ C1).length := by simp; omega
    have hkn1 : (kZ + 1).toNat = (p ++ C1).length + 1 := by omega
    have hx0 := fa_at (l := p ++ C1) (r := y :: (C2 ++ B2 ++ r)) (x := x)
    have hy0 := fa_at1 (l := p ++ C1) (r := C2 ++ B2 ++ r) (x := x) (y := y)
    have hsw := fa_swap3 (l := p ++ C1) (r := C2 ++ B2 ++ r) (x := x) (y := y)
    have hLn : (((p ++ C1) ++ x :: y :: (C2 ++ B2 ++ r)).map FA.cells).length = N := by
     have := congrArg List.length k1
     simp at this ⊢; omega
    have hSn := fas_norefs2 ((p ++ C1) ++ y :: x :: (C2 ++ B2 ++ r))
    rw [← hkn1] at hsw hy0
    rw [← hkn] at hsw hx0
    have hg2 : ∀ c : List AV, ((((p ++ C1) ++ x :: y :: (C2 ++ B2 ++ r)).map FA.cells).set kZ.toNat c)[(kZ + 1).toNat]? = some y.cells := fun c => by
     rw [List.getElem?_set_ne (by omega)]; exact hy0
    have hLn2 : ∀ c : List AV, ((((p ++ C1) ++ x :: y :: (C2 ++ B2 ++ r)).map FA.cells).set kZ.toNat c).length = N := fun c => by rw [List.length_set]; exact hLn
    obtain ⟨Z, hZ⟩ : ∃ Z, Z = ((p ++ C1) ++ x :: y :: (C2 ++ B2 ++ r)).map FA.cells := ⟨_, rfl⟩
    obtain ⟨Z2, hZ2⟩ : ∃ Z, Z = ((p ++ C1) ++ y :: x :: (C2 ++ B2 ++ r)).map FA.cells := ⟨_, rfl⟩
    rw [← hZ, ← hZ2] at hsw
    rw [← hZ] at hx0 hy0 hLn hg2 hLn2
    rw [← hZ2] at hSn
    rw [FA.cells] at hx0 hy0
    simp only [FA.cells] at hg2
    rw [FA.cells, FA.cells] at hsw
    rw [sM, ← hZ]
    have hI5 : inI64 (kZ + 1) = true := inI64_of (by omega) (by omega)
    have hkb : 0 ≤ kZ ∧ kZ.toNat < N ∧ 0 ≤ kZ + 1 ∧ (kZ + 1).toNat < N := by
     have : (p ++ C1).length + 2 ≤ N := by simp; omega
     omega
    apply EvC.drwA mixed
    ·apply Tr.done
     ·simp only [go_sem, hx0, hy0, hLn, hg2, hLn2, hsw] <;> rfl
     ·simp [hI5, hkb]
    ·kernel_rfl
    refine EvC.b ?_ (hok := by simp [hI5])
    exact ⟨[(0, 0)], (C1 ++ [y], C2), rfl, (by rw [show ((a + (C1 ++ [y]).length : Nat) : Int) = kZ + 1 by simp; omega, show p ++ (C1 ++ [y]) ++ x :: (C2 ++ B2 ++ r) = (p ++ C1) ++ y :: x :: (C2 ++ B2 ++ r) by simp, sM, ← hZ2]; simp only [go_sem, hSn] <;> rfl), (by rw [← k1]; simp), by simp⟩
 refine EvC.cr ?_ (by simp only [go_sem, decide_eq_true (show iZ < jZ by omega)] <;> rfl)
 refine EvC.block ?_
 have hI2 : inI64 (iZ + jZ) = true := inI64_of (by omega) (by omega)
 obtain ⟨h, hh⟩ : ∃ h, h = (i + j) / 2 := ⟨_, rfl⟩
 obtain ⟨hZ, hhZ⟩ : ∃ z : Int, z = ((m + h : Nat) : Int) := ⟨_, rfl⟩
 have hhalf : shiftOf .shr .u64 (IntKind.wrap .u64 (iZ + jZ)) 1 = hZ := by rw [half_u (by omega) (by omega)]; omega
 have hI3 : inI64 hZ = true := inI64_of (by omega) (by omega)
 refine EvC.a ?_ (by simp only [go_sem, hhalf] <;> rfl) (by simp [hI2, hI3])
 have hhl : h < B.length := by omega
 have hdr : B.drop h = B[h] :: B.drop (h + 1) := List.drop_eq_getElem_cons hhl
 have htk : B.take (h + 1) = B.take h ++ [B[h]] := List.take_succ_eq_append_getElem hhl
 generalize B[h] = y at hdr htk
 have hBe : B = B.take h ++ y :: B.drop (h + 1) := by rw [← hdr, List.take_append_drop]
 have hW : p ++ [x] ++ B ++ r = p ++ x :: (B.take h ++ y :: (B.drop (h + 1) ++ r)) := by
  have e : p ++ [x] ++ (B.take h ++ y :: B.drop (h + 1)) ++ r = p ++ x :: (B.take h ++ y :: (B.drop (h + 1) ++ r)) := by simp
  rw [← hBe] at e; exact e
 have hBt : (B.take h).length = h := by rw [List.length_take]; omega
 have hx0 := fa_at (l := p) (r := B.take h ++ y :: (B.drop (h + 1) ++ r)) (x := x)
 have hy0 := fa_at2 (l := p) (m := B.take h) (r := B.drop (h + 1) ++ r) (x := x) (y := y)
 rw [← hW, ← ha] at hx0
 rw [← hW, hBt, ← ha, show a + 1 + h = hZ.toNat by omega] at hy0
 have hLn : ((p ++ [x] ++ B ++ r).map FA.cells).length = N := by rw [List.length_map, ← hN]
 obtain ⟨Z, hZe⟩ : ∃ Z, Z = (p ++ [x] ++ B ++ r).map FA.cells := ⟨_, rfl⟩
 have hSn := fas_norefs2 (p ++ [x] ++ B ++ r)
 rw [← hZe] at hx0 hy0 hLn hSn
 rw [FA.cells] at hx0 hy0
 have q := edge_is y x
 have hlt := edgeI_lt y x
 rw [FA.cells, FA.cells] at q
 generalize edgeI y x = eZ at q hlt
 have hBs := hB
 rw [hBe] at hBs
 obtain ⟨b1, b2, b3⟩ := List.pairwise_append.1 hBs
 have han : (a : Int).toNat = a := Int.toNat_natCast a
 rw [sM, ← hZe]
 refine EvC.k1D mixed ?_ (h1 := by simp only [go_sem, hx0, hy0, hLn, han] <;> rfl) (k1 := by simp; omega) (c1 := .ca q) (h2 := by simp only [go_sem, hlt] <;> rfl)
 cases hc : ltE y x with
 | true =>
   rw [hc] at hlt
   refine EvC.ct ?_ (by simp only [go_sem, hlt] <;> rfl)
   refine EvC.b ?_ (hok := by exact inI64_of (by omega) (by omega))
   refine ⟨[(0, 0)], (h + 1, j), rfl, (by rw [show ((m + (h + 1) : Nat) : Int) = hZ + 1 by omega, ← hjZ]; simp only [go_sem, hSn] <;> rfl), ⟨by omega, i2, fun z hz => ?_, i4⟩, by simp only; omega⟩
   simp only [htk] at hz
   rcases List.mem_append.1 hz with hz | hz
   ·exact lt_le (b3 z hz y List.mem_cons_self) hc
   ·rw [List.mem_singleton.1 hz]; exact hc
 | false =>
   rw [hc] at hlt
   refine EvC.cf ?_ (by simp only [go_sem, hlt] <;> rfl)
   refine EvC.b ?_
   refine ⟨[(0, 0)], (i, h), rfl, (by rw [← hiZ, ← hhZ]; simp only [go_sem, hSn] <;> rfl), ⟨by omega, by omega, i3, fun z hz => ?_⟩, by simp only; omega⟩
   have hxy : leE x y = true := by rw [leE, hc]; rfl
   simp only [hdr] at hz
   rcases List.mem_cons.1 hz with rfl | hz
   ·exact hxy
   ·exact leE_trans hxy ((List.pairwise_cons.1 b2).1 z hz)
set_option maxHeartbeats 4000000 in
theorem merge2_body (p A r : List FA) (y : FA) (a m b N : Nat) (ha : a = p.length) (hm : m = a + A.length) (hb : b = m + 1) (hA : SrtE A) (hA1 : A.length ≠ 1) (hN : N = (p ++ A ++ [y] ++ r).length) (hl : N < 1000000) :
  BodyIs prog 92 [.tv 0 N 0 N (.val N), .sc (.int .i64 a), .sc (.int .i64 m), .sc (.int .i64 b), .fn 45 []] (sM (p ++ A ++ [y] ++ r)) 1 (fun _ M _ => M = sM (p ++ srtE (A ++ [y]) ++ r)) := by
 have hNn : (p ++ A ++ [y] ++ r).length = p.length + A.length + 1 + r.length := by simp; omega
 have hNN : N = p.length + A.length + 1 + r.length := hN.trans hNn
 refine BodyIs.of (nv := 5) (hid := [10, 11, 12, 13, 14, 15, 16, 17, 18, 19, 20, 21, 22, 23, 24, 28, 33, 50, 58, 80, 85, 103, 110, 140, 151, 171, 185, 199, 213]) func92 rfl (by kernel_rfl) (by simp [ntmps92]) fun _ => ?_
 rw [ntmps92, results92]
 refine EvC.seq ?_
 have hI0 : inI64 ((m : Int) - a) = true := inI64_of (by omega) (by omega)
 refine EvC.a ?_ (hok := by simp [hI0])
 refine EvC.cs ?_ (by simp only [go_sem, decide_eq_false (show ¬ (m : Int) - a = 1 by omega)] <;> rfl)
 refine EvC.seq ?_
 have hma : (b : Int) - m = 1 := by omega
 have hI1 : inI64 1 = true := inI64_of (by omega) (by omega)
 refine EvC.a ?_ (by simp only [go_sem, hma] <;> rfl) (by simp [hI1])
 refine EvC.ct ?_
 refine EvC.a ?_
 refine EvC.a ?_
 refine EvC.seq ?_
 refine EvC.block ?_
 refine EvC.loopS (σ := Nat × Nat) (fun g => ⟨[(0, .tv 0 N 0 N (.val N)), (2, .sc (.int .i64 m)), (4, .fn 45 []), (14, .sc (.int .i64 ((a + g.1 : Nat) : Int))), (15, .sc (.int .i64 ((a + g.2 : Nat) : Int)))], [], sM (p ++ A ++ [y] ++ r), 1⟩) (fun g => g.2 - g.1)
  (fun g => g.1 ≤ g.2 ∧ g.2 ≤ A.length ∧ (∀ z ∈ A.take g.1, leE z y = true) ∧ ∀ z ∈ A.drop g.2, ltE y z = true) [0, 2, 4, 14, 15] 1 ?_ ?_
 ·exact ⟨[(0, 0)], (0, A.length), rfl, (by simp only [Nat.add_zero]; rw [← hm]; simp only [go_sem, sM_fcs, fcs_norefs] <;> rfl), Nat.zero_le _, Nat.le_refl _, (fun y h => by simp at h), fun y h => by simp at h⟩
 rintro ⟨i, j⟩ ⟨i1, i2, i3, i4⟩
 simp only at i1 i2 i3 i4 ⊢
 obtain ⟨iZ, hiZ⟩ : ∃ z : Int, z = ((a + i : Nat) : Int) := ⟨_, rfl⟩
 obtain ⟨jZ, hjZ⟩ : ∃ z : Int, z = ((a + j : Nat) : Int) := ⟨_, rfl⟩
 rw [← hiZ, ← hjZ]
 refine EvC.seq ?_
 refine EvC.a ?_
 by_cases hij : i < j
 rotate_left
 ·refine EvC.cf ?_ (by simp only [go_sem, decide_eq_false (show ¬ iZ < jZ by omega)] <;> rfl)
  refine EvC.exit ?_
  obtain rfl : i = j := by omega
  obtain ⟨A1, hB1⟩ : ∃ A1, A1 = A.take i := ⟨_, rfl⟩
  obtain ⟨A2, hB2⟩ : ∃ A2, A2 = A.drop i := ⟨_, rfl⟩
  have hBe : A = A1 ++ A2 := by rw [hB1, hB2, List.take_append_drop]
  have hB1l : A1.length = i := by rw [hB1, List.length_take]; omega
  rw [← hB1] at i3
  rw [← hB2] at i4
  have hres : srtE (A ++ [y]) = A1 ++ y :: A2 := by
   have h1 : A1 ++ A2 = srtE A := by rw [← hBe, srtE_id hA]
   exact (srt_put h1 i4 i3).symm
  rw [hres, hBe]
  rw [hBe, List.length_append] at hm hNN
  clear i1 i2 hB1 hB2 hres hBe hN hNn hA1
  refine EvC.seq ?_
  refine EvC.a ?_
  refine EvC.block ?_
  refine EvC.loopS (σ := List FA × List FA) (fun g => ⟨[(0, .tv 0 N 0 N (.val N)), (14, .sc (.int .i64 iZ)), (17, .sc (.int .i64 ((a + A1.length + g.1.length : Nat) : Int)))], [], sM (p ++ A1 ++ g.1 ++ y :: (g.2 ++ r)), 1⟩) (fun g => g.1.length) (fun g => g.1 ++ g.2 = A2) [0, 14, 17] 1 ?_ ?_
  ·exact ⟨[(0, 0)], (A2, []), rfl, (by rw [show p ++ (A1 ++ A2) ++ [y] ++ r = p ++ A1 ++ A2 ++ y :: ([] ++ r) by simp, show ((a + A1.length + A2.length : Nat) : Int) = (m : Int) by omega]; simp only [go_sem, sM_fcs, fcs_norefs] <;> rfl), List.append_nil _⟩
  rintro ⟨C1, C2⟩ k1
  simp only at k1 ⊢
  have hCl : C1.length + C2.length = A2.length := by rw [← k1, List.length_append]
  obtain ⟨kZ, hkZ⟩ : ∃ z : Int, z = ((a + A1.length + C1.length : Nat) : Int) := ⟨_, rfl⟩
  rw [← hkZ]
  refine EvC.seq ?_
  refine EvC.a ?_
  rcases List.eq_nil_or_concat C1 with rfl | ⟨C, z, hsy⟩
  ·simp at hCl
   simp at hkZ
   refine EvC.cf ?_ (by simp only [go_sem, decide_eq_false (show ¬ iZ < kZ by omega)] <;> rfl)
   refine EvC.exit ?_
   refine EvC.ret ⟨.inl rfl, _, rfl, ?_⟩
   rw [List.nil_append] at k1
   rw [k1]
   show sM _ = sM _
   simp
  ·rw [List.concat_eq_append] at hsy
   subst hsy
   simp at hCl
   simp at hkZ
   refine EvC.cr ?_ (by simp only [go_sem, decide_eq_true (show iZ < kZ by omega)] <;> rfl)
   refine EvC.seq ?_
   refine EvC.block ?_
   have hW : p ++ A1 ++ (C ++ [z]) ++ y :: (C2 ++ r) = (p ++ A1 ++ C) ++ z :: y :: (C2 ++ r) := by simp
   rw [hW]
   have hkn1 : (kZ - 1).toNat = (p ++ A1 ++ C).length := by simp; omega
   have hkn : kZ.toNat = (p ++ A1 ++ C).length + 1 := by omega
   have hx0 := fa_at1 (l := p ++ A1 ++ C) (r := C2 ++ r) (x := z) (y := y)
   have hy0 := fa_at (l := p ++ A1 ++ C) (r := y :: (C2 ++ r)) (x := z)
   have hsw := fa_swap (l := p ++ A1 ++ C) (r := C2 ++ r) (x := y) (y := z)
   have hLn : (((p ++ A1 ++ C) ++ z :: y :: (C2 ++ r)).map FA.cells).length = N := by
    have := congrArg List.length k1
    simp at this ⊢; omega
   have hSn := fas_norefs2 ((p ++ A1 ++ C) ++ y :: z :: (C2 ++ r))
   rw [← hkn] at hsw hx0
   rw [← hkn1] at hsw hy0
   have hg2 : ∀ c : List AV, ((((p ++ A1 ++ C) ++ z :: y :: (C2 ++ r)).map FA.cells).set kZ.toNat c)[(kZ - 1).toNat]? = some z.cells := fun c => by
    rw [List.getElem?_set_ne (by omega)]; exact hy0
   have hLn2 : ∀ c : List AV, ((((p ++ A1 ++ C) ++ z :: y :: (C2 ++ r)).map FA.cells).set kZ.toNat c).length = N := fun c => by rw [List.length_set]; exact hLn
   obtain ⟨Z, hZ⟩ : ∃ Z, Z = ((p ++ A1 ++ C) ++ z :: y :: (C2 ++ r)).map FA.cells := ⟨_, rfl⟩
   obtain ⟨Z2, hZ2⟩ : ∃ Z, Z = ((p ++ A1 ++ C) ++ y :: z :: (C2 ++ r)).map FA.cells := ⟨_, rfl⟩
   rw [← hZ, ← hZ2] at hsw
   rw [← hZ] at hx0 hy0 hLn hg2 hLn2
   rw [← hZ2] at hSn
   rw [FA.cells] at hx0 hy0
   simp only [FA.cells] at hg2
   rw [FA.cells, FA.cells] at hsw
   rw [sM, ← hZ]
   have hI5 : inI64 (kZ - 1) = true := inI64_of (by omega) (by omega)
   have hkb : 0 ≤ kZ ∧ kZ.toNat < N ∧ 1 ≤ kZ ∧ (kZ - 1).toNat < N ∧ kZ.toNat - 1 < N := by
    have : (p ++ A1 ++ C).length + 2 ≤ N := by simp; omega
    omega
   apply EvC.drwA mixed
   ·apply Tr.done
    ·simp only [go_sem, hx0, hy0, hLn, hg2, hLn2, hsw] <;> rfl
    ·simp [hI5, hkb]
   ·kernel_rfl
   refine EvC.b ?_ (hok := by simp [hI5])
   exact ⟨[(0, 0)], (C, z :: C2), rfl, (by rw [show ((a + A1.length + C.length : Nat) : Int) = kZ - 1 by omega, show p ++ A1 ++ C ++ y :: (z :: C2 ++ r) = (p ++ A1 ++ C) ++ y :: z :: (C2 ++ r) by simp, sM, ← hZ2]; simp only [go_sem, hSn] <;> rfl), (by rw [← k1]; simp), by simp⟩
 refine EvC.cr ?_ (by simp only [go_sem, decide_eq_true (show iZ < jZ by omega)] <;> rfl)
 refine EvC.block ?_
 have hI2 : inI64 (iZ + jZ) = true := inI64_of (by omega) (by omega)
 obtain ⟨h, hh⟩ : ∃ h, h = (i + j) / 2 := ⟨_, rfl⟩
 obtain ⟨hZ, hhZ⟩ : ∃ z : Int, z = ((a + h : Nat) : Int) := ⟨_, rfl⟩
 have hhalf : shiftOf .shr .u64 (IntKind.wrap .u64 (iZ + jZ)) 1 = hZ := by rw [half_u (by omega) (by omega)]; omega
 have hI3 : inI64 hZ = true := inI64_of (by omega) (by omega)
 refine EvC.a ?_ (by simp only [go_sem, hhalf] <;> rfl) (by simp [hI2, hI3])
 have hhl : h < A.length := by omega
 have hdr : A.drop h = A[h] :: A.drop (h + 1) := List.drop_eq_getElem_cons hhl
 have htk : A.take (h + 1) = A.take h ++ [A[h]] := List.take_succ_eq_append_getElem hhl
 generalize A[h] = x at hdr htk
 have hBe : A = A.take h ++ x :: A.drop (h + 1) := by rw [← hdr, List.take_append_drop]
 have hW : p ++ A ++ [y] ++ r = (p ++ A.take h) ++ x :: (A.drop (h + 1) ++ y :: r) := by
  have e : p ++ (A.take h ++ x :: A.drop (h + 1)) ++ [y] ++ r = (p ++ A.take h) ++ x :: (A.drop (h + 1) ++ y :: r) := by simp
  rw [← hBe] at e; exact e
 have hBt : (p ++ A.take h).length = a + h := by rw [List.length_append, List.length_take]; omega
 have hBd : (A.drop (h + 1)).length = A.length - (h + 1) := List.length_drop
 have hx0 := fa_at (l := p ++ A.take h) (r := A.drop (h + 1) ++ y :: r) (x := x)
 have hy0 := fa_at2 (l := p ++ A.take h) (m := A.drop (h + 1)) (r := r) (x := x) (y := y)
 rw [← hW, hBt, show a + h = hZ.toNat by omega] at hx0
 rw [← hW, hBt, hBd, show a + h + 1 + (A.length - (h + 1)) = m by omega] at hy0
 have hLn : ((p ++ A ++ [y] ++ r).map FA.cells).length = N := by rw [List.length_map, ← hN]
 obtain ⟨Z, hZe⟩ : ∃ Z, Z = (p ++ A ++ [y] ++ r).map FA.cells := ⟨_, rfl⟩
 have hSn := fas_norefs2 (p ++ A ++ [y] ++ r)
 rw [← hZe] at hx0 hy0 hLn hSn
 rw [FA.cells] at hx0 hy0
 have q := edge_is y x
 have hlt := edgeI_lt y x
 rw [FA.cells, FA.cells] at q
 generalize edgeI y x = eZ at q hlt
 have hBs := hA
 rw [hBe] at hBs
 obtain ⟨b1, b2, b3⟩ := List.pairwise_append.1 hBs
 have han : (m : Int).toNat = m := Int.toNat_natCast m
 rw [sM, ← hZe]
 refine EvC.k1D mixed ?_ (h1 := by simp only [go_sem, hx0, hy0, hLn, han] <;> rfl) (k1 := by simp; omega) (c1 := .ca q) (h2 := by simp only [go_sem, hlt] <;> rfl)
 cases hc : ltE y x with
 | false =>
   rw [hc] at hlt
   refine EvC.ct ?_ (by simp only [go_sem, hlt] <;> rfl)
   refine EvC.b ?_ (hok := by exact inI64_of (by omega) (by omega))
   refine ⟨[(0, 0)], (h + 1, j), rfl, (by rw [show ((a + (h + 1) : Nat) : Int) = hZ + 1 by omega, ← hjZ]; simp only [go_sem, hSn] <;> rfl), ⟨by omega, i2, fun z hz => ?_, i4⟩, by simp only; omega⟩
   have hxy : leE x y = true := by rw [leE, hc]; rfl
   simp only [htk] at hz
   rcases List.mem_append.1 hz with hz | hz
   ·exact leE_trans (b3 z hz x List.mem_cons_self) hxy
   ·rw [List.mem_singleton.1 hz]; exact hxy
 | true =>
   rw [hc] at hlt
   refine EvC.cf ?_ (by simp only [go_sem, hlt] <;> rfl)
   refine EvC.b ?_
   refine ⟨[(0, 0)], (i, h), rfl, (by rw [← hiZ, ← hhZ]; simp only [go_sem, hSn] <;> rfl), ⟨by omega, by omega, i3, fun z hz => ?_⟩, by simp only; omega⟩
   simp only [hdr] at hz
   rcases List.mem_cons.1 hz with rfl | hz
   ·exact hc
   ·exact le_lt hc ((List.pairwise_cons.1 b2).1 z hz)
def MergeOk (K : Nat) : Prop := ∀ (p A B r : List FA) (a m b N : Nat), a = p.length → m = a + A.length → b = m + B.length → A ≠ [] → B ≠ [] → SrtE A → SrtE B → N = (p ++ A ++ B ++ r).length → N < 1000000 → A.length + B.length ≤ K →
 BodyIs prog 92 [.tv 0 N 0 N (.val N), .sc (.int .i64 a), .sc (.int .i64 m), .sc (.int .i64 b), .fn 45 []] (sM (p ++ A ++ B ++ r)) 1 (fun _ M _ => M = sM (p ++ srtE (A ++ B) ++ r))
def CutL (A B : List FA) (i k : Nat) : Prop := ∀ x ∈ A.take i, ∀ y ∈ B.drop k, leE x y = true
def CutR (A B : List FA) (i k : Nat) : Prop := ∀ x ∈ A.drop i, ∀ y ∈ B.take k, ltE y x = true
theorem srt_take {l : List FA} (h : SrtE l) (i : Nat) : SrtE (l.take i) := List.Pairwise.sublist (List.take_sublist i l) h
theorem srt_drop {l : List FA} (h : SrtE l) (i : Nat) : SrtE (l.drop i) := List.Pairwise.sublist (List.drop_sublist i l) h
theorem srt_cut {l : List FA} (h : SrtE l) (i : Nat) : ∀ x ∈ l.take i, ∀ y ∈ l.drop i, leE x y = true := by
 have h2 := h
 rw [← List.take_append_drop i l] at h2
 exact (List.pairwise_append.1 h2).2.2
theorem cut_left {A B : List FA} (hA : SrtE A) (hB : SrtE B) {i k : Nat} (hi : i < A.length) (hk : k < B.length) (h : leE A[i] B[k] = true) : CutL A B (i + 1) k := by
 intro x hx y hy
 have h1 : leE x A[i] = true := by
  rw [List.take_succ_eq_append_getElem hi] at hx
  rcases List.mem_append.1 hx with hx | hx
  ·exact srt_cut hA i x hx _ (by rw [List.drop_eq_getElem_cons hi]; exact List.mem_cons_self)
  ·rw [List.mem_singleton.1 hx]; exact leE_refl _
 have h2 : leE B[k] y = true := by
  have hd := List.drop_eq_getElem_cons hk
  rw [hd] at hy
  rcases List.mem_cons.1 hy with rfl | hy
  ·exact leE_refl _
  ·have := srt_drop hB k
   rw [hd] at this
   exact (List.pairwise_cons.1 this).1 y hy
 exact leE_trans h1 (leE_trans h h2)
theorem cut_right {A B : List FA} (hA : SrtE A) (hB : SrtE B) {i k : Nat} (hi : i < A.length) (hk : k < B.length) (h : ltE B[k] A[i] = true) : CutR A B i (k + 1) := by
 intro x hx y hy
 have h1 : leE A[i] x = true := by
  have hd := List.drop_eq_getElem_cons hi
  rw [hd] at hx
  rcases List.mem_cons.1 hx with rfl | hx
  ·exact leE_refl _
  ·have := srt_drop hA i
   rw [hd] at this
   exact (List.pairwise_cons.1 this).1 x hx
 have h2 : leE y B[k] = true := by
  rw [List.take_succ_eq_append_getElem hk] at hy
  rcases List.mem_append.1 hy with hy | hy
  ·exact srt_cut hB k y hy _ (by rw [List.drop_eq_getElem_cons hk]; exact List.mem_cons_self)
  ·rw [List.mem_singleton.1 hy]; exact leE_refl _
 exact le_lt (lt_le h2 h) h1
set_option maxHeartbeats 8000000 in
theorem merge3_body (p A B r : List FA) (a m b N : Nat) (ha : a = p.length) (hm : m = a + A.length) (hb : b = m + B.length) (hA : SrtE A) (hB : SrtE B) (hA1 : 2 ≤ A.length) (hB1 : 2 ≤ B.length) (hN : N = (p ++ A ++ B ++ r).length) (hl : N < 1000000)
  (ih : MergeOk (A.length + B.length - 1)) :
  BodyIs prog 92 [.tv 0 N 0 N (.val N), .sc (.int .i64 a), .sc (.int .i64 m), .sc (.int .i64 b), .fn 45 []] (sM (p ++ A ++ B ++ r)) 1 (fun _ M _ => M = sM (p ++ srtE (A ++ B) ++ r)) := by
 have hNN : N = p.length + A.length + B.length + r.length := by rw [hN]; simp; omega
 refine BodyIs.of (nv := 5) (hid := [10, 11, 12, 13, 14, 15, 16, 17, 18, 19, 20, 21, 22, 23, 24, 28, 33, 50, 58, 80, 85, 103, 110, 140, 151, 171, 185, 199, 213, 186, 187, 188, 189, 190, 200, 201, 202, 203, 204, 214, 215, 216, 217, 218]) func92 rfl (by kernel_rfl) (by simp [ntmps92]) fun _ => ?_
 rw [ntmps92, results92]
 refine EvC.seq ?_
 have hI0 : inI64 ((m : Int) - a) = true := inI64_of (by omega) (by omega)
 have hI1 : inI64 ((b : Int) - m) = true := inI64_of (by omega) (by omega)
 refine EvC.a ?_ (hok := by simp [hI0])
 refine EvC.cs ?_ (by simp only [go_sem, decide_eq_false (show ¬ (m : Int) - a = 1 by omega)] <;> rfl)
 refine EvC.seq ?_
 refine EvC.a ?_ (hok := by simp [hI1])
 refine EvC.cs ?_ (by simp only [go_sem, decide_eq_false (show ¬ (b : Int) - m = 1 by omega)] <;> rfl)
 obtain ⟨mid, hmid⟩ : ∃ h, h = (a + b) / 2 := ⟨_, rfl⟩
 obtain ⟨n, hn⟩ : ∃ n, n = mid + m := ⟨_, rfl⟩
 obtain ⟨dZ, hdZ⟩ : ∃ z : Int, z = (mid : Int) := ⟨_, rfl⟩
 obtain ⟨nZ, hnZ⟩ : ∃ z : Int, z = (n : Int) := ⟨_, rfl⟩
 have hI2 : inI64 ((a : Int) + b) = true := inI64_of (by omega) (by omega)
 have hhalf : shiftOf .shr .u64 (IntKind.wrap .u64 ((a : Int) + b)) 1 = dZ := by rw [half_u (by omega) (by omega)]; omega
 have hI3 : inI64 dZ = true := inI64_of (by omega) (by omega)
 have hdm : dZ + (m : Int) = nZ := by omega
 have hI4 : inI64 nZ = true := inI64_of (by omega) (by omega)
 refine EvC.a ?_ (by simp only [go_sem, hhalf] <;> rfl) (by simp [hI2, hI3])
 refine EvC.a ?_ (by simp only [go_sem, hdm] <;> rfl) (by simp [hI4])
 refine EvC.a ?_
 refine EvC.mergeS (α := Nat × Nat) (fun g => ⟨[(0, .tv 0 N 0 N (.val N)), (1, .sc (.int .i64 a)), (2, .sc (.int .i64 m)), (3, .sc (.int .i64 b)), (4, .fn 45 []), (18, .sc (.int .i64 dZ)), (19, .sc (.int .i64 nZ)), (20, .sc (.int .i64 g.1)), (21, .sc (.int .i64 g.2))], [], sM (p ++ A ++ B ++ r), 1⟩)
  (fun g => a ≤ g.1 ∧ g.1 ≤ g.2 ∧ g.2 ≤ m ∧ m ≤ n - g.2 ∧ n - g.1 ≤ b ∧ (g.1 = a ∨ n - g.1 = b) ∧ (g.2 = m ∨ n - g.2 = m)) [0, 1, 2, 3, 4, 18, 19, 20, 21] 1 ?_ ?_
 ·refine EvC.a ?_
  by_cases hc : mid < m
  ·refine EvC.ct ?_ (by simp only [go_sem, decide_eq_true (show dZ < (m : Int) by omega)] <;> rfl)
   refine EvC.a ?_ (hok := by exact inI64_of (by omega) (by omega))
   refine EvC.b ?_
   exact ⟨rfl, [(0, 0)], (n - b, mid), rfl, (by rw [show ((n - b : Nat) : Int) = nZ - (b : Int) by omega]; simp only; rw [← hdZ]; simp only [go_sem, sM_fcs, fcs_norefs] <;> rfl), by simp only; omega⟩
  ·refine EvC.cf ?_ (by simp only [go_sem, decide_eq_false (show ¬ dZ < (m : Int) by omega)] <;> rfl)
   refine EvC.a ?_
   refine EvC.b ?_
   exact ⟨rfl, [(0, 0)], (a, m), rfl, (by simp only [go_sem, sM_fcs, fcs_norefs] <;> rfl), Nat.le_refl _, show a ≤ m by omega, Nat.le_refl _, show m ≤ n - m by omega, show n - a ≤ b by omega, .inl rfl, .inl rfl⟩
 rintro ⟨s0, r0⟩ ⟨g1, g2, g3, g4, g5, g6, g7⟩
 simp only at g1 g2 g3 g4 g5 g6 g7 ⊢
 obtain ⟨pZ, hpZ⟩ : ∃ z : Int, z = nZ - 1 := ⟨_, rfl⟩
 have hI5 : inI64 (nZ - 1) = true := inI64_of (by omega) (by omega)
 refine EvC.a ?_ (by simp only [go_sem, ← hpZ] <;> rfl) (by rw [hpZ]; simp [hI5])
 have cL0 : CutL A B (s0 - a) (n - s0 - m) := by
  intro x hx y hy
  rcases g6 with h | h
  ·rw [h, Nat.sub_self] at hx; simp at hx
  ·rw [h, List.drop_of_length_le (by omega)] at hy; cases hy
 have cR0 : CutR A B (r0 - a) (n - r0 - m) := by
  intro x hx y hy
  rcases g7 with h | h
  ·rw [h, List.drop_of_length_le (by omega)] at hx; cases hx
  ·rw [h, Nat.sub_self] at hy; simp at hy
 refine EvC.mergeS (α := Nat) (fun s => ⟨[(0, .tv 0 N 0 N (.val N)), (1, .sc (.int .i64 a)), (2, .sc (.int .i64 m)), (3, .sc (.int .i64 b)), (4, .fn 45 []), (18, .sc (.int .i64 dZ)), (19, .sc (.int .i64 nZ)), (20, .sc (.int .i64 s))], [], sM (p ++ A ++ B ++ r), 1⟩)
  (fun s => s0 ≤ s ∧ s ≤ r0 ∧ CutL A B (s - a) (n - s - m) ∧ CutR A B (s - a) (n - s - m)) [0, 1, 2, 3, 4, 18, 19, 20] 1 ?_ ?_
 ·refine EvC.block ?_
  refine EvC.loopS (σ := Nat × Nat) (fun g => ⟨[(0, .tv 0 N 0 N (.val N)), (1, .sc (.int .i64 a)), (2, .sc (.int .i64 m)), (3, .sc (.int .i64 b)), (4, .fn 45 []), (18, .sc (.int .i64 dZ)), (19, .sc (.int .i64 nZ)), (20, .sc (.int .i64 g.1)), (21, .sc (.int .i64 g.2)), (22, .sc (.int .i64 pZ))], [], sM (p ++ A ++ B ++ r), 1⟩) (fun g => g.2 - g.1)
   (fun g => s0 ≤ g.1 ∧ g.1 ≤ g.2 ∧ g.2 ≤ r0 ∧ CutL A B (g.1 - a) (n - g.1 - m) ∧ CutR A B (g.2 - a) (n - g.2 - m)) [0, 1, 2, 3, 4, 18, 19, 20, 21, 22] 1 ?_ ?_
  ·exact ⟨[(0, 0)], (s0, r0), rfl, (by simp only [go_sem, sM_fcs, fcs_norefs] <;> rfl), Nat.le_refl _, g2, Nat.le_refl _, cL0, cR0⟩
  rintro ⟨i, j⟩ ⟨i1, i2, i3, i4, i5⟩
  simp only at i1 i2 i3 i4 i5 ⊢
  obtain ⟨iZ, hiZ⟩ : ∃ z : Int, z = (i : Int) := ⟨_, rfl⟩
  obtain ⟨jZ, hjZ⟩ : ∃ z : Int, z = (j : Int) := ⟨_, rfl⟩
  rw [← hiZ, ← hjZ]
  refine EvC.seq ?_
  refine EvC.a ?_
  by_cases hij : i < j
  rotate_left
  ·refine EvC.cf ?_ (by simp only [go_sem, decide_eq_false (show ¬ iZ < jZ by omega)] <;> rfl)
   refine EvC.exit ?_
   obtain rfl : i = j := by omega
   exact ⟨rfl, [(0, 0)], i, rfl, (by rw [← hiZ]; simp only [go_sem, sM_fcs, fcs_norefs] <;> rfl), i1, i3, i4, i5⟩
  refine EvC.cr ?_ (by simp only [go_sem, decide_eq_true (show iZ < jZ by omega)] <;> rfl)
  refine EvC.block ?_
  have hJ2 : inI64 (iZ + jZ) = true := inI64_of (by omega) (by omega)
  obtain ⟨c, hh⟩ : ∃ h, h = (i + j) / 2 := ⟨_, rfl⟩
  obtain ⟨cZ, hcZ⟩ : ∃ z : Int, z = (c : Int) := ⟨_, rfl⟩
  have hhalf2 : shiftOf .shr .u64 (IntKind.wrap .u64 (iZ + jZ)) 1 = cZ := by rw [half_u (by omega) (by omega)]; omega
  have hJ3 : inI64 cZ = true := inI64_of (by omega) (by omega)
  refine EvC.a ?_ (by simp only [go_sem, hhalf2] <;> rfl) (by simp [hJ2, hJ3])
  have hJ4 : inI64 (pZ - cZ) = true := inI64_of (by omega) (by omega)
  have hca : c - a < A.length := by omega
  have hcb : n - 1 - c - m < B.length := by omega
  have hx0 : ((p ++ A ++ B ++ r).map FA.cells)[cZ.toNat]? = some (A[c - a]).cells := by
   rw [List.getElem?_map, show p ++ A ++ B ++ r = p ++ (A ++ (B ++ r)) by simp, List.getElem?_append_right (by omega), List.getElem?_append_left (by omega), show cZ.toNat - p.length = c - a by omega, List.getElem?_eq_getElem hca]; rfl
  have hy0 : ((p ++ A ++ B ++ r).map FA.cells)[(pZ - cZ).toNat]? = some (B[n - 1 - c - m]).cells := by
   rw [List.getElem?_map, show p ++ A ++ B ++ r = (p ++ A) ++ (B ++ r) by simp, List.getElem?_append_right (by simp; omega), List.getElem?_append_left (by simp; omega), show (pZ - cZ).toNat - (p ++ A).length = n - 1 - c - m by simp; omega, List.getElem?_eq_getElem hcb]; rfl
  have hLn : ((p ++ A ++ B ++ r).map FA.cells).length = N := by rw [List.length_map, ← hN]
  have hSn := fas_norefs2 (p ++ A ++ B ++ r)
  obtain ⟨Z, hZe⟩ : ∃ Z, Z = (p ++ A ++ B ++ r).map FA.cells := ⟨_, rfl⟩
  have hcl := cut_left hA hB hca hcb
  have hcr := cut_right hA hB hca hcb
  generalize A[c - a] = x at hx0 hcl hcr
  generalize B[n - 1 - c - m] = y at hy0 hcl hcr
  rw [← hZe] at hx0 hy0 hLn hSn
  rw [FA.cells] at hx0 hy0
  have q := edge_is y x
  have hlt := edgeI_lt y x
  rw [FA.cells, FA.cells] at q
  generalize edgeI y x = eZ at q hlt
  have hbd : 0 ≤ cZ ∧ cZ.toNat < N ∧ 0 ≤ pZ - cZ ∧ (pZ - cZ).toNat < N := by omega
  rw [sM, ← hZe]
  refine EvC.k1D mixed ?_ (h1 := by simp only [go_sem, hx0, hy0, hLn] <;> rfl) (k1 := by simp [hJ4]; omega) (c1 := .ca q) (h2 := by simp only [go_sem, hlt] <;> rfl)
  cases hc : ltE y x with
  | false =>
    rw [hc] at hlt
    refine EvC.ct ?_ (by simp only [go_sem, hlt] <;> rfl)
    refine EvC.b ?_ (hok := by exact inI64_of (by omega) (by omega))
    have hxy : leE x y = true := by rw [leE, hc]; rfl
    have hk := hcl hxy
    rw [show c - a + 1 = c + 1 - a by omega, show n - 1 - c - m = n - (c + 1) - m by omega] at hk
    exact ⟨[(0, 0)], (c + 1, j), rfl, (by rw [show ((c + 1 : Nat) : Int) = cZ + 1 by omega, ← hjZ]; simp only [go_sem, hSn] <;> rfl), ⟨by omega, by simp only; omega, i3, hk, i5⟩, by simp only; omega⟩
  | true =>
    rw [hc] at hlt
    refine EvC.cf ?_ (by simp only [go_sem, hlt] <;> rfl)
    refine EvC.b ?_
    have hk := hcr hc
    rw [show n - 1 - c - m + 1 = n - c - m by omega] at hk
    exact ⟨[(0, 0)], (i, c), rfl, (by rw [← hiZ, ← hcZ]; simp only [go_sem, hSn] <;> rfl), ⟨i1, by simp only; omega, by simp only; omega, i4, hk⟩, by simp only; omega⟩
 intro s ⟨k1, k2, k3, k4⟩
 obtain ⟨A1, hA1e⟩ : ∃ X, X = A.take (s - a) := ⟨_, rfl⟩
 obtain ⟨A2, hA2e⟩ : ∃ X, X = A.drop (s - a) := ⟨_, rfl⟩
 obtain ⟨B1, hB1e⟩ : ∃ X, X = B.take (n - s - m) := ⟨_, rfl⟩
 obtain ⟨B2, hB2e⟩ : ∃ X, X = B.drop (n - s - m) := ⟨_, rfl⟩
 have hAe : A = A1 ++ A2 := by rw [hA1e, hA2e, List.take_append_drop]
 have hBe : B = B1 ++ B2 := by rw [hB1e, hB2e, List.take_append_drop]
 have la1 : A1.length = s - a := by rw [hA1e, List.length_take]; omega
 have lb1 : B1.length = n - s - m := by rw [hB1e, List.length_take]; omega
 have la2 : A2.length = m - s := by rw [hA2e, List.length_drop]; omega
 have lb2 : B2.length = b - (n - s) := by rw [hB2e, List.length_drop]; omega
 have s1 : SrtE A1 := by rw [hA1e]; exact srt_take hA _
 have s2 : SrtE A2 := by rw [hA2e]; exact srt_drop hA _
 have s3 : SrtE B1 := by rw [hB1e]; exact srt_take hB _
 have s4 : SrtE B2 := by rw [hB2e]; exact srt_drop hB _
 have hsp : srtE (A ++ B) = srtE (A1 ++ B1) ++ srtE (A2 ++ B2) := by
  rw [hAe, hBe]
  refine srtE_split ?_ ?_ ?_ ?_
  ·rw [hA1e, hA2e]; exact srt_cut hA _
  ·rw [hB1e, hB2e]; exact srt_cut hB _
  ·rw [hA1e, hB2e]; exact k3
  ·intro x hx y hy
   rw [hB1e] at hx
   rw [hA2e] at hy
   exact k4 y hy x hx
 rw [hsp]
 have hM0 : p ++ A ++ B ++ r = p ++ A1 ++ A2 ++ B1 ++ (B2 ++ r) := by rw [hAe, hBe]; simp
 have hABl : (A1 ++ B1).length = mid - a := by rw [List.length_append]; omega
 have hAB2 : (A2 ++ B2).length = b - mid := by rw [List.length_append]; omega
 have lS1 : (srtE (A1 ++ B1)).length = mid - a := by rw [srtE_len, hABl]
 obtain ⟨sZ, hsZ⟩ : ∃ z : Int, z = (s : Int) := ⟨_, rfl⟩
 obtain ⟨e, he⟩ : ∃ e, e = n - s := ⟨_, rfl⟩
 obtain ⟨eZ, heZ⟩ : ∃ z : Int, z = (e : Int) := ⟨_, rfl⟩
 have hes : nZ - sZ = eZ := by omega
 have hI6 : inI64 eZ = true := inI64_of (by omega) (by omega)
 rw [hM0, ← hsZ]
 clear cL0 cR0 k3 k4 hA1e hA2e hB1e hB2e
 refine EvC.a ?_ (by simp only [go_sem, hes] <;> rfl) (by simp [hI6])
 refine EvC.mergeS (α := Unit) (fun _ => ⟨[(0, .tv 0 N 0 N (.val N)), (1, .sc (.int .i64 a)), (3, .sc (.int .i64 b)), (4, .fn 45 []), (18, .sc (.int .i64 dZ)), (20, .sc (.int .i64 sZ)), (24, .sc (.int .i64 eZ))], [], sM (p ++ (A1 ++ B1) ++ (A2 ++ B2) ++ r), 1⟩) (fun _ => True) [0, 1, 3, 4, 18, 20, 24] 1 ?_ ?_
 ·by_cases c1 : s < m
  rotate_left
  ·have hA20 : A2 = [] := List.eq_nil_of_length_eq_zero (by omega)
   refine EvC.g ?_ (h := by simp only [go_sem, decide_eq_false (show ¬ sZ < (m : Int) by omega)] <;> rfl)
   refine EvC.cs ?_
   exact ⟨rfl, [(0, 0)], (), rfl, (by rw [show p ++ (A1 ++ B1) ++ (A2 ++ B2) ++ r = p ++ A1 ++ A2 ++ B1 ++ (B2 ++ r) by rw [hA20]; simp]; simp only [go_sem, sM_fcs, fcs_norefs] <;> rfl), trivial⟩
  have d1 : decide (sZ < (m : Int)) = true := decide_eq_true (by omega)
  by_cases c2 : m < e
  rotate_left
  ·have hB10 : B1 = [] := List.eq_nil_of_length_eq_zero (by omega)
   refine EvC.g ?_ (h := by simp only [go_sem, d1, decide_eq_false (show ¬ (m : Int) < eZ by omega)] <;> rfl)
   refine EvC.cs ?_
   exact ⟨rfl, [(0, 0)], (), rfl, (by rw [show p ++ (A1 ++ B1) ++ (A2 ++ B2) ++ r = p ++ A1 ++ A2 ++ B1 ++ (B2 ++ r) by rw [hB10]; simp]; simp only [go_sem, sM_fcs, fcs_norefs] <;> rfl), trivial⟩
  refine EvC.g ?_ (h := by simp only [go_sem, d1, decide_eq_true (show (m : Int) < eZ by omega)] <;> rfl)
  refine EvC.ct ?_
  apply EvC.region
  apply XR.run
  ·simp only [go_sem] <;> rfl
  ·simp
  refine XR.gcTo ⟨[(0, .tv 0 N 0 N (.val N)), (1, .sc (.int .i64 a)), (3, .sc (.int .i64 b)), (4, .fn 45 []), (18, .sc (.int .i64 dZ)), (20, .sc (.int .i64 sZ)), (24, .sc (.int .i64 eZ)), (186, .tv 0 N 0 N (.val N)), (187, .sc (.int .i64 s)), (188, .sc (.int .i64 m)), (189, .sc (.int .i64 e)), (190, .fn 45 [])], [], sM (p ++ A1 ++ A2 ++ B1 ++ (B2 ++ r)), 1⟩ [0, 1, 3, 4, 18, 20, 24, 186, 187, 188, 189, 190] [(0, 0)] rfl (by rw [← hsZ, ← heZ]; simp only [go_sem, sM_fcs, fcs_norefs] <;> rfl) ?_
  apply XR.callI rfl rfl (by simp only [go_sem] <;> rfl) (by simp only [go_sem] <;> rfl) (by simp only [go_sem] <;> rfl)
  have hs := rotate_body (p ++ A1) A2 B1 (B2 ++ r) s m e N (by simp; omega) (by omega) (by omega) (fun h => by rw [h] at la2; simp at la2; omega) (fun h => by rw [h] at lb1; simp at lb1; omega) (by simp; omega) hl
  refine hs.mono fun _ M z h => ?_
  subst h
  refine XR.nil ?_
  exact ⟨rfl, [(0, 0)], (), rfl, (by rw [show p ++ (A1 ++ B1) ++ (A2 ++ B2) ++ r = p ++ A1 ++ B1 ++ A2 ++ (B2 ++ r) by simp]; simp only [go_sem, sM_fcs, fcs_norefs] <;> rfl), trivial⟩
 rintro ⟨⟩ -
 refine EvC.mergeS (α := Unit) (fun _ => ⟨[(0, .tv 0 N 0 N (.val N)), (3, .sc (.int .i64 b)), (4, .fn 45 []), (18, .sc (.int .i64 dZ)), (24, .sc (.int .i64 eZ))], [], sM (p ++ srtE (A1 ++ B1) ++ (A2 ++ B2) ++ r), 1⟩) (fun _ => True) [0, 3, 4, 18, 24] 1 ?_ ?_
 ·by_cases c1 : a < s
  rotate_left
  ·have hA10 : A1 = [] := List.eq_nil_of_length_eq_zero (by omega)
   have hid : srtE (A1 ++ B1) = A1 ++ B1 := by rw [hA10, List.nil_append]; exact srtE_id s3
   refine EvC.g ?_ (h := by simp only [go_sem, decide_eq_false (show ¬ (a : Int) < sZ by omega)] <;> rfl)
   refine EvC.cs ?_
   exact ⟨rfl, [(0, 0)], (), rfl, (by rw [hid]; simp only [go_sem, sM_fcs, fcs_norefs] <;> rfl), trivial⟩
  have d1 : decide ((a : Int) < sZ) = true := decide_eq_true (by omega)
  by_cases c2 : s < mid
  rotate_left
  ·have hB10 : B1 = [] := List.eq_nil_of_length_eq_zero (by omega)
   have hid : srtE (A1 ++ B1) = A1 ++ B1 := by rw [hB10, List.append_nil]; exact srtE_id s1
   refine EvC.g ?_ (h := by simp only [go_sem, d1, decide_eq_false (show ¬ sZ < dZ by omega)] <;> rfl)
   refine EvC.cs ?_
   exact ⟨rfl, [(0, 0)], (), rfl, (by rw [hid]; simp only [go_sem, sM_fcs, fcs_norefs] <;> rfl), trivial⟩
  refine EvC.g ?_ (h := by simp only [go_sem, d1, decide_eq_true (show sZ < dZ by omega)] <;> rfl)
  refine EvC.ct ?_
  apply EvC.region
  apply XR.run
  ·simp only [go_sem] <;> rfl
  ·simp
  refine XR.gcTo ⟨[(0, .tv 0 N 0 N (.val N)), (3, .sc (.int .i64 b)), (4, .fn 45 []), (18, .sc (.int .i64 dZ)), (24, .sc (.int .i64 eZ)), (200, .tv 0 N 0 N (.val N)), (201, .sc (.int .i64 a)), (202, .sc (.int .i64 s)), (203, .sc (.int .i64 mid)), (204, .fn 45 [])], [], sM (p ++ (A1 ++ B1) ++ (A2 ++ B2) ++ r), 1⟩ [0, 3, 4, 18, 24, 200, 201, 202, 203, 204] [(0, 0)] rfl (by rw [← hsZ, ← hdZ]; simp only [go_sem, sM_fcs, fcs_norefs] <;> rfl) ?_
  apply XR.callI rfl rfl (by simp only [go_sem] <;> rfl) (by simp only [go_sem] <;> rfl) (by simp only [go_sem] <;> rfl)
  have hs := ih p A1 B1 ((A2 ++ B2) ++ r) a s mid N ha (by omega) (by omega) (fun h => by rw [h] at la1; simp at la1; omega) (fun h => by rw [h] at lb1; simp at lb1; omega) s1 s3 (by simp; omega) hl (by omega)
  rw [show p ++ A1 ++ B1 ++ (A2 ++ B2 ++ r) = p ++ (A1 ++ B1) ++ (A2 ++ B2) ++ r by simp] at hs
  refine hs.mono fun _ M z h => ?_
  subst h
  refine XR.nil ?_
  exact ⟨rfl, [(0, 0)], (), rfl, (by rw [show p ++ srtE (A1 ++ B1) ++ (A2 ++ B2) ++ r = p ++ srtE (A1 ++ B1) ++ (A2 ++ B2 ++ r) by simp]; simp only [go_sem, sM_fcs, fcs_norefs] <;> rfl), trivial⟩
 rintro ⟨⟩ -
 have hend : p ++ (srtE (A1 ++ B1) ++ srtE (A2 ++ B2)) ++ r = (p ++ srtE (A1 ++ B1)) ++ srtE (A2 ++ B2) ++ r := by simp
 by_cases c1 : mid < e
 rotate_left
 ·have hA20 : A2 = [] := List.eq_nil_of_length_eq_zero (by omega)
  have hid : srtE (A2 ++ B2) = A2 ++ B2 := by rw [hA20, List.nil_append]; exact srtE_id s4
  refine EvC.g ?_ (h := by simp only [go_sem, decide_eq_false (show ¬ dZ < eZ by omega)] <;> rfl)
  refine EvC.cs ?_
  refine ⟨.inr rfl, _, rfl, ?_⟩
  rw [hend, hid]; rfl
 have d1 : decide (dZ < eZ) = true := decide_eq_true (by omega)
 by_cases c2 : e < b
 rotate_left
 ·have hB20 : B2 = [] := List.eq_nil_of_length_eq_zero (by omega)
  have hid : srtE (A2 ++ B2) = A2 ++ B2 := by rw [hB20, List.append_nil]; exact srtE_id s2
  refine EvC.g ?_ (h := by simp only [go_sem, d1, decide_eq_false (show ¬ eZ < (b : Int) by omega)] <;> rfl)
  refine EvC.cs ?_
  refine ⟨.inr rfl, _, rfl, ?_⟩
  rw [hend, hid]; rfl
 refine EvC.g ?_ (h := by simp only [go_sem, d1, decide_eq_true (show eZ < (b : Int) by omega)] <;> rfl)
 refine EvC.ct ?_
 apply EvC.region
 apply XR.run
 ·simp only [go_sem] <;> rfl
 ·simp
 refine XR.gcTo ⟨[(214, .tv 0 N 0 N (.val N)), (215, .sc (.int .i64 mid)), (216, .sc (.int .i64 e)), (217, .sc (.int .i64 b)), (218, .fn 45 [])], [], sM (p ++ srtE (A1 ++ B1) ++ (A2 ++ B2) ++ r), 1⟩ [214, 215, 216, 217, 218] [(0, 0)] rfl (by rw [← heZ, ← hdZ]; simp only [go_sem, sM_fcs, fcs_norefs] <;> rfl) ?_
 apply XR.callI rfl rfl (by simp only [go_sem] <;> rfl) (by simp only [go_sem] <;> rfl) (by simp only [go_sem] <;> rfl)
 have hs := ih (p ++ srtE (A1 ++ B1)) A2 B2 r mid e b N (by simp [lS1]; omega) (by omega) (by omega) (fun h => by rw [h] at la2; simp at la2; omega) (fun h => by rw [h] at lb2; simp at lb2; omega) s2 s4 (by simp [lS1]; omega) hl (by omega)
 rw [show p ++ srtE (A1 ++ B1) ++ A2 ++ B2 ++ r = p ++ srtE (A1 ++ B1) ++ (A2 ++ B2) ++ r by simp] at hs
 refine hs.mono fun _ M z h => ?_
 subst h
 refine XR.nil ?_
 refine ⟨.inr rfl, _, rfl, ?_⟩
 rw [hend]; rfl
theorem merge_ok : ∀ K, MergeOk K
 | 0 => fun p A B r a m b N _ _ _ hA0 _ _ _ _ _ hK => by
   have := List.length_pos_iff.2 hA0; omega
 | K + 1 => fun p A B r a m b N ha hm hb hA0 hB0 hA hB hN hl hK => by
   have h1 := List.length_pos_iff.2 hA0
   have h2 := List.length_pos_iff.2 hB0
   by_cases c1 : A.length = 1
   ·obtain ⟨x, rfl⟩ : ∃ x, A = [x] := by
      match A, c1 with
      | [x], _ => exact ⟨x, rfl⟩
    exact merge1_body p B r x a m b N ha hm hb hB hN hl
   by_cases c2 : B.length = 1
   ·obtain ⟨y, rfl⟩ : ∃ x, B = [x] := by
      match B, c2 with
      | [x], _ => exact ⟨x, rfl⟩
    exact merge2_body p A r y a m b N ha hm hb hA c1 hN hl
   exact merge3_body p A B r a m b N ha hm hb hA hB (by omega) (by omega) hN hl fun p' A' B' r' a' m' b' N' e1 e2 e3 e4 e5 e6 e7 e8 e9 e10 => merge_ok K p' A' B' r' a' m' b' N' e1 e2 e3 e4 e5 e6 e7 e8 e9 (by omega)
def bk (s : Nat) : Nat → List FA → List FA
 | 0, l => srtE l
 | k + 1, l => srtE (l.take s) ++ bk s k (l.drop s)
def bkL (s : Nat) (l : List FA) : List FA := bk s (l.length / s) l
theorem bkL_step {s : Nat} {l : List FA} (hs : 0 < s) (h : s ≤ l.length) : bkL s l = srtE (l.take s) ++ bkL s (l.drop s) := by
 have h1 : l.length / s = (l.length - s) / s + 1 := by
  conv => lhs; rw [show l.length = l.length - s + s by omega]
  exact Nat.add_div_right _ hs
 unfold bkL
 rw [h1, bk, List.length_drop]
theorem bkL_last {s : Nat} {l : List FA} (h : l.length < s) : bkL s l = srtE l := by
 unfold bkL
 rw [Nat.div_eq_of_lt h, bk]
theorem bkL_all {s : Nat} {l : List FA} (hs : 0 < s) (h : l.length ≤ s) : bkL s l = srtE l := by
 by_cases e : l.length = s
 ·rw [bkL_step hs (by omega), List.take_of_length_le (by omega), List.drop_of_length_le (by omega), bkL_last (by simpa using hs)]
  exact List.append_nil _
 ·exact bkL_last (by omega)
theorem bkL_len {s : Nat} (hs : 0 < s) : ∀ (K : Nat) (l : List FA), l.length ≤ K → (bkL s l).length = l.length
 | 0, l, h => by rw [bkL_last (by omega), srtE_len]
 | K + 1, l, h => by
   by_cases e : s ≤ l.length
   ·rw [bkL_step hs e, List.length_append, srtE_len, bkL_len hs K _ (by rw [List.length_drop]; omega), List.length_take, List.length_drop]; omega
   ·rw [bkL_last (by omega), srtE_len]
set_option maxHeartbeats 8000000 in
theorem stable_body (L : List FA) (N : Nat) (hN : N = L.length) (hl : N < 1000000) :
  BodyIs prog 78 [.tv 0 N 0 N (.val N), .sc (.int .i64 N), .fn 45 []] (sM L) 1 (fun _ M _ => M = sM (srtE L)) := by
 refine BodyIs.of (nv := 3) (hid := [6, 7, 8, 9, 13, 30, 35, 54, 14, 15, 16, 17, 23, 24, 25, 26, 36, 37, 40, 41, 42, 55, 56, 57, 58, 59]) func78 rfl (by kernel_rfl) (by simp [ntmps78]) fun _ => ?_
 rw [ntmps78, results78]
 refine EvC.a ?_
 refine EvC.a ?_
 refine EvC.seq ?_
 refine EvC.block ?_
 refine EvC.loopS (σ := List FA × List FA) (fun g => ⟨[(0, .tv 0 N 0 N (.val N)), (1, .sc (.int .i64 N)), (2, .fn 45 []), (6, .sc (.int .i64 20)), (7, .sc (.int .i64 g.1.length)), (8, .sc (.int .i64 ((g.1.length + 20 : Nat) : Int)))], [], sM (g.1 ++ g.2), 1⟩) (fun g => g.2.length) (fun g => g.1 ++ bkL 20 g.2 = bkL 20 L ∧ g.1.length + g.2.length = N) [0, 1, 2, 6, 7, 8] 1 ?_ ?_
 ·exact ⟨[(0, 0)], ([], L), rfl, (by rw [show [] ++ L = L from rfl]; simp only [go_sem, sM_fcs, fcs_norefs, List.length_nil, Int.natCast_zero, Nat.zero_add] <;> rfl), rfl, by simp [hN]⟩
 rintro ⟨P, l⟩ ⟨i1, i2⟩
 simp only at i1 i2 ⊢
 obtain ⟨aZ, haZ⟩ : ∃ z : Int, z = (P.length : Int) := ⟨_, rfl⟩
 obtain ⟨bZ, hbZ⟩ : ∃ z : Int, z = ((P.length + 20 : Nat) : Int) := ⟨_, rfl⟩
 rw [← haZ, ← hbZ]
 refine EvC.seq ?_
 refine EvC.a ?_
 by_cases c1 : 20 ≤ l.length
 ·refine EvC.cr ?_ (by simp only [go_sem, decide_eq_true (show bZ ≤ (N : Int) by omega)] <;> rfl)
  refine EvC.block ?_
  apply EvC.seq
  apply EvC.region
  apply XR.run
  ·simp only [go_sem] <;> rfl
  ·simp
  refine XR.gcTo ⟨[(0, .tv 0 N 0 N (.val N)), (1, .sc (.int .i64 N)), (2, .fn 45 []), (6, .sc (.int .i64 20)), (7, .sc (.int .i64 aZ)), (8, .sc (.int .i64 bZ)), (14, .tv 0 N 0 N (.val N)), (15, .sc (.int .i64 P.length)), (16, .sc (.int .i64 ((P.length + 20 : Nat) : Int))), (17, .fn 45 [])], [], sM (P ++ l), 1⟩ [0, 1, 2, 6, 7, 8, 14, 15, 16, 17] [(0, 0)] rfl (by rw [← haZ, ← hbZ]; simp only [go_sem, sM_fcs, fcs_norefs] <;> rfl) ?_
  apply XR.callI rfl rfl (by simp only [go_sem] <;> rfl) (by simp only [go_sem] <;> rfl) (by simp only [go_sem] <;> rfl)
  have hs := insert_body P (l.take 20) (l.drop 20) P.length (P.length + 20) N rfl (by rw [List.length_take]; omega) (by simp; omega) hl
  rw [show P ++ l.take 20 ++ l.drop 20 = P ++ l by rw [List.append_assoc, List.take_append_drop]] at hs
  refine hs.mono fun _ M z h => ?_
  subst h
  refine XR.nil ?_
  refine EvC.a ?_
  refine EvC.b ?_ (hok := by exact inI64_of (by omega) (by omega))
  have hPl : (P ++ srtE (l.take 20)).length = P.length + 20 := by rw [List.length_append, srtE_len, List.length_take]; omega
  refine ⟨[(0, 0)], (P ++ srtE (l.take 20), l.drop 20), rfl, ?_, ⟨by rw [← i1, bkL_step (by decide) c1]; simp, by simp only [hPl, List.length_drop]; omega⟩, by simp only [List.length_drop]; omega⟩
  simp only [hPl]
  rw [show ((P.length + 20 + 20 : Nat) : Int) = bZ + 20 by omega, show ((P.length + 20 : Nat) : Int) = bZ by omega]
  simp only [go_sem, sM_fcs, fcs_norefs] <;> rfl
 refine EvC.cf ?_ (by simp only [go_sem, decide_eq_false (show ¬ bZ ≤ (N : Int) by omega)] <;> rfl)
 refine EvC.exit ?_
 rw [bkL_last (by omega)] at i1
 apply EvC.seq
 apply EvC.region
 apply XR.run
 ·simp only [go_sem] <;> rfl
 ·simp
 refine XR.gcTo ⟨[(0, .tv 0 N 0 N (.val N)), (1, .sc (.int .i64 N)), (2, .fn 45 []), (6, .sc (.int .i64 20)), (23, .tv 0 N 0 N (.val N)), (24, .sc (.int .i64 P.length)), (25, .sc (.int .i64 N)), (26, .fn 45 [])], [], sM (P ++ l), 1⟩ [0, 1, 2, 6, 23, 24, 25, 26] [(0, 0)] rfl (by rw [← haZ]; simp only [go_sem, sM_fcs, fcs_norefs] <;> rfl) ?_
 apply XR.callI rfl rfl (by simp only [go_sem] <;> rfl) (by simp only [go_sem] <;> rfl) (by simp only [go_sem] <;> rfl)
 have hs := insert_body P l [] P.length N N rfl (by omega) (by simp; omega) hl
 rw [List.append_nil, List.append_nil, i1] at hs
 refine hs.mono fun _ M z h => ?_
 subst h
 refine XR.nil ?_
 clear i1 i2 hs haZ hbZ c1
 refine EvC.block ?_
 refine EvC.loopS (σ := Nat) (fun s => ⟨[(0, .tv 0 N 0 N (.val N)), (1, .sc (.int .i64 N)), (2, .fn 45 []), (6, .sc (.int .i64 s))], [], sM (bkL s L), 1⟩) (fun s => N - s) (fun s => 20 ≤ s) [0, 1, 2, 6] 1 ?_ ?_
 ·exact ⟨[(0, 0)], 20, rfl, (by simp only [go_sem, sM_fcs, fcs_norefs, show ((20 : Nat) : Int) = 20 from rfl] <;> rfl), Nat.le_refl _⟩
 intro s hs20
 refine EvC.seq ?_
 refine EvC.a ?_
 by_cases c2 : s < N
 rotate_left
 ·refine EvC.cf ?_ (by simp only [go_sem, decide_eq_false (show ¬ (s : Int) < N by omega)] <;> rfl)
  refine EvC.exit ?_
  refine ⟨.inr rfl, _, rfl, ?_⟩
  rw [← bkL_all (s := s) (l := L) (by omega) (by omega)]; rfl
 refine EvC.cr ?_ (by simp only [go_sem, decide_eq_true (show (s : Int) < N by omega)] <;> rfl)
 refine EvC.block ?_
 obtain ⟨sZ, hsZ⟩ : ∃ z : Int, z = (s : Int) := ⟨_, rfl⟩
 rw [← hsZ]
 have hI1 : inI64 (2 * sZ) = true := inI64_of (by omega) (by omega)
 refine EvC.a ?_ (hok := by simp [hI1])
 refine EvC.seq ?_
 refine EvC.block ?_
 refine EvC.loopS (σ := List FA × List FA) (fun g => ⟨[(0, .tv 0 N 0 N (.val N)), (1, .sc (.int .i64 N)), (2, .fn 45 []), (6, .sc (.int .i64 sZ)), (7, .sc (.int .i64 g.1.length)), (8, .sc (.int .i64 ((g.1.length + 2 * s : Nat) : Int)))], [], sM (g.1 ++ bkL s g.2), 1⟩) (fun g => g.2.length) (fun g => g.1 ++ bkL (2 * s) g.2 = bkL (2 * s) L ∧ g.1.length + g.2.length = N) [0, 1, 2, 6, 7, 8] 1 ?_ ?_
 ·exact ⟨[(0, 0)], ([], L), rfl, (by rw [show [] ++ bkL s L = bkL s L from rfl, show ((([] : List FA).length + 2 * s : Nat) : Int) = 2 * sZ by simp; omega]; simp only [go_sem, sM_fcs, fcs_norefs, List.length_nil, Int.natCast_zero] <;> rfl), rfl, by simp [hN]⟩
 rintro ⟨P, l⟩ ⟨i1, i2⟩
 simp only at i1 i2 ⊢
 obtain ⟨aZ, haZ⟩ : ∃ z : Int, z = (P.length : Int) := ⟨_, rfl⟩
 obtain ⟨bZ, hbZ⟩ : ∃ z : Int, z = ((P.length + 2 * s : Nat) : Int) := ⟨_, rfl⟩
 rw [← haZ, ← hbZ]
 refine EvC.seq ?_
 refine EvC.a ?_
 have hI2 : inI64 (aZ + sZ) = true := inI64_of (by omega) (by omega)
 by_cases c3 : 2 * s ≤ l.length
 ·refine EvC.cr ?_ (by simp only [go_sem, decide_eq_true (show bZ ≤ (N : Int) by omega)] <;> rfl)
  refine EvC.block ?_
  apply EvC.seq
  apply EvC.region
  apply XR.run
  ·simp only [go_sem] <;> rfl
  ·simp [hI2]
  refine XR.gcTo ⟨[(0, .tv 0 N 0 N (.val N)), (1, .sc (.int .i64 N)), (2, .fn 45 []), (6, .sc (.int .i64 sZ)), (7, .sc (.int .i64 aZ)), (8, .sc (.int .i64 bZ)), (36, .tv 0 N 0 N (.val N)), (37, .sc (.int .i64 P.length)), (40, .sc (.int .i64 ((P.length + s : Nat) : Int))), (41, .sc (.int .i64 ((P.length + 2 * s : Nat) : Int))), (42, .fn 45 [])], [], sM (P ++ bkL s l), 1⟩ [0, 1, 2, 6, 7, 8, 36, 37, 40, 41, 42] [(0, 0)] rfl (by rw [show ((P.length + s : Nat) : Int) = aZ + sZ by omega, ← haZ, ← hbZ]; simp only [go_sem, sM_fcs, fcs_norefs] <;> rfl) ?_
  apply XR.callI rfl rfl (by simp only [go_sem] <;> rfl) (by simp only [go_sem] <;> rfl) (by simp only [go_sem] <;> rfl)
  have e1 : bkL s l = srtE (l.take s) ++ (srtE ((l.drop s).take s) ++ bkL s ((l.drop s).drop s)) := by
   rw [bkL_step (by omega) (by omega), bkL_step (l := l.drop s) (by omega) (by rw [List.length_drop]; omega)]
  have e2 : srtE (srtE (l.take s) ++ srtE ((l.drop s).take s)) = srtE (l.take (2 * s)) := by
   rw [srtE_srtE_app, show 2 * s = s + s by omega, List.take_add]
  have hA : (srtE (l.take s)).length = s := by rw [srtE_len, List.length_take]; omega
  have hB : (srtE ((l.drop s).take s)).length = s := by rw [srtE_len, List.length_take, List.length_drop]; omega
  have hC : (bkL s ((l.drop s).drop s)).length = l.length - 2 * s := by rw [bkL_len (by omega) _ _ (Nat.le_refl _), List.length_drop, List.length_drop]; omega
  have hs := merge_ok (2 * s) P (srtE (l.take s)) (srtE ((l.drop s).take s)) (bkL s ((l.drop s).drop s)) P.length (P.length + s) (P.length + 2 * s) N rfl (by omega) (by omega) (fun h => by rw [h] at hA; simp at hA; omega) (fun h => by rw [h] at hB; simp at hB; omega) (srtE_srt _) (srtE_srt _) (by simp only [List.length_append, hA, hB, hC]; omega) hl (by omega)
  rw [e2, show P ++ srtE (l.take s) ++ srtE ((l.drop s).take s) ++ bkL s ((l.drop s).drop s) = P ++ bkL s l by rw [e1]; simp] at hs
  refine hs.mono fun _ M z h => ?_
  subst h
  refine XR.nil ?_
  refine EvC.a ?_
  refine EvC.b ?_ (hok := by rw [show inI64 (2 * sZ) = true from hI1]; simp; exact inI64_of (by omega) (by omega))
  have hPl : (P ++ srtE (l.take (2 * s))).length = P.length + 2 * s := by rw [List.length_append, srtE_len, List.length_take]; omega
  refine ⟨[(0, 0)], (P ++ srtE (l.take (2 * s)), l.drop (2 * s)), rfl, ?_, ⟨by rw [← i1, bkL_step (s := 2 * s) (by omega) c3]; simp, by simp only [hPl, List.length_drop]; omega⟩, by simp only [List.length_drop]; omega⟩
  simp only [hPl]
  rw [show ((P.length + 2 * s + 2 * s : Nat) : Int) = bZ + 2 * sZ by omega, show ((P.length + 2 * s : Nat) : Int) = bZ by omega, show (l.drop s).drop s = l.drop (2 * s) by rw [List.drop_drop]; congr 1; omega]
  simp only [go_sem, sM_fcs, fcs_norefs] <;> rfl
 refine EvC.cf ?_ (by simp only [go_sem, decide_eq_false (show ¬ bZ ≤ (N : Int) by omega)] <;> rfl)
 refine EvC.exit ?_
 rw [bkL_last (by omega)] at i1
 refine EvC.mergeS (α := Unit) (fun _ => ⟨[(0, .tv 0 N 0 N (.val N)), (1, .sc (.int .i64 N)), (2, .fn 45 []), (6, .sc (.int .i64 sZ))], [], sM (bkL (2 * s) L), 1⟩) (fun _ => True) [0, 1, 2, 6] 1 ?_ ?_
 ·refine EvC.a ?_ (hok := by simp [hI2])
  refine EvC.a ?_
  by_cases c4 : s < l.length
  rotate_left
  ·refine EvC.cs ?_ (by simp only [go_sem, decide_eq_false (show ¬ aZ + sZ < (N : Int) by omega)] <;> rfl)
   rw [bkL_all (by omega) (by omega), i1]
   exact ⟨rfl, [(0, 0)], (), rfl, (by simp only [go_sem, sM_fcs, fcs_norefs] <;> rfl), trivial⟩
  refine EvC.ct ?_ (by simp only [go_sem, decide_eq_true (show aZ + sZ < (N : Int) by omega)] <;> rfl)
  apply EvC.region
  apply XR.run
  ·simp only [go_sem] <;> rfl
  ·simp
  refine XR.gcTo ⟨[(0, .tv 0 N 0 N (.val N)), (1, .sc (.int .i64 N)), (2, .fn 45 []), (6, .sc (.int .i64 sZ)), (55, .tv 0 N 0 N (.val N)), (56, .sc (.int .i64 P.length)), (57, .sc (.int .i64 ((P.length + s : Nat) : Int))), (58, .sc (.int .i64 N)), (59, .fn 45 [])], [], sM (P ++ bkL s l), 1⟩ [0, 1, 2, 6, 55, 56, 57, 58, 59] [(0, 0)] rfl (by rw [show ((P.length + s : Nat) : Int) = aZ + sZ by omega, ← haZ]; simp only [go_sem, sM_fcs, fcs_norefs] <;> rfl) ?_
  apply XR.callI rfl rfl (by simp only [go_sem] <;> rfl) (by simp only [go_sem] <;> rfl) (by simp only [go_sem] <;> rfl)
  have e1 : bkL s l = srtE (l.take s) ++ srtE (l.drop s) := by
   rw [bkL_step (by omega) (by omega), bkL_all (l := l.drop s) (by omega) (by rw [List.length_drop]; omega)]
  have e2 : srtE (srtE (l.take s) ++ srtE (l.drop s)) = srtE l := by rw [srtE_srtE_app, List.take_append_drop]
  have hA : (srtE (l.take s)).length = s := by rw [srtE_len, List.length_take]; omega
  have hB : (srtE (l.drop s)).length = l.length - s := by rw [srtE_len, List.length_drop]
  have hs := merge_ok (2 * s) P (srtE (l.take s)) (srtE (l.drop s)) [] P.length (P.length + s) N N rfl (by omega) (by omega) (fun h => by rw [h] at hA; simp at hA; omega) (fun h => by rw [h] at hB; simp at hB; omega) (srtE_srt _) (srtE_srt _) (by simp only [List.length_append, hA, hB, List.length_nil]; omega) hl (by omega)
  rw [e2, List.append_nil, List.append_nil, i1, List.append_assoc, ← e1] at hs
  refine hs.mono fun _ M z h => ?_
  subst h
  refine XR.nil ?_
  exact ⟨rfl, [(0, 0)], (), rfl, (by simp only [go_sem, sM_fcs, fcs_norefs] <;> rfl), trivial⟩
 rintro ⟨⟩ -
 have hI3 : inI64 (sZ * 2) = true := inI64_of (by omega) (by omega)
 refine EvC.b ?_ (hok := by simp [hI3])
 exact ⟨[(0, 0)], 2 * s, rfl, (by rw [show ((2 * s : Nat) : Int) = sZ * 2 by omega]; simp only [go_sem, sM_fcs, fcs_norefs] <;> rfl), show 20 ≤ 2 * s by omega, show N - 2 * s < N - s by omega⟩
theorem sort_body (L : List FA) (N : Nat) (hN : N = L.length) (hl : N < 1000000) :
  BodyIs prog 47 [.tv 0 N 0 N (.val N), .fn 45 []] (sM L) 1 (fun _ M _ => M = sM (srtE L)) := by
 refine BodyIs.of (nv := 2) (hid := [4, 6, 7]) func47 rfl (by kernel_rfl) (by simp [ntmps47]) fun _ => ?_
 rw [ntmps47, results47]
 have hNf : (fcs L).length = N := by rw [fcs, List.length_map, hN]
 have hNt : (List.take N (fcs L)).length = N := by rw [List.length_take, hNf]; omega
 apply EvC.region
 apply XR.run
 ·simp only [go_sem, sM_fcs, hNf, hNt] <;> rfl
 ·simp
 refine XR.gcTo ⟨[(4, .tv 0 N 0 N (.val N)), (6, .sc (.int .i64 N)), (7, .fn 45 [])], [], sM L, 1⟩ [4, 6, 7] [(0, 0)] rfl (by simp only [go_sem, sM_fcs, fcs_norefs] <;> rfl) ?_
 apply XR.callI rfl rfl (by simp only [go_sem] <;> rfl) (by simp only [go_sem] <;> rfl) (by simp only [go_sem] <;> rfl)
 refine (stable_body L N hN hl).mono fun _ M z h => ?_
 subst h
 refine XR.nil ?_
 exact ⟨.inr rfl, _, rfl, rfl⟩
theorem clip72_clips : Clips prog 77 := fun a n c h hlt => by
 refine PureIs.of1 3 [2] func77 ntmps77 results77 fun _ => ?_
 refine EvC.a ?_
 refine EvC.a ?_ (by simp only [go_sem, Int.toNat_natCast] <;> rfl) (by simp; try omega)
 refine EvC.rz ?_
 simp only [go_sem]
def aM (L : List FA) (n : Nat) : Mem := [(0, .cells [.tl 1 n false]), (1, .arr 6 (L.map FA.cells) false), (2, .cells [.tv 1 n 0 n (.val n)]), (3, .cells [.sc (.int .i64 0)])]
def allB (m : Mach) (ks : List Int) (most : Int) (r : AV) (M : Mem) (_ : Nat) : Prop :=
 if allR m ks most ≠ 0 then r = .tu [.sl true [] .zer, .sc (.int .i64 (allR m ks most))]
 else if alF m ks = [] then r = .tu [.sl true [] .full, .sc (.int .i64 0)]
 else r = .tu [.tv 1 (alF m ks).length 0 (alF m ks).length (.val (alF m ks).length), .sc (.int .i64 0)] ∧ M = aM (alF m ks) (alF m ks).length
theorem allB_bad {m : Mach} {ks : List Int} {most : Int} {r : AV} {M : Mem} {z : Nat} (h : allR m ks most ≠ 0) (hr : r = .tu [.sl true [] .zer, .sc (.int .i64 (allR m ks most))]) : allB m ks most r M z := by
 unfold allB; rw [if_pos h]; exact hr
theorem allB_nil {m : Mach} {ks : List Int} {most : Int} {r : AV} {M : Mem} {z : Nat} (h : allR m ks most = 0) (hL : [] = alF m ks) (hr : r = .tu [.sl true [] .full, .sc (.int .i64 0)]) : allB m ks most r M z := by
 unfold allB; rw [if_neg (fun e => e h), if_pos hL.symm]; exact hr
theorem allB_some {m : Mach} {ks : List Int} {most : Int} {r : AV} {M : Mem} {z n : Nat} (h : allR m ks most = 0) (hL : alF m ks ≠ []) (hn : n = (alF m ks).length) (hr : r = .tu [.tv 1 n 0 n (.val n), .sc (.int .i64 0)]) (hM : M = aM (alF m ks) n) : allB m ks most r M z := by
 subst hn
 unfold allB; rw [if_neg (fun e => e h), if_neg hL]; exact ⟨hr, hM⟩
set_option maxHeartbeats 4000000 in
theorem allB_body (m : Mach) (hm : ∀ r ∈ m.rows, r.2.length < 1000000) (kn : Bool) (ks : List Int) (kc : Cp) (hks : ks.length < 1000) (most : Int) :
  BodyIs prog 46 [.ag m.cells, .sl kn (ks.map intC) kc, .sc (.int .i64 most)] [] 0 (allB m ks most) := by
 refine BodyIs.of (nv := 4) (hid := [5, 6, 7, 8, 9, 10, 16, 20, 21, 25]) func46 rfl (by kernel_rfl) (by simp [ntmps46]) fun _ => ?_
 rw [ntmps46, results46]
 refine EvC.a ?_ (by simp only [go_sem, Mach.cells] <;> rfl)
 refine EvC.z 0 ?_
 refine EvC.z 1 ?_
 refine EvC.seq ?_
 refine EvC.k1 ?_ (h1 := by simp only [go_sem, Mach.cells] <;> rfl) (c1 := .ca (ready_is m hm kn ks kc (by omega) most))
 by_cases h0 : readyR m ks most = 0
 rotate_left
 ·refine EvC.a ?_
  refine EvC.ct ?_ (by simp only [go_sem, decide_eq_false h0] <;> rfl)
  refine EvC.a ?_
  have hR : allR m ks most = readyR m ks most := by unfold allR; rw [if_pos h0]
  refine EvC.ret ⟨.inl rfl, _, (by simp only [go_sem] <;> rfl), ?_⟩
  exact allB_bad (by rw [hR]; exact h0) (by rw [hR]; rfl)
 obtain ⟨hc0, hm0, hm1, lst, hlst⟩ := readyR_ok h0
 have hv := Valid.of hc0
 have hR : allR m ks most = if most < (alF m ks).length then 13 else 0 := by unfold allR; rw [if_neg (fun h => h h0)]
 have hal := alF_len hv ks
 refine EvC.a ?_
 refine EvC.cs ?_ (by simp only [go_sem, decide_eq_true h0] <;> rfl)
 refine EvC.a ?_
 refine EvC.ownC 11 0 6 (by simp only [go_sem] <;> rfl) ?_
 refine EvC.thaw 12 (by simp only [go_sem] <;> rfl) ?_
 refine EvC.seq ?_
 refine EvC.k1 ?_ (h1 := by simp only [go_sem, Mach.cells] <;> rfl) (c1 := .ca (all_is m kn ks kc))
 refine EvC.gcTo ⟨[(5, .ia [.sc (.int .i64 most)]), (6, .rf 2 0), (7, .rf 3 0), (9, .rf 0 0), (20, .fn 88 [.ia [.sl kn (ks.map intC) kc], .ia m.cells])], [], [(0, .cells [.tl 1 0 true]), (1, .arr 6 [] false), (2, .cells [.sl true [] .zer]), (3, .cells [.sc (.int .i64 0)])], 4⟩ [5, 6, 7, 9, 20] [(11, 0), (12, 1), (2, 2), (3, 3)] rfl (by simp only [go_sem] <;> rfl) ?_
 refine EvC.block ?_
 have hpk : ∀ p ∈ (#[21] : Array Nat), p < 32 := by decide
 refine EvC.range rfl (fun _ => rfl) (gf := 88) (caps := [.ia [.sl kn (ks.map intC) kc], .ia m.cells]) (xs := (alF m ks).map faV) (σ := List FA) (by simp only [go_sem] <;> rfl) (by simp only [go_sem, Mach.cells]) (all1_seq hv kn ks kc (by omega)) (fun x hx => by obtain ⟨p, _, rfl⟩ := List.mem_map.1 hx; rfl) hpk (Nat.zero_le _)
  (fun _ L => [(0, .cells [.tl 1 L.length L.isEmpty]), (1, .arr 6 (L.map FA.cells) false), (2, .cells [.sl true [] .zer]), (3, .cells [.sc (.int .i64 0)])]) (fun j L => L = (alF m ks).take j ∧ j ≤ most) ⟨[], rfl, rfl, by omega⟩ ?_ ?_
 rotate_left
 ·rintro L ⟨rfl, hle⟩
  have hle : ((alF m ks).length : Int) ≤ most := by simpa using hle
  have e1 : (alF m ks).take ((alF m ks).map faV).length = alF m ks := List.take_of_length_le (by simp)
  have hR0 : allR m ks most = 0 := by rw [hR, if_neg (by omega)]
  rw [e1]
  obtain ⟨L, hL⟩ : ∃ L, L = alF m ks := ⟨_, rfl⟩
  rw [← hL] at hal ⊢
  cases L with
  | nil =>
    refine EvC.frz 1 (by simp only [go_sem, List.map_nil] <;> rfl) ?_
    refine EvC.k1 ?_ (h1 := by simp only [go_sem, List.map_nil] <;> rfl) (c1 := .ca (clipF_is _ _ _ (fa_six [])))
    refine EvC.ret ⟨.inl rfl, _, (by simp only [go_sem] <;> rfl), ?_⟩
    exact allB_nil hR0 hL rfl
  | cons x L =>
    have hL1 : alF m ks ≠ [] := by rw [← hL]; simp
    have hL2 : (x :: L).length = (alF m ks).length := by rw [hL]
    have hLl : ((x :: L).map FA.cells).length = (x :: L).length := List.length_map _
    have hLp : (x :: L).length ≠ 0 := by simp
    have hLn := fas_norefs2 (x :: L)
    rw [show (x :: L).isEmpty = false from rfl]
    have hZL : (x :: L).map FA.cells = (alF m ks).map FA.cells := by rw [hL]
    generalize (x :: L).map FA.cells = Z at hLl hLn hZL ⊢
    generalize (x :: L).length = n at hLl hLp hal hL2 ⊢
    apply EvC.seq
    apply EvC.tr
    ·apply Tr.run
     ·simp only [go_sem] <;> rfl
     ·simp
     apply Tr.cons
     ·exact .clip rfl rfl (by simp only [go_sem] <;> rfl) (by simp only [go_sem] <;> rfl) (by simp only [go_sem] <;> rfl) (by simp only [go_sem] <;> rfl) hLl.symm hLp (by omega) (by simp only [go_sem] <;> rfl) clip72_clips
     apply Tr.done
     ·simp only [go_sem] <;> rfl
     ·simp [hLl]
    refine EvC.ret ⟨.inl rfl, _, (by simp only [go_sem] <;> rfl), ?_⟩
    refine allB_some hR0 hL1 hL2 rfl ?_
    rw [aM, ← hZL]; rfl
 rintro j L lp hj ⟨rfl, hle⟩
 have hj' : j < (alF m ks).length := by simpa using hj
 have hget : ((alF m ks).map faV)[j] = faV (alF m ks)[j] := List.getElem_map _
 rw [hget]
 have htk : (alF m ks).take (j + 1) = (alF m ks).take j ++ [(alF m ks)[j]] := by rw [List.take_succ, List.getElem?_eq_getElem hj']; rfl
 have hlj : ((alF m ks).take j).length = j := by rw [List.length_take]; omega
 generalize (alF m ks)[j] = f at htk ⊢
 generalize (alF m ks).take j = L at htk hlj ⊢
 obtain ⟨a1, a2, a3, a4, a5, a6⟩ := f
 clear hget
 rw [faV, FA.cells]
 refine EvC.b ?_
 refine ⟨rfl, ?_⟩
 simp only []
 refine EvC.z 4 ?_
 refine EvC.block ?_
 refine EvC.seq ?_
 refine EvC.a ?_
 by_cases he : (L.length : Int) = most
 ·refine EvC.ct ?_ (by simp only [go_sem, decide_eq_true he] <;> rfl)
  have hR1 : allR m ks most = 13 := by rw [hR, if_pos (by omega)]
  refine EvC.a ?_
  refine EvC.ret ⟨Or.inl rfl, _, (by simp only [go_sem] <;> rfl), ?_⟩
  exact allB_bad (by rw [hR1]; decide) (by rw [hR1]; rfl)
 refine EvC.cs ?_ (by simp only [go_sem, decide_eq_false he] <;> rfl)
 have hsn : L.map FA.cells ++ [[.sc (.int .i64 a1), .sc (.int .i64 a2), .sc (.int .i64 a3), .sc (.int .i64 a4), .sc (.int .i64 a5), .sc (.int .i64 a6)]] = (L ++ [(⟨a1, a2, a3, a4, a5, a6⟩ : FA)]).map FA.cells := by simp [FA.cells]
 have hsl : L.length + 1 = (L ++ [(⟨a1, a2, a3, a4, a5, a6⟩ : FA)]).length := by simp
 have hse : (L ++ [(⟨a1, a2, a3, a4, a5, a6⟩ : FA)]).isEmpty = false := by simp
 have hr2 : room (L.length + 1) 48 = true := by simp only [room_eq, decide_eq_true_eq]; omega
 rw [hsl] at hr2
 generalize L ++ [(⟨a1, a2, a3, a4, a5, a6⟩ : FA)] = T at hsn hsl hse hr2 htk
 refine EvC.b ?_ (by simp only [go_sem, hsn, hsl, List.length_map] <;> rfl) (by simp [hr2])
 exact ⟨[(0, 0), (1, 1), (2, 2), (3, 3)], T, rfl, (by rw [hse]; simp only [go_sem] <;> rfl), htk.symm, by omega⟩
theorem insert_nil : BodyIs prog 91 [.sl true [] .full, .sc (.int .i64 0), .sc (.int .i64 0), .fn 45 []] [] 0 (fun _ M _ => M = []) := by
 refine BodyIs.of (nv := 4) (hid := [8, 9, 14, 34]) func91 rfl (by kernel_rfl) (by simp [ntmps91]) fun _ => ?_
 rw [ntmps91, results91]
 have hI : inI64 1 = true := inI64_of (by omega) (by omega)
 refine EvC.a ?_ (hok := by simp [hI])
 refine EvC.block ?_
 refine EvC.loopS (σ := Unit) (fun _ => ⟨[(2, .sc (.int .i64 0)), (8, .sc (.int .i64 1))], [], [], 0⟩) (fun _ => 0) (fun _ => True) [2, 8] 0 ?_ ?_
 ·exact ⟨[], (), rfl, (by simp only [go_sem] <;> rfl), trivial⟩
 intro _ _
 refine EvC.seq ?_
 refine EvC.a ?_
 refine EvC.cf ?_
 refine EvC.exit ?_
 exact ⟨.inr rfl, _, rfl, rfl⟩
theorem stable_nil : BodyIs prog 78 [.sl true [] .full, .sc (.int .i64 0), .fn 45 []] [] 0 (fun _ M _ => M = []) := by
 refine BodyIs.of (nv := 3) (hid := [6, 7, 8, 9, 13, 30, 35, 54, 23, 24, 25, 26]) func78 rfl (by kernel_rfl) (by simp [ntmps78]) fun _ => ?_
 rw [ntmps78, results78]
 refine EvC.a ?_
 refine EvC.a ?_
 refine EvC.seq ?_
 refine EvC.block ?_
 refine EvC.loopS (σ := Unit) (fun _ => ⟨[(0, .sl true [] .full), (1, .sc (.int .i64 0)), (2, .fn 45 []), (6, .sc (.int .i64 20)), (7, .sc (.int .i64 0)), (8, .sc (.int .i64 20))], [], [], 0⟩) (fun _ => 0) (fun _ => True) [0, 1, 2, 6, 7, 8] 0 ?_ ?_
 ·exact ⟨[], (), rfl, (by simp only [go_sem] <;> rfl), trivial⟩
 intro _ _
 refine EvC.seq ?_
 refine EvC.a ?_
 refine EvC.cf ?_
 refine EvC.exit ?_
 apply EvC.seq
 apply EvC.region
 apply XR.run
 ·simp only [go_sem] <;> rfl
 ·simp [Mach.cells]
 refine XR.gcTo ⟨[(1, .sc (.int .i64 0)), (6, .sc (.int .i64 20)), (23, .sl true [] .full), (24, .sc (.int .i64 0)), (25, .sc (.int .i64 0)), (26, .fn 45 [])], [], [], 0⟩ [1, 6, 23, 24, 25, 26] [] rfl (by simp only [go_sem] <;> rfl) ?_
 apply XR.callI rfl rfl (by simp only [go_sem] <;> rfl) (by simp only [go_sem] <;> rfl) (by simp only [go_sem] <;> rfl)
 refine insert_nil.mono fun _ M z h => ?_
 subst h
 refine XR.nil ?_
 refine EvC.block ?_
 refine EvC.loopS (σ := Unit) (fun _ => ⟨[(1, .sc (.int .i64 0)), (6, .sc (.int .i64 20))], [], [], 0⟩) (fun _ => 0) (fun _ => True) [1, 6] 0 ?_ ?_
 ·exact ⟨[], (), rfl, (by simp only [go_sem] <;> rfl), trivial⟩
 intro _ _
 refine EvC.seq ?_
 refine EvC.a ?_
 refine EvC.cf ?_
 refine EvC.exit ?_
 exact ⟨.inr rfl, _, rfl, rfl⟩
theorem sort_nil : BodyIs prog 47 [.sl true [] .full, .fn 45 []] [] 0 (fun _ M _ => M = []) := by
 refine BodyIs.of (nv := 2) (hid := [4, 6, 7]) func47 rfl (by kernel_rfl) (by simp [ntmps47]) fun _ => ?_
 rw [ntmps47, results47]
 apply EvC.region
 apply XR.run
 ·simp only [go_sem] <;> rfl
 ·simp
 refine XR.gcTo ⟨[(4, .sl true [] .full), (6, .sc (.int .i64 0)), (7, .fn 45 [])], [], [], 0⟩ [4, 6, 7] [] rfl (by simp only [go_sem] <;> rfl) ?_
 apply XR.callI rfl rfl (by simp only [go_sem] <;> rfl) (by simp only [go_sem] <;> rfl) (by simp only [go_sem] <;> rfl)
 refine stable_nil.mono fun _ M z h => ?_
 subst h
 refine XR.nil ?_
 exact ⟨.inr rfl, _, rfl, rfl⟩
def prC (p : FA × FA) : List AV := p.1.cells ++ p.2.cells
def prsOf (f : FA) (l : List FA) : List (FA × FA) := (l.filter fun g => !decide (edgeI f g = 0)).map fun g => (f, g)
def prs : List FA → List (FA × FA)
 | [] => []
 | f :: l => prsOf f l ++ prs l
def pairsE (m : Mach) (ks : List Int) (most : Int) : Int :=
 if checkM m ≠ 0 then checkM m
 else if most < 0 ∨ 65536 < most ∨ (∃ k, ks.getLast? = some k ∧ 2 < k) then 1
 else if allR m ks 65536 ≠ 0 then allR m ks 65536
 else if most < (prs (srtE (alF m ks))).length then 13 else 0
def pairsA (m : Mach) (ks : List Int) (most : Int) : AV :=
 if pairsE m ks most ≠ 0 then .tu [.sl true [] .unk, .sc (.int .i64 (pairsE m ks most))]
 else .tu [.sl (prs (srtE (alF m ks))).isEmpty ((prs (srtE (alF m ks))).map prC) .full, .sc (.int .i64 0)]
theorem clipP_is (nl : Bool) (es : List (List AV)) (c : Cp) (h : (es.all fun y => decide (y.length = 12)) = true) : PureIs prog 48 [.sl nl es c] (.sl nl es .full) := by
 refine PureIs.of1 3 [] func48 ntmps48 results48 fun _ => ?_
 refine EvC.seq (EvC.rg (by simp only [go_sem] <;> rfl) rfl ?_)
 refine EvC.a ?_ (hok := by simp [h])
 refine EvC.ret ⟨.inl rfl, _, (by simp only [go_sem] <;> rfl), rfl, rfl⟩
theorem pairs_norefs (l : List (FA × FA)) : (l.map prC).all AV.norefs = true := by
 rw [List.all_eq_true]
 intro c hc
 obtain ⟨f, _, rfl⟩ := List.mem_map.1 hc
 rfl
theorem pair_twelve (l : List (FA × FA)) : ((l.map prC).all fun y => decide (y.length = 12)) = true := by simp [List.all_eq_true, prC, FA.cells]
set_option maxHeartbeats 8000000 in
theorem pairs_is (m : Mach) (hm : ∀ r ∈ m.rows, r.2.length < 1000000) (kn : Bool) (ks : List Int) (kc : Cp) (hks : ks.length < 1000) (most : Int) :
  PureIs prog 25 [.ag m.cells, .sl kn (ks.map intC) kc, .sc (.int .i64 most)] (pairsA m ks most) := by
 refine PureIs.of1 4 [6, 7, 8, 9, 10, 11, 12, 13, 15, 19, 40, 48, 52, 53, 54, 55, 62, 63, 64, 65, 71, 75, 41, 42, 43, 50] func25 ntmps25 results25 fun _ => ?_
 refine EvC.a ?_ (by simp only [go_sem, Mach.cells] <;> rfl)
 refine EvC.z 0 ?_
 refine EvC.seq ?_
 refine EvC.k1 ?_ (h1 := by simp only [go_sem, Mach.cells] <;> rfl) (c1 := .ca (check_is m hm))
 refine EvC.a ?_
 unfold pairsA
 by_cases h0 : checkM m = 0
 rotate_left
 ·have hR : pairsE m ks most = checkM m := by unfold pairsE; rw [if_pos h0]
  refine EvC.ct ?_ (by simp only [go_sem, decide_eq_false h0] <;> rfl)
  rw [hR, if_pos h0]
  refine EvC.a ?_
  refine EvC.rz ?_
  simp only [go_sem]
 refine EvC.cs ?_ (by simp only [go_sem, decide_eq_true h0] <;> rfl)
 obtain ⟨bad, hbad⟩ : ∃ b : Prop, b = (most < 0 ∨ 65536 < most ∨ ∃ k, ks.getLast? = some k ∧ 2 < k) := ⟨_, rfl⟩
 have hbd : Decidable bad := Classical.propDecidable bad
 obtain ⟨bB, hbB⟩ : ∃ b : Bool, b = decide bad := ⟨_, rfl⟩
 refine EvC.seq ?_
 refine EvC.mergeS (α := Unit) (fun _ => ⟨[(1, .sl kn (ks.map intC) kc), (2, .sc (.int .i64 most)), (3, .ia m.cells), (40, .sc (.bool bB))], [], [], 0⟩) (fun _ => True) [1, 2, 3, 40] 0 ?_ ?_
 ·rcases List.eq_nil_or_concat ks with rfl | ⟨ks', k, hk⟩
  ·by_cases c1 : most < 0
   ·have hv : bB = true := by rw [hbB]; exact decide_eq_true (by rw [hbad]; exact .inl c1)
    apply EvC.tr
    ·apply Tr.run
     ·simp only [go_sem, decide_eq_true c1, List.map_nil, List.length_nil, Int.natCast_zero] <;> rfl
     ·simp
     apply Tr.cons
     ·exact .skipv (.ia [.sc (.int .i64 0)]) rfl rfl (by simp only [go_sem] <;> rfl) (by simp only [go_sem] <;> rfl)
     apply Tr.done
     ·simp only [go_sem, decide_eq_true c1] <;> rfl
     ·simp
    exact ⟨rfl, [], (), rfl, (by rw [hv]; simp only [go_sem, Mach.cells] <;> rfl), trivial⟩
   by_cases c2 : 65536 < most
   ·have hv : bB = true := by rw [hbB]; exact decide_eq_true (by rw [hbad]; exact .inr (.inl c2))
    apply EvC.tr
    ·apply Tr.run
     ·simp only [go_sem, decide_eq_false c1, decide_eq_true c2, List.map_nil, List.length_nil, Int.natCast_zero] <;> rfl
     ·simp
     apply Tr.cons
     ·exact .skipv (.ia [.sc (.int .i64 0)]) rfl rfl (by simp only [go_sem] <;> rfl) (by simp only [go_sem] <;> rfl)
     apply Tr.done
     ·simp only [go_sem, decide_eq_false c1] <;> rfl
     ·simp
    exact ⟨rfl, [], (), rfl, (by rw [hv]; simp only [go_sem, Mach.cells] <;> rfl), trivial⟩
   have hv : bB = false := by rw [hbB]; exact decide_eq_false (by rw [hbad]; simp [c1, c2])
   apply EvC.tr
   ·apply Tr.run
    ·simp only [go_sem, decide_eq_false c1, decide_eq_false c2, List.map_nil, List.length_nil, Int.natCast_zero] <;> rfl
    ·simp
    apply Tr.cons
    ·exact .skipv (.ia [.sc (.int .i64 0)]) rfl rfl (by simp only [go_sem] <;> rfl) (by simp only [go_sem] <;> rfl)
    apply Tr.done
    ·simp only [go_sem, decide_eq_false c1] <;> rfl
    ·simp
   exact ⟨rfl, [], (), rfl, (by rw [hv]; simp only [go_sem, Mach.cells] <;> rfl), trivial⟩
  ·rw [List.concat_eq_append] at hk
   have hl : (ks.map intC).length = ks'.length + 1 := by rw [hk]; simp
   have hg : (ks.map intC)[(((ks'.length : Int) + 1) - 1).toNat]? = some [.sc (.int .i64 k)] := by
    rw [hk, show (((ks'.length : Int) + 1) - 1).toNat = ks'.length by omega, List.getElem?_map, List.getElem?_append_right (Nat.le_refl _), Nat.sub_self]; rfl
   have hlast : ks.getLast? = some k := by rw [hk]; simp
   have hp : decide ((0 : Int) < (ks'.length : Int) + 1) = true := decide_eq_true (by omega)
   have hI : inI64 ((ks'.length : Int) + 1 - 1) = true := inI64_of (by omega) (by rw [hk] at hks; simp at hks; omega)
   have hI2 : inI64 (ks'.length : Int) = true := inI64_of (by omega) (by rw [hk] at hks; simp at hks; omega)
   have hr : (((ks'.length : Int) + 1) - 1).toNat < ks'.length + 1 := by omega
   by_cases c1 : most < 0
   ·have hv : bB = true := by rw [hbB]; exact decide_eq_true (by rw [hbad]; exact .inl c1)
    refine EvC.gL ?_ (h := by simp only [go_sem, decide_eq_true c1, hl, hg, hp, Int.natCast_add, Int.natCast_one] <;> rfl)
    exact ⟨rfl, [], (), rfl, (by rw [hv]; simp only [go_sem, Mach.cells] <;> rfl), trivial⟩
   by_cases c2 : 65536 < most
   ·have hv : bB = true := by rw [hbB]; exact decide_eq_true (by rw [hbad]; exact .inr (.inl c2))
    refine EvC.gL ?_ (h := by simp only [go_sem, decide_eq_false c1, decide_eq_true c2, hl, hg, hp, Int.natCast_add, Int.natCast_one] <;> rfl)
    exact ⟨rfl, [], (), rfl, (by rw [hv]; simp only [go_sem, Mach.cells] <;> rfl), trivial⟩
   by_cases c3 : 2 < k
   ·have hv : bB = true := by rw [hbB]; exact decide_eq_true (by rw [hbad]; exact .inr (.inr ⟨k, hlast, c3⟩))
    refine EvC.gL ?_ (h := by simp only [go_sem, decide_eq_false c1, decide_eq_false c2, decide_eq_true c3, hl, hg, hp, Int.natCast_add, Int.natCast_one] <;> rfl) (hok := by simp [hI, hI2])
    exact ⟨rfl, [], (), rfl, (by rw [hv]; simp only [go_sem, Mach.cells] <;> rfl), trivial⟩
   have hv : bB = false := by rw [hbB]; exact decide_eq_false (by rw [hbad, hlast]; simp [c1, c2, c3])
   refine EvC.gL ?_ (h := by simp only [go_sem, decide_eq_false c1, decide_eq_false c2, decide_eq_false c3, hl, hg, hp, Int.natCast_add, Int.natCast_one] <;> rfl) (hok := by simp [hI, hI2])
   exact ⟨rfl, [], (), rfl, (by rw [hv]; simp only [go_sem, Mach.cells] <;> rfl), trivial⟩
 rintro ⟨⟩ -
 by_cases hb0 : bad
 ·have hv : bB = true := by rw [hbB]; exact decide_eq_true hb0
  have hR : pairsE m ks most = 1 := by unfold pairsE; rw [if_neg (fun h => h h0), if_pos (by rw [hbad] at hb0; exact hb0)]
  rw [hv, hR, if_pos (show (1 : Int) ≠ 0 by decide)]
  refine EvC.ct ?_
  refine EvC.a ?_
  refine EvC.rz ?_
  simp only [go_sem]
 have hv : bB = false := by rw [hbB]; exact decide_eq_false hb0
 rw [hv]
 refine EvC.cs ?_
 apply EvC.seq
 apply EvC.region
 apply XR.run
 ·simp only [go_sem] <;> rfl
 ·simp [Mach.cells]
 refine XR.gcTo ⟨[(2, .sc (.int .i64 most)), (42, .ag m.cells), (43, .sl kn (ks.map intC) kc)], [], [], 0⟩ [2, 42, 43] [] rfl (by simp only [go_sem, Mach.cells] <;> rfl) ?_
 apply XR.callI rfl rfl (by simp only [go_sem] <;> rfl) (by simp only [go_sem] <;> rfl) (by simp only [go_sem] <;> rfl)
 refine (allB_body m hm kn ks kc hks 65536).mono fun r M z h => ?_
 have hbase : pairsE m ks most = if allR m ks 65536 ≠ 0 then allR m ks 65536 else if most < (prs (srtE (alF m ks))).length then 13 else 0 := by
  unfold pairsE
  rw [if_neg (fun h => h h0), if_neg (by rw [hbad] at hb0; exact hb0)]
 unfold allB at h
 by_cases hA : allR m ks 65536 = 0
 rotate_left
 ·rw [if_pos hA] at h
  rw [if_pos hA] at hbase
  subst h
  apply XR.done
  ·simp only [go_sem] <;> rfl
  ·simp
  refine EvC.gcTo ⟨[(9, .sl true [] .zer), (10, .sc (.int .i64 (allR m ks 65536)))], [], [], 0⟩ [9, 10] [] rfl (by simp only [go_sem] <;> rfl) ?_
  refine EvC.seq ?_
  refine EvC.a ?_
  refine EvC.ct ?_ (by simp only [go_sem, decide_eq_false hA] <;> rfl)
  rw [hbase, if_pos hA]
  refine EvC.a ?_
  refine EvC.rz ?_
  simp only [go_sem]
 rw [if_neg (fun e => e hA)] at h hbase
 by_cases hL : alF m ks = []
 ·rw [if_pos hL] at h
  subst h
  have hprs : prs (srtE (alF m ks)) = [] := by rw [hL]; rfl
  have hm0 : 0 ≤ most := by
   rw [hbad] at hb0
   omega
  rw [hprs] at hbase ⊢
  rw [if_neg (by simp; omega)] at hbase
  rw [hbase]
  apply XR.done
  ·simp only [go_sem] <;> rfl
  ·simp
  refine EvC.gcTo ⟨[(2, .sc (.int .i64 most)), (9, .sl true [] .full), (10, .sc (.int .i64 0))], [], [], 0⟩ [2, 9, 10] [] rfl (by simp only [go_sem] <;> rfl) ?_
  refine EvC.seq ?_
  refine EvC.a ?_
  refine EvC.cs ?_
  apply EvC.seq
  apply EvC.region
  apply XR.run
  ·simp only [go_sem] <;> rfl
  ·simp
  refine XR.gcTo ⟨[(9, .sl true [] .full), (50, .sl true [] .full)], [], [], 0⟩ [9, 50] [] rfl (by simp only [go_sem] <;> rfl) ?_
  apply XR.callI rfl rfl (by simp only [go_sem] <;> rfl) (by simp only [go_sem] <;> rfl) (by simp only [go_sem] <;> rfl)
  refine sort_nil.mono fun _ M z h => ?_
  subst h
  refine XR.nil ?_
  refine EvC.gcTo ⟨[(9, .sl true [] .full)], [], [], 0⟩ [9] [] rfl (by simp only [go_sem] <;> rfl) ?_
  refine EvC.a ?_
  refine EvC.frz 0 (by simp only [go_sem] <;> rfl) ?_
  refine EvC.seq ?_
  refine EvC.a ?_
  refine EvC.block ?_
  refine EvC.loopS (σ := Unit) (fun _ => ⟨[(11, .sl true [] .unk), (53, .sc (.int .i64 0)), (54, .sc (.int .i64 0))], [], [], 0⟩) (fun _ => 0) (fun _ => True) [11, 53, 54] 0 ?_ ?_
  ·exact ⟨[], (), rfl, (by simp only [go_sem] <;> rfl), trivial⟩
  intro _ _
  refine EvC.a ?_
  refine EvC.seq ?_
  refine EvC.cf ?_
  refine EvC.exit ?_
  refine EvC.k1 ?_ (c1 := .ca (clipP_is true [] .unk rfl))
  refine EvC.rz ?_
  simp only [go_sem]
  rw [if_neg (show ¬ (0 : Int) ≠ 0 from fun h => h rfl)]
 rw [if_neg hL] at h
 obtain ⟨rfl, rfl⟩ := h
 have hv0 := (readyR_ok (show readyR m ks 65536 = 0 by
  unfold allR at hA
  split at hA
  ·rename_i e; exact absurd hA e
  ·rename_i e; exact Classical.not_not.1 e))
 have hal : ((alF m ks).length : Int) ≤ 65536 := by
  unfold allR at hA
  split at hA
  ·rename_i e; exact absurd hA e
  ·split at hA
   ·cases hA
   ·omega
 obtain ⟨S, hS⟩ : ∃ S, S = srtE (alF m ks) := ⟨_, rfl⟩
 obtain ⟨n, hn⟩ : ∃ n, n = (alF m ks).length := ⟨_, rfl⟩
 have hSl : S.length = n := by rw [hS, srtE_len, hn]
 have hm0 : 0 ≤ most ∧ most ≤ 65536 := by
  rw [hbad] at hb0
  omega
 rw [← hS] at hbase ⊢
 rw [← hn] at hal ⊢
 apply XR.done
 ·simp only [go_sem] <;> rfl
 ·simp
 refine EvC.gcTo ⟨[(2, .sc (.int .i64 most)), (9, .tv 0 n 0 n (.val n)), (10, .sc (.int .i64 0))], [], sM (alF m ks), 1⟩ [2, 9, 10] [(1, 0)] rfl (by simp only [go_sem, aM, sM_fcs, fas_norefs2, show (alF m ks).map FA.cells = fcs (alF m ks) from rfl, fcs_norefs] <;> rfl) ?_
 refine EvC.seq ?_
 refine EvC.a ?_
 refine EvC.cs ?_
 apply EvC.seq
 apply EvC.region
 apply XR.run
 ·simp only [go_sem] <;> rfl
 ·simp
 refine XR.gcTo ⟨[(2, .sc (.int .i64 most)), (9, .tv 0 n 0 n (.val n)), (50, .tv 0 n 0 n (.val n))], [], sM (alF m ks), 1⟩ [2, 9, 50] [(0, 0)] rfl (by simp only [go_sem, sM_fcs, fcs_norefs] <;> rfl) ?_
 apply XR.callI rfl rfl (by simp only [go_sem] <;> rfl) (by simp only [go_sem] <;> rfl) (by simp only [go_sem] <;> rfl)
 refine (sort_body (alF m ks) n hn (by omega)).mono fun _ M z h => ?_
 subst h
 rw [← hS]
 refine XR.nil ?_
 have hFl : (fcs S).length = n := by rw [fcs, List.length_map, hSl]
 have hFn := fcs_norefs S
 have hFt : List.take n (fcs S) = fcs S := List.take_of_length_le (by omega)
 refine EvC.gcTo ⟨[(2, .sc (.int .i64 most)), (9, .tv 0 n 0 n (.val n))], [], sM S, 1⟩ [2, 9] [(0, 0)] rfl (by simp only [go_sem, sM_fcs, fcs_norefs] <;> rfl) ?_
 refine EvC.frz 0 (by simp only [go_sem, sM_fcs, hFl, hFn, hFt] <;> rfl) ?_
 refine EvC.gcTo ⟨[(2, .sc (.int .i64 most)), (9, .sl false (fcs S) .full)], [], [], 0⟩ [2, 9] [] rfl (by simp only [go_sem] <;> rfl) ?_
 have hFg : ∀ (i : Nat) (f : FA), S[i]? = some f → (fcs S)[i]? = some f.cells := fun i f h => by rw [fcs, List.getElem?_map, h]; rfl
 have hFs : (fcs S).all (fun c => decide (c.length = 6)) = true := fa_six S
 refine EvC.a ?_
 refine EvC.seq ?_
 refine EvC.a ?_ (by simp only [go_sem, hFl] <;> rfl)
 refine EvC.block ?_
 refine EvC.loopS (σ := Nat × List (FA × FA)) (fun g => ⟨[(2, .sc (.int .i64 most)), (9, .sl false (fcs S) .full), (11, .tl 0 g.2.length g.2.isEmpty), (52, .sl false (fcs S) .full), (53, .sc (.int .i64 n)), (54, .sc (.int .i64 g.1))], [], [(0, .arr 12 (g.2.map prC) true)], 1⟩) (fun g => n - g.1) (fun g => g.1 ≤ n ∧ prs S = g.2 ++ prs (S.drop g.1) ∧ (g.2.length : Int) ≤ most) [2, 9, 11, 52, 53, 54] 1 ?_ ?_
 ·exact ⟨[(0, 0)], (0, []), rfl, (by simp only [go_sem, Int.natCast_zero, List.map_nil, List.length_nil, List.isEmpty_nil] <;> rfl), Nat.zero_le _, rfl, hm0.1⟩
 rintro ⟨i, out⟩ ⟨i1, i2, i3⟩
 simp only at i1 i2 i3 ⊢
 have hon := pairs_norefs out
 have hol : (out.map prC).length = out.length := List.length_map _
 refine EvC.a ?_
 refine EvC.seq ?_
 refine EvC.cond (by simp only [go_sem] <;> rfl) (fun hc => ?_) (fun hc => ?_)
 rotate_left
 ·refine EvC.exit ?_
  obtain rfl : i = n := by have : ¬ i < n := (by simpa using hc); omega
  clear hc
  rw [List.drop_of_length_le (by omega), prs, List.append_nil] at i2
  rw [i2] at hbase ⊢
  rw [if_neg (by omega)] at hbase
  rw [hbase, if_neg (show ¬ (0 : Int) ≠ 0 from fun h => h rfl)]
  have h12 := pair_twelve out
  generalize out.map prC = O at hon hol h12 ⊢
  refine EvC.frz 0 (by simp only [go_sem, hon, hol] <;> rfl) ?_
  refine EvC.k1 ?_ (h1 := by simp only [go_sem, hol] <;> rfl) (c1 := .ca (clipP_is out.isEmpty O .unk h12))
  refine EvC.rz ?_
  simp only [go_sem]
 have hil : i < n := by simpa using hc
 clear hc
 have hge : S[i]? = some S[i] := List.getElem?_eq_getElem (by omega)
 have hdr : S.drop i = S[i] :: S.drop (i + 1) := List.drop_eq_getElem_cons (by omega)
 generalize S[i] = f at hge hdr
 have hfg := hFg i f hge
 rw [hdr, prs] at i2
 have hit : (i : Int).toNat = i := Int.toNat_natCast i
 rw [FA.cells] at hfg
 refine EvC.skip ?_
 refine EvC.seq ?_
 refine EvC.block ?_
 refine EvC.a ?_ (by simp only [go_sem, hfg, hit, hFl] <;> rfl)
 refine EvC.z 5 ?_
 have hI1 : inI64 ((i : Int) + 1) = true := inI64_of (by omega) (by omega)
 have hi1 : ((i : Int) + 1).toNat = i + 1 := by omega
 have hil2 : (i : Int) + 1 ≤ n := by omega
 have hFs2 : ∀ y ∈ fcs S, y.length = 6 := fun y hy => by simpa using List.all_eq_true.1 hFs y hy
 have hdl : ((fcs S).drop (i + 1)).length = n - (i + 1) := by rw [List.length_drop, hFl]
 refine EvC.a ?_ (by simp only [go_sem, hFl, hi1, hdl] <;> rfl) (by simp [hI1, hil2]; exact ⟨hFs2, by omega⟩)
 obtain ⟨T, hT⟩ : ∃ T, T = S.drop (i + 1) := ⟨_, rfl⟩
 have hTc : (fcs S).drop (i + 1) = fcs T := by rw [hT, fcs, fcs, List.map_drop]
 have hTl : (fcs T).length = n - (i + 1) := by rw [← hTc, hdl]
 have hTl2 : T.length = n - (i + 1) := by rw [← hTl, fcs, List.length_map]
 rw [hTc]
 rw [← hT] at i2
 obtain ⟨k0, hk0⟩ : ∃ k, k = n - (i + 1) := ⟨_, rfl⟩
 rw [← hk0] at hTl hTl2 ⊢
 have hTg : ∀ (i : Nat) (f : FA), T[i]? = some f → (fcs T)[i]? = some f.cells := fun i f h => by rw [fcs, List.getElem?_map, h]; rfl
 obtain ⟨iZ, hiZ⟩ : ∃ z : Int, z = (i : Int) := ⟨_, rfl⟩
 rw [← hiZ]
 refine EvC.block ?_
 refine EvC.loopS (σ := Nat × List (FA × FA)) (fun g => ⟨[(2, .sc (.int .i64 most)), (9, .sl false (fcs S) .full), (52, .sl false (fcs S) .full), (53, .sc (.int .i64 n)), (54, .sc (.int .i64 iZ)), (11, .tl 0 g.2.length g.2.isEmpty), (13, .ia [.sc (.int .i64 f.kind), .sc (.int .i64 f.state), .sc (.int .i64 f.input), .sc (.int .i64 f.to), .sc (.int .i64 f.at'), .sc (.int .i64 f.out)]), (62, .sl false (fcs T) .full), (63, .sc (.int .i64 k0)), (64, .sc (.int .i64 g.1))], [], [(0, .arr 12 (g.2.map prC) true)], 1⟩) (fun g => k0 - g.1) (fun g => g.1 ≤ k0 ∧ prs S = g.2 ++ (prsOf f (T.drop g.1) ++ prs T) ∧ (g.2.length : Int) ≤ most) [2, 9, 52, 53, 54, 11, 13, 62, 63, 64] 1 ?_ ?_
 ·exact ⟨[(0, 0)], (0, out), rfl, (by simp only [go_sem, Int.natCast_zero, hon] <;> rfl), Nat.zero_le _, i2, i3⟩
 rintro ⟨k, out⟩ ⟨k1, k2, k3⟩
 clear hon hol i2 i3
 simp only at k1 k2 k3 ⊢
 have hon := pairs_norefs out
 have hol : (out.map prC).length = out.length := List.length_map _
 refine EvC.a ?_
 refine EvC.seq ?_
 refine EvC.cond (by simp only [go_sem] <;> rfl) (fun hc => ?_) (fun hc => ?_)
 rotate_left
 ·refine EvC.exit ?_
  obtain rfl : k = k0 := by have : ¬ k < k0 := (by simpa using hc); omega
  clear hc
  rw [List.drop_of_length_le (by omega), show prsOf f [] = [] from rfl, List.nil_append] at k2
  refine EvC.b ?_ (hok := by rw [hiZ]; exact hI1)
  exact ⟨[(0, 0)], (i + 1, out), rfl, (by rw [hiZ]; simp only [go_sem, hon, Int.natCast_add, Int.natCast_one] <;> rfl), ⟨by omega, by rw [← hT]; exact k2, k3⟩, by simp only; omega⟩
 have hkl : k < k0 := by simpa using hc
 clear hc
 have hgk : T[k]? = some T[k] := List.getElem?_eq_getElem (by omega)
 have hdk : T.drop k = T[k] :: T.drop (k + 1) := List.drop_eq_getElem_cons (by omega)
 generalize T[k] = g at hgk hdk
 have hgg := hTg k g hgk
 rw [FA.cells] at hgg
 rw [hdk] at k2
 have hkt : (k : Int).toNat = k := Int.toNat_natCast k
 have hI2 : inI64 ((k : Int) + 1) = true := inI64_of (by omega) (by omega)
 refine EvC.skip ?_
 refine EvC.seq ?_
 refine EvC.block ?_
 refine EvC.a ?_ (by simp only [go_sem, hgg, hkt, hTl] <;> rfl)
 refine EvC.z 4 ?_
 have q := edge_is f g
 rw [FA.cells, FA.cells] at q
 refine EvC.seq ?_
 refine EvC.k1 ?_ (c1 := .ca q)
 by_cases he : edgeI f g = 0
 ·have hp : prsOf f (g :: T.drop (k + 1)) = prsOf f (T.drop (k + 1)) := by rw [prsOf, List.filter_cons_of_neg (by simp [he])]; rfl
  rw [hp] at k2
  refine EvC.ct ?_ (by simp only [go_sem, decide_eq_true he] <;> rfl)
  refine EvC.exit ?_
  refine EvC.b ?_ (hok := by simp [hI2])
  exact ⟨[(0, 0)], (k + 1, out), rfl, (by simp only [go_sem, hon, Int.natCast_add, Int.natCast_one] <;> rfl), ⟨hkl, k2, k3⟩, by simp only; omega⟩
 have hp : prsOf f (g :: T.drop (k + 1)) = (f, g) :: prsOf f (T.drop (k + 1)) := by rw [prsOf, List.filter_cons_of_pos (by simp [he])]; rfl
 rw [hp] at k2
 refine EvC.cs ?_ (by simp only [go_sem, decide_eq_false he] <;> rfl)
 refine EvC.seq ?_
 refine EvC.a ?_ (by simp only [go_sem, hol] <;> rfl)
 by_cases hm1 : (out.length : Int) = most
 ·have hR : pairsE m ks most = 13 := by
    rw [hbase, if_pos]
    have := congrArg List.length k2
    simp only [List.length_append, List.length_cons] at this
    omega
  refine EvC.ct ?_ (by simp only [go_sem, decide_eq_true hm1] <;> rfl)
  rw [hR, if_pos (show (13 : Int) ≠ 0 by decide)]
  refine EvC.a ?_
  refine EvC.rz ?_
  simp only [go_sem]
 refine EvC.cs ?_ (by simp only [go_sem, decide_eq_false hm1] <;> rfl)
 have hsn : out.map prC ++ [[.sc (.int .i64 f.kind), .sc (.int .i64 f.state), .sc (.int .i64 f.input), .sc (.int .i64 f.to), .sc (.int .i64 f.at'), .sc (.int .i64 f.out), .sc (.int .i64 g.kind), .sc (.int .i64 g.state), .sc (.int .i64 g.input), .sc (.int .i64 g.to), .sc (.int .i64 g.at'), .sc (.int .i64 g.out)]] = (out ++ [(f, g)]).map prC := by rw [List.map_append]; rfl
 have hsl : out.length + 1 = (out ++ [(f, g)]).length := by simp
 have hse : (out ++ [(f, g)]).isEmpty = false := by simp
 have hk3 : ((out ++ [(f, g)]).length : Int) ≤ most := by rw [← hsl]; omega
 have hk2 : prs S = (out ++ [(f, g)]) ++ (prsOf f (T.drop (k + 1)) ++ prs T) := by rw [k2]; simp
 have hr2 : room (out.length + 1) 96 = true := by simp only [room_eq, decide_eq_true_eq]; omega
 rw [hsl] at hr2
 have hUn := pairs_norefs (out ++ [(f, g)])
 have hUl : ((out ++ [(f, g)]).map prC).length = (out ++ [(f, g)]).length := List.length_map _
 obtain ⟨U, hU⟩ : ∃ U, U = out ++ [(f, g)] := ⟨_, rfl⟩
 rw [← hU] at hsn hsl hse hr2 hUn hUl hk3 hk2
 obtain ⟨UC, hUC⟩ : ∃ U2, U2 = U.map prC := ⟨_, rfl⟩
 rw [← hUC] at hsn hUn hUl
 refine EvC.b ?_ (by simp only [go_sem, hsn, hsl, hol] <;> rfl) (by simp [hr2])
 refine EvC.b ?_ (hok := by simp [hI2])
 exact ⟨[(0, 0)], (k + 1, U), rfl, (by rw [hse, ← hUC]; simp only [go_sem, hUn, hUl, Int.natCast_add, Int.natCast_one] <;> rfl), ⟨hkl, hk2, hk3⟩, by simp only; omega⟩
theorem check46_bad {m : Mach} (hm : ∀ r ∈ m.rows, r.2.length < 1000000) (hc0 : checkM m ≠ 0) (f : FA) : PureIs prog 35 [.ag m.cells, .ag f.cells] (.sc (.int .i64 (checkM m))) := by
 have q0 := check_is m hm
 rw [FA.cells]
 refine PureIs.of1 8 [11, 24, 74, 117, 126] func35 ntmps35 results35 fun _ => ?_
 refine EvC.a ?_ (by simp only [go_sem, Mach.cells] <;> rfl)
 refine EvC.z 0 ?_
 refine EvC.z 1 ?_
 refine EvC.seq ?_
 refine EvC.k1 ?_ (h1 := by simp only [go_sem, Mach.cells] <;> rfl) (c1 := .ca q0)
 refine EvC.a ?_
 refine EvC.ct ?_ (by simp only [go_sem, decide_eq_false hc0] <;> rfl)
 refine EvC.a ?_
 refine EvC.rz ?_
 simp only [go_sem]
theorem check46_is {m : Mach} (hm : ∀ r ∈ m.rows, r.2.length < 1000000) (f : FA) : PureIs prog 35 [.ag m.cells, .ag f.cells] (.sc (.int .i64 (if checkM m ≠ 0 then checkM m else checkF m f))) := by
 by_cases h : checkM m = 0
 ·rw [if_neg (fun e => e h)]; exact check78_is (Valid.of h) h f
 ·rw [if_pos h]; exact check46_bad hm h f
theorem check61_is (m : Mach) (hm : ∀ r ∈ m.rows, r.2.length < 1000000) (fn : Bool) (fs : List FA) (fc : Cp) (hfl : fs.length < 1000000) :
  PureIs prog 18 [.ag m.cells, .sl fn (fs.map FA.cells) fc] (.sc (.int .i64 (mutErr m fs))) := by
 refine PureIs.of1 3 [4, 5, 7, 8, 12, 16, 17, 18, 19, 20, 27] func18 ntmps18 results18 fun _ => ?_
 refine EvC.a ?_ (by simp only [go_sem, Mach.cells] <;> rfl)
 refine EvC.z 0 ?_
 refine EvC.seq ?_
 refine EvC.k1 ?_ (h1 := by simp only [go_sem, Mach.cells] <;> rfl) (c1 := .ca (check_is m hm))
 refine EvC.a ?_
 by_cases h0 : checkM m = 0
 rotate_left
 ·refine EvC.ct ?_ (by simp only [go_sem, decide_eq_false h0] <;> rfl)
  have hR : mutErr m fs = checkM m := by unfold mutErr; rw [if_pos h0]
  rw [hR]
  refine EvC.a ?_
  refine EvC.rz ?_
  simp only [go_sem]
 have hv := Valid.of h0
 refine EvC.cs ?_ (by simp only [go_sem, decide_eq_true h0] <;> rfl)
 refine EvC.seq ?_
 refine EvC.a ?_ (by simp only [go_sem, List.length_map] <;> rfl)
 by_cases hb : 256 < (fs.length : Int)
 ·refine EvC.ct ?_ (by simp only [go_sem, decide_eq_true hb] <;> rfl)
  have hR : mutErr m fs = 3 := by unfold mutErr; rw [if_neg (fun h => h h0), if_pos hb]
  rw [hR]
  refine EvC.a ?_
  refine EvC.rz ?_
  simp only [go_sem]
 refine EvC.cf ?_ (by simp only [go_sem, decide_eq_false hb] <;> rfl)
 have hR : mutErr m fs = errFs m fs := by unfold mutErr; rw [if_neg (fun h => h h0), if_neg hb]
 rw [hR]
 refine EvC.skip ?_
 refine EvC.seq ?_
 refine EvC.a ?_ (by simp only [go_sem, List.length_map] <;> rfl)
 refine EvC.block ?_
 refine EvC.loopS (σ := Nat) (fun k => ⟨[(2, .ia [.sc (.int .i64 m.ins), .sc (.int .i64 m.outs), .sl m.nl (m.rows.map rowC) .unk]), (17, .sl fn (fs.map FA.cells) fc), (18, .sc (.int .i64 fs.length)), (19, .sc (.int .i64 k))], [], [], 0⟩) (fun k => fs.length - k) (fun k => k ≤ fs.length ∧ errFs m fs = errFs m (fs.drop k)) [2, 17, 18, 19] 0 ?_ ?_
 ·exact ⟨[], 0, rfl, (by simp only [go_sem, Int.natCast_zero] <;> rfl), Nat.zero_le _, rfl⟩
 rintro k ⟨hk1, hinv⟩
 refine EvC.a ?_
 refine EvC.seq ?_
 refine EvC.cond (by simp only [go_sem] <;> rfl) (fun hc => ?_) (fun hc => ?_)
 rotate_left
 ·refine EvC.exit ?_
  obtain rfl : fs.length = k := by have : ¬ k < fs.length := by simpa using hc
                                   omega
  rw [List.drop_length] at hinv
  rw [hinv, errFs]
  refine EvC.a ?_
  refine EvC.rz ?_
  simp only [go_sem]
 have hkl : k < fs.length := by simpa using hc
 clear hc
 have he : fs[k]? = some (fs[k]'hkl) := List.getElem?_eq_getElem hkl
 have hdr : fs.drop k = fs[k]'hkl :: fs.drop (k + 1) := List.drop_eq_getElem_cons hkl
 generalize fs[k]'hkl = f at he hdr
 rw [hdr, errFs] at hinv
 have hin : (k : Int).toNat = k := Int.toNat_natCast k
 have q := check78_is hv h0 f
 rw [FA.cells] at q
 refine EvC.skip ?_
 refine EvC.seq ?_
 refine EvC.block ?_
 refine EvC.a ?_ (by simp only [go_sem, he, hin, FA.cells, List.length_map] <;> rfl)
 refine EvC.k1 ?_ (h1 := by simp only [go_sem, Mach.cells] <;> rfl) (c1 := .ca q)
 refine EvC.a ?_
 by_cases h1 : checkF m f = 0
 ·rw [if_pos h1] at hinv
  refine EvC.cs ?_ (by simp only [go_sem, decide_eq_true h1] <;> rfl)
  refine EvC.b ?_ (hok := by exact inI64_of (by omega) (by omega))
  exact ⟨[], k + 1, rfl, (by simp only [go_sem, Int.natCast_add, Int.natCast_one] <;> rfl), ⟨hkl, hinv⟩, by omega⟩
 ·rw [if_neg h1] at hinv
  refine EvC.ct ?_ (by simp only [go_sem, decide_eq_false h1] <;> rfl)
  rw [hinv]
  refine EvC.a ?_
  refine EvC.rz ?_
  simp only [go_sem]
theorem mutants49_is (m : Mach) (hm : ∀ r ∈ m.rows, r.2.length < 1000000) (hnn : NoNil m) (fn : Bool) (fs : List FA) (fc : Cp) (hfl : fs.length < 1000000) :
  PureIs prog 49 [.ag m.cells, .sl fn (fs.map FA.cells) fc] (mutsA m fs) := by
 refine PureIs.of1 3 [4, 5, 6, 7, 9, 10, 11, 16, 18, 19, 20, 21, 31] func49 ntmps49 results49 fun _ => ?_
 refine EvC.a ?_ (by simp only [go_sem, Mach.cells] <;> rfl)
 refine EvC.z 0 ?_
 refine EvC.seq ?_
 refine EvC.k1 ?_ (h1 := by simp only [go_sem, Mach.cells] <;> rfl) (c1 := .ca (check61_is m hm fn fs fc hfl))
 refine EvC.a ?_
 unfold mutsA
 by_cases hE : mutErr m fs = 0
 rotate_left
 ·refine EvC.ct ?_ (by simp only [go_sem, decide_eq_false hE] <;> rfl)
  rw [if_neg hE]
  refine EvC.a ?_
  refine EvC.rz ?_
  simp only [go_sem]
 rw [if_pos hE]
 obtain ⟨h0, hb, hinv0⟩ := mutErr_ok hE
 have hv := Valid.of h0
 have hz := errFs_zero hinv0
 refine EvC.cs ?_ (by simp only [go_sem, decide_eq_true hE] <;> rfl)
 refine EvC.a ?_
 refine EvC.seq ?_
 refine EvC.a ?_ (by simp only [go_sem, List.length_map] <;> rfl)
 refine EvC.block ?_
 refine EvC.loopS (σ := Nat) (fun k => ⟨[(2, .ia [.sc (.int .i64 m.ins), .sc (.int .i64 m.outs), .sl m.nl (m.rows.map rowC) .unk]), (7, .tl 0 k (k == 0)), (18, .sl fn (fs.map FA.cells) fc), (19, .sc (.int .i64 fs.length)), (20, .sc (.int .i64 k))], [], [(0, .arr 3 (mutC m fs k) true)], 1⟩) (fun k => fs.length - k) (fun k => k ≤ fs.length) [2, 7, 18, 19, 20] 1 ?_ ?_
 ·refine ⟨[(9, 0)], 0, rfl, (by simp only [go_sem, Int.natCast_zero, mutC, List.take_zero, List.map_nil] <;> rfl), Nat.zero_le _⟩
 rintro k hk1
 have hml := mutC_len (m := m) hk1
 refine EvC.a ?_
 refine EvC.seq ?_
 refine EvC.cond (by simp only [go_sem] <;> rfl) (fun hc => ?_) (fun hc => ?_)
 rotate_left
 ·
  refine EvC.exit ?_
  obtain rfl : fs.length = k := by have : ¬ k < fs.length := by simpa using hc
                                   omega
  have hmc : (fs.map (mutF m)).map Mach.cells = mutC m fs fs.length := by rw [mutC, List.take_length]
  rw [hmc]
  have hn := norefs_mutC m fs fs.length
  have hie : (fs.length == 0) = fs.isEmpty := by cases fs <;> rfl
  rw [hie]
  generalize mutC m fs fs.length = L at hml hn
  refine EvC.frz 0 (by simp only [go_sem, hn, hml] <;> rfl) ?_
  refine EvC.a ?_ (by simp only [go_sem, hml] <;> rfl)
  refine EvC.ret ⟨.inl rfl, _, (by simp only [go_sem, hml] <;> rfl), ?_, by simp [AV.noref, AV.norefs, hn]⟩
  simp only [go_sem, hml]
 have hkl : k < fs.length := by simpa using hc
 clear hc
 have he : fs[k]? = some (fs[k]'hkl) := List.getElem?_eq_getElem hkl
 have hfz := hz _ (List.getElem_mem hkl)
 generalize fs[k]'hkl = f at he hfz
 have hin : (k : Int).toNat = k := Int.toNat_natCast k
 have q := apply71_is hv h0 hnn f
 have hs := mutC_succ (m := m) he
 have hml2 := mutC_len (m := m) (k := k + 1) hkl
 have hr2 : room (k + 1) 40 = true := by simp only [room_eq, decide_eq_true_eq]; omega
 refine EvC.skip ?_
 refine EvC.seq ?_
 refine EvC.block ?_
 refine EvC.a ?_ (by simp only [go_sem, he, hin, FA.cells, List.length_map] <;> rfl)
 unfold applyR at q
 generalize mutF m f = mf at q hs
 have hmr : AV.norefs mf.cells = true := norefs_mcells mf
 simp only [Mach.cells] at q hs hmr
 rw [if_pos hfz] at q
 refine EvC.k1 ?_ (h1 := by simp only [go_sem, Mach.cells, FA.cells] <;> rfl) (c1 := .ca q)
 refine EvC.seq ?_
 refine EvC.a ?_
 refine EvC.cs ?_
 refine EvC.b ?_ (by simp only [go_sem, hml, hr2, hs] <;> rfl)
 refine EvC.b ?_ (hok := by exact inI64_of (by omega) (by omega))
 exact ⟨[(0, 0)], k + 1, rfl, (by simp only [go_sem, Int.natCast_add, Int.natCast_one, hml2] <;> rfl), hkl, by omega⟩
def bothE (m : Mach) (p : FA × FA) : Int :=
 if checkM m ≠ 0 then checkM m else if checkF m p.1 ≠ 0 then checkF m p.1 else if checkF m p.2 ≠ 0 then checkF m p.2 else if 2 < (if p.1.kind ≤ p.2.kind then p.2.kind else p.1.kind) ∨ 0 ≤ edgeI p.1 p.2 then 1 else 0
def bothA (m : Mach) (p : FA × FA) : AV :=
 if bothE m p ≠ 0 then .tu [.ag [.sc (.int .i64 0), .sc (.int .i64 0), .sl true [] .zer], .sc (.int .i64 (bothE m p))] else applyR (mutF m p.1) p.2
set_option maxHeartbeats 4000000 in
theorem pairBoth_is (m : Mach) (hm : ∀ r ∈ m.rows, r.2.length < 1000000) (hnn : NoNil m) (p : FA × FA) : PureIs prog 24 [.ag m.cells, .ag (prC p)] (bothA m p) := by
 obtain ⟨f, g⟩ := p
 rw [prC]
 have q1 := check46_is hm f
 have q2 := check46_is hm g
 have q3 := edge_is f g
 unfold bothA
 simp only
 generalize hE : bothE m (f, g) = E
 have hE := hE.symm
 unfold bothE at hE
 simp only at hE
 rw [FA.cells] at q1 q2
 rw [FA.cells, FA.cells] at q3
 simp only [FA.cells, List.cons_append, List.nil_append]
 refine PureIs.of1 6 [7, 8, 9, 10, 15, 16, 17, 18, 25, 44, 54] func24 ntmps24 results24 fun _ => ?_
 refine EvC.a ?_ (by simp only [go_sem, Mach.cells] <;> rfl)
 refine EvC.z 0 ?_
 refine EvC.z 1 ?_
 refine EvC.seq ?_
 refine EvC.a ?_
 refine EvC.frz 8 (by simp only [go_sem] <;> rfl) ?_
 refine EvC.block ?_
 obtain ⟨e1, he1⟩ : ∃ e, e = if checkM m ≠ 0 then checkM m else checkF m f := ⟨_, rfl⟩
 obtain ⟨e2, he2⟩ : ∃ e, e = if checkM m ≠ 0 then checkM m else checkF m g := ⟨_, rfl⟩
 rw [← he1] at q1
 rw [← he2] at q2
 have hEE : E = if e1 ≠ 0 then e1 else if e2 ≠ 0 then e2 else if 2 < (if f.kind ≤ g.kind then g.kind else f.kind) ∨ 0 ≤ edgeI f g then 1 else 0 := by
  rw [hE, he1, he2]
  by_cases h : checkM m = 0
  ·simp [h]
  ·simp [h]
 refine EvC.loopS (σ := Nat) (fun i => ⟨[(2, .ia m.cells), (3, .ia [.sc (.int .i64 f.kind), .sc (.int .i64 f.state), .sc (.int .i64 f.input), .sc (.int .i64 f.to), .sc (.int .i64 f.at'), .sc (.int .i64 f.out), .sc (.int .i64 g.kind), .sc (.int .i64 g.state), .sc (.int .i64 g.input), .sc (.int .i64 g.to), .sc (.int .i64 g.at'), .sc (.int .i64 g.out)]), (4, .rf 0 0), (15, .sl false [[.sc (.int .i64 f.kind), .sc (.int .i64 f.state), .sc (.int .i64 f.input), .sc (.int .i64 f.to), .sc (.int .i64 f.at'), .sc (.int .i64 f.out)], [.sc (.int .i64 g.kind), .sc (.int .i64 g.state), .sc (.int .i64 g.input), .sc (.int .i64 g.to), .sc (.int .i64 g.at'), .sc (.int .i64 g.out)]] .unk), (16, .sc (.int .i64 2)), (17, .sc (.int .i64 i))], [], [(0, .cells [.sc (.int .i64 0), .sc (.int .i64 0), .sl true [] .zer])], 1⟩) (fun i => 2 - i) (fun i => i ≤ 2 ∧ (1 ≤ i → e1 = 0) ∧ (2 ≤ i → e2 = 0)) [2, 3, 4, 15, 16, 17] 1 ?_ ?_
 ·exact ⟨[(2, 0)], 0, rfl, (by simp only [go_sem, Int.natCast_zero, Mach.cells] <;> rfl), by omega, by omega, by omega⟩
 rintro i ⟨i1, i2, i3⟩
 refine EvC.a ?_
 refine EvC.seq ?_
 rcases (show i = 0 ∨ i = 1 ∨ i = 2 by omega) with rfl | rfl | rfl
 ·refine EvC.cr ?_ (by simp only [go_sem, Int.natCast_zero] <;> rfl)
  refine EvC.seq ?_
  refine EvC.block ?_
  refine EvC.a ?_ (by simp only [go_sem, Int.natCast_zero, List.getElem?_cons_zero, Int.toNat_zero] <;> rfl)
  refine EvC.z 4 ?_
  refine EvC.k1 ?_ (h1 := by simp only [go_sem, Mach.cells] <;> rfl) (c1 := .ca q1)
  refine EvC.a ?_
  by_cases h : e1 = 0
  ·refine EvC.cs ?_ (by simp only [go_sem, decide_eq_true h] <;> rfl)
   refine EvC.b ?_ (hok := by exact inI64_of (by omega) (by omega))
   exact ⟨[(0, 0)], 1, rfl, (by simp only [go_sem, Int.natCast_one, Mach.cells] <;> rfl), ⟨by omega, fun _ => h, by omega⟩, by omega⟩
  ·refine EvC.ct ?_ (by simp only [go_sem, decide_eq_false h] <;> rfl)
   rw [if_pos h] at hEE
   rw [hEE, if_pos h]
   refine EvC.a ?_
   refine EvC.rz ?_
   simp only [go_sem]
 ·refine EvC.cr ?_ (by simp only [go_sem, Int.natCast_one] <;> rfl)
  refine EvC.seq ?_
  refine EvC.block ?_
  refine EvC.a ?_ (by simp only [go_sem, Int.natCast_one, show (1 : Int).toNat = 1 from rfl] <;> rfl)
  refine EvC.z 4 ?_
  refine EvC.k1 ?_ (h1 := by simp only [go_sem, Mach.cells] <;> rfl) (c1 := .ca q2)
  refine EvC.a ?_
  have h1 := i2 (Nat.le_refl _)
  by_cases h : e2 = 0
  ·refine EvC.cs ?_ (by simp only [go_sem, decide_eq_true h] <;> rfl)
   refine EvC.b ?_ (hok := by exact inI64_of (by omega) (by omega))
   exact ⟨[(0, 0)], 2, rfl, (by simp only [go_sem, show ((2 : Nat) : Int) = 2 from rfl, Mach.cells] <;> rfl), ⟨by omega, fun _ => h1, fun _ => h⟩, by omega⟩
  ·refine EvC.ct ?_ (by simp only [go_sem, decide_eq_false h] <;> rfl)
   rw [if_neg (fun e => e h1), if_pos h] at hEE
   rw [hEE, if_pos h]
   refine EvC.a ?_
   refine EvC.rz ?_
   simp only [go_sem]
 have h1 := i2 (by omega)
 have h2 := i3 (Nat.le_refl _)
 rw [if_neg (fun e => e h1), if_neg (fun e => e h2)] at hEE
 have h0 : checkM m = 0 := by
  by_cases h : checkM m = 0
  ·exact h
  ·rw [if_pos h] at he1; exact absurd (he1.symm.trans h1) h
 have hf : checkF m f = 0 := by rw [if_neg (fun e => e h0)] at he1; exact he1.symm.trans h1
 have hv := Valid.of h0
 refine EvC.cf ?_ (by simp only [go_sem, show ((2 : Nat) : Int) = 2 from rfl] <;> rfl)
 refine EvC.exit ?_
 refine EvC.seq ?_
 by_cases hk : 2 < (if f.kind ≤ g.kind then g.kind else f.kind)
 ·rw [if_pos (.inl hk)] at hEE
  rw [hEE, if_pos (show (1 : Int) ≠ 0 by decide)]
  have hkd := decide_eq_true hk
  apply EvC.s1
  ·apply Tr.run
   ·simp only [go_sem, hkd] <;> rfl
   ·simp
   apply Tr.cons
   ·exact .skipv (.sc (.int .i64 0)) rfl rfl (by simp only [go_sem] <;> rfl) (by simp only [go_sem] <;> rfl)
   apply Tr.done
   ·simp only [go_sem, hkd] <;> rfl
   ·simp
  refine EvC.ct ?_
  refine EvC.a ?_
  refine EvC.rz ?_
  simp only [go_sem]
 have hkd := decide_eq_false hk
 refine EvC.k1 ?_ (h1 := by simp only [go_sem, hkd] <;> rfl) (c1 := .cg q3) (h2 := by simp only [go_sem, hkd] <;> rfl)
 by_cases he : 0 ≤ edgeI f g
 ·rw [if_pos (.inr he)] at hEE
  rw [hEE, if_pos (show (1 : Int) ≠ 0 by decide)]
  refine EvC.ct ?_ (by simp only [go_sem, decide_eq_true he] <;> rfl)
  refine EvC.a ?_
  refine EvC.rz ?_
  simp only [go_sem]
 rw [if_neg (fun h => h.elim hk he)] at hEE
 rw [hEE, if_neg (show ¬ (0 : Int) ≠ 0 from fun h => h rfl)]
 refine EvC.cs ?_ (by simp only [go_sem, decide_eq_false he] <;> rfl)
 have q4 := apply71_is hv h0 hnn f
 unfold applyR at q4
 rw [if_pos hf] at q4
 have hv2 := mutF_valid hv hf
 have q5 := apply71_is hv2 (checkM_of hv2) (mutF_noNil m f) g
 obtain ⟨mf, hmf⟩ : ∃ mf, mf = mutF m f := ⟨_, rfl⟩
 rw [← hmf] at q4 q5 ⊢
 rw [FA.cells] at q4 q5
 have hmr : AV.norefs mf.cells = true := norefs_mcells mf
 simp only [Mach.cells] at q4 q5 hmr
 refine EvC.k1 ?_ (h1 := by simp only [go_sem, Mach.cells] <;> rfl) (c1 := .ca q4)
 refine EvC.z 25 ?_
 refine EvC.seq ?_
 refine EvC.a ?_
 refine EvC.cs ?_
 by_cases h5 : checkF mf g = 0
 ·rw [applyR, if_pos h5] at q5 ⊢
  generalize mutF mf g = mg at q5 ⊢
  simp only [Mach.cells] at q5 ⊢
  refine EvC.k1 ?_ (c1 := .ca q5)
  refine EvC.rz ?_
  simp only [go_sem]
 ·rw [applyR, if_neg h5] at q5 ⊢
  refine EvC.k1 ?_ (c1 := .ca q5)
  refine EvC.rz ?_
  simp only [go_sem]
def eqM (a b : Mach) : Bool := (equalR a b).1
def atM (X : List Mach) (i : Int) : Mach := X.getD i.toNat ⟨0, 0, true, []⟩
def findIdxM (p : Mach → Bool) : List Mach → Int → Int
 | [], _ => -1
 | e :: es, i => if p e = true then i else findIdxM p es (i + 1)
def fstM (p : Mach → Bool) : List Mach → Nat
 | [] => 0
 | e :: es => if p e = true then 0 else fstM p es + 1
theorem fstM_le (p : Mach → Bool) : ∀ es : List Mach, fstM p es ≤ es.length
 | [] => Nat.le_refl _
 | e :: es => by
   have := fstM_le p es
   rw [fstM, List.length_cons]
   split <;> omega
theorem findIdxM_fst (p : Mach → Bool) : ∀ (es : List Mach) (i : Int), findIdxM p es i = if fstM p es < es.length then i + fstM p es else -1
 | [], i => by simp [findIdxM, fstM]
 | e :: es, i => by
   rw [findIdxM, fstM]
   split
   ·simp
   ·rw [findIdxM_fst p es, List.length_cons]
    by_cases h : fstM p es < es.length
    ·rw [if_pos h, if_pos (by omega)]; omega
    ·rw [if_neg h, if_neg (by omega)]
theorem indexM_is (nl : Bool) (xs : List Mach) (c : Cp) (f : FuncId) (cs : List AV) (hcs : AV.norefs cs = true) (p : Mach → Bool) (hp : ∀ e ∈ xs, PureIs prog f (.ag (Mach.cells e) :: cs) (.sc (.bool (p e)))) (hl : xs.length < 1000000) :
  PureIs prog 52 [.sl nl (xs.map Mach.cells) c, .fn f cs] (.sc (.int .i64 (findIdxM p xs 0))) := by
 refine PureIs.of1 2 [4, 5, 7, 8, 9, 16] func52 ntmps52 results52 fun _ => ?_
 refine EvC.a ?_
 refine EvC.seq ?_
 refine EvC.a ?_ (by simp only [go_sem, List.length_map] <;> rfl)
 refine EvC.block ?_
 refine EvC.loopS (σ := Nat) (fun i => ⟨[(0, .sl nl (xs.map Mach.cells) c), (1, .fn f cs), (7, .sc (.int .i64 xs.length)), (8, .sc (.int .i64 i))], [], [], 0⟩) (fun i => xs.length - i) (fun i => i ≤ xs.length ∧ findIdxM p xs 0 = findIdxM p (xs.drop i) i) [0, 1, 7, 8] 0 ?_ ?_
 ·refine ⟨[], 0, rfl, (by simp only [go_sem, hcs, Int.natCast_zero] <;> rfl), Nat.zero_le _, by simp⟩
 rintro i ⟨h1, h2⟩
 refine EvC.a ?_
 refine EvC.seq ?_
 refine EvC.cond (by simp only [go_sem] <;> rfl) (fun hc => ?_) (fun hc => ?_)
 rotate_left
 ·refine EvC.exit ?_
  have hi : ¬ i < xs.length := by simpa using hc
  refine EvC.a ?_
  refine EvC.rz ?_
  simp only [go_sem]
  rw [h2, List.drop_of_length_le (by omega)]; rfl
 have hi : i < xs.length := by simpa using hc
 have he : xs[i]? = some xs[i] := List.getElem?_eq_getElem hi
 have hd : xs.drop i = xs[i] :: xs.drop (i + 1) := List.drop_eq_getElem_cons hi
 have hm : xs[i] ∈ xs := List.getElem_mem hi
 generalize xs[i] = e at he hd hm
 refine EvC.skip ?_
 refine EvC.seq ?_
 refine EvC.block ?_
 refine EvC.a ?_
 have hq := hp e hm
 apply EvC.s1
 ·apply Tr.run
  ·simp only [go_sem, he, Mach.cells, List.length_map] <;> rfl
  ·simp; try omega
  apply Tr.cons
  ·exact .call rfl rfl (by simp only [go_sem] <;> rfl) (by simp only [go_sem] <;> rfl) (by simp only [go_sem] <;> rfl) (by simp only [go_sem, hcs] <;> rfl) (by simp only [go_sem] <;> rfl) (hq)
  apply Tr.done
  ·simp only [go_sem] <;> rfl
  ·simp
 refine EvC.cond (by simp only [go_sem] <;> rfl) (fun hc => ?_) (fun hc => ?_)
 ·refine EvC.a ?_
  refine EvC.rz ?_
  simp only [go_sem]
  rw [h2, hd, findIdxM, if_pos hc]
 refine EvC.skip ?_
 refine EvC.b ?_ (hok := by exact inI64_of (by omega) (by omega))
 refine ⟨[], i + 1, rfl, (by simp only [go_sem, hcs, Int.natCast_add, Int.natCast_one] <;> rfl), ⟨by omega, ?_⟩, by omega⟩
 rw [h2, hd, findIdxM, if_neg (by simp [hc])]; rfl
theorem clipB_is (nl : Bool) (es : List (List AV)) (c : Cp) (h : (es.all fun y => decide (y.length = 1)) = true) : PureIs prog 51 [.sl nl es c] (.sl nl es .full) := by
 refine PureIs.of1 3 [] func51 ntmps51 results51 fun _ => ?_
 refine EvC.seq (EvC.rg (by simp only [go_sem] <;> rfl) rfl ?_)
 refine EvC.a ?_ (hok := by simp [h])
 refine EvC.ret ⟨.inl rfl, _, (by simp only [go_sem] <;> rfl), rfl, rfl⟩
def rowsSm (m : Mach) : Prop := ∀ r ∈ m.rows, r.2.length < 1000000
def equalsL (m : Mach) (X : List Mach) : List Bool := X.map (eqM m)
def equalsA (m : Mach) (fs : List FA) : AV :=
 if mutErr m fs ≠ 0 then .tu [.sl true [] .unk, .sc (.int .i64 (mutErr m fs))] else .tu [.sl fs.isEmpty ((equalsL m (fs.map (mutF m))).map boolC) .full, .sc (.int .i64 0)]
theorem norefs_bools (l : List Bool) : (l.map boolC).all AV.norefs = true := by
 rw [List.all_eq_true]
 intro c hc
 obtain ⟨f, _, rfl⟩ := List.mem_map.1 hc
 rfl
theorem bool_one (l : List Bool) : ((l.map boolC).all fun y => decide (y.length = 1)) = true := by simp [List.all_eq_true, boolC]
theorem muts_sm {m : Mach} {fs : List FA} (h : mutErr m fs = 0) : ∀ x ∈ fs.map (mutF m), Valid x ∧ x.ins = m.ins := fun x hx => by
 obtain ⟨h0, _, h2⟩ := mutErr_ok h
 obtain ⟨f, hf, rfl⟩ := List.mem_map.1 hx
 exact ⟨mutF_valid (Valid.of h0) (errFs_zero h2 f hf), rfl⟩
theorem valid_sm {m : Mach} (hv : Valid m) : rowsSm m := fun r hr => by have := (hv.row r hr).1; have := hv.ins; omega
set_option maxHeartbeats 4000000 in
theorem equals19_is (m : Mach) (hm : ∀ r ∈ m.rows, r.2.length < 1000000) (hnn : NoNil m) (fn : Bool) (fs : List FA) (fc : Cp) (hfl : fs.length < 1000000) :
  PureIs prog 28 [.ag m.cells, .sl fn (fs.map FA.cells) fc] (equalsA m fs) := by
 refine PureIs.of1 3 [4, 5, 6, 7, 8, 10, 11, 20, 22, 23, 24, 25] func28 ntmps28 results28 fun _ => ?_
 have q := mutants49_is m hm hnn fn fs fc hfl
 unfold mutsA at q
 unfold equalsA
 refine EvC.a ?_ (by simp only [go_sem, Mach.cells] <;> rfl)
 refine EvC.z 0 ?_
 by_cases hE : mutErr m fs = 0
 rotate_left
 ·rw [if_neg hE] at q
  rw [if_pos hE]
  refine EvC.k1 ?_ (h1 := by simp only [go_sem, Mach.cells] <;> rfl) (c1 := .ca q)
  refine EvC.seq ?_
  refine EvC.a ?_
  refine EvC.ct ?_ (by simp only [go_sem, decide_eq_false hE] <;> rfl)
  refine EvC.a ?_
  refine EvC.rz ?_
  simp only [go_sem]
 rw [if_pos hE] at q
 rw [if_neg (show ¬ mutErr m fs ≠ 0 from fun h => h hE)]
 have hX := muts_sm hE
 have hXl : (fs.map (mutF m)).length = fs.length := List.length_map _
 generalize fs.map (mutF m) = X at q hX hXl ⊢
 have hXn := norefs_machs X
 have hfl2 := (mutErr_ok hE).2.1
 refine EvC.k1 ?_ (h1 := by simp only [go_sem, Mach.cells] <;> rfl) (c1 := .ca q) (h2 := by simp only [go_sem, hXn] <;> rfl)
 refine EvC.seq ?_
 refine EvC.a ?_
 refine EvC.cs ?_
 refine EvC.a ?_
 refine EvC.seq ?_
 refine EvC.a ?_ (by simp only [go_sem, List.length_map, hXl] <;> rfl)
 refine EvC.block ?_
 obtain ⟨N, hN⟩ : ∃ N, N = fs.length := ⟨_, rfl⟩
 have hfe : fs.isEmpty = (N == 0) := by rw [hN]; cases fs <;> rfl
 rw [← hN] at hXl hfl2 ⊢
 refine EvC.loopS (σ := Nat) (fun i => ⟨[(2, .ia m.cells), (8, .tl 0 i (i == 0)), (22, .sl fs.isEmpty (X.map Mach.cells) .unk), (23, .sc (.int .i64 N)), (24, .sc (.int .i64 i))], [], [(0, .arr 1 (((equalsL m X).take i).map boolC) true)], 1⟩) (fun i => N - i) (fun i => i ≤ N) [2, 8, 22, 23, 24] 1 ?_ ?_
 ·exact ⟨[(13, 0)], 0, rfl, (by simp only [go_sem, Int.natCast_zero, List.take_zero, List.map_nil, Mach.cells] <;> rfl), Nat.zero_le _⟩
 intro i hi
 have hel : (equalsL m X).length = N := by rw [equalsL, List.length_map, hXl]
 have hLn := norefs_bools ((equalsL m X).take i)
 have hLl : (((equalsL m X).take i).map boolC).length = i := by rw [List.length_map, List.length_take]; omega
 refine EvC.a ?_
 refine EvC.seq ?_
 refine EvC.cond (by simp only [go_sem] <;> rfl) (fun hc => ?_) (fun hc => ?_)
 rotate_left
 ·refine EvC.exit ?_
  obtain rfl : i = N := by have : ¬ i < N := (by simpa using hc); omega
  rw [List.take_of_length_le (by omega)] at hLn hLl ⊢
  have h1 := bool_one (equalsL m X)
  generalize (equalsL m X).map boolC = L at hLn hLl h1 ⊢
  refine EvC.frz 0 (by simp only [go_sem, hLn, hLl] <;> rfl) ?_
  refine EvC.k1 ?_ (h1 := by simp only [go_sem, hLl] <;> rfl) (c1 := .ca (clipB_is (i == 0) L .unk h1))
  refine EvC.rz ?_
  simp only [go_sem]
  rw [hfe]
 have hil : i < N := by simpa using hc
 clear hc
 have hge : X[i]? = some (X[i]'(by omega)) := List.getElem?_eq_getElem (by omega)
 have hxm := hX _ (List.getElem_mem (show i < X.length by omega))
 have htk : (equalsL m X).take (i + 1) = (equalsL m X).take i ++ [eqM m (X[i]'(by omega))] := by
  rw [List.take_succ_eq_append_getElem (by omega)]; simp [equalsL]
 generalize X[i]'(by omega) = x at hge hxm htk
 have hxg : (X.map Mach.cells)[i]? = some x.cells := by rw [List.getElem?_map, hge]; rfl
 have q2 := equals_equal_is m x hm (valid_sm hxm.1)
 have hit : (i : Int).toNat = i := Int.toNat_natCast i
 rw [show (equalR m x).1 = eqM m x from rfl] at q2
 simp only [Mach.cells] at q2 hxg
 refine EvC.skip ?_
 refine EvC.seq ?_
 refine EvC.block ?_
 refine EvC.a ?_ (by simp only [go_sem, hxg, hit, List.length_map, hXl] <;> rfl)
 refine EvC.z 4 ?_
 refine EvC.k1 ?_ (h1 := by simp only [go_sem, Mach.cells] <;> rfl) (c1 := .ca q2)
 have hs : ((equalsL m X).take i).map boolC ++ [[.sc (.bool (eqM m x))]] = ((equalsL m X).take (i + 1)).map boolC := by rw [htk, List.map_append]; rfl
 have hLn2 := norefs_bools ((equalsL m X).take (i + 1))
 have hr2 : room (i + 1) 1 = true := by simp only [room_eq, decide_eq_true_eq]; omega
 have hLl2 : (((equalsL m X).take (i + 1)).map boolC).length = i + 1 := by rw [List.length_map, List.length_take]; omega
 have hne : (i + 1 == 0) = false := rfl
 obtain ⟨L2, hL2⟩ : ∃ L, L = ((equalsL m X).take (i + 1)).map boolC := ⟨_, rfl⟩
 rw [← hL2] at hs hLn2 hLl2
 refine EvC.b ?_ (by simp only [go_sem, hs, hLl] <;> rfl) (by simp [hr2])
 refine EvC.b ?_ (hok := by exact inI64_of (by omega) (by omega))
 exact ⟨[(0, 0)], i + 1, rfl, (by rw [← hL2]; simp only [go_sem, Mach.cells, hLn2, hLl2, hne, Int.natCast_add, Int.natCast_one] <;> rfl), hil, by omega⟩
theorem norefs_intC (l : List Int) : (l.map intC).all AV.norefs = true := by simp [List.all_eq_true, intC, AV.norefs, AV.noref]
def distF (X : List Mach) (i : Nat) : Int := (fstM (fun x => eqM x (atM X i)) (X.take i) : Nat)
def distL (X : List Mach) : List Int := (List.range X.length).map (distF X)
def distinctA (m : Mach) (fs : List FA) : AV :=
 if mutErr m fs ≠ 0 then .tu [.sl true [] .unk, .sc (.int .i64 (mutErr m fs))] else .tu [.sl fs.isEmpty ((distL (fs.map (mutF m))).map intC) .full, .sc (.int .i64 0)]
theorem dist53_is (a b : Mach) (ha : rowsSm a) (hb : rowsSm b) : PureIs prog 53 [.ag a.cells, .ia b.cells] (.sc (.bool (eqM a b))) := by
 have q := equals_equal_is a b ha hb
 rw [show (equalR a b).1 = eqM a b from rfl] at q
 simp only [Mach.cells] at q ⊢
 refine PureIs.of1 5 [] func53 ntmps53 results53 fun _ => ?_
 refine EvC.a ?_
 refine EvC.z 0 ?_
 refine EvC.k1 ?_ (c1 := .ca q)
 refine EvC.a ?_
 refine EvC.rz ?_
 simp only [go_sem]
set_option maxHeartbeats 4000000 in
theorem distinct_is (m : Mach) (hm : ∀ r ∈ m.rows, r.2.length < 1000000) (hnn : NoNil m) (fn : Bool) (fs : List FA) (fc : Cp) (hfl : fs.length < 1000000) :
  PureIs prog 29 [.ag m.cells, .sl fn (fs.map FA.cells) fc] (distinctA m fs) := by
 refine PureIs.of1 3 [4, 5, 6, 7, 8, 9, 10, 11, 19, 21, 22, 23, 24, 34] func29 ntmps29 results29 fun _ => ?_
 have q := mutants49_is m hm hnn fn fs fc hfl
 unfold mutsA at q
 unfold distinctA
 refine EvC.a ?_ (by simp only [go_sem, Mach.cells] <;> rfl)
 refine EvC.z 0 ?_
 by_cases hE : mutErr m fs = 0
 rotate_left
 ·rw [if_neg hE] at q
  rw [if_pos hE]
  refine EvC.k1 ?_ (h1 := by simp only [go_sem, Mach.cells] <;> rfl) (c1 := .ca q)
  refine EvC.seq ?_
  refine EvC.a ?_
  refine EvC.ct ?_ (by simp only [go_sem, decide_eq_false hE] <;> rfl)
  refine EvC.a ?_
  refine EvC.rz ?_
  simp only [go_sem]
 rw [if_pos hE] at q
 rw [if_neg (show ¬ mutErr m fs ≠ 0 from fun h => h hE)]
 have hX := muts_sm hE
 have hXl : (fs.map (mutF m)).length = fs.length := List.length_map _
 generalize fs.map (mutF m) = X at q hX hXl ⊢
 have hXn := norefs_machs X
 have hfl2 := (mutErr_ok hE).2.1
 refine EvC.k1 ?_ (h1 := by simp only [go_sem, Mach.cells] <;> rfl) (c1 := .ca q) (h2 := by simp only [go_sem, hXn] <;> rfl)
 refine EvC.seq ?_
 refine EvC.a ?_
 refine EvC.cs ?_
 refine EvC.a ?_
 refine EvC.seq ?_
 refine EvC.a ?_ (by simp only [go_sem, List.length_map, hXl] <;> rfl)
 refine EvC.block ?_
 obtain ⟨N, hN⟩ : ∃ N, N = fs.length := ⟨_, rfl⟩
 have hfe : fs.isEmpty = (N == 0) := by rw [hN]; cases fs <;> rfl
 rw [← hN] at hXl hfl2 ⊢
 have hel : (distL X).length = N := by rw [distL, List.length_map, List.length_range, hXl]
 refine EvC.loopS (σ := Nat) (fun i => ⟨[(6, .sl fs.isEmpty (X.map Mach.cells) .unk), (8, .tl 0 i (i == 0)), (21, .sl fs.isEmpty (X.map Mach.cells) .unk), (22, .sc (.int .i64 N)), (23, .sc (.int .i64 i))], [], [(0, .arr 1 (((distL X).take i).map intC) true)], 1⟩) (fun i => N - i) (fun i => i ≤ N) [6, 8, 21, 22, 23] 1 ?_ ?_
 ·exact ⟨[(13, 0)], 0, rfl, (by simp only [go_sem, Int.natCast_zero, List.take_zero, List.map_nil] <;> rfl), Nat.zero_le _⟩
 intro i hi
 have hLn := norefs_intC ((distL X).take i)
 have hLl : (((distL X).take i).map intC).length = i := by rw [List.length_map, List.length_take]; omega
 refine EvC.a ?_
 refine EvC.seq ?_
 refine EvC.cond (by simp only [go_sem] <;> rfl) (fun hc => ?_) (fun hc => ?_)
 rotate_left
 ·refine EvC.exit ?_
  obtain rfl : i = N := by have : ¬ i < N := (by simpa using hc); omega
  rw [List.take_of_length_le (by omega)] at hLn hLl ⊢
  have h1 : (((distL X).map intC).all fun y => decide (y.length = 1)) = true := by simp [List.all_eq_true, intC]
  generalize (distL X).map intC = L at hLn hLl h1 ⊢
  refine EvC.frz 0 (by simp only [go_sem, hLn, hLl] <;> rfl) ?_
  refine EvC.k1 ?_ (h1 := by simp only [go_sem, hLl] <;> rfl) (c1 := .ca (clipI_is (i == 0) L .unk h1))
  refine EvC.rz ?_
  simp only [go_sem]
  rw [hfe]
 have hil : i < N := by simpa using hc
 clear hc
 have hge : X[i]? = some (X[i]'(by omega)) := List.getElem?_eq_getElem (by omega)
 have hxm := hX _ (List.getElem_mem (show i < X.length by omega))
 have hat : atM X i = X[i]'(by omega) := by rw [atM, Int.toNat_natCast, List.getD_eq_getElem?_getD, hge]; rfl
 have htk : (distL X).take (i + 1) = (distL X).take i ++ [distF X i] := by
  rw [List.take_succ_eq_append_getElem (by omega)]; simp [distL]
 rw [distF, hat] at htk
 generalize X[i]'(by omega) = x at hge hxm htk
 have hxg : (X.map Mach.cells)[i]? = some x.cells := by rw [List.getElem?_map, hge]; rfl
 have hit : (i : Int).toNat = i := Int.toNat_natCast i
 have hle := fstM_le (fun y => eqM y x) (X.take i)
 have hti : (X.take i).length = i := by rw [List.length_take]; omega
 rw [hti] at hle
 have q2 := indexM_is fs.isEmpty (X.take i) .unk 53 [.ia x.cells] (by simp [AV.norefs, AV.noref]) (fun y => eqM y x) (fun y hy => dist53_is y x (valid_sm (hX y (List.mem_of_mem_take hy)).1) (valid_sm hxm.1)) (by omega)
 rw [findIdxM_fst, hti, List.map_take, Int.zero_add] at q2
 obtain ⟨d, hd⟩ : ∃ d, d = fstM (fun y => eqM y x) (X.take i) := ⟨_, rfl⟩
 rw [← hd] at q2 htk hle
 have hxc : x.cells = [.sc (.int .i64 x.ins), .sc (.int .i64 x.outs), .sl x.nl (x.rows.map rowC) .unk] := rfl
 rw [hxc] at hxg q2
 refine EvC.skip ?_
 refine EvC.seq ?_
 refine EvC.block ?_
 refine EvC.a ?_ (by simp only [go_sem, hxg, hit, List.length_map, hXl] <;> rfl)
 refine EvC.z 5 ?_
 have hlm : (X.map Mach.cells).length = N := by rw [List.length_map, hXl]
 have hm3 : ∀ y ∈ X, (Mach.cells y).length = 3 := fun _ _ => rfl
 refine EvC.k1 ?_ (h1 := by simp only [go_sem, hit, hlm] <;> rfl) (k1 := by simp; exact ⟨hm3, by omega⟩) (c1 := .ca q2) (h2 := by simp only [go_sem, hXn] <;> rfl)
 have hs : ((distL X).take i).map intC ++ [[.sc (.int .i64 d)]] = ((distL X).take (i + 1)).map intC := by rw [htk, List.map_append]; rfl
 have hLn2 := norefs_intC ((distL X).take (i + 1))
 have hr2 : room (i + 1) 8 = true := by simp only [room_eq, decide_eq_true_eq]; omega
 have hLl2 : (((distL X).take (i + 1)).map intC).length = i + 1 := by rw [List.length_map, List.length_take]; omega
 have hne : (i + 1 == 0) = false := rfl
 obtain ⟨L2, hL2⟩ : ∃ L, L = ((distL X).take (i + 1)).map intC := ⟨_, rfl⟩
 rw [← hL2] at hs hLn2 hLl2
 refine EvC.seq ?_
 by_cases hdi : d < i
 ·rw [if_pos hdi]
  refine EvC.a ?_
  refine EvC.cs ?_ (by simp only [go_sem, decide_eq_false (show ¬ (d : Int) < 0 by omega)] <;> rfl)
  refine EvC.b ?_ (by simp only [go_sem, hs, hLl] <;> rfl) (by simp [hr2])
  refine EvC.b ?_ (hok := by exact inI64_of (by omega) (by omega))
  exact ⟨[(0, 0)], i + 1, rfl, (by rw [← hL2]; simp only [go_sem, hLn2, hLl2, hne, Int.natCast_add, Int.natCast_one] <;> rfl), hil, by omega⟩
 ·obtain rfl : d = i := by omega
  rw [if_neg hdi]
  refine EvC.a ?_
  refine EvC.ct ?_
  refine EvC.b ?_
  refine EvC.b ?_ (by simp only [go_sem, hs, hLl] <;> rfl) (by simp [hr2])
  refine EvC.b ?_ (hok := by exact inI64_of (by omega) (by omega))
  exact ⟨[(0, 0)], d + 1, rfl, (by rw [← hL2]; simp only [go_sem, hLn2, hLl2, hne, Int.natCast_add, Int.natCast_one] <;> rfl), hil, by omega⟩
def idxI (x : Int) : List Int → Int → Int
 | [], _ => -1
 | e :: es, i => if x = e then i else idxI x es (i + 1)
theorem idxI_any (x : Int) : ∀ (es : List Int) (i : Int), 0 ≤ i → decide (0 ≤ idxI x es i) = es.contains x
 | [], i, _ => by simp [idxI]
 | e :: es, i, h => by
   unfold idxI
   split
   ·rename_i hp; simp [hp, h]
   ·rename_i hp
    rw [idxI_any x es (i + 1) (by omega)]
    simp [hp]
theorem indexI_is (nl : Bool) (xs : List Int) (c : Cp) (x : Int) (hl : xs.length < 1000000) :
  PureIs prog 85 [.sl nl (xs.map intC) c, .sc (.int .i64 x)] (.sc (.int .i64 (idxI x xs 0))) := by
 refine PureIs.of1 2 [4, 5, 7, 8, 9, 16] func85 ntmps85 results85 fun _ => ?_
 refine EvC.a ?_
 refine EvC.seq ?_
 refine EvC.a ?_ (by simp only [go_sem, List.length_map] <;> rfl)
 refine EvC.block ?_
 refine EvC.loopS (σ := Nat) (fun i => ⟨[(0, .sl nl (xs.map intC) c), (1, .sc (.int .i64 x)), (7, .sc (.int .i64 xs.length)), (8, .sc (.int .i64 i))], [], [], 0⟩) (fun i => xs.length - i) (fun i => i ≤ xs.length ∧ idxI x xs 0 = idxI x (xs.drop i) i) [0, 1, 7, 8] 0 ?_ ?_
 ·refine ⟨[], 0, rfl, (by simp only [go_sem, Int.natCast_zero] <;> rfl), Nat.zero_le _, by simp⟩
 rintro i ⟨h1, h2⟩
 refine EvC.a ?_
 refine EvC.seq ?_
 refine EvC.cond (by simp only [go_sem] <;> rfl) (fun hc => ?_) (fun hc => ?_)
 rotate_left
 ·refine EvC.exit ?_
  have hi : ¬ i < xs.length := by simpa using hc
  refine EvC.a ?_
  refine EvC.rz ?_
  simp only [go_sem]
  rw [h2, List.drop_of_length_le (by omega)]; rfl
 have hi : i < xs.length := by simpa using hc
 clear hc
 have he : xs[i]? = some xs[i] := List.getElem?_eq_getElem hi
 have hd : xs.drop i = xs[i] :: xs.drop (i + 1) := List.drop_eq_getElem_cons hi
 generalize xs[i] = e at he hd
 have hg : (xs.map intC)[i]? = some [.sc (.int .i64 e)] := by rw [List.getElem?_map, he]; rfl
 have hit : (i : Int).toNat = i := Int.toNat_natCast i
 rw [hd, idxI] at h2
 refine EvC.skip ?_
 refine EvC.seq ?_
 refine EvC.block ?_
 refine EvC.a ?_
 refine EvC.a ?_ (by simp only [go_sem, hg, hit, List.length_map] <;> rfl) (by simp; try omega)
 by_cases hxe : x = e
 ·rw [if_pos hxe] at h2
  refine EvC.ct ?_ (by simp only [go_sem, decide_eq_true hxe] <;> rfl)
  rw [h2]
  refine EvC.a ?_
  refine EvC.rz ?_
  simp only [go_sem]
 ·rw [if_neg hxe] at h2
  refine EvC.cs ?_ (by simp only [go_sem, decide_eq_false hxe] <;> rfl)
  refine EvC.b ?_ (hok := by exact inI64_of (by omega) (by omega))
  exact ⟨[], i + 1, rfl, (by simp only [go_sem, Int.natCast_add, Int.natCast_one] <;> rfl), ⟨by omega, h2⟩, by omega⟩
theorem containsI_is (nl : Bool) (xs : List Int) (c : Cp) (x : Int) (hl : xs.length < 1000000) :
  PureIs prog 71 [.sl nl (xs.map intC) c, .sc (.int .i64 x)] (.sc (.bool (xs.contains x))) := by
 refine PureIs.of1 2 [4] func71 ntmps71 results71 fun _ => ?_
 refine EvC.a ?_
 refine EvC.k1 ?_ (c1 := .ca (indexI_is nl xs c x hl))
 refine EvC.rz ?_
 simp only [go_sem]
 rw [idxI_any x xs 0 (Int.le_refl _)]
theorem has93_is (nl : Bool) (xs : List Int) (c : Cp) (x : Int) (hl : xs.length < 1000000) :
  PureIs prog 41 [.ag [.sl nl (xs.map intC) c], .sc (.int .i64 x)] (.sc (.bool (xs.contains x))) := by
 refine PureIs.of1 3 [4] func41 ntmps41 results41 fun _ => ?_
 refine EvC.a ?_
 refine EvC.z 0 ?_
 refine EvC.k1 ?_ (c1 := .ca (containsI_is nl xs c x hl))
 refine EvC.rz ?_
 simp only [go_sem]
theorem within92_is (nl : Bool) (xs : List Int) (c : Cp) (x : Int) (hl : xs.length < 1000000) :
  PureIs prog 40 [.sc (.int .i64 x), .ia [.sl nl (xs.map intC) c]] (.sc (.bool (!xs.contains x))) := by
 refine PureIs.of1 2 [3] func40 ntmps40 results40 fun _ => ?_
 refine EvC.a ?_
 refine EvC.k1 ?_ (c1 := .ca (has93_is nl xs c x hl))
 refine EvC.rz ?_
 simp only [go_sem]
def subB (a b : List Int) : Bool := !(a.any fun x => !b.contains x)
theorem within63_is (na : Bool) (a : List Int) (ca : Cp) (nb : Bool) (b : List Int) (cb : Cp) (ha : a.length < 1000000) (hb : b.length < 1000000) :
  PureIs prog 20 [.ag [.sl na (a.map intC) ca], .ag [.sl nb (b.map intC) cb]] (.sc (.bool (subB a b))) := by
 have hbn := norefs_intC b
 have q := containsInt_is na a ca 40 [.ia [.sl nb (b.map intC) cb]] (by simp [AV.norefs, AV.noref]) (fun x => !b.contains x) (fun x _ => within92_is nb b cb x hb) ha
 refine PureIs.of1 5 [] func20 ntmps20 results20 fun _ => ?_
 refine EvC.a ?_
 refine EvC.z 0 ?_
 refine EvC.z 1 ?_
 refine EvC.k1 ?_ (c1 := .ca q)
 refine EvC.rz ?_
 simp only [go_sem]
 rfl
def killL (m t : Mach) : List RW → Nat → List Int
 | [], _ => []
 | w :: ws, i => if runR m 0 w.2.1 = runR t 0 w.2.1 then killL m t ws (i + 1) else (i : Int) :: killL m t ws (i + 1)
theorem killL_len (m t : Mach) : ∀ (ws : List RW) (i : Nat), (killL m t ws i).length ≤ ws.length
 | [], _ => Nat.le_refl _
 | w :: ws, i => by
   have := killL_len m t ws (i + 1)
   rw [killL]
   split <;> simp only [List.length_cons] <;> omega
def killersA (m : Mach) (W : List RW) (f : FA) : AV :=
 if checkF m f ≠ 0 then .tu [.ag [.sl true [] .zer], .sc (.int .i64 (checkF m f))]
 else .tu [.ag [.sl (killL m (mutF m f) W 0).isEmpty ((killL m (mutF m f) W 0).map intC) .unk], .sc (.int .i64 0)]
structure WordsOk (m : Mach) (W : List RW) : Prop where
 e : ∀ w ∈ W, wordErr m.ins w.2.1 = 0
 l : ∀ w ∈ W, w.2.1.length < 1000000
 n : W.length < 1000000
set_option maxHeartbeats 4000000 in
theorem killers_is {m : Mach} (hv : Valid m) (hnn : NoNil m) (wn : Bool) (W : List RW) (wc : Cp) (hW : WordsOk m W) (f : FA) :
  PureIs prog 19 [.ag m.cells, .sl wn (W.map rwC) wc, .ag f.cells] (killersA m W f) := by
 have q := apply71_is hv (checkM_of hv) hnn f
 unfold applyR at q
 unfold killersA
 have hWn := norefs_rw W
 have hfc : f.cells = [.sc (.int .i64 f.kind), .sc (.int .i64 f.state), .sc (.int .i64 f.input), .sc (.int .i64 f.to), .sc (.int .i64 f.at'), .sc (.int .i64 f.out)] := rfl
 rw [hfc] at q ⊢
 refine PureIs.of1 4 [5, 6, 7, 8, 9, 10, 11, 13, 22, 25, 26, 27, 28, 47] func19 ntmps19 results19 fun _ => ?_
 refine EvC.a ?_ (by simp only [go_sem, Mach.cells] <;> rfl)
 refine EvC.z 0 ?_
 refine EvC.z 1 ?_
 by_cases h0 : checkF m f = 0
 rotate_left
 ·rw [if_neg h0] at q
  rw [if_pos h0]
  refine EvC.k1 ?_ (h1 := by simp only [go_sem, Mach.cells] <;> rfl) (c1 := .ca q)
  refine EvC.seq ?_
  refine EvC.a ?_
  refine EvC.ct ?_ (by simp only [go_sem, decide_eq_false h0] <;> rfl)
  refine EvC.a ?_
  refine EvC.rz ?_
  simp only [go_sem]
 rw [if_pos h0] at q
 rw [if_neg (show ¬ checkF m f ≠ 0 from fun h => h h0)]
 have hvt := mutF_valid hv h0
 have hti : (mutF m f).ins = m.ins := rfl
 obtain ⟨t, ht⟩ : ∃ t, t = mutF m f := ⟨_, rfl⟩
 rw [← ht] at q hvt hti ⊢
 have htc : t.cells = [.sc (.int .i64 t.ins), .sc (.int .i64 t.outs), .sl t.nl (t.rows.map rowC) .unk] := rfl
 rw [htc] at q
 refine EvC.k1 ?_ (h1 := by simp only [go_sem, Mach.cells] <;> rfl) (c1 := .ca q)
 refine EvC.z 10 ?_
 refine EvC.seq ?_
 refine EvC.a ?_
 refine EvC.cs ?_
 refine EvC.seq ?_
 refine EvC.a ?_ (by simp only [go_sem, List.length_map] <;> rfl)
 refine EvC.block ?_
 refine EvC.gcTo ⟨[(3, .ia m.cells), (6, .rf 0 0), (8, .ia t.cells), (25, .sl wn (W.map rwC) wc), (26, .sc (.int .i64 W.length)), (27, .sc (.int .i64 0))], [], [(0, .cells [.sl true [] .zer])], 1⟩ [3, 6, 8, 25, 26, 27] [(2, 0)] rfl (by simp only [go_sem, Mach.cells] <;> rfl) ?_
 refine EvC.ownC 0 0 1 (by simp only [go_sem] <;> rfl) ?_
 have hWe := hW.e
 have hWl := hW.l
 have hWn2 := hW.n
 refine EvC.loopS (σ := Nat × List Int) (fun g => ⟨[(3, .ia m.cells), (6, .rf 0 0), (8, .ia t.cells), (25, .sl wn (W.map rwC) wc), (26, .sc (.int .i64 W.length)), (27, .sc (.int .i64 g.1))], [], [(0, .cells [.tl 1 g.2.length g.2.isEmpty]), (1, .arr 1 (g.2.map intC) true)], 2⟩) (fun g => W.length - g.1) (fun g => g.1 ≤ W.length ∧ killL m t W 0 = g.2 ++ killL m t (W.drop g.1) g.1 ∧ g.2.length ≤ g.1) [3, 6, 8, 25, 26, 27] 2 ?_ ?_
 ·exact ⟨[(0, 0), (1, 1)], (0, []), rfl, (by simp only [go_sem, Int.natCast_zero, List.map_nil, List.length_nil, List.isEmpty_nil, Mach.cells] <;> rfl), Nat.zero_le _, rfl, Nat.le_refl _⟩
 rintro ⟨i, L⟩ ⟨i1, i2, i3⟩
 simp only at i1 i2 i3 ⊢
 have hLn := norefs_intC L
 have hLl : (L.map intC).length = L.length := List.length_map _
 refine EvC.a ?_
 refine EvC.seq ?_
 refine EvC.cond (by simp only [go_sem] <;> rfl) (fun hc => ?_) (fun hc => ?_)
 rotate_left
 ·refine EvC.exit ?_
  obtain rfl : i = W.length := by have : ¬ i < W.length := (by simpa using hc); omega
  clear hc
  rw [List.drop_length, killL, List.append_nil] at i2
  rw [i2]
  generalize L.map intC = L1 at hLn hLl ⊢
  refine EvC.frzD 1 (by simp only [go_sem, hLn, hLl] <;> rfl) ?_
  refine EvC.a ?_
  refine EvC.rz ?_
  simp only [go_sem]
 have hil : i < W.length := by simpa using hc
 clear hc
 have hge := List.getElem?_eq_getElem hil
 have hwm := List.getElem_mem hil
 have hdr : W.drop i = W[i] :: W.drop (i + 1) := List.drop_eq_getElem_cons hil
 generalize W[i] = w at hge hwm hdr
 have hwg : (W.map rwC)[i]? = some [.sl w.1 (w.2.1.map intC) w.2.2] := by rw [List.getElem?_map, hge]; rfl
 have hit : (i : Int).toNat = i := Int.toNat_natCast i
 rw [hdr, killL] at i2
 have hmr := hv.rows
 have htr := hvt.rows
 have q1 := run52_is hv 0 (by omega) w.1 w.2.1 w.2.2 (hWe w hwm) (hWl w hwm)
 have q2 := run52_is hvt 0 (by omega) w.1 w.2.1 w.2.2 (by rw [hti]; exact hWe w hwm) (hWl w hwm)
 have hr1 : (runR m 0 w.2.1).length < 1000000 := by rw [runR_len]; exact hWl w hwm
 have q3 := equal53_is false false (runR m 0 w.2.1) (runR t 0 w.2.1) .unk .unk hr1
 rw [show m.cells = [.sc (.int .i64 m.ins), .sc (.int .i64 m.outs), .sl m.nl (m.rows.map rowC) .unk] from rfl] at q1
 rw [htc] at q2
 refine EvC.skip ?_
 refine EvC.seq ?_
 refine EvC.block ?_
 refine EvC.a ?_ (by simp only [go_sem, hwg, hit, List.length_map] <;> rfl) (by simp; try omega)
 refine EvC.k1 ?_ (h1 := by simp only [go_sem, Mach.cells] <;> rfl) (c1 := .ca q1)
 refine EvC.k1 ?_ (h1 := by simp only [go_sem, Mach.cells] <;> rfl) (c1 := .ca q2)
 refine EvC.k1 ?_ (c1 := .ca q3)
 by_cases he : runR m 0 w.2.1 = runR t 0 w.2.1
 ·rw [if_pos he] at i2
  refine EvC.cs ?_ (by simp only [go_sem, decide_eq_true he] <;> rfl)
  refine EvC.b ?_ (hok := by exact inI64_of (by omega) (by omega))
  exact ⟨[(0, 0), (1, 1)], (i + 1, L), rfl, (by simp only [go_sem, hLn, Mach.cells, Int.natCast_add, Int.natCast_one] <;> rfl), ⟨hil, i2, by simp only; omega⟩, by simp only; omega⟩
 ·rw [if_neg he] at i2
  refine EvC.ct ?_ (by simp only [go_sem, decide_eq_false he] <;> rfl)
  have hs : L.map intC ++ [[.sc (.int .i64 i)]] = (L ++ [(i : Int)]).map intC := by rw [List.map_append]; rfl
  have hl2 : L.length + 1 = (L ++ [(i : Int)]).length := by simp
  have hn2 : (L ++ [(i : Int)]).isEmpty = false := by simp
  have hr2 : room (L.length + 1) 8 = true := by simp only [room_eq, decide_eq_true_eq]; omega
  have hk : killL m t W 0 = (L ++ [(i : Int)]) ++ killL m t (W.drop (i + 1)) (i + 1) := by rw [i2]; simp
  have hLn2 := norefs_intC (L ++ [(i : Int)])
  have hLl2 : ((L ++ [(i : Int)]).map intC).length = (L ++ [(i : Int)]).length := List.length_map _
  have hle : (L ++ [(i : Int)]).length ≤ i + 1 := by simp; omega
  rw [hl2] at hr2
  generalize L ++ [(i : Int)] = L2 at hs hl2 hn2 hr2 hk hLn2 hLl2 hle
  obtain ⟨U, hU⟩ : ∃ U, U = L2.map intC := ⟨_, rfl⟩
  rw [← hU] at hs hLn2 hLl2
  refine EvC.b ?_ (by simp only [go_sem, hs, hl2, hLl] <;> rfl) (by simp [hr2])
  refine EvC.b ?_ (hok := by exact inI64_of (by omega) (by omega))
  exact ⟨[(0, 0), (1, 1)], (i + 1, L2), rfl, (by rw [hn2, ← hU]; simp only [go_sem, hLn2, hLl2, Mach.cells, Int.natCast_add, Int.natCast_one] <;> rfl), ⟨hil, hk, by simp only; omega⟩, by simp only; omega⟩
def sCmp : List Int → List Int → Int
 | [], [] => 0
 | [], _ :: _ => -1
 | _ :: _, [] => 1
 | x :: a, y :: b => if cmpJ x y ≠ 0 then cmpJ x y else sCmp a b
theorem sCmp_eq : ∀ {a b : List Int}, a.length = b.length → sCmp a b = cmpI a b
 | [], [], _ => rfl
 | [], _ :: _, h => by simp at h
 | _ :: _, [], h => by simp at h
 | x :: a, y :: b, h => by
   have ih := sCmp_eq (a := a) (b := b) (by simpa using h)
   rw [sCmp, cmpI, ih]
   unfold cmpJ
   by_cases h1 : x < y
   ·simp [h1]
   ·by_cases h2 : y < x
    ·simp [h1, h2]
    ·simp [h1, h2]
theorem sCompare_is (na : Bool) (a : List Int) (ca : Cp) (nb : Bool) (b : List Int) (cb : Cp) (ha : a.length < 1000000) :
  PureIs prog 95 [.sl na (a.map intC) ca, .sl nb (b.map intC) cb] (.sc (.int .i64 (sCmp a b))) := by
 have hal : (a.map intC).length = a.length := List.length_map _
 have hbl : (b.map intC).length = b.length := List.length_map _
 have hag : ∀ (i : Nat) (x : Int), a[i]? = some x → (a.map intC)[i]? = some [.sc (.int .i64 x)] := fun i x h => by rw [List.getElem?_map, h]; rfl
 have hbg : ∀ (i : Nat) (x : Int), b[i]? = some x → (b.map intC)[i]? = some [.sc (.int .i64 x)] := fun i x h => by rw [List.getElem?_map, h]; rfl
 generalize a.map intC = A at hal hag ⊢
 generalize b.map intC = B at hbl hbg ⊢
 refine PureIs.of1 2 [4, 5, 6, 7, 8, 9, 10, 11, 12, 19, 28, 35] func95 ntmps95 results95 fun _ => ?_
 refine EvC.a ?_
 refine EvC.seq ?_
 refine EvC.a ?_ (by simp only [go_sem, hal] <;> rfl)
 refine EvC.block ?_
 refine EvC.loopS (σ := Nat) (fun i => ⟨[(0, .sl na A ca), (1, .sl nb B cb), (9, .sl na A ca), (10, .sc (.int .i64 a.length)), (11, .sc (.int .i64 i))], [], [], 0⟩) (fun i => a.length - i) (fun i => i ≤ a.length ∧ i ≤ b.length ∧ sCmp a b = sCmp (a.drop i) (b.drop i)) [0, 1, 9, 10, 11] 0 ?_ ?_
 ·exact ⟨[], 0, rfl, (by simp only [go_sem, Int.natCast_zero] <;> rfl), Nat.zero_le _, Nat.zero_le _, rfl⟩
 rintro i ⟨i1, i2, i3⟩
 refine EvC.a ?_
 refine EvC.seq ?_
 by_cases hi : i < a.length
 rotate_left
 ·refine EvC.cf ?_ (by simp only [go_sem, decide_eq_false (show ¬ (i : Int) < a.length by omega)] <;> rfl)
  refine EvC.exit ?_
  rw [List.drop_of_length_le (l := a) (by omega)] at i3
  refine EvC.seq ?_
  refine EvC.a ?_ (by simp only [go_sem, hal, hbl] <;> rfl)
  by_cases hb : b.length = a.length
  ·rw [List.drop_of_length_le (by omega), sCmp] at i3
   refine EvC.cs ?_ (by simp only [go_sem, decide_eq_false (show ¬ (a.length : Int) < b.length by omega)] <;> rfl)
   rw [i3]
   refine EvC.a ?_
   refine EvC.rz ?_
   simp only [go_sem]
  ·rw [List.drop_eq_getElem_cons (show i < b.length by omega), sCmp] at i3
   refine EvC.ct ?_ (by simp only [go_sem, decide_eq_true (show (a.length : Int) < b.length by omega)] <;> rfl)
   rw [i3]
   refine EvC.a ?_
   refine EvC.rz ?_
   simp only [go_sem]
 have hge := List.getElem?_eq_getElem hi
 have hda : a.drop i = a[i] :: a.drop (i + 1) := List.drop_eq_getElem_cons hi
 generalize a[i] = x at hge hda
 rw [hda] at i3
 have hxg := hag i x hge
 have hit : (i : Int).toNat = i := Int.toNat_natCast i
 refine EvC.cr ?_ (by simp only [go_sem, decide_eq_true (show (i : Int) < a.length by omega)] <;> rfl)
 refine EvC.seq ?_
 refine EvC.block ?_
 refine EvC.a ?_ (by simp only [go_sem, hxg, hit, hal] <;> rfl) (by simp; try omega)
 refine EvC.seq ?_
 refine EvC.a ?_ (by simp only [go_sem, hbl] <;> rfl)
 by_cases hb : i < b.length
 rotate_left
 ·rw [List.drop_of_length_le (l := b) (by omega), sCmp] at i3
  refine EvC.ct ?_ (by simp only [go_sem, decide_eq_true (show (b.length : Int) ≤ i by omega)] <;> rfl)
  rw [i3]
  refine EvC.a ?_
  refine EvC.rz ?_
  simp only [go_sem]
 have hgb := List.getElem?_eq_getElem hb
 have hdb : b.drop i = b[i] :: b.drop (i + 1) := List.drop_eq_getElem_cons hb
 generalize b[i] = y at hgb hdb
 rw [hdb, sCmp] at i3
 have hyg := hbg i y hgb
 refine EvC.cs ?_ (by simp only [go_sem, decide_eq_false (show ¬ (b.length : Int) ≤ i by omega)] <;> rfl)
 refine EvC.a ?_ (by simp only [go_sem, hyg, hit, hbl] <;> rfl) (by simp; try omega)
 refine EvC.k1 ?_ (c1 := .ca (compareI_is x y))
 refine EvC.a ?_
 by_cases hc : cmpJ x y = 0
 ·rw [if_neg (fun h => h hc)] at i3
  refine EvC.cs ?_ (by simp only [go_sem, decide_eq_true hc] <;> rfl)
  refine EvC.b ?_ (hok := by exact inI64_of (by omega) (by omega))
  exact ⟨[], i + 1, rfl, (by simp only [go_sem, Int.natCast_add, Int.natCast_one] <;> rfl), ⟨hi, hb, i3⟩, by omega⟩
 ·rw [if_pos hc] at i3
  refine EvC.ct ?_ (by simp only [go_sem, decide_eq_false hc] <;> rfl)
  rw [i3]
  refine EvC.a ?_
  refine EvC.rz ?_
  simp only [go_sem]
theorem wCompare_is (na : Bool) (a : List Int) (ca : Cp) (nb : Bool) (b : List Int) (cb : Cp) (ha : a.length < 1000000) :
  PureIs prog 83 [.sl na (a.map intC) ca, .sl nb (b.map intC) cb] (.sc (.int .i64 (cmpL a b))) := by
 have q := orI_is false [cmpJ a.length b.length, sCmp a b] .full (by simp)
 simp only [List.map_cons, List.map_nil, intC] at q
 have hR : orR [cmpJ a.length b.length, sCmp a b] = cmpL a b := by
  simp only [orR, cmpL, cmpJ]
  by_cases h : a.length = b.length
  ·rw [sCmp_eq h, if_pos h]
   by_cases hz : cmpI a b = 0 <;> simp [h, hz]
  ·by_cases h2 : a.length < b.length
   ·simp [h, h2]
   ·simp [h, h2, show b.length < a.length by omega]
 rw [hR] at q
 refine PureIs.of1 2 [4] func83 ntmps83 results83 fun _ => ?_
 refine EvC.a ?_
 refine EvC.k3 ?_ (h1 := by simp only [go_sem, List.length_map] <;> rfl) (c1 := .ca (compareI_is a.length b.length)) (h2 := by simp only [go_sem, List.length_map] <;> rfl) (c2 := .ca (sCompare_is na a ca nb b cb ha)) (h3 := by simp only [go_sem, List.length_map] <;> rfl) (c3 := .ca q)
 refine EvC.rz ?_
 simp only [go_sem]
end Go.Avl
