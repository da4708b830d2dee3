/-
  Lemmas.
-/
import Derived.Test.YtgdcjkcohmjbeaaDoorPart7
set_option linter.unusedSimpArgs false
set_option linter.unusedVariables false
set_option linter.unnecessarySimpa false
set_option linter.deprecated false
namespace Go.Avl
open Go Go.Proofs.Tryd
set_option maxRecDepth 10000
def adM (k s i t a o : Int) (L : List FA) : Mem := [(0, .cells [.sc (.int .i64 k), .sc (.int .i64 s), .sc (.int .i64 i), .sc (.int .i64 t), .sc (.int .i64 a), .sc (.int .i64 o)]), (1, .cells [.tl 2 L.length L.isEmpty]), (2, .arr 6 (L.map FA.cells) true)]
theorem add_body (k s i t0 a0 o0 t a o : Int) (L : List FA) (hl : L.length < 1000000) {R : AV → Mem → Nat → Prop} (hR : ∀ nx x, R (mkRes []) ((14, x) :: adM k s i t a o (L ++ [⟨k, s, i, t, a, o⟩])) nx) :
  BodyIs prog 111 [.sc (.int .i64 t), .sc (.int .i64 a), .sc (.int .i64 o), .rf 0 0, .rf 1 0] (adM k s i t0 a0 o0 L) 3 R := by
 refine BodyIs.of (nv := 5) (hid := [14, 16, 17]) func111 rfl (by kernel_rfl) (by simp [ntmps111]) fun h0 => ?_
 rw [ntmps111, results111]
 rw [adM]
 refine EvC.a ?_
 have hsn : L.map FA.cells ++ [[.sc (.int .i64 k), .sc (.int .i64 s), .sc (.int .i64 i), .sc (.int .i64 t), .sc (.int .i64 a), .sc (.int .i64 o)]] = (L ++ [(⟨k, s, i, t, a, o⟩ : FA)]).map FA.cells := by simp [FA.cells]
 have hsl : L.length + 1 = (L ++ [(⟨k, s, i, t, a, o⟩ : FA)]).length := by simp
 have hse : (L ++ [(⟨k, s, i, t, a, o⟩ : FA)]).isEmpty = false := by simp
 have hr2 : room (L.length + 1) 48 = true := by simp only [room_eq, decide_eq_true_eq]; omega
 rw [hsl] at hr2
 generalize L ++ [(⟨k, s, i, t, a, o⟩ : FA)] = T at hsn hsl hse hr2 hR
 refine EvC.b ?_ (by simp only [go_sem, hsn, hsl, List.length_map] <;> rfl) (by simp [hr2])
 rw [adM, hse] at hR
 exact ⟨.inr rfl, [], (by simp only [go_sem] <;> rfl), hR _ _⟩
def ofO (k s i e1 : Int) : Nat → List FA
 | 0 => []
 | n + 1 => ofO k s i e1 n ++ (if (n : Int) ≠ e1 then [⟨k, s, i, 0, 0, n⟩] else [])
def ofT (k s i e0 : Int) : Nat → List FA
 | 0 => []
 | n + 1 => ofT k s i e0 n ++ (if k = 3 ∨ (n : Int) ≠ e0 then [⟨k, s, i, n, 0, 0⟩] else [])
def ofDo (s i a : Int) (f : Int × Int) : Nat → List FA
 | 0 => []
 | n + 1 => ofDo s i a f n ++ (if f.1 ≠ -1 ∧ (n : Int) ≠ f.2 then [⟨4, s, i, 0, a, n⟩] else [])
def ofD (m : Mach) (s i t : Int) : Nat → List FA
 | 0 => []
 | n + 1 => ofD m s i t n ++ ofDo s i n (stepM m t n) m.outs.toNat
def ofF (m : Mach) (k s i : Int) : List FA :=
 if k = 0 then ofO k s i (stepM m s i).2 m.outs.toNat
 else if k = 1 ∨ k = 3 then ofT k s i (stepM m s i).1 m.rows.length
 else if k = 2 then [⟨k, s, i, 0, 0, 0⟩]
 else if k = 4 then ofD m s i (stepM m s i).1 m.ins.toNat
 else []
theorem ofO_len (k s i e1 : Int) : ∀ n, (ofO k s i e1 n).length ≤ n
 | 0 => Nat.le_refl _
 | n + 1 => by
   have := ofO_len k s i e1 n
   rw [ofO, List.length_append]; split <;> simp <;> omega
theorem ofT_len (k s i e1 : Int) : ∀ n, (ofT k s i e1 n).length ≤ n
 | 0 => Nat.le_refl _
 | n + 1 => by
   have := ofT_len k s i e1 n
   rw [ofT, List.length_append]; split <;> simp <;> omega
theorem ofDo_len (s i a : Int) (f : Int × Int) : ∀ n, (ofDo s i a f n).length ≤ n
 | 0 => Nat.le_refl _
 | n + 1 => by
   have := ofDo_len s i a f n
   rw [ofDo, List.length_append]; split <;> simp <;> omega
theorem ofD_len {m : Mach} (hv : Valid m) (s i t : Int) : ∀ n, (ofD m s i t n).length ≤ n * 16
 | 0 => Nat.le_refl _
 | n + 1 => by
   have := ofD_len hv s i t n
   have := ofDo_len s i n (stepM m t n) m.outs.toNat
   have := hv.outs
   rw [ofD, List.length_append]; omega
theorem ofF_len {m : Mach} (hv : Valid m) (k s i : Int) : (ofF m k s i).length ≤ 256 := by
 have := hv.outs
 have := hv.rows
 have := hv.ins
 have h1 := ofO_len k s i (stepM m s i).2 m.outs.toNat
 have h2 := ofT_len k s i (stepM m s i).1 m.rows.length
 have h3 := ofD_len hv s i (stepM m s i).1 m.ins.toNat
 unfold ofF
 split
 ·omega
 split
 ·omega
 split
 ·simp
 split
 ·omega
 ·simp
theorem of97_is {m : Mach} (hv : Valid m) (k s i : Int) (hd : definedB m s i = true) : PureIs prog 97 [.ag m.cells, .sc (.int .i64 k), .sc (.int .i64 s), .sc (.int .i64 i)] (.sl (ofF m k s i).isEmpty ((ofF m k s i).map FA.cells) .unk) := by
 have hmi := hv.ins
 have hmo := hv.outs
 have hmr := hv.rows
 obtain ⟨⟨hs0, hs1⟩, ⟨hi0, hi1⟩, hd1⟩ := definedB_iff.1 hd
 obtain ⟨r, q1, q2, q3⟩ := step_in hv hd
 refine PureIs.of1 5 [8, 9, 10, 11, 12, 13, 14, 15, 16, 30, 31, 34, 35, 36, 41, 42, 43, 46, 51, 52, 53, 62, 63, 64, 67, 69, 71, 78, 79, 80, 81, 86, 87, 88, 98, 99, 100, 101] func97 ntmps97 results97 fun _ => ?_
 refine EvC.a ?_ (by simp only [go_sem, Mach.cells] <;> rfl)
 refine EvC.z 0 ?_
 refine EvC.ownC 1 0 6 (by simp only [go_sem] <;> rfl) ?_
 refine EvC.a ?_ (by simp only [go_sem, Mach.cells, q1, q2, rowC, edgeC] <;> rfl) (by simp [hs0, hi0])
 refine EvC.z 11 ?_
 refine EvC.a ?_
 refine EvC.a ?_
 generalize hE : stepM m s i = E at *
 obtain ⟨e0, e1⟩ := E
 simp only at q2 q3
 refine EvC.gcTo ⟨[(1, .sc (.int .i64 k)), (4, .ia m.cells), (8, .rf 1 0), (9, .ia [.sc (.int .i64 e0), .sc (.int .i64 e1)]), (10, .rf 0 0), (11, .fn 111 [.rf 0 0, .rf 1 0])], [], adM k s i 0 0 0 [], 3⟩ [1, 4, 8, 9, 10, 11] [(17, 0), (1, 1), (2, 2)] rfl (by simp only [go_sem, adM, Mach.cells, List.length_nil, List.isEmpty_nil, List.map_nil] <;> rfl) ?_
 refine EvC.mergeS (α := Int × Int × Int × List FA) (fun p => ⟨[(8, .rf 1 0)], [], adM k s i p.1 p.2.1 p.2.2.1 p.2.2.2, 3⟩) (fun p => p.2.2.2 = ofF m k s i) [8] 3 ?_ ?_
 rotate_left
 ·rintro ⟨t, a, o, L⟩ hL
  simp only at hL ⊢
  subst hL
  have hl := ofF_len hv k s i
  generalize ofF m k s i = L at hl ⊢
  rw [adM]
  refine EvC.a ?_
  refine EvC.frzD 2 (by simp only [go_sem, List.length_map] <;> rfl) ?_
  refine EvC.rz ?_
  simp only [go_sem]
 refine EvC.a ?_
 refine EvC.block ?_
 refine EvC.a ?_
 by_cases k0 : k = 0
 ·
  have hF : ofF m k s i = ofO k s i e1 m.outs.toNat := by unfold ofF; rw [if_pos k0, hE]
  refine EvC.ct ?_ (by simp only [go_sem, decide_eq_true k0] <;> rfl)
  refine EvC.a ?_ (by simp only [go_sem, Mach.cells] <;> rfl)
  refine EvC.block ?_
  refine EvC.loopS (σ := Nat × Int × Int × Int) (fun p => ⟨[(8, .rf 1 0), (9, .ia [.sc (.int .i64 e0), .sc (.int .i64 e1)]), (11, .fn 111 [.rf 0 0, .rf 1 0]), (34, .sc (.int .i64 m.outs)), (35, .sc (.int .i64 p.1))], [], adM k s i p.2.1 p.2.2.1 p.2.2.2 (ofO k s i e1 p.1), 3⟩) (fun p => m.outs.toNat - p.1) (fun p => p.1 ≤ m.outs.toNat) [8, 9, 11, 34, 35] 3 ?_ ?_
  ·exact ⟨[(0, 0), (1, 1), (2, 2)], (0, 0, 0, 0), rfl, (by simp only [go_sem, adM, ofO, Int.natCast_zero, List.length_nil, List.isEmpty_nil, List.map_nil, Mach.cells] <;> rfl), Nat.zero_le _⟩
  rintro ⟨n, t, a, o⟩ hn
  simp only at hn ⊢
  refine EvC.a ?_
  refine EvC.seq ?_
  refine EvC.cond (by simp only [go_sem] <;> rfl) (fun hc => ?_) (fun hc => ?_)
  rotate_left
  ·refine EvC.exit ?_
   obtain rfl : n = m.outs.toNat := by have : ¬ (n : Int) < m.outs := (by simpa using hc); omega
   exact ⟨rfl, [(0, 0), (1, 1), (2, 2)], (t, a, o, ofO k s i e1 m.outs.toNat), rfl, (by simp only [go_sem, adM] <;> rfl), hF.symm⟩
  have hnl : n + 1 ≤ m.outs.toNat := by have : (n : Int) < m.outs := (by simpa using hc); omega
  clear hc
  refine EvC.skip ?_
  refine EvC.seq ?_
  refine EvC.block ?_
  refine EvC.a ?_
  refine EvC.a ?_ (by simp only [go_sem, edgeC] <;> rfl)
  have hlen := ofO_len k s i e1 n
  by_cases hne : (n : Int) = e1
  ·have hx : ofO k s i e1 (n + 1) = ofO k s i e1 n := by rw [ofO, if_neg (fun h => h hne), List.append_nil]
   refine EvC.cs ?_ (by simp only [go_sem, decide_eq_true hne] <;> rfl)
   refine EvC.b ?_ (hok := by exact inI64_of (by omega) (by omega))
   exact ⟨[(0, 0), (1, 1), (2, 2)], (n + 1, t, a, o), rfl, (by rw [hx]; simp only [go_sem, adM, Int.natCast_add, Int.natCast_one] <;> rfl), hnl, by simp only; omega⟩
  ·have hx : ofO k s i e1 (n + 1) = ofO k s i e1 n ++ [⟨k, s, i, 0, 0, n⟩] := by rw [ofO, if_pos hne]
   refine EvC.ct ?_ (by simp only [go_sem, decide_eq_false hne] <;> rfl)
   obtain ⟨nZ, hnZ⟩ : ∃ z : Int, z = (n : Int) := ⟨_, rfl⟩
   rw [← hnZ] at hx ⊢
   apply EvC.region
   apply XR.run
   ·simp only [go_sem] <;> rfl
   ·simp
   refine XR.gcTo ⟨[(8, .rf 1 0), (9, .ia [.sc (.int .i64 e0), .sc (.int .i64 e1)]), (11, .fn 111 [.rf 0 0, .rf 1 0]), (34, .sc (.int .i64 m.outs)), (35, .sc (.int .i64 nZ)), (42, .fn 111 [.rf 0 0, .rf 1 0]), (43, .sc (.int .i64 nZ))], [], adM k s i t a o (ofO k s i e1 n), 3⟩ [8, 9, 11, 34, 35, 42, 43] [(0, 0), (1, 1), (2, 2)] rfl (by simp only [go_sem, adM] <;> rfl) ?_
   apply XR.callI rfl rfl (by simp only [go_sem] <;> rfl) (by simp only [go_sem] <;> rfl) (by simp only [go_sem] <;> rfl)
   refine add_body k s i t a o 0 0 nZ _ (by omega) fun nx x => ?_
   refine XR.nil ?_
   rw [← hx, hnZ]
   refine EvC.b ?_ (hok := by exact inI64_of (by omega) (by omega))
   exact ⟨[(0, 0), (1, 1), (2, 2)], (n + 1, 0, 0, nZ), rfl, (by rw [hnZ]; simp only [go_sem, adM, Int.natCast_add, Int.natCast_one] <;> rfl), hnl, by simp only; omega⟩
 refine EvC.cf ?_ (by simp only [go_sem, decide_eq_false k0] <;> rfl)
 refine EvC.mergeS (α := Unit) (fun _ => ⟨[(1, .sc (.int .i64 k)), (4, .ia m.cells), (8, .rf 1 0), (9, .ia [.sc (.int .i64 e0), .sc (.int .i64 e1)]), (11, .fn 111 [.rf 0 0, .rf 1 0]), (30, .sc (.int .i64 k)), (46, .sc (.bool (decide (k = 1 ∨ k = 3))))], [], adM k s i 0 0 0 [], 3⟩) (fun _ => True) [1, 4, 8, 9, 11, 30, 46] 3 ?_ ?_
 ·refine EvC.a ?_
  by_cases k1 : k = 1
  ·refine EvC.cr ?_ (by simp only [go_sem, decide_eq_true k1] <;> rfl)
   have : decide (k = 1 ∨ k = 3) = true := decide_eq_true (.inl k1)
   exact ⟨rfl, [(0, 0), (1, 1), (2, 2)], (), rfl, (by rw [this]; simp only [go_sem, adM, decide_eq_true k1, List.length_nil, List.isEmpty_nil, List.map_nil, Mach.cells] <;> rfl), trivial⟩
  ·refine EvC.cf ?_ (by simp only [go_sem, decide_eq_false k1] <;> rfl)
   have : decide (k = 1 ∨ k = 3) = decide (k = 3) := by simp [k1]
   refine EvC.b ?_
   exact ⟨rfl, [(0, 0), (1, 1), (2, 2)], (), rfl, (by rw [this]; simp only [go_sem, adM, List.length_nil, List.isEmpty_nil, List.map_nil, Mach.cells] <;> rfl), trivial⟩
 rintro ⟨⟩ -
 by_cases k13 : k = 1 ∨ k = 3
 ·
  have hF : ofF m k s i = ofT k s i e0 m.rows.length := by unfold ofF; rw [if_neg k0, if_pos k13, hE]
  refine EvC.ct ?_ (by simp only [go_sem, decide_eq_true k13] <;> rfl)
  refine EvC.a ?_ (by simp only [go_sem, Mach.cells, List.length_map] <;> rfl)
  refine EvC.block ?_
  refine EvC.loopS (σ := Nat × Int × Int × Int) (fun p => ⟨[(1, .sc (.int .i64 k)), (8, .rf 1 0), (9, .ia [.sc (.int .i64 e0), .sc (.int .i64 e1)]), (11, .fn 111 [.rf 0 0, .rf 1 0]), (51, .sc (.int .i64 m.rows.length)), (52, .sc (.int .i64 p.1))], [], adM k s i p.2.1 p.2.2.1 p.2.2.2 (ofT k s i e0 p.1), 3⟩) (fun p => m.rows.length - p.1) (fun p => p.1 ≤ m.rows.length) [1, 8, 9, 11, 51, 52] 3 ?_ ?_
  ·exact ⟨[(0, 0), (1, 1), (2, 2)], (0, 0, 0, 0), rfl, (by simp only [go_sem, adM, ofT, Int.natCast_zero, List.length_nil, List.isEmpty_nil, List.map_nil, Mach.cells] <;> rfl), Nat.zero_le _⟩
  rintro ⟨n, t, a, o⟩ hn
  simp only at hn ⊢
  refine EvC.a ?_
  refine EvC.seq ?_
  refine EvC.cond (by simp only [go_sem] <;> rfl) (fun hc => ?_) (fun hc => ?_)
  rotate_left
  ·refine EvC.exit ?_
   obtain rfl : n = m.rows.length := by have : ¬ (n : Int) < m.rows.length := (by simpa using hc); omega
   exact ⟨rfl, [(0, 0), (1, 1), (2, 2)], (t, a, o, ofT k s i e0 m.rows.length), rfl, (by simp only [go_sem, adM] <;> rfl), hF.symm⟩
  have hnl : n + 1 ≤ m.rows.length := by have : (n : Int) < m.rows.length := (by simpa using hc); omega
  clear hc
  refine EvC.skip ?_
  refine EvC.seq ?_
  refine EvC.block ?_
  refine EvC.a ?_
  have hlen := ofT_len k s i e0 n
  by_cases k3 : k = 3
  ·have hx : ofT k s i e0 (n + 1) = ofT k s i e0 n ++ [⟨k, s, i, n, 0, 0⟩] := by rw [ofT, if_pos (.inl k3)]
   apply EvC.seq
   apply EvC.trd
   ·simp only [go_sem, edgeC, decide_eq_true k3] <;> rfl
   ·simp
   refine EvC.ct ?_
   obtain ⟨nZ, hnZ⟩ : ∃ z : Int, z = (n : Int) := ⟨_, rfl⟩
   rw [← hnZ] at hx ⊢
   apply EvC.region
   apply XR.run
   ·simp only [go_sem] <;> rfl
   ·simp
   refine XR.gcTo ⟨[(1, .sc (.int .i64 k)), (8, .rf 1 0), (9, .ia [.sc (.int .i64 e0), .sc (.int .i64 e1)]), (11, .fn 111 [.rf 0 0, .rf 1 0]), (51, .sc (.int .i64 m.rows.length)), (52, .sc (.int .i64 nZ)), (63, .fn 111 [.rf 0 0, .rf 1 0]), (64, .sc (.int .i64 nZ))], [], adM k s i t a o (ofT k s i e0 n), 3⟩ [1, 8, 9, 11, 51, 52, 63, 64] [(0, 0), (1, 1), (2, 2)] rfl (by simp only [go_sem, adM] <;> rfl) ?_
   apply XR.callI rfl rfl (by simp only [go_sem] <;> rfl) (by simp only [go_sem] <;> rfl) (by simp only [go_sem] <;> rfl)
   refine add_body k s i t a o nZ 0 0 _ (by omega) fun nx x => ?_
   refine XR.nil ?_
   rw [← hx, hnZ]
   refine EvC.b ?_ (hok := by exact inI64_of (by omega) (by omega))
   exact ⟨[(0, 0), (1, 1), (2, 2)], (n + 1, nZ, 0, 0), rfl, (by rw [hnZ]; simp only [go_sem, adM, Int.natCast_add, Int.natCast_one] <;> rfl), hnl, by simp only; omega⟩
  by_cases hne : (n : Int) = e0
  ·have hx : ofT k s i e0 (n + 1) = ofT k s i e0 n := by rw [ofT, if_neg (fun h => h.elim k3 fun h => h hne), List.append_nil]
   apply EvC.seq
   apply EvC.trd
   ·simp only [go_sem, edgeC, decide_eq_false k3, decide_eq_true hne] <;> rfl
   ·simp
   refine EvC.cs ?_
   refine EvC.b ?_ (hok := by exact inI64_of (by omega) (by omega))
   exact ⟨[(0, 0), (1, 1), (2, 2)], (n + 1, t, a, o), rfl, (by rw [hx]; simp only [go_sem, adM, Int.natCast_add, Int.natCast_one] <;> rfl), hnl, by simp only; omega⟩
  ·have hx : ofT k s i e0 (n + 1) = ofT k s i e0 n ++ [⟨k, s, i, n, 0, 0⟩] := by rw [ofT, if_pos (.inr hne)]
   apply EvC.seq
   apply EvC.trd
   ·simp only [go_sem, edgeC, decide_eq_false k3, decide_eq_false hne] <;> rfl
   ·simp
   refine EvC.ct ?_
   obtain ⟨nZ, hnZ⟩ : ∃ z : Int, z = (n : Int) := ⟨_, rfl⟩
   rw [← hnZ] at hx ⊢
   apply EvC.region
   apply XR.run
   ·simp only [go_sem] <;> rfl
   ·simp
   refine XR.gcTo ⟨[(1, .sc (.int .i64 k)), (8, .rf 1 0), (9, .ia [.sc (.int .i64 e0), .sc (.int .i64 e1)]), (11, .fn 111 [.rf 0 0, .rf 1 0]), (51, .sc (.int .i64 m.rows.length)), (52, .sc (.int .i64 nZ)), (63, .fn 111 [.rf 0 0, .rf 1 0]), (64, .sc (.int .i64 nZ))], [], adM k s i t a o (ofT k s i e0 n), 3⟩ [1, 8, 9, 11, 51, 52, 63, 64] [(0, 0), (1, 1), (2, 2)] rfl (by simp only [go_sem, adM] <;> rfl) ?_
   apply XR.callI rfl rfl (by simp only [go_sem] <;> rfl) (by simp only [go_sem] <;> rfl) (by simp only [go_sem] <;> rfl)
   refine add_body k s i t a o nZ 0 0 _ (by omega) fun nx x => ?_
   refine XR.nil ?_
   rw [← hx, hnZ]
   refine EvC.b ?_ (hok := by exact inI64_of (by omega) (by omega))
   exact ⟨[(0, 0), (1, 1), (2, 2)], (n + 1, nZ, 0, 0), rfl, (by rw [hnZ]; simp only [go_sem, adM, Int.natCast_add, Int.natCast_one] <;> rfl), hnl, by simp only; omega⟩
 refine EvC.cf ?_ (by simp only [go_sem, decide_eq_false k13] <;> rfl)
 refine EvC.a ?_
 by_cases k2 : k = 2
 ·
  have hF : ofF m k s i = [⟨k, s, i, 0, 0, 0⟩] := by unfold ofF; rw [if_neg k0, if_neg k13, if_pos k2]
  refine EvC.ct ?_ (by simp only [go_sem, decide_eq_true k2] <;> rfl)
  apply EvC.region
  apply XR.run
  ·simp only [go_sem] <;> rfl
  ·simp
  refine XR.gcTo ⟨[(8, .rf 1 0), (69, .fn 111 [.rf 0 0, .rf 1 0])], [], adM k s i 0 0 0 [], 3⟩ [8, 69] [(0, 0), (1, 1), (2, 2)] rfl (by simp only [go_sem, adM] <;> rfl) ?_
  apply XR.callI rfl rfl (by simp only [go_sem] <;> rfl) (by simp only [go_sem] <;> rfl) (by simp only [go_sem] <;> rfl)
  refine add_body k s i 0 0 0 0 0 0 [] (by simp) fun nx x => ?_
  refine XR.nil ?_
  exact ⟨rfl, [(0, 0), (1, 1), (2, 2)], (0, 0, 0, [⟨k, s, i, 0, 0, 0⟩]), rfl, (by simp only [go_sem, adM, List.nil_append] <;> rfl), hF.symm⟩
 refine EvC.cf ?_ (by simp only [go_sem, decide_eq_false k2] <;> rfl)
 refine EvC.a ?_
 by_cases k4 : k = 4
 rotate_left
 ·refine EvC.cf ?_ (by simp only [go_sem, decide_eq_false k4] <;> rfl)
  have hF : ofF m k s i = [] := by unfold ofF; rw [if_neg k0, if_neg k13, if_neg k2, if_neg k4]
  refine EvC.skip ?_
  exact ⟨rfl, [(0, 0), (1, 1), (2, 2)], (0, 0, 0, []), rfl, (by simp only [go_sem, adM] <;> rfl), hF.symm⟩
 refine EvC.ct ?_ (by simp only [go_sem, decide_eq_true k4] <;> rfl)
 subst k4
 have hF : ofF m 4 s i = ofD m s i e0 m.ins.toNat := by unfold ofF; rw [if_neg (by omega), if_neg (by omega), if_neg (by omega), if_pos rfl, hE]
 have hrow : ∃ r2, m.rows[e0.toNat]? = some r2 ∧ (r2.2.length : Int) = m.ins := by
  have h1 : e0.toNat < m.rows.length := by omega
  exact ⟨_, List.getElem?_eq_getElem h1, (hv.row _ (List.getElem_mem h1)).1⟩
 obtain ⟨r2, p1, p2⟩ := hrow
 refine EvC.a ?_ (by simp only [go_sem, Mach.cells, p1, rowC, List.length_map, p2] <;> rfl) (by simp; omega)
 refine EvC.block ?_
 refine EvC.loopS (σ := Nat × Int × Int × Int) (fun p => ⟨[(4, .ia m.cells), (8, .rf 1 0), (11, .fn 111 [.rf 0 0, .rf 1 0]), (78, .sl r2.1 (r2.2.map edgeC) .unk), (79, .sc (.int .i64 m.ins)), (80, .sc (.int .i64 p.1))], [], adM 4 s i p.2.1 p.2.2.1 p.2.2.2 (ofD m s i e0 p.1), 3⟩) (fun p => m.ins.toNat - p.1) (fun p => p.1 ≤ m.ins.toNat) [4, 8, 11, 78, 79, 80] 3 ?_ ?_
 ·exact ⟨[(0, 0), (1, 1), (2, 2)], (0, 0, 0, 0), rfl, (by simp only [go_sem, adM, ofD, Int.natCast_zero, List.length_nil, List.isEmpty_nil, List.map_nil, Mach.cells] <;> rfl), Nat.zero_le _⟩
 rintro ⟨n, t, a, o⟩ hn
 simp only at hn ⊢
 refine EvC.a ?_
 refine EvC.seq ?_
 refine EvC.cond (by simp only [go_sem] <;> rfl) (fun hc => ?_) (fun hc => ?_)
 rotate_left
 ·refine EvC.exit ?_
  obtain rfl : n = m.ins.toNat := by have : ¬ (n : Int) < m.ins := (by simpa using hc); omega
  exact ⟨rfl, [(0, 0), (1, 1), (2, 2)], (t, a, o, ofD m s i e0 m.ins.toNat), rfl, (by simp only [go_sem, adM] <;> rfl), hF.symm⟩
 have hnl : n + 1 ≤ m.ins.toNat := by have : (n : Int) < m.ins := (by simpa using hc); omega
 clear hc
 refine EvC.skip ?_
 refine EvC.seq ?_
 refine EvC.block ?_
 obtain ⟨nZ, hnZ⟩ : ∃ z : Int, z = (n : Int) := ⟨_, rfl⟩
 have hx : ofD m s i e0 (n + 1) = apF (ofD m s i e0 n) (ofDo s i nZ (stepM m e0 nZ) m.outs.toNat) := by rw [ofD, hnZ]; rfl
 obtain ⟨r3, p3, p4, p5⟩ := stepM_get hv (s := e0) (i := nZ) ⟨by omega, by omega⟩ ⟨by omega, by omega⟩
 rw [p1] at p3; cases p3
 have hlen := ofD_len hv s i e0 n
 have hlen : (ofD m s i e0 n).length ≤ 256 := by omega
 generalize stepM m e0 nZ = f at *
 obtain ⟨f0, f1⟩ := f
 have hnt : nZ.toNat = n := by omega
 rw [hnt] at p4
 generalize ofD m s i e0 n = pre at hx hlen ⊢
 rw [← hnZ]
 refine EvC.a ?_ (by simp only [go_sem, p4, hnt, edgeC] <;> rfl) (by simp; omega)
 refine EvC.z 7 ?_ (by simp only [go_sem, adM] <;> rfl)
 refine EvC.a ?_ (by simp only [go_sem, Mach.cells] <;> rfl)
 refine EvC.block ?_
 refine EvC.loopS (σ := Nat × Int × Int × Int) (fun p => ⟨[(4, .ia m.cells), (8, .rf 1 0), (11, .fn 111 [.rf 0 0, .rf 1 0]), (14, .sc (.int .i64 nZ)), (15, .ia [.sc (.int .i64 f0), .sc (.int .i64 f1)]), (78, .sl r2.1 (r2.2.map edgeC) .unk), (79, .sc (.int .i64 m.ins)), (80, .sc (.int .i64 nZ)), (86, .sc (.int .i64 m.outs)), (87, .sc (.int .i64 p.1))], [], adM 4 s i p.2.1 p.2.2.1 p.2.2.2 (apF pre (ofDo s i nZ (f0, f1) p.1)), 3⟩) (fun p => m.outs.toNat - p.1) (fun p => p.1 ≤ m.outs.toNat) [4, 8, 11, 14, 15, 78, 79, 80, 86, 87] 3 ?_ ?_
 ·exact ⟨[(0, 0), (1, 1), (2, 2)], (0, t, a, o), rfl, (by rw [ofDo, apF_nil]; simp only [go_sem, adM, Int.natCast_zero, Mach.cells] <;> rfl), Nat.zero_le _⟩
 rintro ⟨n2, t, a, o⟩ hn2
 simp only at hn2 ⊢
 refine EvC.a ?_
 refine EvC.seq ?_
 refine EvC.cond (by simp only [go_sem] <;> rfl) (fun hc => ?_) (fun hc => ?_)
 rotate_left
 ·refine EvC.exit ?_
  obtain rfl : n2 = m.outs.toNat := by have : ¬ (n2 : Int) < m.outs := (by simpa using hc); omega
  rw [← hx]
  refine EvC.b ?_ (hok := by exact inI64_of (by omega) (by omega))
  exact ⟨[(0, 0), (1, 1), (2, 2)], (n + 1, t, a, o), rfl, (by rw [hnZ]; simp only [go_sem, adM, Int.natCast_add, Int.natCast_one] <;> rfl), hnl, by simp only; omega⟩
 have hnl2 : n2 + 1 ≤ m.outs.toNat := by have : (n2 : Int) < m.outs := (by simpa using hc); omega
 clear hc
 refine EvC.skip ?_
 refine EvC.seq ?_
 refine EvC.block ?_
 refine EvC.a ?_
 have hlen2 := ofDo_len s i nZ (f0, f1) n2
 have hpl : (apF pre (ofDo s i nZ (f0, f1) n2)).length < 1000000 := by rw [apF_len]; omega
 have hx2 : apF pre (ofDo s i nZ (f0, f1) (n2 + 1)) = apF (apF pre (ofDo s i nZ (f0, f1) n2)) (if f0 ≠ -1 ∧ (n2 : Int) ≠ f1 then [⟨4, s, i, 0, nZ, n2⟩] else []) := by rw [ofDo, apF_app]
 generalize apF pre (ofDo s i nZ (f0, f1) n2) = L at hpl hx2 ⊢
 by_cases hf0 : f0 = -1
 ·have hx3 : apF pre (ofDo s i nZ (f0, f1) (n2 + 1)) = L := by rw [hx2, if_neg (fun h => h.1 hf0), apF_nil]
  apply EvC.seq
  apply EvC.trd
  ·simp only [go_sem, edgeC, decide_eq_true hf0] <;> rfl
  ·simp
  refine EvC.cs ?_
  refine EvC.b ?_ (hok := by exact inI64_of (by omega) (by omega))
  exact ⟨[(0, 0), (1, 1), (2, 2)], (n2 + 1, t, a, o), rfl, (by rw [hx3]; simp only [go_sem, adM, Int.natCast_add, Int.natCast_one] <;> rfl), hnl2, by simp only; omega⟩
 by_cases hne : (n2 : Int) = f1
 ·have hx3 : apF pre (ofDo s i nZ (f0, f1) (n2 + 1)) = L := by rw [hx2, if_neg (fun h => h.2 hne), apF_nil]
  apply EvC.seq
  apply EvC.trd
  ·simp only [go_sem, edgeC, decide_eq_false hf0, decide_eq_true hne] <;> rfl
  ·simp
  refine EvC.cs ?_
  refine EvC.b ?_ (hok := by exact inI64_of (by omega) (by omega))
  exact ⟨[(0, 0), (1, 1), (2, 2)], (n2 + 1, t, a, o), rfl, (by rw [hx3]; simp only [go_sem, adM, Int.natCast_add, Int.natCast_one] <;> rfl), hnl2, by simp only; omega⟩
 have hx3 : apF pre (ofDo s i nZ (f0, f1) (n2 + 1)) = L ++ [⟨4, s, i, 0, nZ, n2⟩] := by rw [hx2, if_pos ⟨hf0, hne⟩]; rfl
 apply EvC.seq
 apply EvC.trd
 ·simp only [go_sem, edgeC, decide_eq_false hf0, decide_eq_false hne] <;> rfl
 ·simp
 refine EvC.ct ?_
 obtain ⟨oZ, hoZ⟩ : ∃ z : Int, z = (n2 : Int) := ⟨_, rfl⟩
 rw [← hoZ] at hx3 ⊢
 apply EvC.region
 apply XR.run
 ·simp only [go_sem] <;> rfl
 ·simp
 refine XR.gcTo ⟨[(4, .ia m.cells), (8, .rf 1 0), (11, .fn 111 [.rf 0 0, .rf 1 0]), (14, .sc (.int .i64 nZ)), (15, .ia [.sc (.int .i64 f0), .sc (.int .i64 f1)]), (78, .sl r2.1 (r2.2.map edgeC) .unk), (79, .sc (.int .i64 m.ins)), (80, .sc (.int .i64 nZ)), (86, .sc (.int .i64 m.outs)), (87, .sc (.int .i64 oZ)), (99, .fn 111 [.rf 0 0, .rf 1 0]), (100, .sc (.int .i64 nZ)), (101, .sc (.int .i64 oZ))], [], adM 4 s i t a o L, 3⟩ [4, 8, 11, 14, 15, 78, 79, 80, 86, 87, 99, 100, 101] [(0, 0), (1, 1), (2, 2)] rfl (by simp only [go_sem, adM, Mach.cells] <;> rfl) ?_
 apply XR.callI rfl rfl (by simp only [go_sem] <;> rfl) (by simp only [go_sem] <;> rfl) (by simp only [go_sem] <;> rfl)
 refine add_body 4 s i t a o 0 nZ oZ _ hpl fun nx x => ?_
 refine XR.nil ?_
 rw [← hx3, hoZ]
 refine EvC.b ?_ (hok := by exact inI64_of (by omega) (by omega))
 exact ⟨[(0, 0), (1, 1), (2, 2)], (n2 + 1, 0, nZ, oZ), rfl, (by rw [hoZ]; simp only [go_sem, adM, Mach.cells, Int.natCast_add, Int.natCast_one] <;> rfl), hnl2, by simp only; omega⟩
def egI (m : Mach) (s : Int) : Nat → List (Int × Int)
 | 0 => []
 | n + 1 => egI m s n ++ (if definedB m s n = true then [(s, (n : Int))] else [])
def egS (m : Mach) : Nat → List (Int × Int)
 | 0 => []
 | n + 1 => egS m n ++ egI m n m.ins.toNat
def egL (m : Mach) : List (Int × Int) := egS m m.rows.length
def pairC (p : Int × Int) : List AV := [.sc (.int .i64 p.1), .sc (.int .i64 p.2)]
def egR (m : Mach) (s : Int) : Nat → Nat → List (Int × Int)
 | 0, _ => []
 | n + 1, i => (if definedB m s i = true then [(s, (i : Int))] else []) ++ egR m s n (i + 1)
theorem egR_app (m : Mach) (s : Int) : ∀ (n i : Nat), egI m s i ++ egR m s n i = egI m s (i + n)
 | 0, i => by simp [egR]
 | n + 1, i => by
   rw [egR, ← List.append_assoc, show egI m s i ++ (if definedB m s i = true then [(s, (i : Int))] else []) = egI m s (i + 1) from rfl, egR_app m s n (i + 1)]
   congr 1; omega
def egT (m : Mach) : Nat → Nat → List (Int × Int)
 | 0, _ => []
 | n + 1, s => egI m s m.ins.toNat ++ egT m n (s + 1)
theorem egT_app (m : Mach) : ∀ (n s : Nat), egS m s ++ egT m n s = egS m (s + n)
 | 0, s => by simp [egT]
 | n + 1, s => by
   rw [egT, ← List.append_assoc, show egS m s ++ egI m s m.ins.toNat = egS m (s + 1) from rfl, egT_app m n (s + 1)]
   congr 1; omega
theorem egI_eq (m : Mach) (s : Int) (n : Nat) : egR m s n 0 = egI m s n := by have := egR_app m s n 0; rw [Nat.zero_add] at this; rw [← this]; rfl
theorem egL_eq (m : Mach) : egL m = egT m m.rows.length 0 := by have := egT_app m m.rows.length 0; rw [Nat.zero_add] at this; rw [egL, ← this]; rfl
theorem edges1_seq {m : Mach} (hv : Valid m) : SeqIs prog 110 [.ia m.cells] ((egL m).map pairC) := by
 have hmi := hv.ins
 have hmr := hv.rows
 refine SeqIs.of (nv := 3) (hid := [3, 4, 7, 8, 9, 12, 13, 14, 19, 20, 26]) func110 rfl (by kernel_rfl) (by simp [ntmps110]) (by rw [results110]) fun lp J h0 hJ hy => ?_
 rw [ntmps110]
 refine EvY.seqL hJ (EvC.rg (by simp only [go_sem, Mach.cells, List.length_map] <;> rfl) (by simp) ?_)
 refine EvY.block ?_
 refine EvY.loopS hJ (σ := Nat × Nat × List (Int × Int)) (fun g => ⟨[(0, .sc (yv lp)), (1, .ia m.cells), (7, .sc (.int .i64 m.rows.length)), (8, .sc (.int .i64 g.2.1))], [], [], 0⟩) (fun g => g.2.2.length) (fun g => g.1)
  (fun g => g.1 + g.2.1 = m.rows.length ∧ egL m = g.2.2 ++ egT m g.1 g.2.1) [0, 1, 7, 8] 0 ?_ ?_
 ·exact ⟨[], (m.rows.length, 0, []), rfl, (by simp only [go_sem, Int.natCast_zero, Mach.cells] <;> rfl), ⟨rfl, egL_eq m⟩, rfl⟩
 rintro ⟨n, s, pre⟩ ⟨hn, hpre⟩
 simp only at hn hpre ⊢
 refine EvY.seqL hJ (EvC.rg (by simp only [go_sem] <;> rfl) (by simp) ?_)
 refine EvY.seq ?_
 refine EvY.cond (by simp only [go_sem] <;> rfl) (fun hc => ?_) (fun hc => ?_)
 rotate_left
 ·refine EvY.exit ⟨.inr rfl, .inl ?_⟩
  have hc : ¬ s < m.rows.length := by simpa using hc
  obtain rfl : n = 0 := by omega
  rw [hpre]; simp [egT]
 have hc : s < m.rows.length := by simpa using hc
 obtain ⟨n, rfl⟩ : ∃ k, n = k + 1 := ⟨n - 1, by omega⟩
 rw [egT] at hpre
 refine EvY.skip ?_
 refine EvY.seq ?_
 refine EvY.block ?_
 refine EvY.seqL hJ (EvC.rg (by simp only [go_sem] <;> rfl) (by simp) ?_)
 refine EvY.seqL hJ (EvC.rg (by simp only [go_sem, Mach.cells] <;> rfl) (by simp) ?_)
 refine EvY.block ?_
 obtain ⟨sZ, hsZ⟩ : ∃ z : Int, z = (s : Int) := ⟨_, rfl⟩
 have hs0 : 0 ≤ sZ ∧ sZ < m.rows.length := by omega
 rw [← hsZ] at hpre ⊢
 refine EvY.loopS hJ (σ := Nat × Nat × List (Int × Int)) (fun g => ⟨[(0, .sc (yv lp)), (1, .ia m.cells), (3, .sc (.int .i64 sZ)), (7, .sc (.int .i64 m.rows.length)), (8, .sc (.int .i64 sZ)), (12, .sc (.int .i64 m.ins)), (13, .sc (.int .i64 g.2.1))], [], [], 0⟩) (fun g => g.2.2.length) (fun g => g.1)
  (fun g => g.1 + g.2.1 = m.ins.toNat ∧ egL m = g.2.2 ++ (egR m sZ g.1 g.2.1 ++ egT m n (s + 1))) [0, 1, 3, 7, 8, 12, 13] 0 ?_ ?_
 ·exact ⟨[], (m.ins.toNat, 0, pre), rfl, (by simp only [go_sem, Int.natCast_zero, Mach.cells] <;> rfl), ⟨rfl, by simp only; rw [egI_eq, hpre]⟩, rfl⟩
 clear hpre
 rintro ⟨k, i, pre⟩ ⟨hk, hpre⟩
 simp only at hk hpre ⊢
 refine EvY.seqL hJ (EvC.rg (by simp only [go_sem] <;> rfl) (by simp) ?_)
 refine EvY.seq ?_
 refine EvY.cond (by simp only [go_sem] <;> rfl) (fun hc => ?_) (fun hc => ?_)
 rotate_left
 ·refine EvY.exit ?_
  have hc : ¬ (i : Int) < m.ins := by simpa using hc
  obtain rfl : k = 0 := by omega
  refine EvY.lift hJ (EvC.rg (by simp only [go_sem] <;> rfl) (by exact inI64_of (by omega) (by omega)) ?_)
  exact ⟨[], (n, s + 1, pre), rfl, (by rw [hsZ]; simp only [go_sem, Int.natCast_add, Int.natCast_one] <;> rfl), ⟨by simp only; omega, by simp only; rw [hpre]; rfl⟩, rfl, by simp⟩
 have hc : (i : Int) < m.ins := by simpa using hc
 obtain ⟨k, rfl⟩ : ∃ j, k = j + 1 := ⟨k - 1, by omega⟩
 rw [egR] at hpre
 refine EvY.skip ?_
 refine EvY.seq ?_
 refine EvY.block ?_
 refine EvY.seqL hJ (EvC.rg (by simp only [go_sem] <;> rfl) (by simp) ?_)
 have q := defined84_is hv sZ i
 cases hd : definedB m sZ i with
 | false =>
   rw [hd] at q hpre
   rw [if_neg (by simp), List.nil_append] at hpre
   refine EvY.seqL hJ ?_
   intro _
   apply EvC.tr
   ·apply Tr.run
    ·simp only [go_sem, Mach.cells] <;> rfl
    ·simp
    apply Tr.cons
    ·exact .ca (q)
    apply Tr.run
    ·simp only [go_sem, Mach.cells] <;> rfl
    ·simp
    apply Tr.cons
    ·exact .skipv (.sc (.bool false)) rfl rfl (by simp only [go_sem] <;> rfl) (by simp only [go_sem] <;> rfl)
    apply Tr.done
    ·simp only [go_sem] <;> rfl
    ·simp
   refine EvY.cond_false (by simp only [go_sem] <;> rfl) ?_
   refine EvY.skip ?_
   refine EvY.lift hJ (EvC.rg (by simp only [go_sem] <;> rfl) (by exact inI64_of (by omega) (by omega)) ?_)
   exact ⟨[], (k, i + 1, pre), rfl, (by simp only [go_sem, Int.natCast_add, Int.natCast_one] <;> rfl), ⟨by simp only; omega, hpre⟩, rfl, by simp⟩
 | true =>
   rw [hd] at q hpre
   rw [if_pos rfl] at hpre
   refine EvY.seq (EvY.region ?_)
   refine XRY.pre 8 hJ ?_
   intro _
   simp only [List.take_succ_cons, List.take_zero, List.drop_succ_cons, List.drop_zero]
   apply XR.tr rfl
   ·apply Tr.run
    ·simp only [go_sem, Mach.cells] <;> rfl
    ·simp
    apply Tr.cons
    ·exact .call rfl rfl (by simp only [go_sem] <;> rfl) (by simp only [go_sem] <;> rfl) (by simp only [go_sem] <;> rfl) (by simp only [go_sem, Mach.cells] <;> rfl) (by simp only [go_sem] <;> rfl) q
    apply Tr.done
    ·simp only [go_sem] <;> rfl
    ·simp
   refine ⟨rfl, ?_⟩
   simp only [St.clr, List.length_cons, List.length_nil, List.cons_append, List.nil_append, Nat.reduceAdd]
   have hlt : pre.length < ((egL m).map pairC).length := by rw [hpre]; simp
   have hget : ((egL m).map pairC)[pre.length] = pairC (sZ, (i : Int)) := by
    simp only [hpre]; simp
   refine XRY.yieldG hlt hy rfl rfl (by simp only [go_sem] <;> rfl) rfl (by simp only [go_sem] <;> rfl) (by simp only [go_sem] <;> rfl) (by rw [hget]; simp only [go_sem, pairC] <;> rfl) (by rw [hget]; simp only [go_sem, pairC]) fun b => ?_
   refine XRY.pre 2 hJ ?_
   intro _
   simp only [List.take_succ_cons, List.take_zero, List.drop_succ_cons, List.drop_zero]
   apply XR.tr rfl
   ·apply Tr.done
    ·simp only [go_sem] <;> rfl
    ·simp
   refine ⟨rfl, XRY.nil ?_⟩
   simp only [St.clr, List.length_cons, List.length_nil, List.cons_append, List.nil_append, Nat.reduceAdd]
   cases b with
   | false =>
     refine EvY.cond_true (by simp only [go_sem] <;> rfl) ?_
     exact EvY.ret ⟨.inl rfl, .inr rfl⟩
   | true =>
     refine EvY.cond_false (by simp only [go_sem] <;> rfl) ?_
     refine EvY.skip ?_
     refine EvY.lift hJ (EvC.rg (by simp only [go_sem] <;> rfl) (by exact inI64_of (by omega) (by omega)) ?_)
     exact ⟨[], (k, i + 1, pre ++ [(sZ, (i : Int))]), rfl, (by simp only [go_sem, Int.natCast_add, Int.natCast_one] <;> rfl), ⟨by simp only; omega, by simp only; rw [hpre]; simp⟩, by simp, by simp⟩
theorem edges_is (m : Mach) : PureIs prog 96 [.ag m.cells] (.fn 110 [.ia m.cells]) := by
 refine PureIs.of1 1 [1, 2] func96 ntmps96 results96 fun _ => ?_
 refine EvC.a ?_ (by simp only [go_sem, Mach.cells] <;> rfl)
 refine EvC.z 0 ?_
 refine EvC.a ?_
 refine EvC.rz ?_
 simp only [go_sem]
 rfl
def alE (m : Mach) (k : Int) (ps : List (Int × Int)) : List FA := ps.flatMap fun p => ofF m k p.1 p.2
def alF (m : Mach) (ks : List Int) : List FA := ks.flatMap fun k => alE m k (egL m)
def faV (f : FA) : List AV := [.ag f.cells]
theorem egI_def (m : Mach) (s : Int) : ∀ n, ∀ p ∈ egI m s n, definedB m p.1 p.2 = true
 | 0, p, h => by cases h
 | n + 1, p, h => by
   rw [egI] at h
   rcases List.mem_append.1 h with h | h
   ·exact egI_def m s n p h
   ·split at h
    ·rename_i hd
     obtain rfl := List.mem_singleton.1 h
     exact hd
    ·cases h
theorem egS_def (m : Mach) : ∀ n, ∀ p ∈ egS m n, definedB m p.1 p.2 = true
 | 0, p, h => by cases h
 | n + 1, p, h => by
   rw [egS] at h
   rcases List.mem_append.1 h with h | h
   ·exact egS_def m n p h
   ·exact egI_def m n _ p h
theorem all1_seq {m : Mach} (hv : Valid m) (kn : Bool) (ks : List Int) (kc : Cp) (hks : ks.length < 1000000) : SeqIs prog 95 [.ia [.sl kn (ks.map intC) kc], .ia m.cells] ((alF m ks).map faV) := by
 have hmi := hv.ins
 have hmr := hv.rows
 refine SeqIs.of (nv := 4) (hid := [3, 5, 6, 7, 8, 9, 10, 11, 12, 13, 17, 18, 19, 24, 25, 26, 27, 33]) func95 rfl (by kernel_rfl) (by simp [ntmps95]) (by rw [results95]) fun lp J h0 hJ hy => ?_
 rw [ntmps95]
 refine EvY.seqL hJ (EvC.rg (by simp only [go_sem] <;> rfl) (by rfl) ?_)
 refine EvY.frzB hJ 0 (by simp only [go_sem] <;> rfl) ?_
 refine EvY.seqL hJ (EvC.rg (by simp only [go_sem, List.length_map] <;> rfl) (by simp) ?_)
 refine EvY.block ?_
 refine EvY.loopS hJ (σ := Nat × List FA) (fun g => ⟨[(1, .ia [.sl kn (ks.map intC) kc]), (2, .ia m.cells), (3, .ia [.sc (yv lp)]), (10, .sl kn (ks.map intC) kc), (11, .sc (.int .i64 ks.length)), (12, .sc (.int .i64 g.1))], [], [], 0⟩) (fun g => g.2.length) (fun g => ks.length - g.1)
  (fun g => g.1 ≤ ks.length ∧ alF m ks = g.2 ++ alF m (ks.drop g.1)) [1, 2, 3, 10, 11, 12] 0 ?_ ?_
 ·exact ⟨[], (0, []), rfl, (by simp only [go_sem, Int.natCast_zero, Mach.cells] <;> rfl), ⟨Nat.zero_le _, rfl⟩, rfl⟩
 rintro ⟨n, pre⟩ ⟨hn, hpre⟩
 simp only at hn hpre ⊢
 refine EvY.seqL hJ (EvC.rg (by simp only [go_sem] <;> rfl) (by simp) ?_)
 refine EvY.seq ?_
 refine EvY.cond (by simp only [go_sem] <;> rfl) (fun hc => ?_) (fun hc => ?_)
 rotate_left
 ·refine EvY.exit ⟨.inr rfl, .inl ?_⟩
  have hc : ¬ n < ks.length := by simpa using hc
  rw [hpre, List.drop_eq_nil_of_le (by omega)]; simp [alF]
 have hc : n < ks.length := by simpa using hc
 have hk : ks[n]? = some ks[n] := List.getElem?_eq_getElem hc
 rw [List.drop_eq_getElem_cons hc] at hpre
 generalize ks[n] = k at hk hpre
 obtain ⟨nZ, hnZ⟩ : ∃ z : Int, z = (n : Int) := ⟨_, rfl⟩
 have hnt : nZ.toNat = n := by omega
 rw [← hnZ]
 refine EvY.skip ?_
 refine EvY.seq ?_
 refine EvY.block ?_
 refine EvY.seqL hJ (EvC.rg (by simp only [go_sem, hk, hnt, intC] <;> rfl) (by simp; omega) ?_)
 refine EvY.frzB hJ 3 (by simp only [go_sem] <;> rfl) ?_
 refine EvY.seqL hJ ?_
 intro _
 apply EvC.tr
 ·apply Tr.run
  ·simp only [go_sem, Mach.cells] <;> rfl
  ·simp
  apply Tr.cons
  ·exact .ca (edges_is m)
  apply Tr.done
  ·simp only [go_sem] <;> rfl
  ·simp
 refine EvY.block ?_
 have hpk : ∀ p ∈ (#[18, 19] : Array Nat), p < 36 := by decide
 refine EvY.range hJ (gf := 110) (caps := [.ia m.cells]) (xs := (egL m).map pairC) (σ := List FA) (by simp only [go_sem] <;> rfl) (by simp only [go_sem, Mach.cells]) (edges1_seq hv) (fun x hx => by obtain ⟨p, _, rfl⟩ := List.mem_map.1 hx; rfl) hpk (Nat.zero_le _) (fun _ _ => []) (fun s => s.length)
  (fun j s => alF m ks = s ++ (alE m k ((egL m).drop j) ++ alF m (ks.drop (n + 1)))) ⟨pre, rfl, hpre, rfl⟩ ?_ ?_
 rotate_left
 ·intro s hs
  rw [List.drop_eq_nil_of_le (by simp)] at hs
  refine EvY.lift hJ (EvC.rg (by simp only [go_sem] <;> rfl) (by exact inI64_of (by omega) (by omega)) ?_)
  exact ⟨[], (n + 1, s), rfl, (by rw [hnZ]; simp only [go_sem, Int.natCast_add, Int.natCast_one] <;> rfl), ⟨hc, by simp only; rw [hs]; rfl⟩, rfl, by simp only; omega⟩
 clear hpre
 intro j pre l2 hj hpre
 have hj' : j < (egL m).length := by simpa using hj
 have hge : ((egL m).map pairC)[j] = pairC (egL m)[j] := List.getElem_map _
 rw [hge]
 rw [List.drop_eq_getElem_cons hj'] at hpre
 have hdf := egS_def m _ _ (List.getElem_mem hj')
 change definedB m (egL m)[j].1 (egL m)[j].2 = true at hdf
 generalize (egL m)[j] = p at hpre hdf ⊢
 obtain ⟨s, i⟩ := p
 have hpre : alF m ks = pre ++ (ofF m k s i ++ (alE m k ((egL m).drop (j + 1)) ++ alF m (ks.drop (n + 1)))) := by rw [hpre]; simp [alE]
 clear hge
 simp only at hdf
 rw [pairC]
 refine EvC.a ?_
 refine EvC.b ?_
 refine ⟨rfl, ?_⟩
 simp only [St.fin, List.length_cons, List.length_nil, List.cons_append, List.nil_append, Nat.reduceAdd]
 refine EvY.block ?_
 have q := of97_is hv k s i hdf
 have hfl := ofF_len hv k s i
 generalize ofF m k s i = L at q hfl hpre
 refine EvY.seqL hJ ?_
 intro _
 apply EvC.tr
 ·apply Tr.run
  ·simp only [go_sem, Mach.cells] <;> rfl
  ·simp
  apply Tr.cons
  ·exact .ca (q)
  apply Tr.done
  ·simp only [go_sem, List.length_map] <;> rfl
  ·simp
 refine EvY.block ?_
 refine EvY.loopS hJ (σ := Nat × List FA) (fun g => ⟨[(1, .ia [.sl kn (ks.map intC) kc]), (2, .ia m.cells), (3, .ia [.sc (yv lp)]), (24, .sl L.isEmpty (L.map FA.cells) .unk), (25, .sc (.int .i64 L.length)), (26, .sc (.int .i64 g.1))], [], [], 7⟩) (fun g => g.2.length) (fun g => L.length - g.1)
  (fun g => g.1 ≤ L.length ∧ alF m ks = g.2 ++ (L.drop g.1 ++ (alE m k ((egL m).drop (j + 1)) ++ alF m (ks.drop (n + 1))))) [1, 2, 3, 24, 25, 26] 7 ?_ ?_
 ·exact ⟨[], (0, pre), rfl, (by simp only [go_sem, Int.natCast_zero, Mach.cells] <;> rfl), ⟨Nat.zero_le _, hpre⟩, rfl⟩
 clear hpre
 rintro ⟨i2, pre⟩ ⟨hi2, hpre⟩
 simp only at hi2 hpre ⊢
 refine EvY.seqL hJ (EvC.rg (by simp only [go_sem] <;> rfl) (by simp) ?_)
 refine EvY.seq ?_
 refine EvY.cond (by simp only [go_sem] <;> rfl) (fun hc => ?_) (fun hc => ?_)
 rotate_left
 ·refine EvY.exit ?_
  have hc : ¬ i2 < L.length := by simpa using hc
  exact ⟨[], pre, rfl, rfl, by rw [hpre, List.drop_eq_nil_of_le (by omega)]; rfl, rfl⟩
 have hc : i2 < L.length := by simpa using hc
 have hf : L[i2]? = some L[i2] := List.getElem?_eq_getElem hc
 rw [List.drop_eq_getElem_cons hc] at hpre
 generalize L[i2] = f at hf hpre
 obtain ⟨a1, a2, a3, a4, a5, a6⟩ := f
 refine EvY.skip ?_
 refine EvY.seq ?_
 refine EvY.block ?_
 refine EvY.seqL hJ (EvC.rg (by simp only [go_sem, hf, FA.cells] <;> rfl) (by simp) ?_)
 refine EvY.frzB hJ 10 (by simp only [go_sem] <;> rfl) ?_
 refine EvY.seq (EvY.region ?_)
 have hlt : pre.length < ((alF m ks).map faV).length := by rw [hpre]; simp
 have hget : ((alF m ks).map faV)[pre.length] = faV ⟨a1, a2, a3, a4, a5, a6⟩ := by
  simp only [hpre]; simp
 refine XRY.run hJ (by simp only [go_sem] <;> rfl) (by simp) ?_
 refine XRY.yield hlt hy rfl rfl (by simp only [go_sem] <;> rfl) (by simp only [go_sem] <;> rfl) (by rw [hget]; simp only [go_sem, faV, FA.cells] <;> rfl) (by rw [hget]; simp only [go_sem, faV, FA.cells]) fun b => ?_
 refine XRY.done hJ (by simp only [go_sem] <;> rfl) rfl ?_
 cases b with
 | false =>
   refine EvY.cond_true (by simp only [go_sem] <;> rfl) ?_
   exact EvY.ret ⟨.inl rfl, .inr rfl⟩
 | true =>
   refine EvY.cond_false (by simp only [go_sem] <;> rfl) ?_
   refine EvY.skip ?_
   refine EvY.lift hJ (EvC.rg (by simp only [go_sem] <;> rfl) (by exact inI64_of (by omega) (by omega)) ?_)
   exact ⟨[], (i2 + 1, pre ++ [⟨a1, a2, a3, a4, a5, a6⟩]), rfl, (by simp only [go_sem, Int.natCast_add, Int.natCast_one] <;> rfl), ⟨hc, by simp only; rw [hpre]; simp⟩, by simp, by simp only; omega⟩
theorem all_is (m : Mach) (kn : Bool) (ks : List Int) (kc : Cp) : PureIs prog 71 [.ag m.cells, .sl kn (ks.map intC) kc] (.fn 95 [.ia [.sl kn (ks.map intC) kc], .ia m.cells]) := by
 refine PureIs.of1 2 [2, 3, 4] func71 ntmps71 results71 fun _ => ?_
 refine EvC.a ?_ (by simp only [go_sem, Mach.cells] <;> rfl)
 refine EvC.z 0 ?_
 refine EvC.z 1 ?_
 refine EvC.a ?_
 refine EvC.rz ?_
 simp only [go_sem]
 rfl
def kLast : List Int → Int → Option Int
 | [], l => some l
 | k :: ks, l => if k ≤ l ∨ 4 < k then none else kLast ks k
def readyR (m : Mach) (ks : List Int) (most : Int) : Int :=
 if checkM m ≠ 0 then checkM m else match kLast ks (-1) with
  | none => 1
  | some l => if inN most 65537 = false then 1 else if 3 ≤ l ∧ m.rows.length = 64 then 3 else 0
theorem ready_is (m : Mach) (hm : ∀ r ∈ m.rows, r.2.length < 1000000) (kn : Bool) (ks : List Int) (kc : Cp) (hks : ks.length < 1000000) (most : Int) :
  PureIs prog 70 [.ag m.cells, .sl kn (ks.map intC) kc, .sc (.int .i64 most)] (.sc (.int .i64 (readyR m ks most))) := by
 refine PureIs.of1 3 [3, 6, 7, 8, 9, 10, 14, 16, 17, 18, 19, 28, 33, 41] func70 ntmps70 results70 fun _ => ?_
 refine EvC.a ?_ (by simp only [go_sem, Mach.cells] <;> rfl)
 refine EvC.z 0 ?_
 refine EvC.seq ?_
 apply EvC.s1
 ·apply Tr.run
  ·simp only [go_sem, Mach.cells] <;> rfl
  ·simp
  apply Tr.cons
  ·exact .ca (check_is m hm)
  apply Tr.done
  ·simp only [go_sem] <;> rfl
  ·simp
 unfold readyR
 by_cases h0 : checkM m = 0
 rotate_left
 ·refine EvC.a ?_
  refine EvC.ct ?_ (by simp only [go_sem, decide_eq_false h0] <;> rfl)
  refine EvC.a ?_
  rw [if_pos h0]
  refine EvC.rz ?_
  simp only [go_sem]
 rw [if_neg (show ¬ checkM m ≠ 0 from fun h => h h0)]
 refine EvC.a ?_
 refine EvC.cs ?_ (by simp only [go_sem, decide_eq_true h0] <;> rfl)
 refine EvC.a ?_
 refine EvC.seq ?_
 refine EvC.a ?_ (by simp only [go_sem, List.length_map] <;> rfl)
 refine EvC.block ?_
 refine EvC.loopS (σ := Nat × Int) (fun g => ⟨[(2, .sc (.int .i64 most)), (3, .ia m.cells), (8, .sc (.int .i64 g.2)), (16, .sl kn (ks.map intC) kc), (17, .sc (.int .i64 ks.length)), (18, .sc (.int .i64 g.1))], [], [], 0⟩) (fun g => ks.length - g.1)
  (fun g => g.1 ≤ ks.length ∧ kLast ks (-1) = kLast (ks.drop g.1) g.2) [2, 3, 8, 16, 17, 18] 0 ?_ ?_
 ·exact ⟨[], (0, -1), rfl, (by simp only [go_sem, Int.natCast_zero, Mach.cells] <;> rfl), Nat.zero_le _, rfl⟩
 rintro ⟨n, l⟩ ⟨hn, hl⟩
 simp only at hn hl ⊢
 refine EvC.a ?_
 refine EvC.seq ?_
 refine EvC.cond (by simp only [go_sem] <;> rfl) (fun hc => ?_) (fun hc => ?_)
 rotate_left
 ·refine EvC.exit ?_
  have hc : ¬ n < ks.length := by simpa using hc
  rw [List.drop_eq_nil_of_le (by omega)] at hl
  rw [hl, kLast]
  simp only
  refine EvC.seq ?_
  refine EvC.mergeS (α := Unit) (fun _ => ⟨[(3, .ia m.cells), (8, .sc (.int .i64 l)), (33, .sc (.bool (!inN most 65537)))], [], [], 0⟩) (fun _ => True) [3, 8, 33] 0 ?_ ?_
  ·apply EvC.tr
   ·apply Tr.run
    ·simp only [go_sem] <;> rfl
    ·simp
    apply Tr.cons
    ·exact .ca (within85_is most 65537)
    apply Tr.done
    ·simp only [go_sem] <;> rfl
    ·simp
   exact ⟨rfl, [], (), rfl, (by simp only [go_sem, Mach.cells] <;> rfl), trivial⟩
  rintro ⟨⟩ -
  by_cases hm : inN most 65537 = false
  ·rw [if_pos hm]
   refine EvC.ct ?_ (by simp only [go_sem, hm, Bool.not_false] <;> rfl)
   refine EvC.a ?_
   refine EvC.rz ?_
   simp only [go_sem]
  rw [if_neg hm]
  have hm : inN most 65537 = true := by simpa using hm
  refine EvC.cs ?_ (by simp only [go_sem, hm, Bool.not_true] <;> rfl)
  refine EvC.seq ?_
  by_cases h3 : 3 ≤ l ∧ m.rows.length = 64
  ·rw [if_pos h3]
   have h4 : decide ((m.rows.length : Int) = 64) = true := decide_eq_true (by omega)
   apply EvC.seq
   apply EvC.trd
   ·simp only [go_sem, Mach.cells, List.length_map, decide_eq_true h3.1, h4] <;> rfl
   ·simp
   refine EvC.ct ?_
   refine EvC.a ?_
   refine EvC.rz ?_
   simp only [go_sem]
  rw [if_neg h3]
  by_cases h5 : 3 ≤ l
  ·have h4 : decide ((m.rows.length : Int) = 64) = false := decide_eq_false (fun h => h3 ⟨h5, by omega⟩)
   apply EvC.seq
   apply EvC.trd
   ·simp only [go_sem, Mach.cells, List.length_map, decide_eq_true h5, h4] <;> rfl
   ·simp
   refine EvC.cs ?_
   refine EvC.a ?_
   refine EvC.rz ?_
   simp only [go_sem]
  ·apply EvC.seq
   apply EvC.trd
   ·simp only [go_sem, Mach.cells, List.length_map, decide_eq_false h5] <;> rfl
   ·simp
   refine EvC.cs ?_
   refine EvC.a ?_
   refine EvC.rz ?_
   simp only [go_sem]
 have hc : n < ks.length := by simpa using hc
 have hk : ks[n]? = some ks[n] := List.getElem?_eq_getElem hc
 rw [List.drop_eq_getElem_cons hc, kLast] at hl
 generalize ks[n] = k at hk hl
 obtain ⟨nZ, hnZ⟩ : ∃ z : Int, z = (n : Int) := ⟨_, rfl⟩
 have hnt : nZ.toNat = n := by omega
 rw [← hnZ]
 refine EvC.skip ?_
 refine EvC.seq ?_
 refine EvC.block ?_
 refine EvC.a ?_ (by simp only [go_sem, hk, hnt, intC] <;> rfl) (by simp; omega)
 refine EvC.seq ?_
 by_cases hb : k ≤ l ∨ 4 < k
 ·rw [if_pos hb] at hl
  rw [hl]
  simp only
  refine EvC.mergeS (α := Unit) (fun _ => ⟨[(28, .sc (.bool true))], [], [], 0⟩) (fun _ => True) [28] 0 ?_ ?_
  ·by_cases h1 : k ≤ l
   ·apply EvC.trd
    ·simp only [go_sem, decide_eq_true h1] <;> rfl
    ·simp
    exact ⟨rfl, [], (), rfl, (by simp only [go_sem] <;> rfl), trivial⟩
   ·apply EvC.trd
    ·simp only [go_sem, decide_eq_false h1, decide_eq_true (hb.resolve_left h1)] <;> rfl
    ·simp
    exact ⟨rfl, [], (), rfl, (by simp only [go_sem] <;> rfl), trivial⟩
  rintro ⟨⟩ -
  refine EvC.ct ?_
  refine EvC.a ?_
  refine EvC.rz ?_
  simp only [go_sem]
 rw [if_neg hb] at hl
 apply EvC.seq
 apply EvC.trd
 ·simp only [go_sem, decide_eq_false (fun h => hb (.inl h)), decide_eq_false (fun h => hb (.inr h))] <;> rfl
 ·simp
 refine EvC.cs ?_
 refine EvC.b ?_
 refine EvC.b ?_ (hok := by exact inI64_of (by omega) (by omega))
 exact ⟨[], (n + 1, k), rfl, (by rw [hnZ]; simp only [go_sem, Int.natCast_add, Int.natCast_one] <;> rfl), ⟨hc, hl⟩, by simp only; omega⟩
theorem clipF_is (nl : Bool) (es : List (List AV)) (c : Cp) (h : (es.all fun y => decide (y.length = 6)) = true) : PureIs prog 39 [.sl nl es c] (.sl nl es .full) := by
 refine PureIs.of1 3 [] func39 ntmps39 results39 fun _ => ?_
 refine EvC.seq (EvC.rg (by simp only [go_sem] <;> rfl) rfl ?_)
 refine EvC.a ?_ (hok := by simp [h])
 refine EvC.ret ⟨.inl rfl, _, (by simp only [go_sem] <;> rfl), rfl, rfl⟩
theorem fa_six (L : List FA) : ((L.map FA.cells).all fun y => decide (y.length = 6)) = true := by simp [List.all_eq_true, FA.cells]
def allR (m : Mach) (ks : List Int) (most : Int) : Int :=
 if readyR m ks most ≠ 0 then readyR m ks most else if most < (alF m ks).length then 13 else 0
def allA (m : Mach) (ks : List Int) (most : Int) : AV :=
 if allR m ks most ≠ 0 then .tu [.sl true [] .zer, .sc (.int .i64 (allR m ks most))] else .tu [.sl (alF m ks).isEmpty ((alF m ks).map FA.cells) .full, .sc (.int .i64 0)]
theorem alE_len {m : Mach} (hv : Valid m) (k : Int) : ∀ ps : List (Int × Int), (alE m k ps).length ≤ ps.length * 256
 | [] => Nat.le_refl _
 | p :: ps => by
   have h1 := alE_len hv k ps
   have h2 := ofF_len hv k p.1 p.2
   have h3 : alE m k (p :: ps) = ofF m k p.1 p.2 ++ alE m k ps := by simp [alE]
   rw [h3, List.length_append, List.length_cons]; omega
theorem egI_len (m : Mach) (s : Int) : ∀ n, (egI m s n).length ≤ n
 | 0 => Nat.le_refl _
 | n + 1 => by
   have := egI_len m s n
   rw [egI, List.length_append]; split <;> simp <;> omega
theorem egS_len {m : Mach} (hv : Valid m) : ∀ n, (egS m n).length ≤ n * 16
 | 0 => Nat.le_refl _
 | n + 1 => by
   have := egS_len hv n
   have := egI_len m n m.ins.toNat
   have := hv.ins
   rw [egS, List.length_append]; omega
theorem alF_len {m : Mach} (hv : Valid m) : ∀ ks : List Int, (alF m ks).length ≤ ks.length * 262144
 | [] => Nat.le_refl _
 | k :: ks => by
   have h1 := alF_len hv ks
   have h2 := alE_len hv k (egL m)
   have h4 := egS_len hv m.rows.length
   have := hv.rows
   have h3 : alF m (k :: ks) = alE m k (egL m) ++ alF m ks := by simp [alF]
   have h5 : (egL m).length = (egS m m.rows.length).length := rfl
   rw [h3, List.length_append, List.length_cons]; omega
theorem readyR_ok {m : Mach} {ks : List Int} {most : Int} (h : readyR m ks most = 0) : checkM m = 0 ∧ 0 ≤ most ∧ most < 65537 ∧ ∃ l, kLast ks (-1) = some l := by
 unfold readyR at h
 split at h
 ·rename_i h1; exact absurd h h1
 ·rename_i h1
  cases hk : kLast ks (-1) with
  | none => rw [hk] at h; cases h
  | some l =>
    rw [hk] at h
    simp only at h
    split at h
    ·cases h
    ·rename_i h2
     have h2 : inN most 65537 = true := by simpa using h2
     unfold inN at h2
     simp only [Bool.and_eq_true, decide_eq_true_eq] at h2
     exact ⟨by simpa using h1, h2.1, h2.2, l, rfl⟩
theorem allF_is (m : Mach) (hm : ∀ r ∈ m.rows, r.2.length < 1000000) (kn : Bool) (ks : List Int) (kc : Cp) (hks : ks.length < 1000) (most : Int) :
  PureIs prog 30 [.ag m.cells, .sl kn (ks.map intC) kc, .sc (.int .i64 most)] (allA m ks most) := by
 refine PureIs.of1 4 [5, 6, 7, 8, 9, 10, 16, 20, 21, 25] func30 ntmps30 results30 fun _ => ?_
 refine EvC.a ?_ (by simp only [go_sem, Mach.cells] <;> rfl)
 refine EvC.z 0 ?_
 refine EvC.z 1 ?_
 refine EvC.seq ?_
 apply EvC.s1
 ·apply Tr.run
  ·simp only [go_sem, Mach.cells] <;> rfl
  ·simp
  apply Tr.cons
  ·exact .ca (ready_is m hm kn ks kc (by omega) most)
  apply Tr.done
  ·simp only [go_sem] <;> rfl
  ·simp
 unfold allA
 by_cases h0 : readyR m ks most = 0
 rotate_left
 ·refine EvC.a ?_
  refine EvC.ct ?_ (by simp only [go_sem, decide_eq_false h0] <;> rfl)
  refine EvC.a ?_
  have hR : allR m ks most = readyR m ks most := by unfold allR; rw [if_pos h0]
  rw [hR, if_pos h0]
  refine EvC.rz ?_
  simp only [go_sem]
 obtain ⟨hc0, hm0, hm1, lst, hlst⟩ := readyR_ok h0
 have hv := Valid.of hc0
 have hR : allR m ks most = if most < (alF m ks).length then 13 else 0 := by unfold allR; rw [if_neg (fun h => h h0)]
 have hal := alF_len hv ks
 refine EvC.a ?_
 refine EvC.cs ?_ (by simp only [go_sem, decide_eq_true h0] <;> rfl)
 refine EvC.a ?_
 refine EvC.ownC 11 0 6 (by simp only [go_sem] <;> rfl) ?_
 refine EvC.seq ?_
 apply EvC.s1
 ·apply Tr.run
  ·simp only [go_sem, Mach.cells] <;> rfl
  ·simp
  apply Tr.cons
  ·exact .ca (all_is m kn ks kc)
  apply Tr.done
  ·simp only [go_sem] <;> rfl
  ·simp
 refine EvC.gcTo ⟨[(5, .ia [.sc (.int .i64 most)]), (6, .rf 2 0), (7, .rf 3 0), (9, .rf 0 0), (20, .fn 95 [.ia [.sl kn (ks.map intC) kc], .ia m.cells])], [], [(0, .cells [.tl 1 0 true]), (1, .arr 6 [] true), (2, .cells [.sl true [] .zer]), (3, .cells [.sc (.int .i64 0)])], 4⟩ [5, 6, 7, 9, 20] [(11, 0), (12, 1), (2, 2), (3, 3)] rfl (by simp only [go_sem] <;> rfl) ?_
 refine EvC.block ?_
 have hpk : ∀ p ∈ (#[21] : Array Nat), p < 32 := by decide
 refine EvC.range rfl (fun _ => rfl) (gf := 95) (caps := [.ia [.sl kn (ks.map intC) kc], .ia m.cells]) (xs := (alF m ks).map faV) (σ := List FA) (by simp only [go_sem] <;> rfl) (by simp only [go_sem, Mach.cells]) (all1_seq hv kn ks kc (by omega)) (fun x hx => by obtain ⟨p, _, rfl⟩ := List.mem_map.1 hx; rfl) hpk (Nat.zero_le _)
  (fun _ L => [(0, .cells [.tl 1 L.length L.isEmpty]), (1, .arr 6 (L.map FA.cells) true), (2, .cells [.sl true [] .zer]), (3, .cells [.sc (.int .i64 0)])]) (fun j L => L = (alF m ks).take j ∧ j ≤ most) ⟨[], rfl, rfl, by omega⟩ ?_ ?_
 rotate_left
 ·rintro L ⟨rfl, hle⟩
  have hle : ((alF m ks).length : Int) ≤ most := by simpa using hle
  have e1 : (alF m ks).take ((alF m ks).map faV).length = alF m ks := List.take_of_length_le (by simp)
  have hR0 : allR m ks most = 0 := by rw [hR, if_neg (by omega)]
  rw [e1, hR0, if_neg (show ¬ (0 : Int) ≠ 0 from fun h => h rfl)]
  generalize alF m ks = L at hal
  refine EvC.frzD 1 (by simp only [go_sem, List.length_map] <;> rfl) ?_
  apply EvC.s1
  ·apply Tr.run
   ·simp only [go_sem, List.length_map] <;> rfl
   ·simp
   apply Tr.cons
   ·exact .ca (clipF_is _ _ _ (fa_six L))
   apply Tr.done
   ·simp only [go_sem] <;> rfl
   ·simp
  refine EvC.rz ?_
  simp only [go_sem]
 rintro j L lp hj ⟨rfl, hle⟩
 have hj' : j < (alF m ks).length := by simpa using hj
 have hget : ((alF m ks).map faV)[j] = faV (alF m ks)[j] := List.getElem_map _
 rw [hget]
 have htk : (alF m ks).take (j + 1) = (alF m ks).take j ++ [(alF m ks)[j]] := by rw [List.take_succ, List.getElem?_eq_getElem hj']; rfl
 have hlj : ((alF m ks).take j).length = j := by rw [List.length_take]; omega
 generalize (alF m ks)[j] = f at htk ⊢
 generalize (alF m ks).take j = L at htk hlj ⊢
 obtain ⟨a1, a2, a3, a4, a5, a6⟩ := f
 clear hget
 rw [faV, FA.cells]
 refine EvC.b ?_
 refine ⟨rfl, ?_⟩
 simp only []
 refine EvC.z 4 ?_
 refine EvC.block ?_
 refine EvC.seq ?_
 refine EvC.a ?_
 by_cases he : (L.length : Int) = most
 ·refine EvC.ct ?_ (by simp only [go_sem, decide_eq_true he] <;> rfl)
  have hR1 : allR m ks most = 13 := by rw [hR, if_pos (by omega)]
  rw [hR1, if_pos (show (13 : Int) ≠ 0 by omega)]
  refine EvC.a ?_
  refine EvC.ret ⟨Or.inl rfl, _, (by simp only [go_sem] <;> rfl), ?_, rfl⟩
  simp only [go_sem]
 refine EvC.cs ?_ (by simp only [go_sem, decide_eq_false he] <;> rfl)
 have hsn : L.map FA.cells ++ [[.sc (.int .i64 a1), .sc (.int .i64 a2), .sc (.int .i64 a3), .sc (.int .i64 a4), .sc (.int .i64 a5), .sc (.int .i64 a6)]] = (L ++ [(⟨a1, a2, a3, a4, a5, a6⟩ : FA)]).map FA.cells := by simp [FA.cells]
 have hsl : L.length + 1 = (L ++ [(⟨a1, a2, a3, a4, a5, a6⟩ : FA)]).length := by simp
 have hse : (L ++ [(⟨a1, a2, a3, a4, a5, a6⟩ : FA)]).isEmpty = false := by simp
 have hr2 : room (L.length + 1) 48 = true := by simp only [room_eq, decide_eq_true_eq]; omega
 rw [hsl] at hr2
 generalize L ++ [(⟨a1, a2, a3, a4, a5, a6⟩ : FA)] = T at hsn hsl hse hr2 htk
 refine EvC.b ?_ (by simp only [go_sem, hsn, hsl, List.length_map] <;> rfl) (by simp [hr2])
 exact ⟨[(0, 0), (1, 1), (2, 2), (3, 3)], T, rfl, (by rw [hse]; simp only [go_sem] <;> rfl), htk.symm, by omega⟩
theorem norefs_mcells (m : Mach) : AV.norefs m.cells = true := by
 have h : (m.rows.map rowC).all AV.norefs = true := by
  rw [List.all_eq_true]
  intro c hc
  obtain ⟨r, _, rfl⟩ := List.mem_map.1 hc
  exact rowC_norefs r
 simp [Mach.cells, AV.norefs, AV.noref, h]
theorem norefs_machs (ms : List Mach) : (ms.map Mach.cells).all AV.norefs = true := by
 rw [List.all_eq_true]
 intro c hc
 obtain ⟨r, _, rfl⟩ := List.mem_map.1 hc
 exact norefs_mcells r
def errFs (m : Mach) : List FA → Int
 | [] => 0
 | f :: r => if checkF m f = 0 then errFs m r else checkF m f
def mutErr (m : Mach) (fs : List FA) : Int := if checkM m ≠ 0 then checkM m else if 256 < (fs.length : Int) then 3 else errFs m fs
def mutsA (m : Mach) (fs : List FA) : AV :=
 if mutErr m fs = 0 then .tu [.sl fs.isEmpty ((fs.map (mutF m)).map Mach.cells) .unk, .sc (.int .i64 0)] else .tu [.sl true [] .unk, .sc (.int .i64 (mutErr m fs))]
theorem errFs_zero {m : Mach} : ∀ {fs : List FA}, errFs m fs = 0 → ∀ f ∈ fs, checkF m f = 0
 | [], _, _, h => by cases h
 | g :: r, h, f, hf => by
   unfold errFs at h
   split at h
   ·rename_i h0
    rcases List.mem_cons.1 hf with rfl | hf
    ·exact h0
    ·exact errFs_zero h f hf
   ·contradiction
def mutC (m : Mach) (fs : List FA) (k : Nat) : List (List AV) := ((fs.take k).map (mutF m)).map Mach.cells
theorem mutC_succ {m : Mach} {fs : List FA} {k : Nat} {f : FA} (h : fs[k]? = some f) : mutC m fs k ++ [(mutF m f).cells] = mutC m fs (k + 1) := by
 obtain ⟨hi, he⟩ := List.getElem?_eq_some_iff.1 h
 unfold mutC
 rw [List.take_succ_eq_append_getElem hi, he, List.map_append, List.map_append]; rfl
theorem mutC_len {m : Mach} {fs : List FA} {k : Nat} (h : k ≤ fs.length) : (mutC m fs k).length = k := by simp [mutC]; omega
@[go_sem] theorem norefs_mutC (m : Mach) (fs : List FA) (k : Nat) : (mutC m fs k).all AV.norefs = true := norefs_machs _
theorem mutErr_ok {m : Mach} {fs : List FA} (h : mutErr m fs = 0) : checkM m = 0 ∧ fs.length ≤ 256 ∧ errFs m fs = 0 := by
 unfold mutErr at h
 split at h
 ·rename_i h1; exact absurd h h1
 ·rename_i h1
  split at h
  ·cases h
  ·exact ⟨by simpa using h1, by omega, h⟩
theorem mutants_is (m : Mach) (hm : ∀ r ∈ m.rows, r.2.length < 1000000) (hnn : NoNil m) (fn : Bool) (fs : List FA) (fc : Cp) (hfl : fs.length < 1000000) :
  PureIs prog 42 [.ag m.cells, .sl fn (fs.map FA.cells) fc] (mutsA m fs) := by
 refine PureIs.of1 3 [4, 5, 6, 7, 9, 10, 11, 15, 19, 20, 21, 22, 23, 33] func42 ntmps42 results42 fun _ => ?_
 refine EvC.a ?_ (by simp only [go_sem, Mach.cells] <;> rfl)
 refine EvC.z 0 ?_
 refine EvC.seq ?_
 apply EvC.s1
 ·apply Tr.run
  ·simp only [go_sem, Mach.cells] <;> rfl
  ·simp
  apply Tr.cons
  ·exact .ca (check_is m hm)
  apply Tr.done
  ·simp only [go_sem] <;> rfl
  ·simp
 by_cases h0 : checkM m = 0
 rotate_left
 ·refine EvC.a ?_
  refine EvC.ct ?_ (by simp only [go_sem, decide_eq_false h0] <;> rfl)
  refine EvC.a ?_
  have hR : mutErr m fs = checkM m := by unfold mutErr; rw [if_pos h0]
  rw [mutsA, hR, if_neg h0]
  refine EvC.rz ?_
  simp only [go_sem]
 have hv := Valid.of h0
 refine EvC.a ?_
 refine EvC.cs ?_ (by simp only [go_sem, decide_eq_true h0] <;> rfl)
 refine EvC.seq ?_
 refine EvC.a ?_ (by simp only [go_sem, List.length_map] <;> rfl)
 by_cases hb : 256 < (fs.length : Int)
 ·refine EvC.ct ?_ (by simp only [go_sem, decide_eq_true hb] <;> rfl)
  refine EvC.a ?_
  have hR : mutErr m fs = 3 := by unfold mutErr; rw [if_neg (fun h => h h0), if_pos hb]
  rw [mutsA, hR, if_neg (show ¬ (3 : Int) = 0 by decide)]
  refine EvC.rz ?_
  simp only [go_sem]
 refine EvC.cf ?_ (by simp only [go_sem, decide_eq_false hb] <;> rfl)
 have hR : mutErr m fs = errFs m fs := by unfold mutErr; rw [if_neg (fun h => h h0), if_neg hb]
 rw [mutsA, hR]
 refine EvC.skip ?_
 refine EvC.a ?_
 refine EvC.seq ?_
 refine EvC.a ?_ (by simp only [go_sem, List.length_map] <;> rfl)
 refine EvC.block ?_
 refine EvC.loopS (σ := Nat) (fun k => ⟨[(2, .ia [.sc (.int .i64 m.ins), .sc (.int .i64 m.outs), .sl m.nl (m.rows.map rowC) .unk]), (7, .tl 0 k (k == 0)), (20, .sl fn (fs.map FA.cells) fc), (21, .sc (.int .i64 fs.length)), (22, .sc (.int .i64 k))], [], [(0, .arr 3 (mutC m fs k) true)], 1⟩) (fun k => fs.length - k) (fun k => k ≤ fs.length ∧ errFs m fs = errFs m (fs.drop k)) [2, 7, 20, 21, 22] 1 ?_ ?_
 ·refine ⟨[(11, 0)], 0, rfl, (by simp only [go_sem, Int.natCast_zero, mutC, List.take_zero, List.map_nil] <;> rfl), Nat.zero_le _, rfl⟩
 rintro k ⟨hk1, hinv⟩
 have hml := mutC_len (m := m) hk1
 refine EvC.a ?_
 refine EvC.seq ?_
 refine EvC.cond (by simp only [go_sem] <;> rfl) (fun hc => ?_) (fun hc => ?_)
 rotate_left
 ·
  refine EvC.exit ?_
  obtain rfl : fs.length = k := by have : ¬ k < fs.length := by simpa using hc
                                   omega
  rw [List.drop_length] at hinv
  have hinv : errFs m fs = 0 := hinv
  rw [if_pos hinv]
  have hmc : (fs.map (mutF m)).map Mach.cells = mutC m fs fs.length := by rw [mutC, List.take_length]
  rw [hmc]
  have hn := norefs_mutC m fs fs.length
  have hie : (fs.length == 0) = fs.isEmpty := by cases fs <;> rfl
  rw [hie]
  generalize mutC m fs fs.length = L at hml hn
  refine EvC.frz 0 (by simp only [go_sem, hn, hml] <;> rfl) ?_
  refine EvC.a ?_ (by simp only [go_sem, hml] <;> rfl)
  refine EvC.ret ⟨.inl rfl, _, (by simp only [go_sem, hml] <;> rfl), ?_, by simp [AV.noref, AV.norefs, hn]⟩
  simp only [go_sem, hml]
 have hkl : k < fs.length := by simpa using hc
 clear hc
 have he : fs[k]? = some (fs[k]'hkl) := List.getElem?_eq_getElem hkl
 have hdr : fs.drop k = fs[k]'hkl :: fs.drop (k + 1) := List.drop_eq_getElem_cons hkl
 generalize fs[k]'hkl = f at he hdr
 rw [hdr, errFs] at hinv
 have hin : (k : Int).toNat = k := Int.toNat_natCast k
 have q := apply71_is hv h0 hnn f
 have hs := mutC_succ (m := m) he
 have hml2 := mutC_len (m := m) (k := k + 1) hkl
 have hr2 : room (k + 1) 40 = true := by simp only [room_eq, decide_eq_true_eq]; omega
 refine EvC.skip ?_
 refine EvC.seq ?_
 refine EvC.block ?_
 refine EvC.a ?_ (by simp only [go_sem, he, hin, FA.cells, List.length_map] <;> rfl)
 unfold applyR at q
 generalize mutF m f = mf at q hs
 have hmr : AV.norefs mf.cells = true := norefs_mcells mf
 simp only [Mach.cells] at q hs hmr
 by_cases h0 : checkF m f = 0
 ·rw [if_pos h0] at q hinv
  apply EvC.s1
  ·apply Tr.run
   ·simp only [go_sem, Mach.cells, FA.cells] <;> rfl
   ·simp
   apply Tr.cons
   ·exact .ca (q)
   apply Tr.done
   ·simp only [go_sem] <;> rfl
   ·simp
  refine EvC.seq ?_
  refine EvC.a ?_
  refine EvC.cs ?_
  refine EvC.b ?_ (by simp only [go_sem, hml, hr2, hs] <;> rfl)
  refine EvC.b ?_ (hok := by exact inI64_of (by omega) (by omega))
  exact ⟨[(0, 0)], k + 1, rfl, (by simp only [go_sem, Int.natCast_add, Int.natCast_one, hml2] <;> rfl), ⟨hkl, hinv⟩, by omega⟩
 ·rw [if_neg h0] at q hinv
  apply EvC.s1
  ·apply Tr.run
   ·simp only [go_sem, Mach.cells, FA.cells] <;> rfl
   ·simp
   apply Tr.cons
   ·exact .ca (q)
   apply Tr.done
   ·simp only [go_sem] <;> rfl
   ·simp
  refine EvC.seq ?_
  refine EvC.a ?_
  refine EvC.ct ?_ (by simp only [go_sem, decide_eq_false h0] <;> rfl)
  refine EvC.a ?_
  rw [hinv, if_neg h0]
  refine EvC.rz ?_
  simp only [go_sem]
def idL (n : Nat) : List Int := (List.range n).map Int.ofNat
def evL (n k : Nat) : List (List AV) := (List.range n).map fun i => intC (if i < k then i else 0)
theorem evL_zero (n : Nat) : evL n 0 = List.replicate n [.sc (.int .i64 0)] := by
 apply List.ext_getElem
 ·simp [evL]
 ·intro i h1 h2; simp [evL, intC]
theorem evL_len (n k : Nat) : (evL n k).length = n := by simp [evL]
theorem evL_set {n k : Nat} (h : k < n) : (evL n k).set k [.sc (.int .i64 k)] = evL n (k + 1) := by
 apply List.ext_getElem
 ·simp [evL]
 ·intro i h1 h2
  simp only [evL, List.getElem_set, List.getElem_map, List.getElem_range, intC]
  by_cases e : k = i
  ·subst e; simp
  ·rw [if_neg e]
   by_cases h3 : i < k
   ·rw [if_pos h3, if_pos (by omega)]
   ·rw [if_neg h3, if_neg (by omega)]
theorem evL_full (n : Nat) : evL n n = (idL n).map intC := by
 apply List.ext_getElem
 ·simp [evL, idL]
 ·intro i h1 h2
  have : i < n := by simpa [evL] using h1
  simp only [evL, idL, List.getElem_map, List.getElem_range, if_pos this]; rfl
theorem evL_norefs (n k : Nat) : (evL n k).all AV.norefs = true := by simp [evL, List.all_eq_true, intC, AV.norefs, AV.noref]
theorem evL_get {n k : Nat} (h : k < n) : (evL n k)[k]? = some [.sc (.int .i64 0)] := by
 rw [List.getElem?_eq_getElem (by rw [evL_len]; exact h)]
 simp [evL, intC]
theorem everybody_is (n : Nat) (hn : n < 1000000) : PureIs prog 44 [.sc (.int .i64 n)] (.sl false ((idL n).map intC) .full) := by
 refine PureIs.of1 1 [2, 3, 4, 8, 9, 10, 6] func44 ntmps44 results44 fun _ => ?_
 refine EvC.a ?_
 have hr : room n 8 = true := by simp only [room_eq, decide_eq_true_eq]; omega
 refine EvC.a ?_ (hok := by simp [hr]; try omega)
 have hlen := evL_len n
 have hl0 := hlen 0
 rw [evL_zero] at hl0
 have hnr : (List.replicate n [AV.sc (.int .i64 0)]).all AV.norefs = true := by rw [← evL_zero]; exact evL_norefs n 0
 have htk : List.take n (List.replicate n [AV.sc (.int .i64 0)]) = List.replicate n [AV.sc (.int .i64 0)] := List.take_of_length_le (by simp)
 refine EvC.seq ?_
 refine EvC.a ?_ (by simp only [go_sem, hl0, htk] <;> rfl)
 refine EvC.block ?_
 refine EvC.loopS (σ := Nat) (fun k => ⟨[(3, .tv 0 n 0 n (.val n)), (8, .sc (.int .i64 n)), (9, .sc (.int .i64 k))], [], [(0, .arr 1 (evL n k) false)], 1⟩) (fun k => n - k) (fun k => k ≤ n) [3, 8, 9] 1 ?_ ?_
 ·exact ⟨[(2, 0)], 0, rfl, (by rw [evL_zero]; simp only [go_sem, Int.natCast_zero, hnr] <;> rfl), Nat.zero_le _⟩
 intro k hk
 refine EvC.a ?_
 refine EvC.seq ?_
 refine EvC.cond (by simp only [go_sem] <;> rfl) (fun hc => ?_) (fun hc => ?_)
 rotate_left
 ·refine EvC.exit ?_
  obtain rfl : n = k := by have : ¬ k < n := (by simpa using hc); omega
  rw [evL_full]
  have hl2 : (idL n).length = n := by simp [idL]
  refine EvC.frz 0 (by simp only [go_sem, hl2, List.length_map] <;> rfl) ?_
  refine EvC.a ?_ (by simp only [go_sem, hl2, List.length_map] <;> rfl)
  refine EvC.rz ?_
  simp only [go_sem]
 have hc : k < n := by simpa using hc
 have hset := evL_set hc
 have hget := evL_get hc
 have hn1 := evL_norefs n (k + 1)
 have hlk := hlen k
 have hl1 := hlen (k + 1)
 generalize evL n k = L at hset hlk hget ⊢
 generalize hL1 : evL n (k + 1) = L1 at hset hl1 hn1 ⊢
 obtain ⟨kZ, hkZ⟩ : ∃ z : Int, z = (k : Int) := ⟨_, rfl⟩
 have hkt : kZ.toNat = k := by omega
 rw [← hkZ] at hset ⊢
 refine EvC.skip ?_
 refine EvC.seq ?_
 refine EvC.block ?_
 refine EvC.a ?_
 refine EvC.b ?_ (by simp only [go_sem, hkt, hlk, hget, hset] <;> rfl) (by simp; omega)
 refine EvC.b ?_ (hok := by exact inI64_of (by omega) (by omega))
 exact ⟨[(0, 0)], k + 1, rfl, (by rw [hkZ, hL1]; simp only [go_sem, hn1, Int.natCast_add, Int.natCast_one] <;> rfl), hc, by omega⟩
theorem class1_is (nl : Bool) (X : List Mach) (c : Cp) (i : Nat) (hi : i < X.length) : PureIs prog 45 [.sc (.int .i64 i), .ia [.sl nl (X.map Mach.cells) c]] (.ag (X[i]'hi).cells) := by
 refine PureIs.of1 2 [3] func45 ntmps45 results45 fun _ => ?_
 have hx : (X.map Mach.cells)[i]? = some (X[i]'hi).cells := by rw [List.getElem?_map, List.getElem?_eq_getElem hi]; rfl
 obtain ⟨nZ, hnZ⟩ : ∃ z : Int, z = (i : Int) := ⟨_, rfl⟩
 have hnt : nZ.toNat = i := by omega
 generalize X[i]'hi = x at hx ⊢
 rw [← hnZ]
 refine EvC.a ?_
 refine EvC.a ?_ (by simp only [go_sem, hx, hnt, Mach.cells, List.length_map] <;> rfl) (by simp; omega)
 refine EvC.rz ?_
 simp only [go_sem]
 rfl
theorem alike_is (a b : Mach) (ha : ∀ r ∈ a.rows, r.2.length < 1000000) (hb : ∀ r ∈ b.rows, r.2.length < 1000000) : PureIs prog 46 [.ag a.cells, .ag b.cells] (.sc (.bool (equalR a b).1)) := by
 refine PureIs.of1 2 [2, 3, 4, 5, 6] func46 ntmps46 results46 fun _ => ?_
 refine EvC.a ?_ (by simp only [go_sem, Mach.cells] <;> rfl)
 refine EvC.z 0 ?_
 refine EvC.z 1 ?_
 have q := equals_equal_is a b ha hb
 apply EvC.s1
 ·apply Tr.run
  ·simp only [go_sem, Mach.cells] <;> rfl
  ·simp
  apply Tr.cons
  ·exact .ca (q)
  apply Tr.done
  ·simp only [go_sem] <;> rfl
  ·simp
 refine EvC.a ?_
 refine EvC.rz ?_
 simp only [go_sem]
theorem equal53_is (na nb : Bool) (a b : List Int) (ca cb : Cp) (hl : a.length < 1000000) :
  PureIs prog 66 [.sl na (a.map intC) ca, .sl nb (b.map intC) cb] (.sc (.bool (decide (a = b)))) := by
 refine PureIs.of1 2 [4, 5, 10, 12, 13, 14, 24] func66 ntmps66 results66 fun _ => ?_
 refine EvC.a ?_
 refine EvC.seq ?_
 refine EvC.a ?_ (by simp only [go_sem, List.length_map] <;> rfl)
 by_cases hlen : a.length = b.length
 rotate_left
 ·have hd : decide ((a.length : Int) = (b.length : Int)) = false := decide_eq_false (by omega)
  have hab : decide (a = b) = false := decide_eq_false fun h => hlen (by rw [h])
  rw [hab]
  refine EvC.ct ?_ (by simp only [go_sem, hd] <;> rfl)
  refine EvC.a ?_
  refine EvC.rz ?_
  simp only [go_sem]
 have hd : decide ((a.length : Int) = (b.length : Int)) = true := decide_eq_true (by omega)
 refine EvC.cs ?_ (by simp only [go_sem, hd] <;> rfl)
 refine EvC.seq ?_
 refine EvC.a ?_ (by simp only [go_sem, List.length_map] <;> rfl)
 refine EvC.block ?_
 refine EvC.loopS (σ := Nat) (fun i => ⟨[(0, .sl na (a.map intC) ca), (1, .sl nb (b.map intC) cb), (12, .sc (.int .i64 a.length)), (13, .sc (.int .i64 i))], [], [], 0⟩) (fun i => a.length - i) (fun i => i ≤ a.length ∧ decide (a = b) = decide (a.drop i = b.drop i)) [0, 1, 12, 13] 0 ?_ ?_
 ·exact ⟨[], 0, rfl, (by simp only [go_sem, Int.natCast_zero] <;> rfl), Nat.zero_le _, rfl⟩
 rintro i ⟨hi, hinv⟩
 refine EvC.a ?_
 refine EvC.seq ?_
 refine EvC.cond (by simp only [go_sem] <;> rfl) (fun hc => ?_) (fun hc => ?_)
 rotate_left
 ·
  refine EvC.exit ?_
  obtain rfl : a.length = i := by have : ¬ i < a.length := by simpa using hc
                                  omega
  have h0 : decide (a = b) = true := by rw [hinv, List.drop_length, hlen, List.drop_length]; rfl
  rw [h0]
  refine EvC.a ?_
  refine EvC.rz ?_
  simp only [go_sem]
 have hil : i < a.length := by simpa using hc
 clear hc
 have he : a[i]? = some (a[i]'hil) := List.getElem?_eq_getElem hil
 have hf : b[i]? = some (b[i]'(by omega)) := List.getElem?_eq_getElem (by omega)
 generalize a[i]'hil = x at he
 generalize b[i]'(by omega) = y at hf
 rw [list_step he, list_step hf] at hinv
 have hin : (i : Int).toNat = i := Int.toNat_natCast i
 refine EvC.skip ?_
 refine EvC.seq ?_
 refine EvC.block ?_
 refine EvC.a ?_
 apply EvC.seq
 apply EvC.drd mixed
 ·simp only [go_sem, he, hf, intC, hin, List.length_map] <;> rfl
 ·simp; try omega
 ·kernel_rfl
 by_cases hxy : x = y
 ·subst hxy
  refine EvC.cs ?_
  refine EvC.b ?_ (hok := by exact inI64_of (by omega) (by omega))
  exact ⟨[], i + 1, rfl, (by simp only [go_sem, Int.natCast_add, Int.natCast_one] <;> rfl), ⟨hil, by rw [hinv]; simp⟩, by omega⟩
 ·have d1 : decide (x = y) = false := decide_eq_false hxy
  refine EvC.ct ?_ (by simp only [go_sem, d1] <;> rfl)
  refine EvC.a ?_
  rw [hinv]
  refine EvC.rz ?_
  simp only [go_sem]
  simp [hxy]
theorem fitsR_mono {k k2 : Nat} {o a b : Int} (hk : k ≤ k2) (h : fitsR k o a b = true) : fitsR k2 o a b = true := by
 unfold fitsR at h ⊢
 simp only [Bool.or_eq_true, Bool.and_eq_true, decide_eq_true_eq] at h ⊢
 omega
theorem fitsR_in {k : Nat} {o a b : Int} (h1 : 0 ≤ a ∧ a < k) (h2 : 0 ≤ b ∧ b < o) : fitsR k o a b = true := by
 unfold fitsR
 simp only [Bool.or_eq_true, Bool.and_eq_true, decide_eq_true_eq]
 omega
theorem fitsR_none (k : Nat) (o : Int) : fitsR k o (-1) (-1) = true := by
 unfold fitsR
 simp
theorem stepM_out {m : Mach} (hv : Valid m) {s i : Int} (hd : definedB m s i = true) : 0 ≤ (stepM m s i).2 ∧ (stepM m s i).2 < m.outs := by
 obtain ⟨h1, h2, h3⟩ := definedB_iff.1 hd
 obtain ⟨r, _, _, k3⟩ := stepM_get hv h1 h2
 unfold fitsR at k3
 simp only [Bool.or_eq_true, Bool.and_eq_true, decide_eq_true_eq] at k3
 omega
def RowV (m : Mach) (k : Nat) (r : Row) : Prop := (r.2.length : Int) = m.ins ∧ ∀ e ∈ r.2, fitsR k m.outs e.1 e.2 = true
theorem RowV.set {m : Mach} {k : Nat} {l : List (Int × Int)} (h : RowV m k (false, l)) (i : Nat) {e : Int × Int} (he : fitsR k m.outs e.1 e.2 = true) : RowV m k (false, l.set i e) := by
 refine ⟨by simpa using h.1, fun x hx => ?_⟩
 rcases List.mem_or_eq_of_mem_set hx with h1 | rfl
 ·exact h.2 x h1
 ·exact he
theorem putR_rowV {m : Mach} (hv : Valid m) {s i : Int} (hs : 0 ≤ s ∧ s < m.rows.length) {e : Int × Int} {k : Nat} (hk : m.rows.length ≤ k) (he : fitsR k m.outs e.1 e.2 = true) : ∀ r ∈ putR m s i e, RowV m k r := by
 intro r hr
 have hb : ∀ q ∈ m.rows, RowV m k (false, q.2) := fun q hq => ⟨(hv.row q hq).1, fun x hx => fitsR_mono hk ((hv.row q hq).2 x hx)⟩
 unfold putR copyR at hr
 rcases List.mem_or_eq_of_mem_set hr with h | rfl
 ·obtain ⟨q, hq, rfl⟩ := List.mem_map.1 h
  exact hb q hq
 ·have h5 : m.rows[s.toNat]? = some (m.rows[s.toNat]'(by omega)) := List.getElem?_eq_getElem (by omega)
  have hrt : rowAt m s = (m.rows[s.toNat]'(by omega)).2 := by unfold rowAt; rw [h5]; rfl
  rw [hrt]
  exact (hb _ (List.getElem_mem _)).set _ he
theorem putR_len (m : Mach) (s i : Int) (e : Int × Int) : (putR m s i e).length = m.rows.length := by simp [putR, copyR]
theorem Valid.mk' {m : Mach} (hv : Valid m) {rs : List Row} (h1 : m.rows.length ≤ rs.length) (h2 : rs.length ≤ 64) (h : ∀ r ∈ rs, RowV m rs.length r) : Valid ⟨m.ins, m.outs, false, rs⟩ :=
 ⟨hv.ins, hv.outs, ⟨by have := hv.rows; show 1 ≤ rs.length; omega, h2⟩, fun r hr => h r hr⟩
theorem mutF_valid {m : Mach} (hv : Valid m) {f : FA} (hc : checkF m f = 0) : Valid (mutF m f) := by
 unfold checkF at hc
 split at hc
 rotate_left
 ·cases hc
 rename_i hfb
 split at hc
 ·cases hc
 rename_i h64
 unfold faultB at hfb
 simp only [Bool.and_eq_true] at hfb
 obtain ⟨hp, hd, hkb⟩ := hfb
 have hst := stepM_out hv hd
 obtain ⟨r, h1, h2, he⟩ := step_in hv hd
 obtain ⟨b1, b2, _⟩ := definedB_iff.1 hd
 have hr64 := hv.rows.2
 unfold kindB at hkb
 unfold mutF mutRows
 split
 ·rename_i h0
  rw [if_pos h0] at hkb
  simp only [Bool.and_eq_true, inN, decide_eq_true_eq] at hkb
  exact hv.mk' (by rw [putR_len]; omega) (by rw [putR_len]; omega) (by rw [putR_len]; exact putR_rowV hv b1 (Nat.le_refl _) (fitsR_in he hkb.1))
 rename_i h0
 rw [if_neg h0] at hkb
 split
 ·rename_i h1
  rw [if_pos h1] at hkb
  simp only [Bool.and_eq_true, inN, decide_eq_true_eq] at hkb
  exact hv.mk' (by rw [putR_len]; omega) (by rw [putR_len]; omega) (by rw [putR_len]; exact putR_rowV hv b1 (Nat.le_refl _) (fitsR_in hkb.1 hst))
 rename_i h1
 rw [if_neg h1] at hkb
 split
 ·rename_i h2
  exact hv.mk' (by rw [putR_len]; omega) (by rw [putR_len]; omega) (by rw [putR_len]; exact putR_rowV hv b1 (Nat.le_refl _) (fitsR_none _ _))
 rename_i h2
 rw [if_neg h2] at hkb
 have h3k : 3 ≤ f.kind := by
  have := plainB_kind hp
  omega
 have h64' : m.rows.length + 1 ≤ 64 := by omega
 have hput : ∀ r ∈ putR m f.state f.input ((m.rows.length : Int), (stepM m f.state f.input).2), RowV m (m.rows.length + 1) r := putR_rowV hv b1 (by omega) (fitsR_in (by simp; omega) hst)
 have hone : ∀ (t : Int), 0 ≤ t ∧ t < m.rows.length → RowV m (m.rows.length + 1) (false, rowAt m t) := by
  intro t ht
  have h5 : m.rows[t.toNat]? = some (m.rows[t.toNat]'(by omega)) := List.getElem?_eq_getElem (by omega)
  have hrt : rowAt m t = (m.rows[t.toNat]'(by omega)).2 := by unfold rowAt; rw [h5]; rfl
  rw [hrt]
  have hq := hv.row _ (List.getElem_mem (show t.toNat < m.rows.length by omega))
  exact ⟨hq.1, fun x hx => fitsR_mono (by omega) (hq.2 x hx)⟩
 split
 ·rename_i h3
  rw [if_pos h3] at hkb
  simp only [inN, Bool.and_eq_true, decide_eq_true_eq] at hkb
  have hl : (putR m f.state f.input ((m.rows.length : Int), (stepM m f.state f.input).2) ++ [((false, rowAt m f.to) : Row)]).length = m.rows.length + 1 := by rw [List.length_append, putR_len]; rfl
  refine hv.mk' (by omega) (by omega) ?_
  rw [hl]
  intro q hq
  rcases List.mem_append.1 hq with h | h
  ·exact hput q h
  ·rw [List.mem_singleton] at h
   rw [h]
   exact hone _ hkb
 ·rename_i h3
  rw [if_neg h3] at hkb
  simp only [inN, Bool.and_eq_true, decide_eq_true_eq] at hkb
  obtain ⟨ho, hd2, _⟩ := hkb
  have he2 := (step_in hv hd2).choose_spec.2.2
  have hl : (putR m f.state f.input ((m.rows.length : Int), (stepM m f.state f.input).2) ++ [((false, (rowAt m (stepM m f.state f.input).1).set f.at'.toNat ((stepM m (stepM m f.state f.input).1 f.at').1, f.out)) : Row)]).length = m.rows.length + 1 := by rw [List.length_append, putR_len]; rfl
  refine hv.mk' (by omega) (by omega) ?_
  rw [hl]
  intro q hq
  rcases List.mem_append.1 hq with h | h
  ·exact hput q h
  ·rw [List.mem_singleton] at h
   rw [h]
   exact (hone _ he).set _ (fitsR_in (by omega) ho)
section
variable {κ : Type}
def dvPut (eqB : κ → κ → Bool) (x : κ) (i : Int) : List (κ × List Int) → List (κ × List Int)
 | [] => [(x, [i])]
 | p :: ps => if eqB p.1 x = true then (p.1, p.2 ++ [i]) :: ps else p :: dvPut eqB x i ps
def dvL (eqB : κ → κ → Bool) (K : Int → κ) : List Int → List (κ × List Int) → List (κ × List Int)
 | [], ps => ps
 | i :: is, ps => dvL eqB K is (dvPut eqB (K i) i ps)
theorem dvPut_set {eqB : κ → κ → Bool} {x : κ} {i : Int} : ∀ {ps : List (κ × List Int)} {n : Nat} {p : κ × List Int}, (∀ j q, j < n → ps[j]? = some q → eqB q.1 x = false) → ps[n]? = some p → eqB p.1 x = true → dvPut eqB x i ps = ps.set n (p.1, p.2 ++ [i])
 | [], n, p, _, h, _ => by simp at h
 | q :: ps, 0, p, _, h, he => by
   simp only [List.getElem?_cons_zero, Option.some.injEq] at h
   subst h
   rw [dvPut, if_pos he]; rfl
 | q :: ps, n + 1, p, h0, h, he => by
   have h1 := h0 0 q (by omega) rfl
   rw [dvPut, if_neg (by rw [h1]; simp), List.set_cons_succ, dvPut_set (n := n) (p := p) (fun j r hj hr => h0 (j + 1) r (by omega) (by simpa using hr)) (by simpa using h) he]
theorem dvPut_new {eqB : κ → κ → Bool} {x : κ} {i : Int} : ∀ {ps : List (κ × List Int)}, (∀ q ∈ ps, eqB q.1 x = false) → dvPut eqB x i ps = ps ++ [(x, [i])]
 | [], _ => rfl
 | q :: ps, h => by
   rw [dvPut, if_neg (by rw [h q List.mem_cons_self]; simp), dvPut_new fun r hr => h r (List.mem_cons_of_mem _ hr)]; rfl
theorem dvPut_bd {eqB : κ → κ → Bool} {x : κ} {i : Int} {N : Nat} : ∀ {ps : List (κ × List Int)}, (∀ q ∈ ps, q.2.length ≤ N) → ∀ q ∈ dvPut eqB x i ps, q.2.length ≤ N + 1
 | [], _, q, hq => by
   rw [dvPut, List.mem_singleton] at hq; subst hq; simp
 | p :: ps, h, q, hq => by
   rw [dvPut] at hq
   split at hq
   ·rcases List.mem_cons.1 hq with rfl | hq
    ·have := h p List.mem_cons_self; simp; omega
    ·have := h q (List.mem_cons_of_mem _ hq); omega
   ·rcases List.mem_cons.1 hq with rfl | hq
    ·have := h q List.mem_cons_self; omega
    ·exact dvPut_bd (fun r hr => h r (List.mem_cons_of_mem _ hr)) q hq
theorem dvPut_len {eqB : κ → κ → Bool} {x : κ} {i : Int} : ∀ {ps : List (κ × List Int)}, (dvPut eqB x i ps).length ≤ ps.length + 1
 | [] => by simp [dvPut]
 | p :: ps => by
   rw [dvPut]; split
   ·simp
   ·have := dvPut_len (eqB := eqB) (x := x) (i := i) (ps := ps); simp; exact this
variable (kc : κ → List AV)
def dcA : List (κ × List Int) → Nat → List (List AV)
 | [], _ => []
 | p :: ps, s => (kc p.1 ++ [.tl (2000000 + s) p.2.length false]) :: dcA ps (s + 1)
theorem dcA_len : ∀ (ps : List (κ × List Int)) (s : Nat), (dcA kc ps s).length = ps.length
 | [], _ => rfl
 | p :: ps, s => by simp only [dcA, List.length_cons, dcA_len ps]
theorem dcA_get : ∀ {ps : List (κ × List Int)} {s n : Nat} {p : κ × List Int}, ps[n]? = some p → (dcA kc ps s)[n]? = some (kc p.1 ++ [.tl (2000000 + (s + n)) p.2.length false])
 | q :: ps, s, 0, p, h => by
   simp only [List.getElem?_cons_zero, Option.some.injEq] at h
   subst h; rfl
 | q :: ps, s, n + 1, p, h => by
   have := dcA_get (s := s + 1) (show ps[n]? = some p by simpa using h)
   rw [dcA, List.getElem?_cons_succ, this, show s + 1 + n = s + (n + 1) by omega]
theorem dcA_set : ∀ {ps : List (κ × List Int)} {s n : Nat} {p : κ × List Int} (l : List Int), ps[n]? = some p → (dcA kc ps s).set n (kc p.1 ++ [.tl (2000000 + (s + n)) l.length false]) = dcA kc (ps.set n (p.1, l)) s
 | q :: ps, s, 0, p, l, h => by
   simp only [List.getElem?_cons_zero, Option.some.injEq] at h
   subst h; rfl
 | q :: ps, s, n + 1, p, l, h => by
   have := dcA_set (s := s + 1) l (show ps[n]? = some p by simpa using h)
   rw [dcA, List.set_cons_succ, List.set_cons_succ, dcA, ← this, show s + 1 + n = s + (n + 1) by omega]
theorem dcA_snoc : ∀ (ps : List (κ × List Int)) (s : Nat) (x : κ) (l : List Int), dcA kc ps s ++ [kc x ++ [.tl (2000000 + (s + ps.length)) l.length false]] = dcA kc (ps ++ [(x, l)]) s
 | [], s, x, l => rfl
 | p :: ps, s, x, l => by
   have := dcA_snoc ps (s + 1) x l
   rw [dcA, List.cons_append, List.cons_append, dcA, ← this, List.length_cons, show s + 1 + ps.length = s + (ps.length + 1) by omega]
variable {kc}
theorem ren_norefs {K : List (Nat × Nat)} {cs : List AV} (h : AV.norefs cs = true) : cs.map (AV.ren K) = cs := by
 have : ∀ c ∈ cs, AV.ren K c = c := by
  intro c hc
  obtain ⟨i, hi, rfl⟩ := List.getElem_of_mem hc
  have := norefs_get cs h i hi
  simp [AV.ren, this]
 conv => rhs; rw [← List.map_id cs]
 exact List.map_congr_left this
theorem dcA_ren (hk : ∀ x, AV.norefs (kc x) = true) {K : List (Nat × Nat)} : ∀ {ps : List (κ × List Int)} {s : Nat}, (∀ j, j < ps.length → rlook K (2000000 + (s + j)) = some (2000000 + (s + j))) → (dcA kc ps s).map (fun c => c.map (AV.ren K)) = dcA kc ps s
 | [], _, _ => rfl
 | p :: ps, s, h => by
   have h1 := h 0 (by simp)
   have h2 := dcA_ren hk (K := K) (ps := ps) (s := s + 1) fun j hj => by
    have := h (j + 1) (by simpa using hj)
    rwa [show s + (j + 1) = s + 1 + j by omega] at this
   rw [dcA, List.map_cons, h2, List.map_append, ren_norefs (hk p.1)]
   simp only [Nat.add_zero] at h1
   simp only [List.map_cons, List.map_nil, AV.ren, AV.noref, Bool.false_eq_true, if_false, AV.deep, renLeaf, h1]
def dRows (ps : List (κ × List Int)) : Mem := msegA 2000000 (ps.map fun p => .arr 1 (p.2.map intC) false)
theorem dRows_look {ps : List (κ × List Int)} {n : Nat} {p : κ × List Int} (h : ps[n]? = some p) : mlook (dRows ps) (2000000 + n) = some (.arr 1 (p.2.map intC) false) := by
 rw [dRows, mlook_msegO, List.getElem?_map, h]; rfl
theorem dRows_none {ps : List (κ × List Int)} (hn : ps.length ≤ 1000000) {k : Nat} (hk : notO k = true) : mlook (dRows ps) k = none := by
 rw [dRows, mlook_msegA]
 split
 ·rw [List.getElem?_eq_none]
  unfold notO at hk; simp at hk; simp; omega
 ·rfl
theorem dRows_snoc (ps : List (κ × List Int)) (x : κ) (l : List Int) : dRows ps ++ [(2000000 + ps.length, .arr 1 (l.map intC) false)] = dRows (ps ++ [(x, l)]) := by
 rw [dRows, dRows, List.map_append, msegA_append]
 simp [msegA]
theorem dRows_ren {ps : List (κ × List Int)} (K : List (Nat × Nat)) : renMem (dRows ps) K (oK ps.length) = dRows ps := by
 have := renMem_oK K (ps.map fun p => RObj.arr 1 (p.2.map intC) false) [] ps.length (by simp)
 rw [List.append_nil, List.take_of_length_le (by simp), List.map_map] at this
 rw [dRows, this]
 congr 1
 refine List.map_congr_left fun p _ => ?_
 have hn : (p.2.map intC).all AV.norefs = true := by simp [List.all_eq_true, intC, AV.norefs, AV.noref]
 simp only [Function.comp, RObj.ren, hn, if_true]
end
def dRowsF {κ : Type} (ps : List (κ × List Int)) : Mem := msegA 2000000 (ps.map fun p => .arr 1 (p.2.map intC) true)
theorem dRowsF_look {κ : Type} {ps : List (κ × List Int)} {n : Nat} {p : κ × List Int} (h : ps[n]? = some p) : mlook (dRowsF ps) (2000000 + n) = some (.arr 1 (p.2.map intC) true) := by
 rw [dRowsF, mlook_msegO, List.getElem?_map, h]; rfl
theorem dRows_fz {κ : Type} (ps : List (κ × List Int)) : ofzAll ps.length (dRows ps) = dRowsF ps := by
 have := ofzAll_seg (ps.map fun p => RObj.arr 1 (p.2.map intC) false) [] ps.length (by simp)
 rw [List.append_nil, List.take_of_length_le (by simp), List.drop_eq_nil_of_le (by simp), List.append_nil, List.append_nil, List.map_map] at this
 rw [dRows, this]
 rfl
theorem dRowsF_memMap {κ : Type} (f : AV → AV) (ps : List (κ × List Int)) : memMap f (dRowsF ps) = dRowsF ps := by
 rw [dRowsF, memMap_msegA, List.map_map]
 rfl
theorem mdel_mset_none : ∀ {M : Mem} {k : Nat} {o : RObj}, mlook M k = none → mdel (mset M k o) k = M
 | [], k, o, _ => by simp [mset, mdel]
 | (j, u) :: M, k, o, h => by
   simp only [mlook] at h
   split at h
   ·cases h
   ·rename_i e
    simp only [mset, if_neg e, mdel]
    rw [mdel_mset_none h]
def dM {κ : Type} (kc : κ → List AV) (e : Nat) (ps : List (κ × List Int)) : Mem := (0, .arr e (dcA kc ps 0) false) :: dRows ps
def partC {κ : Type} (kc : κ → List AV) (p : κ × List Int) : List AV := kc p.1 ++ [.sl false (p.2.map intC) .unk]
section
variable {κ : Type} {kc : κ → List AV} {e : Nat} {ps : List (κ × List Int)} {M : Mem}
theorem dM_look0 : mlook (dM kc e ps) 0 = some (.arr e (dcA kc ps 0) false) := rfl
theorem dM_lookR {n : Nat} {p : κ × List Int} (h : ps[n]? = some p) : mlook (dM kc e ps) (2000000 + n) = some (.arr 1 (p.2.map intC) false) := by
 rw [dM]; simp only [mlook]; rw [if_neg (by omega), dRows_look h]
theorem arrRen_eq {K : List (Nat × Nat)} {es es' : List (List AV)} {fz : Bool} (h : es.map (fun c => c.map (AV.ren K)) = es') (h2 : es.all AV.norefs = true → es = es') : RObj.ren K (.arr e es fz) = .arr e es' fz := by
 simp only [RObj.ren]
 split
 ·rename_i hn; rw [h2 hn]
 ·rw [h]
theorem dM_ren (hk : ∀ x, AV.norefs (kc x) = true) (hp : ps.length ≤ 1000000) (h0 : mlook M 0 = some (.arr e (dcA kc ps 0) false)) (hr : ∀ j p, ps[j]? = some p → mlook M (2000000 + j) = some (.arr 1 (p.2.map intC) false)) :
  renMem M (osegK [(0, 0)] ps.length []) (osegK [(0, 0)] ps.length []) = dM kc e ps := by
 have hlo : ∀ j, j < ps.length → rlook (osegK [(0, 0)] ps.length []) (2000000 + (0 + j)) = some (2000000 + (0 + j)) := fun j hj => by rw [Nat.zero_add]; exact rlook_osegK_lo hj hp rfl
 rw [renMem_osegK]
 have h1 : renMem M (osegK [(0, 0)] ps.length []) [(0, 0)] = [(0, .arr e (dcA kc ps 0) false)] := by
  simp only [renMem, h0]
  rw [arrRen_eq (dcA_ren hk hlo) fun _ => rfl]
 have h2 : renMem M (osegK [(0, 0)] ps.length []) (oK ps.length) = dRows ps := by
  rw [renMem_oK_congr hp (M' := dRows ps) _ fun j hj => ?_, dRows_ren]
  have hg : ps[j]? = some ps[j] := List.getElem?_eq_getElem hj
  rw [hr j _ hg, dRows_look hg]
 rw [h1, h2]
 simp [renMem, dM]
theorem dM_ren1 (hk : ∀ x, AV.norefs (kc x) = true) (hp : ps.length < 1000000) {k : Nat} (hkn : notO k = true) (hk0 : k ≠ 0) {x : κ} {l : List Int} (h0 : mlook M 0 = some (.arr e (dcA kc ps 0 ++ [kc x ++ [.tl k l.length false]]) false)) (hr : ∀ j p, ps[j]? = some p → mlook M (2000000 + j) = some (.arr 1 (p.2.map intC) false))
  (hl : mlook M k = some (.arr 1 (l.map intC) false)) :
  renMem M (osegK [(0, 0)] ps.length [(k, 2000000 + ps.length)]) (osegK [(0, 0)] ps.length [(k, 2000000 + ps.length)]) = dM kc e (ps ++ [(x, l)]) := by
 have hlo : ∀ j, j < ps.length → rlook (osegK [(0, 0)] ps.length [(k, 2000000 + ps.length)]) (2000000 + (0 + j)) = some (2000000 + (0 + j)) := fun j hj => by rw [Nat.zero_add]; exact rlook_osegK_lo hj (by omega) rfl
 have hlk : rlook (osegK [(0, 0)] ps.length [(k, 2000000 + ps.length)]) k = some (2000000 + ps.length) := by
  rw [rlook_osegK_hi (by omega) _ _ _ hkn]
  simp [rlook, hk0]
 rw [renMem_osegK]
 have h1 : renMem M (osegK [(0, 0)] ps.length [(k, 2000000 + ps.length)]) [(0, 0)] = [(0, .arr e (dcA kc (ps ++ [(x, l)]) 0) false)] := by
  simp only [renMem, h0]
  have := dcA_snoc kc ps 0 x l
  rw [Nat.zero_add] at this
  rw [arrRen_eq (es' := dcA kc (ps ++ [(x, l)]) 0) ?_ ?_]
  ·rw [List.map_append, dcA_ren hk hlo, ← this, List.map_cons, List.map_append, ren_norefs (hk x)]
   simp only [List.map_cons, List.map_nil, AV.ren, AV.noref, Bool.false_eq_true, if_false, AV.deep, renLeaf, hlk]
  ·intro hn
   have hf : ∀ cs : List AV, AV.norefs (cs ++ [.tl k l.length false]) = false := by
    intro cs
    induction cs with
    | nil => rfl
    | cons c cs ih => simp [AV.norefs, ih]
   rw [List.all_append] at hn
   simp [hf] at hn
 have h2 : renMem M (osegK [(0, 0)] ps.length [(k, 2000000 + ps.length)]) (oK ps.length) = dRows ps := by
  rw [renMem_oK_congr (by omega) (M' := dRows ps) _ fun j hj => ?_, dRows_ren]
  have hg : ps[j]? = some ps[j] := List.getElem?_eq_getElem hj
  rw [hr j _ hg, dRows_look hg]
 have h3 : renMem M (osegK [(0, 0)] ps.length [(k, 2000000 + ps.length)]) [(k, 2000000 + ps.length)] = [(2000000 + ps.length, .arr 1 (l.map intC) false)] := by
  have hn : (l.map intC).all AV.norefs = true := by simp [List.all_eq_true, intC, AV.norefs, AV.noref]
  simp only [renMem, hl, RObj.ren, hn, if_true]
 rw [h1, h2, h3, dRows_snoc]
 rfl
theorem dM_none (hp : ps.length ≤ 1000000) {k : Nat} (hk : notO k = true) (hk0 : k ≠ 0) : mlook (dM kc e ps) k = none := by
 rw [dM]; simp only [mlook]; rw [if_neg hk0, dRows_none hp hk]
def dK (n : Nat) : List (Nat × Nat) := osegK [(0, 0)] n []
def dK1 (n k : Nat) : List (Nat × Nat) := osegK [(0, 0)] n [(k, 2000000 + n)]
theorem dK_hi {n : Nat} (hn : n ≤ 1000000) (k : Nat) (hk : notO k = true) : rlook (dK n) k = rlook [(0, 0)] k := by rw [dK, rlook_osegK_hi hn _ _ _ hk, List.append_nil]
theorem dK1_hi {n k0 : Nat} (hn : n ≤ 1000000) (k : Nat) (hk : notO k = true) : rlook (dK1 n k0) k = rlook [(0, 0), (k0, 2000000 + n)] k := by rw [dK1, rlook_osegK_hi hn _ _ _ hk]; rfl
theorem dK_ok {n : Nat} (hn : n ≤ 1000000) : gcOk 0 3000000 (dK n) = true := osegK_ok (A := [(0, 0)]) rfl rfl rfl hn (by omega)
theorem dK1_ok {n k : Nat} (hn : n < 1000000) (hk : notO k = true) (hk0 : k ≠ 0) : gcOk 0 3000000 (dK1 n k) = true := osegK_ok1 (A := [(0, 0)]) rfl rfl rfl hk (by simp only [rlook, if_neg hk0]) (by omega) (by omega) hn (by omega)
theorem dM_gc (hk : ∀ x, AV.norefs (kc x) = true) (hp : ps.length ≤ 1000000) (h0 : mlook M 0 = some (.arr e (dcA kc ps 0) false)) (hr : ∀ j p, ps[j]? = some p → mlook M (2000000 + j) = some (.arr 1 (p.2.map intC) false)) : renMem M (dK ps.length) (dK ps.length) = dM kc e ps := dM_ren hk hp h0 hr
theorem dM_gc1 (hk : ∀ x, AV.norefs (kc x) = true) (hp : ps.length < 1000000) {k : Nat} (hkn : notO k = true) (hk0 : k ≠ 0) {x : κ} {l : List Int} (h0 : mlook M 0 = some (.arr e (dcA kc ps 0 ++ [kc x ++ [.tl k l.length false]]) false)) (hr : ∀ j p, ps[j]? = some p → mlook M (2000000 + j) = some (.arr 1 (p.2.map intC) false))
 (hl : mlook M k = some (.arr 1 (l.map intC) false)) : renMem M (dK1 ps.length k) (dK1 ps.length k) = dM kc e (ps ++ [(x, l)]) := dM_ren1 hk hp hkn hk0 h0 hr hl
end
def keyI (x : List Int) : List AV := [.sl false (x.map intC) .unk]
def eqI (a b : List Int) : Bool := decide (a = b)
theorem keyI_norefs (x : List Int) : AV.norefs (keyI x) = true := by
 have : (x.map intC).all AV.norefs = true := by simp [List.all_eq_true, intC, AV.norefs, AV.noref]
 simp [keyI, AV.norefs, AV.noref, this]
section
variable {κ : Type} {kc : κ → List AV}
theorem deep_norefs {M : Mem} {cs : List AV} (h : AV.norefs cs = true) : cs.map (AV.deep (snap M)) = cs := by
 have : ∀ c ∈ cs, AV.deep (snap M) c = c := by
  intro c hc
  obtain ⟨i, hi, rfl⟩ := List.getElem_of_mem hc
  exact deep_fix (snap_fix M) _ _ (Nat.le_refl _) (norefs_get cs h i hi)
 conv => rhs; rw [← List.map_id cs]
 exact List.map_congr_left this
theorem dcA_snap (hk : ∀ x, AV.norefs (kc x) = true) {M : Mem} : ∀ {ps : List (κ × List Int)} {s : Nat}, (∀ j p, ps[j]? = some p → mlook M (2000000 + (s + j)) = some (.arr 1 (p.2.map intC) true)) → (dcA kc ps s).map (fun c => c.map (AV.deep (snap M))) = ps.map (partC kc)
 | [], _, _ => rfl
 | p :: ps, s, h => by
   have h1 := h 0 p rfl
   have h2 := dcA_snap hk (M := M) (ps := ps) (s := s + 1) fun j q hq => by
    have := h (j + 1) q (by simpa using hq)
    rwa [show s + (j + 1) = s + 1 + j by omega] at this
   rw [Nat.add_zero] at h1
   rw [dcA, List.map_cons, h2, List.map_append, deep_norefs (hk p.1)]
   simp only [List.map_cons, List.map_nil, AV.deep, snap, h1, List.length_map, if_true]; rfl
theorem partC_norefs (hk : ∀ x, AV.norefs (kc x) = true) (ps : List (κ × List Int)) : (ps.map (partC kc)).all AV.norefs = true := by
 have app : ∀ cs : List AV, AV.norefs cs = true → ∀ d : AV, d.noref = true → AV.norefs (cs ++ [d]) = true := by
  intro cs
  induction cs with
  | nil => intro _ d hd; simp [AV.norefs, hd]
  | cons c cs ih =>
    intro h d hd
    simp only [AV.norefs, Bool.and_eq_true, List.cons_append] at h ⊢
    exact ⟨h.1, ih h.2 d hd⟩
 rw [List.all_eq_true]
 intro c hc
 obtain ⟨p, _, rfl⟩ := List.mem_map.1 hc
 refine app _ (hk p.1) _ ?_
 have : (p.2.map intC).all AV.norefs = true := by simp [List.all_eq_true, intC, AV.norefs, AV.noref]
 simp [AV.noref, this]
end
theorem dvPut_ne {κ : Type} {eqB : κ → κ → Bool} {x : κ} {i : Int} (ps : List (κ × List Int)) : (dvPut eqB x i ps).isEmpty = false := by
 cases ps with
 | nil => rfl
 | cons p ps => rw [dvPut]; split <;> rfl
theorem dvL_ne {κ : Type} {eqB : κ → κ → Bool} {K : Int → κ} : ∀ (is : List Int) {ps : List (κ × List Int)}, ps.isEmpty = false → (dvL eqB K is ps).isEmpty = false
 | [], _, h => h
 | i :: is, ps, _ => dvL_ne is (dvPut_ne ps)
theorem dvL_empty {κ : Type} (eqB : κ → κ → Bool) (K : Int → κ) (who : List Int) : (dvL eqB K who []).isEmpty = who.isEmpty := by
 cases who with
 | nil => rfl
 | cons i is => exact dvL_ne is (dvPut_ne [])
set_option maxHeartbeats 4000000 in
theorem divided83_is (nl : Bool) (who : List Int) (c : Cp) (hw : who.length < 1000000) {g : FuncId} {caps : List AV} (hcn : AV.norefs caps = true) (K : Int → List Int)
  (hK : ∀ i ∈ who, PureIs prog g (.sc (.int .i64 i) :: caps) (.sl false ((K i).map intC) .unk)) (hKl : ∀ i ∈ who, (K i).length < 1000000) :
  PureIs prog 83 [.sl nl (who.map intC) c, .fn g caps, .fn 66 []] (.sl who.isEmpty ((dvL eqI K who []).map (partC keyI)) .unk) := by
 refine PureIs.of1 3 [6, 7, 9, 10, 11, 12, 13, 14, 15, 22, 23, 24, 33, 50, 52] func83 ntmps83 results83 fun _ => ?_
 refine EvC.a ?_
 refine EvC.scope ?_
 refine EvC.a ?_
 refine EvC.seq ?_
 refine EvC.label ?_
 refine EvC.seq ?_
 refine EvC.a ?_
 refine EvC.thaw 1 (by simp only [go_sem] <;> rfl) ?_
 refine EvC.block ?_
 refine EvC.loopS (σ := Nat × List (List Int × List Int)) (fun g2 => ⟨[(1, .fn g caps), (2, .fn 66 []), (7, .tl 0 g2.2.length g2.2.isEmpty), (12, .sl nl (who.map intC) c), (13, .sc (.int .i64 who.length)), (14, .sc (.int .i64 g2.1))], [], dM keyI 2 g2.2, 3000000⟩) (fun g2 => who.length - g2.1)
  (fun g2 => g2.1 ≤ who.length ∧ dvL eqI K who [] = dvL eqI K (who.drop g2.1) g2.2 ∧ g2.2.length ≤ g2.1 ∧ ∀ q ∈ g2.2, q.1.length < 1000000 ∧ q.2.length ≤ g2.1) [1, 2, 7, 12, 13, 14] 3000000 ?_ ?_
 ·exact ⟨[(1, 0)], (0, []), rfl, (by simp only [go_sem, Int.natCast_zero, dM, dRows, dcA, msegA, List.map_nil, List.length_nil, List.isEmpty_nil, hcn] <;> rfl), Nat.zero_le _, rfl, Nat.le_refl _, fun _ h => by cases h⟩
 rintro ⟨i, ps⟩ ⟨hi, hdv, hpl, hpq⟩
 simp only at hi hdv hpl hpq ⊢
 refine EvC.a ?_
 refine EvC.seq ?_
 refine EvC.cond (by simp only [go_sem] <;> rfl) (fun hc => ?_) (fun hc => ?_)
 rotate_left
 ·refine EvC.exit ?_
  obtain rfl : who.length = i := by have : ¬ i < who.length := (by simpa using hc); omega
  rw [List.drop_length] at hdv
  have hdv : dvL eqI K who [] = ps := hdv
  have hp6 : ps.length ≤ 1000000 := by omega
  have hie : ps.isEmpty = who.isEmpty := by rw [← hdv]; exact dvL_empty eqI K who
  rw [hdv]
  have hrl : ∀ j p, ps[j]? = some p → mlook (dM keyI 2 ps) (2000000 + j) = some (.arr 1 (p.2.map intC) false) := fun j p hj => dM_lookR hj
  refine EvC.ofzAll ps.length (fun j hj => ⟨1, _, false, hrl j _ (List.getElem?_eq_getElem hj), by simp [List.all_eq_true, intC, AV.norefs, AV.noref]⟩) ?_
  have hfz : ofzAll ps.length (dM keyI 2 ps) = (0, .arr 2 (dcA keyI ps 0) false) :: dRowsF ps := by rw [dM, ofzAll_cons hp6 0 rfl, dRows_fz]
  have hsn : (dcA keyI ps 0).map (fun c => c.map (AV.deep (snap ((0, .arr 2 (dcA keyI ps 0) false) :: dRowsF ps)))) = ps.map (partC keyI) := dcA_snap keyI_norefs fun j p hj => by
   rw [Nat.zero_add]
   simp only [mlook]
   rw [if_neg (by omega), dRowsF_look hj]
  have hnr := partC_norefs (kc := keyI) keyI_norefs ps
  have hpl2 : (ps.map (partC keyI)).length = ps.length := List.length_map _
  have hmm := fun f => dRowsF_memMap f ps
  refine EvC.snapA 0 (by simp only [go_sem, hfz, hsn] <;> rfl) ?_
  rw [hie]
  generalize ps.map (partC keyI) = L at hnr hpl2 ⊢
  refine EvC.frz 0 (by simp only [go_sem, hnr, hpl2] <;> rfl) ?_
  refine EvC.a ?_ (by simp only [go_sem, hpl2] <;> rfl)
  refine EvC.rz ?_
  simp only [go_sem]
 have hil : i < who.length := by simpa using hc
 have he : who[i]? = some who[i] := List.getElem?_eq_getElem hil
 have hdr : who.drop i = who[i] :: who.drop (i + 1) := List.drop_eq_getElem_cons hil
 have hmem := List.getElem_mem hil
 have q := hK _ hmem
 have hkl := hKl _ hmem
 generalize who[i] = w at he hdr q hkl
 clear hmem
 rw [hdr, dvL] at hdv
 generalize hx : K w = x at q hkl hdv
 obtain ⟨iZ, hiZ⟩ : ∃ z : Int, z = (i : Int) := ⟨_, rfl⟩
 have hit : iZ.toNat = i := by omega
 rw [← hiZ]
 refine EvC.skip ?_
 refine EvC.seq ?_
 refine EvC.block ?_
 refine EvC.a ?_ (by simp only [go_sem, he, hit, intC] <;> rfl) (by simp; omega)
 apply EvC.s1
 ·apply Tr.run
  ·simp only [go_sem] <;> rfl
  ·simp
  apply Tr.cons
  ·exact .call rfl rfl (by simp only [go_sem] <;> rfl) (by simp only [go_sem] <;> rfl) (by simp only [go_sem] <;> rfl) (by simp only [go_sem, hcn] <;> rfl) (by simp only [go_sem] <;> rfl) (q)
  apply Tr.done
  ·simp only [go_sem] <;> rfl
  ·simp
 refine EvC.seq ?_
 have hp6 : ps.length < 1000000 := by omega
 have hl0 := dM_look0 (kc := keyI) (e := 2) (ps := ps)
 have hdl := dcA_len keyI ps 0
 refine EvC.a ?_ (by simp only [go_sem, hl0, hdl] <;> rfl)
 have hgk := dK_ok (n := ps.length) (by omega)
 have hhi := dK_hi (n := ps.length) (by omega)
 have hgc0 := dM_gc (e := 2) (M := dM keyI 2 ps) keyI_norefs (Nat.le_of_lt hp6) hl0 fun j p hj => dM_lookR hj
 refine EvC.block ?_
 refine EvC.loopS (σ := Nat) (fun n => ⟨[(1, .fn g caps), (2, .fn 66 []), (7, .tl 0 ps.length ps.isEmpty), (9, .sc (.int .i64 w)), (10, .sl false (x.map intC) .unk), (12, .sl nl (who.map intC) c), (13, .sc (.int .i64 who.length)), (14, .sc (.int .i64 iZ)), (22, .sc (.int .i64 ps.length)), (23, .sc (.int .i64 n))], [], dM keyI 2 ps, 3000000⟩) (fun n => ps.length - n)
  (fun n => n ≤ ps.length ∧ ∀ j q, j < n → ps[j]? = some q → eqI q.1 x = false) [1, 2, 7, 9, 10, 12, 13, 14, 22, 23] 3000000 ?_ ?_
 ·exact ⟨dK ps.length, 0, hgk, (by simp only [go_sem, Int.natCast_zero, hhi, hcn, hgc0] <;> rfl), Nat.zero_le _, fun j q h => absurd h (Nat.not_lt_zero _)⟩
 rintro n ⟨hn, hno⟩
 refine EvC.a ?_
 refine EvC.seq ?_
 refine EvC.cond (by simp only [go_sem] <;> rfl) (fun hc => ?_) (fun hc => ?_)
 rotate_left
 ·refine EvC.exit ?_
  obtain rfl : ps.length = n := by have : ¬ n < ps.length := (by simpa using hc); omega
  have hnew := dvPut_new (eqB := eqI) (x := x) (i := w) (ps := ps) fun q hq => by
   obtain ⟨j, hj, rfl⟩ := List.getElem_of_mem hq
   exact hno j _ hj (List.getElem?_eq_getElem hj)
  rw [hnew] at hdv
  have hr2 : room (ps.length + 1) 48 = true := by simp only [room_eq, decide_eq_true_eq]; omega
  refine EvC.b ?_ (by simp only [go_sem, hl0, hdl] <;> rfl) (by simp [hr2])
  obtain ⟨MM, hMM⟩ : ∃ MM : Mem, MM = (3000006, RObj.arr 2 [[.sl false (x.map intC) .unk, .tl 3000004 1 false]] false) :: (3000004, .arr 1 [[.sc (.int .i64 w)]] false) :: mset (dM keyI 2 ps) 0 (.arr 2 (dcA keyI ps 0 ++ [[.sl false (x.map intC) .unk, .tl 3000004 1 false]]) false) := ⟨_, rfl⟩
  rw [← hMM]
  refine EvC.b ?_ (hok := by exact inI64_of (by omega) (by omega))
  have hgk1 := dK1_ok (n := ps.length) (k := 3000004) hp6 rfl (by omega)
  have hhi1 := dK1_hi (n := ps.length) (k0 := 3000004) (by omega)
  have hgc1 := dM_gc1 (e := 2) (M := MM) (k := 3000004) (x := x) (l := [w]) keyI_norefs hp6 rfl (by omega) (by
   rw [hMM]; simp only [mlook]; rw [if_neg (by omega), if_neg (by omega), mlook_mset, if_pos rfl]; rfl) (fun j p hj => by
   have hjl := (List.getElem?_eq_some_iff.1 hj).1
   rw [hMM]; simp only [mlook]; rw [if_neg (by omega), if_neg (by omega), mlook_mset, if_neg (by omega), dM_lookR hj]) (by
   rw [hMM]; rfl)
  have hsl : ps.length + 1 = (ps ++ [(x, [w])]).length := by simp
  have hse : (ps ++ [(x, [w])]).isEmpty = false := by simp
  have hqq : ∀ q ∈ ps ++ [(x, [w])], q.1.length < 1000000 ∧ q.2.length ≤ i + 1 := fun q hq => by
   rcases List.mem_append.1 hq with hq | hq
   ·have := hpq q hq; omega
   ·obtain rfl := List.mem_singleton.1 hq
    exact ⟨hkl, by simp⟩
  generalize ps ++ [(x, [w])] = T at hgc1 hsl hse hdv hqq
  exact ⟨dK1 ps.length 3000004, (i + 1, T), hgk1, (by rw [hiZ]; simp only [go_sem, hhi1, hgc1, hcn, hsl, hse, Int.natCast_add, Int.natCast_one] <;> rfl), ⟨hil, hdv, by simp only; omega, hqq⟩, by simp only; omega⟩
 have hnl : n < ps.length := by simpa using hc
 clear hc
 have hpe : ps[n]? = some ps[n] := List.getElem?_eq_getElem hnl
 have hpm := hpq _ (List.getElem_mem hnl)
 generalize ps[n] = p at hpe hpm
 obtain ⟨px, pw⟩ := p
 simp only at hpm
 have hg := dcA_get keyI (s := 0) hpe
 rw [Nat.zero_add] at hg
 simp only [keyI, List.cons_append, List.nil_append] at hg
 obtain ⟨nZ, hnZ⟩ : ∃ z : Int, z = (n : Int) := ⟨_, rfl⟩
 have hnt : nZ.toNat = n := by omega
 rw [← hnZ]
 refine EvC.skip ?_
 refine EvC.seq ?_
 refine EvC.block ?_
 refine EvC.a ?_
 have q2 := equal53_is false false px x .unk .unk hpm.1
 apply EvC.s1
 ·apply Tr.run
  ·simp only [go_sem, hl0, hdl, hg, hnt] <;> rfl
  ·simp; omega
  apply Tr.cons
  ·exact .ca (q2)
  apply Tr.done
  ·simp only [go_sem] <;> rfl
  ·simp
 by_cases hpx : px = x
 rotate_left
 ·refine EvC.cs ?_ (by simp only [go_sem, decide_eq_false hpx] <;> rfl)
  refine EvC.b ?_ (hok := by exact inI64_of (by omega) (by omega))
  refine ⟨dK ps.length, n + 1, hgk, (by rw [hnZ]; simp only [go_sem, hhi, hcn, hgc0, Int.natCast_add, Int.natCast_one] <;> rfl), ⟨hnl, fun j q hj hq => ?_⟩, by omega⟩
  by_cases hjn : j = n
  ·subst hjn; rw [hpe] at hq; cases hq; exact decide_eq_false hpx
  ·exact hno j q (by omega) hq
 refine EvC.ct ?_ (by simp only [go_sem, decide_eq_true hpx] <;> rfl)
 have hset := dvPut_set (eqB := eqI) (x := x) (i := w) (ps := ps) (n := n) hno hpe (decide_eq_true hpx)
 rw [hset] at hdv
 have hn6 : n < 1000000 := by omega
 have hlr := dM_lookR (kc := keyI) (e := 2) hpe
 have hr3 : room (pw.length + 1) 8 = true := by simp only [room_eq, decide_eq_true_eq]; omega
 have hl00 : ∀ o, mlook (mset (dM keyI 2 ps) (2000000 + n) o) 0 = some (.arr 2 (dcA keyI ps 0) false) := fun o => by rw [mlook_mset, if_neg (by omega)]; exact hl0
 have hlrs : ∀ o, mlook (mset (dM keyI 2 ps) (2000000 + n) o) (2000000 + n) = some o := fun o => by rw [mlook_mset, if_pos rfl]
 have hds := dcA_set keyI (s := 0) (pw ++ [w]) hpe
 have hpl3 : (pw ++ [w]).length = pw.length + 1 := by simp
 rw [Nat.zero_add, hpl3] at hds
 simp only [keyI, List.cons_append, List.nil_append] at hds
 have hnl2 : notO (2000000 + n) = false := by unfold notO; simp; omega
 refine EvC.a ?_ (by simp only [go_sem, hl0, hl00, hlrs, hdl, hg, hnt, hlr, o_ne hn6, List.length_map, hds] <;> rfl) (by simp [hr3, acell, hnl, hlrs]; try omega)
 obtain ⟨MM, hMM⟩ : ∃ MM : Mem, MM = mset (mset (dM keyI 2 ps) (2000000 + n) (.arr 1 (pw.map intC ++ [[.sc (.int .i64 w)]]) false)) 0 (.arr 2 (dcA keyI (ps.set n (px, pw ++ [w])) 0) false) := ⟨_, rfl⟩
 rw [← hMM]
 refine EvC.exit ?_
 have hTl : (ps.set n (px, pw ++ [w])).length = ps.length := List.length_set
 have hM0 : mlook MM 0 = some (.arr 2 (dcA keyI (ps.set n (px, pw ++ [w])) 0) false) := by rw [hMM, mlook_mset, if_pos rfl]
 have hMr : ∀ j p, (ps.set n (px, pw ++ [w]))[j]? = some p → mlook MM (2000000 + j) = some (.arr 1 (p.2.map intC) false) := fun j p hj => by
  rw [hMM, mlook_mset, if_neg (by omega), mlook_mset]
  rw [List.getElem?_set] at hj
  by_cases e : n = j
  ·subst e
   rw [if_pos rfl, if_pos hnl] at hj
   cases hj
   rw [if_pos rfl]; simp [intC]
  ·rw [if_neg e] at hj
   rw [if_neg (by omega), dM_lookR hj]
 have hTe : (ps.set n (px, pw ++ [w])).isEmpty = ps.isEmpty := by
  cases ps with
  | nil => rfl
  | cons a b => cases n <;> rfl
 have hTq : ∀ q ∈ ps.set n (px, pw ++ [w]), q.1.length < 1000000 ∧ q.2.length ≤ i + 1 := fun q hq => by
  rcases List.mem_or_eq_of_mem_set hq with hq | rfl
  ·have := hpq q hq; omega
  ·refine ⟨hpm.1, ?_⟩
   simp only [List.length_append, List.length_cons, List.length_nil]; omega
 have hgcT := dM_gc (e := 2) (M := MM) (ps := ps.set n (px, pw ++ [w])) keyI_norefs (by omega) hM0 hMr
 rw [hTl] at hgcT
 clear hMM
 generalize ps.set n (px, pw ++ [w]) = T at hTl hgcT hTe hdv hTq
 refine EvC.b ?_ (hok := by exact inI64_of (by omega) (by omega))
 exact ⟨dK ps.length, (i + 1, T), hgk, (by rw [hiZ]; simp only [go_sem, hhi, hgcT, hcn, hTl, hTe, Int.natCast_add, Int.natCast_one] <;> rfl), ⟨hil, hdv, by simp only; omega, hTq⟩, by simp only; omega⟩
def eqM (a b : Mach) : Bool := (equalR a b).1
set_option maxHeartbeats 4000000 in
theorem divided43_is (nl : Bool) (who : List Int) (c : Cp) (hw : who.length < 1000000) {g : FuncId} {caps : List AV} (hcn : AV.norefs caps = true) (K : Int → Mach)
  (hK : ∀ i ∈ who, PureIs prog g (.sc (.int .i64 i) :: caps) (.ag (K i).cells)) (hKl : ∀ i ∈ who, ∀ r ∈ (K i).rows, r.2.length < 1000000) :
  PureIs prog 43 [.sl nl (who.map intC) c, .fn g caps, .fn 46 []] (.sl who.isEmpty ((dvL eqM K who []).map (partC Mach.cells)) .unk) := by
 refine PureIs.of1 3 [6, 7, 9, 10, 11, 12, 13, 14, 15, 22, 23, 24, 33, 50, 52] func43 ntmps43 results43 fun _ => ?_
 refine EvC.a ?_
 refine EvC.scope ?_
 refine EvC.a ?_
 refine EvC.seq ?_
 refine EvC.label ?_
 refine EvC.seq ?_
 refine EvC.a ?_
 refine EvC.thaw 1 (by simp only [go_sem] <;> rfl) ?_
 refine EvC.block ?_
 refine EvC.loopS (σ := Nat × List (Mach × List Int)) (fun g2 => ⟨[(1, .fn g caps), (2, .fn 46 []), (7, .tl 0 g2.2.length g2.2.isEmpty), (12, .sl nl (who.map intC) c), (13, .sc (.int .i64 who.length)), (14, .sc (.int .i64 g2.1))], [], dM Mach.cells 4 g2.2, 3000000⟩) (fun g2 => who.length - g2.1)
  (fun g2 => g2.1 ≤ who.length ∧ dvL eqM K who [] = dvL eqM K (who.drop g2.1) g2.2 ∧ g2.2.length ≤ g2.1 ∧ ∀ q ∈ g2.2, (∀ r ∈ q.1.rows, r.2.length < 1000000) ∧ q.2.length ≤ g2.1) [1, 2, 7, 12, 13, 14] 3000000 ?_ ?_
 ·exact ⟨[(1, 0)], (0, []), rfl, (by simp only [go_sem, Int.natCast_zero, dM, dRows, dcA, msegA, List.map_nil, List.length_nil, List.isEmpty_nil, hcn] <;> rfl), Nat.zero_le _, rfl, Nat.le_refl _, fun _ h => by cases h⟩
 rintro ⟨i, ps⟩ ⟨hi, hdv, hpl, hpq⟩
 simp only at hi hdv hpl hpq ⊢
 refine EvC.a ?_
 refine EvC.seq ?_
 refine EvC.cond (by simp only [go_sem] <;> rfl) (fun hc => ?_) (fun hc => ?_)
 rotate_left
 ·refine EvC.exit ?_
  obtain rfl : who.length = i := by have : ¬ i < who.length := (by simpa using hc); omega
  rw [List.drop_length] at hdv
  have hdv : dvL eqM K who [] = ps := hdv
  have hp6 : ps.length ≤ 1000000 := by omega
  have hie : ps.isEmpty = who.isEmpty := by rw [← hdv]; exact dvL_empty eqM K who
  rw [hdv]
  have hrl : ∀ j p, ps[j]? = some p → mlook (dM Mach.cells 4 ps) (2000000 + j) = some (.arr 1 (p.2.map intC) false) := fun j p hj => dM_lookR hj
  refine EvC.ofzAll ps.length (fun j hj => ⟨1, _, false, hrl j _ (List.getElem?_eq_getElem hj), by simp [List.all_eq_true, intC, AV.norefs, AV.noref]⟩) ?_
  have hfz : ofzAll ps.length (dM Mach.cells 4 ps) = (0, .arr 4 (dcA Mach.cells ps 0) false) :: dRowsF ps := by rw [dM, ofzAll_cons hp6 0 rfl, dRows_fz]
  have hsn : (dcA Mach.cells ps 0).map (fun c => c.map (AV.deep (snap ((0, .arr 4 (dcA Mach.cells ps 0) false) :: dRowsF ps)))) = ps.map (partC Mach.cells) := dcA_snap norefs_mcells fun j p hj => by
   rw [Nat.zero_add]
   simp only [mlook]
   rw [if_neg (by omega), dRowsF_look hj]
  have hnr := partC_norefs (kc := Mach.cells) norefs_mcells ps
  have hpl2 : (ps.map (partC Mach.cells)).length = ps.length := List.length_map _
  have hmm := fun f => dRowsF_memMap f ps
  refine EvC.snapA 0 (by simp only [go_sem, hfz, hsn] <;> rfl) ?_
  rw [hie]
  generalize ps.map (partC Mach.cells) = L at hnr hpl2 ⊢
  refine EvC.frz 0 (by simp only [go_sem, hnr, hpl2] <;> rfl) ?_
  refine EvC.a ?_ (by simp only [go_sem, hpl2] <;> rfl)
  refine EvC.rz ?_
  simp only [go_sem]
 have hil : i < who.length := by simpa using hc
 have he : who[i]? = some who[i] := List.getElem?_eq_getElem hil
 have hdr : who.drop i = who[i] :: who.drop (i + 1) := List.drop_eq_getElem_cons hil
 have hmem := List.getElem_mem hil
 have q := hK _ hmem
 have hkl := hKl _ hmem
 generalize who[i] = w at he hdr q hkl
 clear hmem
 rw [hdr, dvL] at hdv
 generalize hx : K w = x at q hkl hdv
 obtain ⟨iZ, hiZ⟩ : ∃ z : Int, z = (i : Int) := ⟨_, rfl⟩
 have hit : iZ.toNat = i := by omega
 rw [← hiZ]
 refine EvC.skip ?_
 refine EvC.seq ?_
 refine EvC.block ?_
 refine EvC.a ?_ (by simp only [go_sem, he, hit, intC] <;> rfl) (by simp; omega)
 have hdn := dM_none (kc := Mach.cells) (e := 4) (ps := ps) (k := 3000007) (by omega) rfl (by omega)
 have hdm : ∀ o, mdel (mset (dM Mach.cells 4 ps) 3000007 o) 3000007 = dM Mach.cells 4 ps := fun o => mdel_mset_none hdn
 have hlm : ∀ o, mlook (mset (dM Mach.cells 4 ps) 3000007 o) 3000007 = some o := fun o => by rw [mlook_mset, if_pos rfl]
 apply EvC.s1
 ·apply Tr.run
  ·simp only [go_sem] <;> rfl
  ·simp
  apply Tr.cons
  ·exact .call rfl rfl (by simp only [go_sem] <;> rfl) (by simp only [go_sem] <;> rfl) (by simp only [go_sem] <;> rfl) (by simp only [go_sem, hcn] <;> rfl) (by simp only [go_sem] <;> rfl) (q)
  apply Tr.done
  ·simp only [go_sem, Mach.cells, hlm, mset_mset_same] <;> rfl
  ·simp
 refine EvC.z 3000007 ?_ (by simp only [go_sem, hlm, hdm] <;> rfl)
 refine EvC.seq ?_
 have hp6 : ps.length < 1000000 := by omega
 have hl0 := dM_look0 (kc := Mach.cells) (e := 4) (ps := ps)
 have hdl := dcA_len Mach.cells ps 0
 refine EvC.a ?_ (by simp only [go_sem, hl0, hdl] <;> rfl)
 have hgk := dK_ok (n := ps.length) (by omega)
 have hhi := dK_hi (n := ps.length) (by omega)
 have hgc0 := dM_gc (e := 4) (M := dM Mach.cells 4 ps) norefs_mcells (Nat.le_of_lt hp6) hl0 fun j p hj => dM_lookR hj
 refine EvC.block ?_
 refine EvC.loopS (σ := Nat) (fun n => ⟨[(1, .fn g caps), (2, .fn 46 []), (7, .tl 0 ps.length ps.isEmpty), (9, .sc (.int .i64 w)), (10, .ia x.cells), (12, .sl nl (who.map intC) c), (13, .sc (.int .i64 who.length)), (14, .sc (.int .i64 iZ)), (22, .sc (.int .i64 ps.length)), (23, .sc (.int .i64 n))], [], dM Mach.cells 4 ps, 3000000⟩) (fun n => ps.length - n)
  (fun n => n ≤ ps.length ∧ ∀ j q, j < n → ps[j]? = some q → eqM q.1 x = false) [1, 2, 7, 9, 10, 12, 13, 14, 22, 23] 3000000 ?_ ?_
 ·exact ⟨dK ps.length, 0, hgk, (by simp only [go_sem, Int.natCast_zero, hhi, hcn, hgc0, deeps_toIa hcn, Mach.cells] <;> rfl), Nat.zero_le _, fun j q h => absurd h (Nat.not_lt_zero _)⟩
 rintro n ⟨hn, hno⟩
 refine EvC.a ?_
 refine EvC.seq ?_
 refine EvC.cond (by simp only [go_sem] <;> rfl) (fun hc => ?_) (fun hc => ?_)
 rotate_left
 ·refine EvC.exit ?_
  obtain rfl : ps.length = n := by have : ¬ n < ps.length := (by simpa using hc); omega
  have hnew := dvPut_new (eqB := eqM) (x := x) (i := w) (ps := ps) fun q hq => by
   obtain ⟨j, hj, rfl⟩ := List.getElem_of_mem hq
   exact hno j _ hj (List.getElem?_eq_getElem hj)
  rw [hnew] at hdv
  have hr2 : room (ps.length + 1) 64 = true := by simp only [room_eq, decide_eq_true_eq]; omega
  refine EvC.b ?_ (by simp only [go_sem, hl0, hdl, Mach.cells] <;> rfl) (by simp [hr2])
  obtain ⟨MM, hMM⟩ : ∃ MM : Mem, MM = (3000006, RObj.arr 4 [[.sc (.int .i64 x.ins), .sc (.int .i64 x.outs), .sl x.nl (x.rows.map rowC) .unk, .tl 3000004 1 false]] false) :: (3000004, .arr 1 [[.sc (.int .i64 w)]] false) :: mset (dM Mach.cells 4 ps) 0 (.arr 4 (dcA Mach.cells ps 0 ++ [[.sc (.int .i64 x.ins), .sc (.int .i64 x.outs), .sl x.nl (x.rows.map rowC) .unk, .tl 3000004 1 false]]) false) := ⟨_, rfl⟩
  rw [← hMM]
  refine EvC.b ?_ (hok := by exact inI64_of (by omega) (by omega))
  have hgk1 := dK1_ok (n := ps.length) (k := 3000004) hp6 rfl (by omega)
  have hhi1 := dK1_hi (n := ps.length) (k0 := 3000004) (by omega)
  have hgc1 := dM_gc1 (e := 4) (M := MM) (k := 3000004) (x := x) (l := [w]) norefs_mcells hp6 rfl (by omega) (by
   rw [hMM]; simp only [mlook]; rw [if_neg (by omega), if_neg (by omega), mlook_mset, if_pos rfl]; rfl) (fun j p hj => by
   have hjl := (List.getElem?_eq_some_iff.1 hj).1
   rw [hMM]; simp only [mlook]; rw [if_neg (by omega), if_neg (by omega), mlook_mset, if_neg (by omega), dM_lookR hj]) (by
   rw [hMM]; rfl)
  have hsl : ps.length + 1 = (ps ++ [(x, [w])]).length := by simp
  have hse : (ps ++ [(x, [w])]).isEmpty = false := by simp
  have hqq : ∀ q ∈ ps ++ [(x, [w])], (∀ r ∈ q.1.rows, r.2.length < 1000000) ∧ q.2.length ≤ i + 1 := fun q hq => by
   rcases List.mem_append.1 hq with hq | hq
   ·exact ⟨(hpq q hq).1, by have := (hpq q hq).2; omega⟩
   ·obtain rfl := List.mem_singleton.1 hq
    exact ⟨hkl, by simp⟩
  generalize ps ++ [(x, [w])] = T at hgc1 hsl hse hdv hqq
  exact ⟨dK1 ps.length 3000004, (i + 1, T), hgk1, (by rw [hiZ]; simp only [go_sem, hhi1, hgc1, hcn, hsl, hse, Int.natCast_add, Int.natCast_one] <;> rfl), ⟨hil, hdv, by simp only; omega, hqq⟩, by simp only; omega⟩
 have hnl : n < ps.length := by simpa using hc
 clear hc
 have hpe : ps[n]? = some ps[n] := List.getElem?_eq_getElem hnl
 have hpm := hpq _ (List.getElem_mem hnl)
 generalize ps[n] = p at hpe hpm
 obtain ⟨px, pw⟩ := p
 simp only at hpm
 have hg := dcA_get Mach.cells (s := 0) hpe
 rw [Nat.zero_add] at hg
 simp only [Mach.cells, List.cons_append, List.nil_append] at hg
 obtain ⟨nZ, hnZ⟩ : ∃ z : Int, z = (n : Int) := ⟨_, rfl⟩
 have hnt : nZ.toNat = n := by omega
 rw [← hnZ]
 refine EvC.skip ?_
 refine EvC.seq ?_
 refine EvC.block ?_
 refine EvC.a ?_
 have q2 := alike_is px x hpm.1 hkl
 apply EvC.seq
 apply EvC.drw mixed
 ·apply Tr.run
  ·simp only [go_sem, hl0, hdl, hg, hnt, Mach.cells] <;> rfl
  ·simp; omega
  apply Tr.cons
  ·exact .ca (q2)
  apply Tr.done
  ·simp only [go_sem] <;> rfl
  ·simp
 ·kernel_rfl
 obtain hpx | hpx : eqM px x = false ∨ eqM px x = true := by cases eqM px x <;> simp
 ·refine EvC.cs ?_ (by simp only [go_sem, show (equalR px x).1 = false from hpx] <;> rfl)
  refine EvC.b ?_ (hok := by exact inI64_of (by omega) (by omega))
  refine ⟨dK ps.length, n + 1, hgk, (by rw [hnZ]; simp only [go_sem, hhi, hcn, hgc0, Int.natCast_add, Int.natCast_one] <;> rfl), ⟨hnl, fun j q hj hq => ?_⟩, by omega⟩
  by_cases hjn : j = n
  ·subst hjn; rw [hpe] at hq; cases hq; exact hpx
  ·exact hno j q (by omega) hq
 refine EvC.ct ?_ (by simp only [go_sem, show (equalR px x).1 = true from hpx] <;> rfl)
 have hset := dvPut_set (eqB := eqM) (x := x) (i := w) (ps := ps) (n := n) hno hpe hpx
 rw [hset] at hdv
 have hn6 : n < 1000000 := by omega
 have hlr := dM_lookR (kc := Mach.cells) (e := 4) hpe
 have hr3 : room (pw.length + 1) 8 = true := by simp only [room_eq, decide_eq_true_eq]; omega
 have hl00 : ∀ o, mlook (mset (dM Mach.cells 4 ps) (2000000 + n) o) 0 = some (.arr 4 (dcA Mach.cells ps 0) false) := fun o => by rw [mlook_mset, if_neg (by omega)]; exact hl0
 have hlrs : ∀ o, mlook (mset (dM Mach.cells 4 ps) (2000000 + n) o) (2000000 + n) = some o := fun o => by rw [mlook_mset, if_pos rfl]
 have hds := dcA_set Mach.cells (s := 0) (pw ++ [w]) hpe
 have hpl3 : (pw ++ [w]).length = pw.length + 1 := by simp
 rw [Nat.zero_add, hpl3] at hds
 simp only [Mach.cells, List.cons_append, List.nil_append] at hds
 have hnl2 : notO (2000000 + n) = false := by unfold notO; simp; omega
 refine EvC.a ?_ (by simp only [go_sem, hl0, hl00, hlrs, hdl, hg, hnt, hlr, o_ne hn6, List.length_map, hds] <;> rfl) (by simp [hr3, acell, hnl, hlrs]; try omega)
 obtain ⟨MM, hMM⟩ : ∃ MM : Mem, MM = mset (mset (dM Mach.cells 4 ps) (2000000 + n) (.arr 1 (pw.map intC ++ [[.sc (.int .i64 w)]]) false)) 0 (.arr 4 (dcA Mach.cells (ps.set n (px, pw ++ [w])) 0) false) := ⟨_, rfl⟩
 rw [← hMM]
 refine EvC.exit ?_
 have hTl : (ps.set n (px, pw ++ [w])).length = ps.length := List.length_set
 have hM0 : mlook MM 0 = some (.arr 4 (dcA Mach.cells (ps.set n (px, pw ++ [w])) 0) false) := by rw [hMM, mlook_mset, if_pos rfl]
 have hMr : ∀ j p, (ps.set n (px, pw ++ [w]))[j]? = some p → mlook MM (2000000 + j) = some (.arr 1 (p.2.map intC) false) := fun j p hj => by
  rw [hMM, mlook_mset, if_neg (by omega), mlook_mset]
  rw [List.getElem?_set] at hj
  by_cases e : n = j
  ·subst e
   rw [if_pos rfl, if_pos hnl] at hj
   cases hj
   rw [if_pos rfl]; simp [intC]
  ·rw [if_neg e] at hj
   rw [if_neg (by omega), dM_lookR hj]
 have hTe : (ps.set n (px, pw ++ [w])).isEmpty = ps.isEmpty := by
  cases ps with
  | nil => rfl
  | cons a b => cases n <;> rfl
 have hTq : ∀ q ∈ ps.set n (px, pw ++ [w]), (∀ r ∈ q.1.rows, r.2.length < 1000000) ∧ q.2.length ≤ i + 1 := fun q hq => by
  rcases List.mem_or_eq_of_mem_set hq with hq | rfl
  ·exact ⟨(hpq q hq).1, by have := (hpq q hq).2; omega⟩
  ·refine ⟨hpm.1, ?_⟩
   simp only [List.length_append, List.length_cons, List.length_nil]; omega
 have hgcT := dM_gc (e := 4) (M := MM) (ps := ps.set n (px, pw ++ [w])) norefs_mcells (by omega) hM0 hMr
 rw [hTl] at hgcT
 clear hMM
 generalize ps.set n (px, pw ++ [w]) = T at hTl hgcT hTe hdv hTq
 refine EvC.b ?_ (hok := by exact inI64_of (by omega) (by omega))
 exact ⟨dK ps.length, (i + 1, T), hgk, (by rw [hiZ]; simp only [go_sem, hhi, hgcT, hcn, hTl, hTe, Int.natCast_add, Int.natCast_one] <;> rfl), ⟨hil, hdv, by simp only; omega, hTq⟩, by simp only; omega⟩
def m00 : Mach := ⟨0, 0, true, []⟩
def atM (X : List Mach) (i : Int) : Mach := X.getD i.toNat m00
theorem atM_get {X : List Mach} {i : Int} (h : i.toNat < X.length) : (X.map Mach.cells)[i.toNat]? = some (atM X i).cells := by
 rw [List.getElem?_map, List.getElem?_eq_getElem h, atM, List.getD_eq_getElem?_getD, List.getElem?_eq_getElem h]; rfl
theorem responses1_is (xn : Bool) (X : List Mach) (xc : Cp) (wn : Bool) (w : List Int) (wc : Cp) (i : Int) (hi : 0 ≤ i ∧ i < X.length) (hv : Valid (atM X i)) (hw : wordErr (atM X i).ins w = 0) (hl : w.length < 1000000) :
  PureIs prog 82 [.sc (.int .i64 i), .ia [.sl xn (X.map Mach.cells) xc], .ia [.sl wn (w.map intC) wc]] (.sl false ((runR (atM X i) 0 w).map intC) .unk) := by
 have hx := atM_get (X := X) (i := i) (by omega)
 have hr := hv.rows
 have q := run52_is hv 0 ⟨by omega, by omega⟩ wn w wc hw hl
 generalize atM X i = m at hx q
 refine PureIs.of1 3 [4, 5, 6, 7] func82 ntmps82 results82 fun _ => ?_
 refine EvC.a ?_
 apply EvC.seq
 apply EvC.drw mixed
 ·apply Tr.run
  ·simp only [go_sem, hx, Mach.cells, List.length_map] <;> rfl
  ·simp; omega
  apply Tr.cons
  ·exact .ca (q)
  apply Tr.done
  ·simp only [go_sem] <;> rfl
  ·simp
 ·kernel_rfl
 refine EvC.a ?_
 refine EvC.rz ?_
 simp only [go_sem]
def respK (X : List Mach) (w : List Int) (i : Int) : List Int := runR (atM X i) 0 w
theorem responses_is (xn : Bool) (X : List Mach) (xc : Cp) (whn : Bool) (who : List Int) (whc : Cp) (wn : Bool) (w : List Int) (wc : Cp) (hwho : ∀ i ∈ who, 0 ≤ i ∧ i < X.length) (hv : ∀ m ∈ X, Valid m) (hw : ∀ m ∈ X, wordErr m.ins w = 0) (hl : w.length < 1000000) (hwl : who.length < 1000000) :
  PureIs prog 53 [.sl xn (X.map Mach.cells) xc, .sl whn (who.map intC) whc, .sl wn (w.map intC) wc] (.sl who.isEmpty ((dvL eqI (respK X w) who []).map (partC keyI)) .unk) := by
 have hXn := norefs_machs X
 have hin : ∀ i ∈ who, atM X i ∈ X := fun i hi => by
  have h := hwho i hi
  rw [atM, List.getD_eq_getElem?_getD, List.getElem?_eq_getElem (show i.toNat < X.length by omega)]
  exact List.getElem_mem _
 have q := divided83_is whn who whc hwl (g := 82) (caps := [.ia [.sl xn (X.map Mach.cells) xc], .ia [.sl wn (w.map intC) wc]]) (by simp [AV.norefs, AV.noref, hXn, intC]) (respK X w)
  (fun i hi => responses1_is xn X xc wn w wc i (hwho i hi) (hv _ (hin i hi)) (hw _ (hin i hi)) hl) (fun i hi => by rw [respK, runR_len]; exact hl)
 refine PureIs.of1 3 [3, 5, 6, 7] func53 ntmps53 results53 fun _ => ?_
 refine EvC.a ?_
 refine EvC.z 0 ?_ (by simp only [go_sem, hXn] <;> rfl)
 refine EvC.z 1 ?_
 refine EvC.a ?_
 apply EvC.s1
 ·apply Tr.run
  ·simp only [go_sem] <;> rfl
  ·simp
  apply Tr.cons
  ·exact .call rfl rfl (by simp only [go_sem] <;> rfl) (by simp only [go_sem] <;> rfl) (by simp only [go_sem] <;> rfl) (by simp only [go_sem, hXn] <;> rfl) (by simp only [go_sem] <;> rfl) (q)
  apply Tr.done
  ·simp only [go_sem] <;> rfl
  ·simp
 refine EvC.rz ?_
 simp only [go_sem]
section
variable (F : Nat → List AV) (d : List AV)
def fillC (n k : Nat) : List (List AV) := (List.range n).map fun i => if i < k then F i else d
theorem fillC_zero (n : Nat) : fillC F d n 0 = List.replicate n d := by
 apply List.ext_getElem
 ·simp [fillC]
 ·intro i h1 h2; simp [fillC]
theorem fillC_len (n k : Nat) : (fillC F d n k).length = n := by simp [fillC]
theorem fillC_get {n k : Nat} (h : k < n) : (fillC F d n k)[k]? = some d := by
 rw [List.getElem?_eq_getElem (by rw [fillC_len]; exact h)]
 simp [fillC]
theorem fillC_set {n k : Nat} (h : k < n) : (fillC F d n k).set k (F k) = fillC F d n (k + 1) := by
 apply List.ext_getElem
 ·simp [fillC]
 ·intro i h1 h2
  simp only [fillC, List.getElem_set, List.getElem_map, List.getElem_range]
  by_cases e : k = i
  ·subst e; simp
  ·rw [if_neg e]
   by_cases h3 : i < k
   ·rw [if_pos h3, if_pos (by omega)]
   ·rw [if_neg h3, if_neg (by omega)]
theorem fillC_all (n : Nat) : fillC F d n n = (List.range n).map F := List.map_congr_left fun i hi => by rw [if_pos (List.mem_range.1 hi)]
theorem fillC_norefs {F : Nat → List AV} {d : List AV} (hF : ∀ i, AV.norefs (F i) = true) (hd : AV.norefs d = true) (n k : Nat) : (fillC F d n k).all AV.norefs = true := by
 rw [List.all_eq_true]
 intro c hc
 obtain ⟨i, _, rfl⟩ := List.mem_map.1 hc
 split
 ·exact hF i
 ·exact hd
end
theorem range_getD {α : Type} (l : List α) (x : α) : (List.range l.length).map (fun i => l.getD i x) = l := by
 apply List.ext_getElem
 ·simp
 ·intro i h1 h2
  have : i < l.length := by simpa using h1
  simp [List.getElem?_eq_getElem this]
theorem dvL_len {κ : Type} {eqB : κ → κ → Bool} {K : Int → κ} : ∀ (is : List Int) (ps : List (κ × List Int)), (dvL eqB K is ps).length ≤ ps.length + is.length
 | [], ps => Nat.le_refl _
 | i :: is, ps => by
   have h1 := dvL_len (eqB := eqB) (K := K) is (dvPut eqB (K i) i ps)
   have h2 := dvPut_len (eqB := eqB) (x := K i) (i := i) (ps := ps)
   rw [dvL, List.length_cons]; omega
def classL (X : List Mach) (n : Nat) : List (List Int) := (dvL eqM (atM X) (idL n) []).map (·.2)
def clsA (m : Mach) (fs : List FA) : AV :=
 if mutErr m fs = 0 then .tu [.sl false ((classL (fs.map (mutF m)) fs.length).map fun l => [.sl false (l.map intC) .full]) .full, .sc (.int .i64 0)] else .tu [.sl true [] .unk, .sc (.int .i64 (mutErr m fs))]
theorem mutsA_valid {m : Mach} {fs : List FA} (h : mutErr m fs = 0) : ∀ x ∈ fs.map (mutF m), Valid x := by
 obtain ⟨h1, h2, h3⟩ := mutErr_ok h
 intro x hx
 obtain ⟨f, hf, rfl⟩ := List.mem_map.1 hx
 exact mutF_valid (Valid.of h1) (errFs_zero h3 f hf)
theorem classes_is (m : Mach) (hm : ∀ r ∈ m.rows, r.2.length < 1000000) (hnn : NoNil m) (fn : Bool) (fs : List FA) (fc : Cp) (hfl : fs.length < 1000000) :
  PureIs prog 16 [.ag m.cells, .sl fn (fs.map FA.cells) fc] (clsA m fs) := by
 refine PureIs.of1 3 [4, 5, 6, 7, 8, 9, 10, 11, 19, 28, 29, 30, 31, 32] func16 ntmps16 results16 fun _ => ?_
 refine EvC.a ?_ (by simp only [go_sem, Mach.cells] <;> rfl)
 refine EvC.z 0 ?_
 have q := mutants_is m hm hnn fn fs fc hfl
 unfold mutsA at q
 unfold clsA
 by_cases h0 : mutErr m fs = 0
 rotate_left
 ·rw [if_neg h0] at q ⊢
  apply EvC.s1
  ·apply Tr.run
   ·simp only [go_sem, Mach.cells] <;> rfl
   ·simp
   apply Tr.cons
   ·exact .ca (q)
   apply Tr.done
   ·simp only [go_sem] <;> rfl
   ·simp
  refine EvC.seq ?_
  refine EvC.a ?_
  refine EvC.ct ?_ (by simp only [go_sem, decide_eq_false h0] <;> rfl)
  refine EvC.a ?_
  refine EvC.rz ?_
  simp only [go_sem]
 rw [if_pos h0] at q ⊢
 have hXv := mutsA_valid h0
 have hXl : (fs.map (mutF m)).length = fs.length := List.length_map _
 generalize fs.map (mutF m) = X at q hXv hXl ⊢
 have hXn := norefs_machs X
 have hfl2 := (mutErr_ok h0).2.1
 apply EvC.s1
 ·apply Tr.run
  ·simp only [go_sem, Mach.cells] <;> rfl
  ·simp
  apply Tr.cons
  ·exact .ca (q)
  apply Tr.done
  ·simp only [go_sem, hXn] <;> rfl
  ·simp
 refine EvC.z 9 ?_ (by simp only [go_sem, hXn] <;> rfl)
 refine EvC.seq ?_
 refine EvC.a ?_
 refine EvC.cs ?_
 have hidm : ∀ i ∈ idL fs.length, 0 ≤ i ∧ i < fs.length := fun i hi => by
  obtain ⟨j, hj, rfl⟩ := List.mem_map.1 hi
  have := List.mem_range.1 hj
  exact ⟨Int.natCast_nonneg j, Int.ofNat_lt.2 this⟩
 have hidl : (idL fs.length).length = fs.length := by simp [idL]
 have hin : ∀ i ∈ idL fs.length, atM X i ∈ X := fun i hi => by
  have h := hidm i hi
  rw [atM, List.getD_eq_getElem?_getD, List.getElem?_eq_getElem (show i.toNat < X.length by omega)]
  exact List.getElem_mem _
 have q1 := everybody_is fs.length (by omega)
 have q2 := divided43_is false (idL fs.length) .full (by omega) (g := 45) (caps := [.ia [.sl fs.isEmpty (X.map Mach.cells) .unk]]) (by simp [AV.norefs, AV.noref, hXn]) (atM X) (fun i hi => by
  have h := hidm i hi
  obtain ⟨j, rfl⟩ : ∃ j : Nat, i = (j : Int) := ⟨i.toNat, by omega⟩
  have hj : j < X.length := by omega
  have := class1_is fs.isEmpty X .unk j hj
  have e : atM X (j : Int) = X[j] := by rw [atM, List.getD_eq_getElem?_getD, Int.toNat_natCast, List.getElem?_eq_getElem hj]; rfl
  rw [e]; exact this) (fun i hi => (hXv _ (hin i hi)).small)
 apply EvC.s1
 ·apply Tr.run
  ·simp only [go_sem, List.length_map] <;> rfl
  ·simp
  apply Tr.cons
  ·exact .call rfl rfl (by simp only [go_sem] <;> rfl) (by simp only [go_sem] <;> rfl) (by simp only [go_sem] <;> rfl) (by simp only [go_sem, hXn] <;> rfl) (by simp only [go_sem] <;> rfl) (q1)
  apply Tr.run
  ·simp only [go_sem, List.length_map] <;> rfl
  ·simp
  apply Tr.cons
  ·exact .call rfl rfl (by simp only [go_sem] <;> rfl) (by simp only [go_sem] <;> rfl) (by simp only [go_sem] <;> rfl) (by simp only [go_sem, hXn] <;> rfl) (by simp only [go_sem] <;> rfl) (q2)
  apply Tr.done
  ·simp only [go_sem] <;> rfl
  ·simp
 have hpl := dvL_len (eqB := eqM) (K := atM X) (idL fs.length) []
 have hcl : classL X fs.length = (dvL eqM (atM X) (idL fs.length) []).map (·.2) := rfl
 rw [hcl]
 simp only [List.length_nil, Nat.zero_add] at hpl
 generalize dvL eqM (atM X) (idL fs.length) [] = ps at hpl ⊢
 have hr : room ps.length 24 = true := by simp only [room_eq, decide_eq_true_eq]; omega
 refine EvC.a ?_ (by simp only [go_sem, List.length_map] <;> rfl) (by simp [hr]; try omega)
 obtain ⟨F, hF⟩ : ∃ F : Nat → List AV, F = fun i => [.sl false (((ps.map (·.2)).getD i []).map intC) .full] := ⟨_, rfl⟩
 have hz := fillC_zero F [.sl true [] .zer] ps.length
 have hFn : ∀ k, (fillC F [.sl true [] .zer] ps.length k).all AV.norefs = true := fillC_norefs (fun i => by rw [hF]; simp [AV.norefs, AV.noref, intC]) rfl ps.length
 have hrl : (List.replicate ps.length [AV.sl true [] .zer]).length = ps.length := List.length_replicate
 have hnr : (List.replicate ps.length [AV.sl true [] .zer]).all AV.norefs = true := by rw [← hz]; exact hFn 0
 refine EvC.seq ?_
 refine EvC.a ?_ (by simp only [go_sem, List.length_map, hrl] <;> rfl)
 have hpn := partC_norefs (kc := Mach.cells) norefs_mcells ps
 refine EvC.block ?_
 refine EvC.loopS (σ := Nat) (fun k => ⟨[(9, .tv 0 ps.length 0 ps.length (.val ps.length)), (29, .sl (idL fs.length).isEmpty (ps.map (partC Mach.cells)) .unk), (30, .sc (.int .i64 ps.length)), (31, .sc (.int .i64 k))], [], [(0, .arr 1 (fillC F [.sl true [] .zer] ps.length k) false)], 1⟩) (fun k => ps.length - k) (fun k => k ≤ ps.length) [9, 29, 30, 31] 1 ?_ ?_
 ·exact ⟨[(22, 0)], 0, rfl, (by rw [hz]; simp only [go_sem, hnr, Int.natCast_zero] <;> rfl), Nat.zero_le _⟩
 intro k hk
 refine EvC.a ?_
 refine EvC.seq ?_
 refine EvC.cond (by simp only [go_sem] <;> rfl) (fun hc => ?_) (fun hc => ?_)
 rotate_left
 ·refine EvC.exit ?_
  obtain rfl : ps.length = k := by have : ¬ k < ps.length := (by simpa using hc); omega
  have hfe : fillC F [.sl true [] .zer] ps.length ps.length = (ps.map (·.2)).map fun l => [.sl false (l.map intC) .full] := by
   rw [fillC_all, hF]
   have := range_getD ((ps.map (·.2)).map fun l => [AV.sl false (l.map intC) .full]) [.sl false [] .full]
   rw [← this]
   simp only [List.length_map]
   refine List.map_congr_left fun i hi => ?_
   have hi := List.mem_range.1 hi
   simp [List.getD_eq_getElem?_getD, List.getElem?_eq_getElem hi]
  have hn2 := hFn ps.length
  have hl2 := fillC_len F [.sl true [] .zer] ps.length ps.length
  rw [← hfe]
  generalize fillC F [.sl true [] .zer] ps.length ps.length = L at hn2 hl2 ⊢
  refine EvC.frz 0 (by simp only [go_sem, hn2, hl2] <;> rfl) ?_
  refine EvC.a ?_ (by simp only [go_sem, hl2] <;> rfl)
  refine EvC.rz ?_
  simp only [go_sem]
 have hkl : k < ps.length := by simpa using hc
 clear hc
 have hpe : ps[k]? = some ps[k] := List.getElem?_eq_getElem hkl
 have hget := fillC_get F [.sl true [] .zer] hkl
 have hset := fillC_set F [.sl true [] .zer] hkl
 have hl1 := fillC_len F [.sl true [] .zer] ps.length k
 have hn1 := hFn (k + 1)
 have hl3 := fillC_len F [.sl true [] .zer] ps.length (k + 1)
 have hFk : F k = [.sl false (ps[k].2.map intC) .full] := by rw [hF]; simp [List.getD_eq_getElem?_getD, hpe]
 rw [hFk] at hset
 generalize ps[k] = p at hpe hset
 obtain ⟨px, pw⟩ := p
 simp only at hset
 generalize fillC F [.sl true [] .zer] ps.length k = L at hget hset hl1 ⊢
 generalize hL1 : fillC F [.sl true [] .zer] ps.length (k + 1) = L1 at hset hn1 hl3
 obtain ⟨kZ, hkZ⟩ : ∃ z : Int, z = (k : Int) := ⟨_, rfl⟩
 have hkt : kZ.toNat = k := by omega
 rw [← hkZ]
 have hp2 : (ps.map (partC Mach.cells))[k]? = some (partC Mach.cells (px, pw)) := by rw [List.getElem?_map, hpe]; rfl
 simp only [partC, Mach.cells, List.cons_append, List.nil_append] at hp2
 have q3 := clipI_is false (pw.map intC) .unk (by simp [List.all_eq_true, intC])
 refine EvC.skip ?_
 refine EvC.seq ?_
 refine EvC.block ?_
 refine EvC.a ?_ (by simp only [go_sem, hp2, hkt, List.length_map, partC] <;> rfl) (by simp; omega)
 refine EvC.z 5 ?_
 apply EvC.tr
 ·apply Tr.run
  ·simp only [go_sem, hkt, hget, hl1] <;> rfl
  ·simp
  apply Tr.cons
  ·exact .ca (q3)
  apply Tr.done
  ·simp only [go_sem, hkt, hget, hl1, hset] <;> rfl
  ·simp; omega
 refine EvC.b ?_ (hok := by exact inI64_of (by omega) (by omega))
 exact ⟨[(0, 0)], k + 1, rfl, (by rw [hkZ, hL1]; simp only [go_sem, hn1, Int.natCast_add, Int.natCast_one] <;> rfl), hkl, by omega⟩
def sumK (k : Nat) : Nat → Nat
 | 0 => 0
 | n + 1 => sumK k n + k ^ n
def rank (k : Nat) : List Int → Nat
 | [] => 0
 | a :: w => (a.toNat + 1) * k ^ w.length + rank k w
def WOk (k : Nat) (w : List Int) : Prop := ∀ a ∈ w, 0 ≤ a ∧ a < k
theorem WOk.tail {k : Nat} {a : Int} {w : List Int} (h : WOk k (a :: w)) : WOk k w := fun x hx => h x (List.mem_cons_of_mem _ hx)
theorem WOk.head {k : Nat} {a : Int} {w : List Int} (h : WOk k (a :: w)) : 0 ≤ a ∧ a < k := h a List.mem_cons_self
theorem WOk.cons {k : Nat} {a : Int} {w : List Int} (ha : 0 ≤ a ∧ a < k) (h : WOk k w) : WOk k (a :: w) := fun x hx => by
 rcases List.mem_cons.1 hx with rfl | hx
 ·exact ha
 ·exact h x hx
theorem rank_ge {k : Nat} : ∀ (w : List Int), sumK k w.length ≤ rank k w
 | [] => Nat.le_refl _
 | a :: w => by
   have h1 := rank_ge (k := k) w
   have h2 : 1 * k ^ w.length ≤ (a.toNat + 1) * k ^ w.length := Nat.mul_le_mul_right _ (by omega)
   simp only [rank, List.length_cons, sumK]
   omega
theorem rank_lt {k : Nat} : ∀ {w : List Int}, WOk k w → rank k w < sumK k (w.length + 1)
 | [], _ => by simp [rank, sumK]
 | a :: w, h => by
   have h1 := rank_lt h.tail
   have h2 : (a.toNat + 1) * k ^ w.length ≤ k * k ^ w.length := Nat.mul_le_mul_right _ (by have := h.head; omega)
   have h3 : k ^ (w.length + 1) = k * k ^ w.length := by rw [Nat.pow_succ, Nat.mul_comm]
   rw [List.length_cons, sumK, h3]
   simp only [rank]
   omega
theorem sumK_mono {k : Nat} : ∀ {a b : Nat}, a ≤ b → sumK k a ≤ sumK k b
 | a, 0, h => by obtain rfl : a = 0 := by omega
                 exact Nat.le_refl _
 | a, b + 1, h => by
   by_cases h1 : a = b + 1
   ·rw [h1]; exact Nat.le_refl _
   ·have := sumK_mono (k := k) (show a ≤ b by omega)
    simp only [sumK]; omega
theorem rank_len {k : Nat} {w v : List Int} (hw : WOk k w) (h : w.length < v.length) : rank k w < rank k v :=
 Nat.lt_of_lt_of_le (rank_lt hw) (Nat.le_trans (sumK_mono h) (rank_ge v))
theorem rank_head {k : Nat} {a b : Int} {w v : List Int} (hl : w.length = v.length) (hw : WOk k w) (hab : a.toNat < b.toNat) : rank k (a :: w) < rank k (b :: v) := by
 have h1 := rank_lt hw
 have h2 := rank_ge (k := k) v
 simp only [rank]
 rw [hl] at h1 ⊢
 rw [sumK] at h1
 have h3 : (a.toNat + 1 + 1) * k ^ v.length ≤ (b.toNat + 1) * k ^ v.length := Nat.mul_le_mul_right _ (by omega)
 rw [Nat.succ_mul] at h3
 omega
theorem rank_cons {k : Nat} {a : Int} {w v : List Int} (hl : w.length = v.length) (h : rank k w ≤ rank k v) : rank k (a :: w) ≤ rank k (a :: v) := by
 simp only [rank, hl]; omega
theorem rank_inj {k : Nat} : ∀ {w v : List Int}, WOk k w → WOk k v → rank k w = rank k v → w = v
 | w, v, hw, hv, h => by
   have hl : w.length = v.length := by
    by_cases h1 : w.length < v.length
    ·have := rank_len hw h1; omega
    ·by_cases h2 : v.length < w.length
     ·have := rank_len hv h2; omega
     ·omega
   match w, v with
   | [], [] => rfl
   | [], _ :: _ => simp at hl
   | _ :: _, [] => simp at hl
   | a :: w, b :: v =>
     have hl' : w.length = v.length := by simpa using hl
     have h1 : ¬ a.toNat < b.toNat := fun h1 => by have := rank_head hl' hw.tail h1; omega
     have h2 : ¬ b.toNat < a.toNat := fun h2 => by have := rank_head hl'.symm hv.tail h2; omega
     have hab : a = b := by have := hw.head; have := hv.head; omega
     subst hab
     have : rank k w = rank k v := by simp only [rank, hl'] at h; omega
     rw [rank_inj hw.tail hv.tail this]
theorem rank_lt_len {k : Nat} {v w : List Int} (hw : WOk k w) (h : rank k v ≤ rank k w) : v.length ≤ w.length := by
 by_cases h1 : w.length < v.length
 ·have := rank_len hw h1; omega
 ·omega
def Alike (m : Mach) (k s t : Nat) : Prop := ∀ v, WOk m.ins.toNat v → v.length ≤ k → runR m s v = runR m t v
theorem alike_succ {m : Mach} (hv : WV m) {k : Nat} (hk : ∀ s t, s < m.rows.length → t < m.rows.length → Alike m k s t → Alike m (k + 1) s t) {s t : Nat} (hs : s < m.rows.length) (ht : t < m.rows.length) (h : Alike m k s t) : ∀ j, Alike m (k + j) s t
 | 0 => h
 | j + 1 => by
   intro v hvo hvl
   have h1 := hk s t hs ht h
   match v, hvo with
   | [], _ => rfl
   | b :: v, hvo =>
     have hb := hvo.head
     obtain ⟨b, rfl⟩ : ∃ n : Nat, b = (n : Int) := ⟨b.toNat, by omega⟩
     have hbl : b < m.ins.toNat := by omega
     have ho : (ex (rowN m s) b).2 = (ex (rowN m t) b).2 := by
      have := h1 [(b : Int)] (fun x hx => by simp at hx; omega) (by simp)
      rw [run_cons, run_cons] at this
      exact (List.cons.inj this).1
     rw [run_cons, run_cons, ho]
     congr 1
     rcases ex_bothW hv hs ht hbl ho with ⟨e1, e2⟩ | ⟨p, q, e1, e2, hp, hq⟩
     ·rw [e1, e2]
     ·rw [e1, e2]
      have h2 : Alike m k p q := fun u hu hul => by
       have := h1 ((b : Int) :: u) (hu.cons (by omega)) (by simp; omega)
       rw [run_cons, run_cons, e1, e2] at this
       exact (List.cons.inj this).2
      exact alike_succ hv hk hp hq h2 j v hvo.tail (by simp at hvl; omega)
theorem countP_lt {α : Type} {p q : α → Bool} : ∀ {l : List α}, (∀ x ∈ l, p x = true → q x = true) → (∃ x ∈ l, q x = true ∧ p x = false) → l.countP p < l.countP q
 | [], _, ⟨x, h, _⟩ => by cases h
 | y :: l, hpq, ⟨x, hx, h1, h2⟩ => by
   have hm : l.countP p ≤ l.countP q := List.countP_mono_left fun x hx => hpq x (List.mem_cons_of_mem _ hx)
   rw [List.countP_cons, List.countP_cons]
   rcases List.mem_cons.1 hx with rfl | hx
   ·rw [h1, h2]; simp; omega
   ·have := countP_lt (fun x hx => hpq x (List.mem_cons_of_mem _ hx)) ⟨x, hx, h1, h2⟩
    have h3 := hpq y List.mem_cons_self
    by_cases h4 : p y = true
    ·rw [if_pos h4, if_pos (h3 h4)]; omega
    ·rw [if_neg h4]; split <;> omega
open Classical in
noncomputable def leadB (m : Mach) (k : Nat) (s : Nat) : Bool := decide (∀ t < s, ¬ Alike m k t s)
noncomputable def cntL (m : Mach) (k : Nat) : Nat := (List.range m.rows.length).countP (leadB m k)
theorem Alike.symm {m : Mach} {k s t : Nat} (h : Alike m k s t) : Alike m k t s := fun v h1 h2 => (h v h1 h2).symm
theorem Alike.trans {m : Mach} {k s t u : Nat} (h : Alike m k s t) (h' : Alike m k t u) : Alike m k s u := fun v h1 h2 => (h v h1 h2).trans (h' v h1 h2)
theorem Alike.le {m : Mach} {k j s t : Nat} (h : Alike m k s t) (hj : j ≤ k) : Alike m j s t := fun v h1 h2 => h v h1 (by omega)
theorem lead_of (m : Mach) (k : Nat) : ∀ s, ∃ c, c ≤ s ∧ Alike m k c s ∧ leadB m k c = true := fun s => by
 induction s using Nat.strongRecOn with
 | _ s ih =>
   by_cases h : ∃ t, t < s ∧ Alike m k t s
   ·obtain ⟨t, h1, h2⟩ := h
    obtain ⟨c, h3, h4, h5⟩ := ih t h1
    exact ⟨c, by omega, h4.trans h2, h5⟩
   ·exact ⟨s, Nat.le_refl _, fun _ _ _ => rfl, by simp only [leadB, decide_eq_true_eq]; exact fun t h1 h2 => h ⟨t, h1, h2⟩⟩
theorem cntL_grows {m : Mach} {k : Nat} (h : ¬ ∀ s t, s < m.rows.length → t < m.rows.length → Alike m k s t → Alike m (k + 1) s t) : cntL m k < cntL m (k + 1) := by
 refine countP_lt (fun s _ hs => ?_) ?_
 ·simp only [leadB, decide_eq_true_eq] at hs ⊢
  exact fun t h1 h2 => hs t h1 (h2.le (by omega))
 ·simp only [Classical.not_forall] at h
  obtain ⟨s, t, hs, ht, h1, h2⟩ := h
  obtain ⟨c, c1, c2, c3⟩ := lead_of m k s
  have : ∃ u, u < m.rows.length ∧ Alike m k c u ∧ ¬ Alike m (k + 1) c u := by
   by_cases h3 : Alike m (k + 1) c s
   ·exact ⟨t, ht, c2.trans h1, fun h4 => h2 (h3.symm.trans h4)⟩
   ·exact ⟨s, hs, c2, h3⟩
  obtain ⟨u, hu, u1, u2⟩ := this
  obtain ⟨d, d1, d2, d3⟩ := lead_of m (k + 1) u
  have hcd : Alike m k c d := u1.trans (d2.le (by omega)).symm
  have hne : c ≠ d := fun e => u2 (by rw [e]; exact d2)
  refine ⟨d, List.mem_range.2 (by omega), d3, ?_⟩
  have hlt : c < d := by
   by_cases h5 : c < d
   ·exact h5
   ·have h6 : d < c := by omega
    simp only [leadB, decide_eq_true_eq] at c3
    exact absurd hcd.symm (c3 d h6)
  rw [Bool.eq_false_iff]
  intro h7
  simp only [leadB, decide_eq_true_eq] at h7
  exact h7 c hlt hcd
theorem alike_all {m : Mach} (hv : WV m) {k s t : Nat} (hk : m.rows.length ≤ k + 1) (hs : s < m.rows.length) (ht : t < m.rows.length) (h : Alike m k s t) : ∀ v, WOk m.ins.toNat v → runR m s v = runR m t v := by
 have hN := hv.rows
 have hex : ∃ j, j + 1 ≤ m.rows.length ∧ ∀ s t, s < m.rows.length → t < m.rows.length → Alike m j s t → Alike m (j + 1) s t := by
  by_cases hx : ∃ j, j + 1 ≤ m.rows.length ∧ ∀ s t, s < m.rows.length → t < m.rows.length → Alike m j s t → Alike m (j + 1) s t
  ·exact hx
  ·exfalso
   have hg : ∀ j, j ≤ m.rows.length → j + 1 ≤ cntL m j := fun j => by
    induction j with
    | zero =>
      intro _
      have : 0 < cntL m 0 := List.countP_pos_iff.2 ⟨0, List.mem_range.2 (by omega), by simp [leadB]⟩
      omega
    | succ j ih =>
      intro hj
      have h1 := ih (by omega)
      have h2 := cntL_grows (m := m) (k := j) fun h => hx ⟨j, hj, h⟩
      omega
   have h1 := hg m.rows.length (Nat.le_refl _)
   have h2 : cntL m m.rows.length ≤ m.rows.length := by
    have := List.countP_le_length (p := leadB m m.rows.length) (l := List.range m.rows.length)
    simpa [cntL] using this
   omega
 obtain ⟨j, hj, hst⟩ := hex
 intro v hvo
 exact alike_succ hv hst hs ht (h.le (by omega)) v.length v hvo (by omega)
theorem iterM_is {m : Mach} (hv : WV m) : ∀ (k s t : Nat), s < m.rows.length → t < m.rows.length → (iterM m k s t = false ↔ Alike m k s t)
 | 0, s, t, _, _ => ⟨fun _ v _ hl => by obtain rfl : v = [] := List.length_eq_zero_iff.1 (by omega); rfl, fun _ => rfl⟩
 | k + 1, s, t, hs, ht => by
   have hins := hv.ins
   simp only [iterM, Bool.or_eq_false_iff, iterM_is hv k s t hs ht]
   have hcond : ∀ b, b < m.ins.toNat → (condM (iterM m k) (ex (rowN m s) b) (ex (rowN m t) b) = false ↔ ∀ v, WOk m.ins.toNat v → v.length ≤ k → runR m s ((b : Int) :: v) = runR m t ((b : Int) :: v)) := fun b hb => by
    by_cases ho : (ex (rowN m s) b).2 = (ex (rowN m t) b).2
    ·rcases ex_bothW hv hs ht hb ho with ⟨e1, e2⟩ | ⟨p, q, e1, e2, hp, hq⟩
     ·refine ⟨fun _ v _ _ => ?_, fun _ => by simp [condM, ho, e1]⟩
      rw [run_cons, run_cons, ho, e1, e2]
     ·have h1 : condM (iterM m k) (ex (rowN m s) b) (ex (rowN m t) b) = iterM m k p q := by simp [condM, ho, e1, e2]
      rw [h1, iterM_is hv k p q hp hq]
      refine ⟨fun h v h2 h3 => ?_, fun h v h2 h3 => ?_⟩
      ·rw [run_cons, run_cons, ho, e1, e2, h v h2 h3]
      ·have := h v h2 h3
       rw [run_cons, run_cons, e1, e2] at this
       exact (List.cons.inj this).2
    ·refine ⟨fun h => by simp [condM, ho] at h, fun h => ?_⟩
     have := h [] (fun x hx => by cases hx) (Nat.zero_le _)
     rw [run_cons, run_cons] at this
     exact absurd (List.cons.inj this).1 ho
   constructor
   ·rintro ⟨h1, h2⟩ v hvo hvl
    match v, hvo with
    | [], _ => rfl
    | b :: v, hvo =>
      have hb := hvo.head
      obtain ⟨b, rfl⟩ : ∃ n : Nat, b = (n : Int) := ⟨b.toNat, by omega⟩
      rw [apartB, List.any_eq_false] at h2
      have h3 := h2 b (List.mem_range.2 (by omega))
      exact (hcond b (by omega)).1 (by simpa using h3) v hvo.tail (by simp at hvl; omega)
   ·intro h
    refine ⟨h.le (by omega), ?_⟩
    rw [apartB, List.any_eq_false]
    intro b hb
    have hb := List.mem_range.1 hb
    have := (hcond b hb).2 fun v h2 h3 => h _ (h2.cons (by omega)) (by simp; omega)
    simp [this]
end Go.Avl
