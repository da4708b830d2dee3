/-
  Lemmas.
-/
import Derived.Test.YtmmcendgdcmlkaaDoorPart9
set_option linter.unusedSimpArgs false
set_option linter.unusedVariables false
set_option linter.unnecessarySimpa false
set_option linter.deprecated false
namespace Go.Avl
open Go Go.Proofs.Tryd
set_option maxRecDepth 10000
def wM (W : List RW) : Mem := [(0, .arr 1 (W.map rwC) false)]
set_option maxHeartbeats 4000000 in
theorem put_body (W : List RW) (hS : SrtW W) (hl : W.length < 100000) (hW : ∀ x ∈ W, x.2.1.length < 1000000) (wn : Bool) (w : List Int) (wc : Cp) (hwl : w.length < 1000000) :
  BodyIs prog 86 [.tl 0 W.length (decide (W.length = 0)), .sl wn (w.map intC) wc] (wM W) 1 (fun r M _ => r = .tl 0 (insW W (false, w, .unk)).length false ∧ M = wM (insW W (false, w, .unk))) := by
 refine BodyIs.of (nv := 2) (hid := [4, 5, 6, 7, 8, 13, 24, 40, 50]) func86 rfl (by kernel_rfl) (by simp [ntmps86]) fun _ => ?_
 rw [ntmps86, results86]
 have hWl : (W.map rwC).length = W.length := List.length_map _
 have hwn := norefs_intC w
 have hwL : (w.map intC).length = w.length := List.length_map _
 obtain ⟨n, hn⟩ : ∃ n, n = W.length := ⟨_, rfl⟩
 rw [wM]
 have hWn := norefs_rw W
 rw [← hn] at hWl ⊢
 obtain ⟨en, hen⟩ : ∃ en, en = decide (n = 0) := ⟨_, rfl⟩
 rw [← hen]
 refine EvC.a ?_
 refine EvC.a ?_
 refine EvC.a ?_ (by simp only [go_sem, hWl] <;> rfl)
 refine EvC.seq ?_
 refine EvC.block ?_
 refine EvC.loopS (σ := Nat × Nat) (fun g => ⟨[(0, .tl 0 n en), (1, .sl wn (w.map intC) wc), (5, .sc (.int .i64 g.1)), (6, .sc (.int .i64 g.2))], [], [(0, .arr 1 (W.map rwC) false)], 1⟩) (fun g => g.2 - g.1) (fun g => g.1 ≤ g.2 ∧ g.2 ≤ n ∧ (∀ i (h : i < W.length), i < g.1 → cmpL W[i].2.1 w < 0) ∧ ∀ i (h : i < W.length), g.2 ≤ i → 0 ≤ cmpL W[i].2.1 w) [0, 1, 5, 6] 1 ?_ ?_
 ·exact ⟨[(0, 0)], (0, n), rfl, (by simp only [go_sem, hWn, hWl, Int.natCast_zero] <;> rfl), Nat.zero_le _, Nat.le_refl _, fun i _ h => absurd h (Nat.not_lt_zero _), fun i h h2 => absurd h (by simp only at h2; omega)⟩
 rintro ⟨lo, hi⟩ ⟨i1, i2, i3, i4⟩
 simp only at i1 i2 i3 i4 ⊢
 refine EvC.seq ?_
 refine EvC.a ?_
 by_cases hlh : lo < hi
 ·refine EvC.cr ?_ (by simp only [go_sem, decide_eq_true (show (lo : Int) < hi by omega)] <;> rfl)
  obtain ⟨md, hmd⟩ : ∃ md, md = (lo + hi) / 2 := ⟨_, rfl⟩
  have hmZ : ((lo : Int) + hi) / 2 = (md : Int) := by omega
  have hI : inI64 ((lo : Int) + hi) = true := inI64_of (by omega) (by omega)
  have hI2 : inI64 (md : Int) = true := inI64_of (by omega) (by omega)
  have h0 : (0 : Int) ≤ lo + hi := by omega
  have hml : md < W.length := by omega
  have hge : W[md]? = some (W[md]'hml) := List.getElem?_eq_getElem hml
  have hwm := hW _ (List.getElem_mem hml)
  have hrg := rw_get hge
  have hmt : (md : Int).toNat = md := Int.toNat_natCast md
  have qc := compare65_is (W[md]'hml).1 wn (W[md]'hml).2.1 w (W[md]'hml).2.2 wc hwm
  refine EvC.block ?_
  refine EvC.a ?_ (by simp only [go_sem, hmZ] <;> rfl) (by simp [hI, hI2, h0])
  refine EvC.k1 ?_ (h1 := by simp only [go_sem, hrg, hmt, hWl, hWn] <;> rfl) (k1 := by simp; try omega) (c1 := .ca qc)
  by_cases hc : cmpL (W[md]'hml).2.1 w < 0
  ·refine EvC.ct ?_ (by simp only [go_sem, decide_eq_true hc] <;> rfl)
   refine EvC.b ?_ (by simp only [go_sem, hWn] <;> rfl) (by exact inI64_of (by omega) (by omega))
   refine ⟨[(0, 0)], (md + 1, hi), rfl, (by simp only [go_sem, hWn, hWl, Int.natCast_add, Int.natCast_one] <;> rfl), ⟨by simp only; omega, i2, fun i h h2 => ?_, i4⟩, by simp only; omega⟩
   rcases Nat.lt_or_ge i md with h3 | h3
   ·exact cmpL_trans (hS.lt h3 hml) hc
   ·obtain rfl : i = md := by simp only at h2; omega
    exact hc
  ·refine EvC.cf ?_ (by simp only [go_sem, decide_eq_false hc] <;> rfl)
   refine EvC.b ?_ (by simp only [go_sem, hWn] <;> rfl)
   refine ⟨[(0, 0)], (lo, md), rfl, (by simp only [go_sem, hWn, hWl] <;> rfl), ⟨by simp only; omega, by simp only; omega, i3, fun i h h2 => ?_⟩, by simp only; omega⟩
   rcases Nat.lt_or_ge md i with h3 | h3
   ·have h4 := hS.lt h3 h
    by_cases h5 : cmpL W[i].2.1 w < 0
    ·exact absurd (cmpL_trans h4 h5) hc
    ·omega
   ·obtain rfl : i = md := by simp only at h2; omega
    omega
 obtain rfl : lo = hi := by omega
 refine EvC.cf ?_ (by simp only [go_sem, decide_eq_false (show ¬ (lo : Int) < lo by omega)] <;> rfl)
 refine EvC.exit ?_
 refine EvC.seq ?_
 have hA : ∀ a ∈ W.take lo, cmpL a.2.1 w < 0 := fun a ha => by
  rw [List.mem_take_iff_getElem] at ha
  obtain ⟨i, hi, rfl⟩ := ha
  exact i3 i (by omega) (by omega)
 have hsp := insW_app (x := (false, w, .unk)) (W.drop lo) hA
 rw [List.take_append_drop] at hsp
 by_cases hz : ∃ h : lo < W.length, cmpL (W[lo]'h).2.1 w = 0
 ·obtain ⟨hll, hz⟩ := hz
  have hge : W[lo]? = some (W[lo]'hll) := List.getElem?_eq_getElem hll
  have hwm := hW _ (List.getElem_mem hll)
  have hrg := rw_get hge
  have hlt : (lo : Int).toNat = lo := Int.toNat_natCast lo
  have qc := compare65_is (W[lo]'hll).1 wn (W[lo]'hll).2.1 w (W[lo]'hll).2.2 wc hwm
  have hsame : insW W (false, w, .unk) = W := by
   rw [hsp, List.drop_eq_getElem_cons hll, insW, if_neg (by simp only [hz]; omega), if_pos (by simp only [hz])]
   rw [← List.drop_eq_getElem_cons hll, List.take_append_drop]
  rw [hsame]
  refine EvC.k1 ?_ (h1 := by simp only [go_sem, hrg, hlt, hWl, hWn, decide_eq_true (show (lo : Int) < n by omega)] <;> rfl) (k1 := by simp; try omega) (c1 := .cg qc) (h2 := by simp only [go_sem, decide_eq_true hz] <;> rfl)
  refine EvC.ct ?_
  refine EvC.a ?_ (by simp only [go_sem, hWn] <;> rfl)
  have hen2 : en = false := by rw [hen]; exact decide_eq_false (by omega)
  refine EvC.ret ⟨.inl rfl, _, (by simp only [go_sem] <;> rfl), ?_⟩
  rw [hen2, hn]
  exact ⟨rfl, rfl⟩
 have hput : insW W (false, w, .unk) = W.take lo ++ (false, w, .unk) :: W.drop lo := by
  rw [hsp]
  congr 1
  by_cases hll : lo < W.length
  ·have h4 := i4 lo hll (Nat.le_refl _)
   have hne : cmpL (W[lo]'hll).2.1 w ≠ 0 := fun h => hz ⟨hll, h⟩
   rw [List.drop_eq_getElem_cons hll, insW, if_neg (by simp only; omega), if_neg (by simp only; exact hne)]
  ·rw [List.drop_of_length_le (by omega)]; rfl
 refine EvC.mergeS (α := Unit) (fun _ => ⟨[(0, .tl 0 n en), (1, .sl wn (w.map intC) wc), (5, .sc (.int .i64 lo)), (40, .sc (.bool false))], [], [(0, .arr 1 (W.map rwC) false)], 1⟩) (fun _ => True) [0, 1, 5, 40] 1 ?_ ?_
 ·by_cases hll : lo < W.length
  ·have hge : W[lo]? = some (W[lo]'hll) := List.getElem?_eq_getElem hll
   have hwm := hW _ (List.getElem_mem hll)
   have hrg := rw_get hge
   have hlt : (lo : Int).toNat = lo := Int.toNat_natCast lo
   have qc := compare65_is (W[lo]'hll).1 wn (W[lo]'hll).2.1 w (W[lo]'hll).2.2 wc hwm
   have hne : ¬ cmpL (W[lo]'hll).2.1 w = 0 := fun h => hz ⟨hll, h⟩
   refine EvC.k1L ?_ (h1 := by simp only [go_sem, hrg, hlt, hWl, hWn, decide_eq_true (show (lo : Int) < n by omega)] <;> rfl) (k1 := by simp; try omega) (c1 := .cg qc) (h2 := by simp only [go_sem, decide_eq_false hne] <;> rfl)
   exact ⟨rfl, [(0, 0)], (), rfl, (by simp only [go_sem, hWn, hWl] <;> rfl), trivial⟩
  ·have hgn : W[lo]? = none := List.getElem?_eq_none (by omega)
   have hlt : (lo : Int).toNat = lo := Int.toNat_natCast lo
   apply EvC.tr
   ·apply Tr.run
    ·simp only [go_sem, hWl, hWn, hgn, hlt, decide_eq_false (show ¬ (lo : Int) < n by omega)] <;> rfl
    ·simp
    apply Tr.cons
    ·exact .skipv (.sl true [] .unk) rfl rfl (by simp only [go_sem] <;> rfl) (by simp only [go_sem] <;> rfl)
    apply Tr.run
    ·simp only [go_sem, hWl, hWn, hgn, hlt, decide_eq_false (show ¬ (lo : Int) < n by omega)] <;> rfl
    ·simp
    apply Tr.cons
    ·exact .skipv (.sc (.int .i64 0)) rfl rfl (by simp only [go_sem] <;> rfl) (by simp only [go_sem] <;> rfl)
    apply Tr.done
    ·simp only [go_sem] <;> rfl
    ·simp
   exact ⟨rfl, [(0, 0)], (), rfl, (by simp only [go_sem, hWn, hWl] <;> rfl), trivial⟩
 rintro _ -
 refine EvC.cs ?_
 have hno : AV.norefs [.sl true [] .zer] = true := rfl
 have hr1 : room (n + 1) 24 = true := by simp only [room_eq, decide_eq_true_eq]; omega
 refine EvC.a ?_ (by simp only [go_sem, hWl, hWn] <;> rfl) (by simp [hr1])
 refine EvC.seq ?_
 refine EvC.a ?_ (by simp only [go_sem, hWl, hWn, List.length_append, List.length_cons, List.length_nil, Int.natCast_add, Int.natCast_one] <;> rfl) (by exact inI64_of (by omega) (by omega))
 refine EvC.block ?_
 have h0 : W.map rwC ++ [[.sl true [] .zer]] = holeW W n [.sl true [] .zer] := by
  unfold holeW
  rw [hn, List.take_length, List.drop_length]; rfl
 rw [h0]
 have hn1 : (n : Int) + 1 - 1 = n := by omega
 refine EvC.loopS (σ := Nat × List AV) (fun g => ⟨[(0, .tl 0 (n + 1) false), (1, .sl wn (w.map intC) wc), (5, .sc (.int .i64 lo)), (8, .sc (.int .i64 g.1))], [], [(0, .arr 1 (holeW W g.1 g.2) false)], 1⟩) (fun g => g.1 - lo) (fun g => lo ≤ g.1 ∧ g.1 ≤ n ∧ AV.norefs g.2 = true ∧ g.2.length = 1) [0, 1, 5, 8] 1 ?_ ?_
 ·have hH := holeW_norefs (W := W) (i := n) hno
  have hHl := holeW_len (W := W) (i := n) (h := [.sl true [] .zer]) (by omega)
  exact ⟨[(0, 0)], (n, [.sl true [] .zer]), rfl, (by simp only [go_sem, hH, hHl, hn1] <;> rfl), by simp only; omega, Nat.le_refl _, hno, rfl⟩
 rintro ⟨i, h⟩ ⟨j1, j2, j3, j4⟩
 simp only at j1 j2 j3 j4 ⊢
 have hH := holeW_norefs (W := W) (i := i) j3
 have hHl := holeW_len (W := W) (i := i) (h := h) (by omega)
 rw [← hn] at hHl
 have hat := holeW_at (W := W) (i := i) (h := h) (by omega)
 obtain ⟨hv, rfl⟩ : ∃ v, h = [v] := by
  match h, j4 with
  | [v], _ => exact ⟨v, rfl⟩
 refine EvC.seq ?_
 refine EvC.a ?_ (by simp only [go_sem, hH, hHl] <;> rfl)
 by_cases hil : lo < i
 ·refine EvC.cr ?_ (by simp only [go_sem, decide_eq_true (show (lo : Int) < i by omega)] <;> rfl)
  obtain ⟨k, rfl⟩ : ∃ k, i = k + 1 := ⟨i - 1, by omega⟩
  have hkl : k + 1 ≤ W.length := by omega
  have hge := holeW_get (h := [hv]) hkl
  have hse := holeW_set (h := [hv]) hkl
  have hrl : (rwC (W[k]'(by omega))).length = 1 := rfl
  have hrn : AV.norefs (rwC (W[k]'(by omega))) = true := by simp [rwC, AV.norefs, AV.noref]
  have hH2 := holeW_norefs (W := W) (i := k) hrn
  have hHl2 := holeW_len (W := W) (i := k) (h := rwC (W[k]'(by omega))) (by omega)
  obtain ⟨iZ, hiZ⟩ : ∃ z : Int, z = ((k + 1 : Nat) : Int) := ⟨_, rfl⟩
  rw [← hiZ]
  have e1 : iZ.toNat = k + 1 := by omega
  have e2 : (iZ - 1).toNat = k := by omega
  have hI : inI64 (iZ - 1) = true := inI64_of (by omega) (by omega)
  have hb : 0 ≤ iZ ∧ 1 ≤ iZ ∧ k < n + 1 ∧ k + 1 < n + 1 := by omega
  have hrw : rwC (W[k]'(by omega)) = [.sl (W[k]'(by omega)).1 ((W[k]'(by omega)).2.1.map intC) (W[k]'(by omega)).2.2] := rfl
  rw [hrw] at hge hse hrl hrn hH2 hHl2
  refine EvC.seq ?_
  refine EvC.block ?_
  refine EvC.b ?_ (by simp only [go_sem, hge, hse, hat, e1, e2, hH, hHl, hH2, hHl2] <;> rfl) (by simp [hI, hb, hHl]; try omega)
  refine EvC.b ?_ (by simp only [go_sem, hH2] <;> rfl) (by simp [hI])
  have e3 : iZ - 1 = (k : Int) := by omega
  replace hHl2 := hHl2.trans (show W.length + 1 = n + 1 by omega)
  exact ⟨[(0, 0)], (k, rwC (W[k]'(by omega))), rfl, (by rw [hrw]; simp only [go_sem, hH2, hHl2, e3] <;> rfl), ⟨by simp only; omega, by simp only; omega, hrn, hrl⟩, by simp only; omega⟩
 obtain rfl : i = lo := by omega
 refine EvC.cf ?_ (by simp only [go_sem, decide_eq_false (show ¬ (i : Int) < i by omega)] <;> rfl)
 refine EvC.exit ?_
 have hpu := holeW_put (h := [hv]) (show i ≤ W.length by omega) (false, w, .unk)
 rw [← hput] at hpu
 have hpl : (insW W (false, w, .unk)).length = n + 1 := by rw [hput, List.length_append, List.length_cons, List.length_take, List.length_drop]; omega
 simp only [rwC] at hpu
 have hir := norefs_rw (insW W (false, w, .unk))
 have hirl : ((insW W (false, w, .unk)).map rwC).length = n + 1 := by rw [List.length_map, hpl]
 rw [wM]
 generalize insW W (false, w, .unk) = V at hpu hpl hir hirl ⊢
 rw [hpl]
 change _ = V.map rwC at hpu
 generalize V.map rwC = VC at hpu hir hirl ⊢
 have hit : (i : Int).toNat = i := Int.toNat_natCast i
 have hrw : room w.length 8 = true := by simp only [room_eq, decide_eq_true_eq]; omega
 refine EvC.a ?_ (by simp only [go_sem, hat, hit, hHl, hwn, hwL] <;> rfl) (by simp [hrw]; exact ⟨fun _ _ => rfl, by omega⟩)
 have hg1 : ((holeW W i [hv]).set i [.tl 8 w.length false])[i]? = some [.tl 8 w.length false] := List.getElem?_set_self (by omega)
 have hl1 : ((holeW W i [hv]).set i [.tl 8 w.length false]).length = n + 1 := by rw [List.length_set]; exact hHl
 have hs1 : ∀ x, ((holeW W i [hv]).set i [.tl 8 w.length false]).set i x = (holeW W i [hv]).set i x := fun x => List.set_set ..
 refine EvC.frz 8 (by simp only [go_sem, hwn, hwL] <;> rfl) ?_
 refine EvC.snapE 0 i (by simp only [go_sem, hg1, hl1, hs1, hpu, hwn, hwL] <;> rfl) ?_
 refine EvC.gcE [0] [(0, 0)] 1 (st2 := ⟨[(0, .tl 0 (n + 1) false)], [], [(0, .arr 1 VC false)], 1⟩) rfl (by simp only [go_sem, hir, hirl] <;> rfl) ?_
 refine EvC.a ?_ (by simp only [go_sem, hir, hirl] <;> rfl)
 refine EvC.ret ⟨.inl rfl, _, (by simp only [go_sem] <;> rfl), ?_⟩
 exact ⟨rfl, rfl⟩
def sortL (W : List RW) (l : List RW) : List RW := l.foldl (fun V x => insW V (false, x.2.1, .unk)) W
def sortW (W : List RW) : List RW := sortL [] W
theorem sortL_srt : ∀ (l W : List RW), SrtW W → SrtW (sortL W l)
 | [], _, h => h
 | x :: l, W, h => sortL_srt l _ (insW_srt h)
theorem sortL_len : ∀ (l W : List RW), (sortL W l).length ≤ W.length + l.length
 | [], W => by simp [sortL]
 | x :: l, W => by
   have h1 := sortL_len l (insW W (false, x.2.1, .unk))
   have h2 := insW_len (false, x.2.1, .unk) W
   show (sortL (insW W (false, x.2.1, .unk)) l).length ≤ _
   rw [List.length_cons]; omega
theorem sortL_mem {z : RW} : ∀ {l W : List RW}, z ∈ sortL W l → z ∈ W ∨ ∃ x ∈ l, z.2.1 = x.2.1
 | [], W, h => .inl h
 | x :: l, W, h => by
   rcases sortL_mem (l := l) (W := insW W (false, x.2.1, .unk)) h with h | ⟨y, hy, e⟩
   ·rcases insW_mem h with h | h
    ·exact .inr ⟨x, List.mem_cons_self, by rw [h]⟩
    ·exact .inl h
   ·exact .inr ⟨y, List.mem_cons_of_mem _ hy, e⟩
theorem sortW_srt (l : List RW) : SrtW (sortW l) := sortL_srt l [] List.Pairwise.nil
theorem sortW_len (l : List RW) : (sortW l).length ≤ l.length := by have := sortL_len l []; simpa [sortW] using this
theorem sortW_mem {z : RW} {l : List RW} (h : z ∈ sortW l) : ∃ x ∈ l, z.2.1 = x.2.1 := by
 rcases sortL_mem h with h | h
 ·cases h
 ·exact h
theorem sortL_snoc (W l : List RW) (x : RW) : sortL W (l ++ [x]) = insW (sortL W l) (false, x.2.1, .unk) := by simp [sortL]
set_option maxHeartbeats 4000000 in
theorem sort58_is (wn : Bool) (W : List RW) (wc : Cp) (hl : W.length < 100000) (hW : ∀ x ∈ W, x.2.1.length < 1000000) :
  PureIs prog 58 [.sl wn (W.map rwC) wc] (.sl (sortW W).isEmpty ((sortW W).map rwC) .unk) := by
 have hWl : (W.map rwC).length = W.length := List.length_map _
 have hWn := norefs_rw W
 refine PureIs.of1 1 [2, 3, 4, 8, 11, 15] func58 ntmps58 results58 fun _ => ?_
 refine EvC.a ?_
 refine EvC.a ?_
 refine EvC.thaw 1 (by simp only [go_sem] <;> rfl) ?_
 refine EvC.seq ?_
 refine EvC.a ?_
 refine EvC.block ?_
 refine EvC.loopS (σ := Nat) (fun i => ⟨[(0, .sl wn (W.map rwC) wc), (3, .tl 0 (sortW (W.take i)).length (decide ((sortW (W.take i)).length = 0))), (4, .sc (.int .i64 i))], [], wM (sortW (W.take i)), 1⟩) (fun i => W.length - i) (fun i => i ≤ W.length) [0, 3, 4] 1 ?_ ?_
 ·have hz : sortW (W.take 0) = [] := by simp [sortW, sortL]
  exact ⟨[(1, 0)], 0, rfl, (by rw [hz, wM]; simp only [go_sem, Int.natCast_zero, List.length_nil, List.map_nil] <;> rfl), Nat.zero_le _⟩
 intro i hi
 obtain ⟨V, hV⟩ : ∃ V, V = sortW (W.take i) := ⟨_, rfl⟩
 have hVl : V.length ≤ i := by rw [hV]; have := sortW_len (W.take i); rw [List.length_take] at this; omega
 have hVs : SrtW V := by rw [hV]; exact sortW_srt _
 have hVm : ∀ x ∈ V, x.2.1.length < 1000000 := fun x hx => by
  rw [hV] at hx
  obtain ⟨y, hy, e⟩ := sortW_mem hx
  rw [e]; exact hW y (List.mem_of_mem_take hy)
 have hn : ∀ (w : RW), W[i]? = some w → sortW (W.take (i + 1)) = insW V (false, w.2.1, .unk) := fun w h => by
  obtain ⟨h1, h2⟩ := List.getElem?_eq_some_iff.1 h
  rw [List.take_succ_eq_append_getElem h1, h2, sortW, sortL_snoc, hV]; rfl
 have hend : i = W.length → V = sortW W := fun h => by rw [hV, h, List.take_length]
 rw [← hV]
 clear hV
 have hVn := norefs_rw V
 have hVc : (V.map rwC).length = V.length := List.length_map _
 refine EvC.seq ?_
 refine EvC.a ?_ (by simp only [go_sem, hWl, wM] <;> rfl)
 refine EvC.cond (by simp only [go_sem] <;> rfl) (fun hc => ?_) (fun hc => ?_)
 rotate_left
 ·refine EvC.exit ?_
  have hi2 : i = W.length := by have : ¬ i < W.length := (by simpa using hc); omega
  rw [← hend hi2]
  have hVe : V.isEmpty = decide (V.length = 0) := by cases V <;> simp
  rw [hVe]
  generalize decide (V.length = 0) = e
  refine EvC.frz 0 (by simp only [go_sem, wM, hVn, hVc] <;> rfl) ?_
  refine EvC.a ?_
  refine EvC.rz ?_
  simp only [go_sem]
 have hil : i < W.length := by simpa using hc
 clear hc
 have hge : W[i]? = some (W[i]'hil) := List.getElem?_eq_getElem hil
 have hwm := hW _ (List.getElem_mem hil)
 have hn := hn _ hge
 generalize W[i]'hil = w at hge hwm hn
 have hrg := rw_get hge
 have hit : (i : Int).toNat = i := Int.toNat_natCast i
 refine EvC.skip ?_
 refine EvC.seq ?_
 refine EvC.block ?_
 apply EvC.region
 apply XR.run
 ·simp only [go_sem, hrg, hit, hWl] <;> rfl
 ·simp; try omega
 refine XR.gcTo ⟨[(0, .sl wn (W.map rwC) wc), (4, .sc (.int .i64 i)), (11, .tl 0 V.length (decide (V.length = 0))), (15, .sl w.1 (w.2.1.map intC) w.2.2)], [], wM V, 1⟩ [0, 4, 11, 15] [(0, 0)] rfl (by simp only [go_sem, wM, hVn, hVc] <;> rfl) ?_
 apply XR.callI rfl rfl (by simp only [go_sem] <;> rfl) (by simp only [go_sem] <;> rfl) (by simp only [go_sem] <;> rfl)
 refine (put_body V hVs (by omega) hVm w.1 w.2.1 w.2.2 hwm).mono fun r M z h => ?_
 obtain ⟨rfl, rfl⟩ := h
 rw [← hn]
 have hle := (insW_len (false, w.2.1, .unk) V).2
 rw [← hn] at hle
 have hdz : decide ((sortW (W.take (i + 1))).length = 0) = false := decide_eq_false (by omega)
 have hSn := norefs_rw (sortW (W.take (i + 1)))
 have hSc : ((sortW (W.take (i + 1))).map rwC).length = (sortW (W.take (i + 1))).length := List.length_map _
 apply XR.done
 ·simp only [go_sem] <;> rfl
 ·simp
 refine EvC.b ?_ (hok := by exact inI64_of (by omega) (by omega))
 exact ⟨[(0, 0)], i + 1, rfl, (by rw [hdz]; simp only [go_sem, wM, hSn, hSc, Int.natCast_add, Int.natCast_one] <;> rfl), hil, by omega⟩
def modW (n : Int) (x : RW) : RW := ((x.2.1.map (· % n)).isEmpty, x.2.1.map (· % n), .unk)
def withinF (n : Int) (W : List RW) : List RW := W.map (modW n)
set_option maxHeartbeats 4000000 in
theorem within24_is (wn : Bool) (W : List RW) (wc : Cp) (n : Int) (hn : 0 < n ∧ n < 1000) (hl : W.length < 100000) (hW : ∀ x ∈ W, x.2.1.length < 1000000 ∧ ∀ a ∈ x.2.1, 0 ≤ a ∧ a < 1000) :
  PureIs prog 24 [.sl wn (W.map rwC) wc, .sc (.int .i64 n)] (.sl (sortW (withinF n W)).isEmpty ((sortW (withinF n W)).map rwC) .unk) := by
 have hWl : (W.map rwC).length = W.length := List.length_map _
 have hWn := norefs_rw W
 have hn0 : decide (n = 0) = false := decide_eq_false (by omega)
 obtain ⟨F, hF⟩ : ∃ F, F = withinF n W := ⟨_, rfl⟩
 have hFl : F.length = W.length := by rw [hF, withinF, List.length_map]
 rw [← hF]
 refine PureIs.of1 2 [4, 5, 6, 7, 8, 12, 21] func24 ntmps24 results24 fun _ => ?_
 refine EvC.a ?_
 refine EvC.a ?_
 refine EvC.thaw 1 (by simp only [go_sem] <;> rfl) ?_
 refine EvC.seq ?_
 refine EvC.a ?_
 refine EvC.block ?_
 refine EvC.loopS (σ := Nat) (fun i => ⟨[(0, .sl wn (W.map rwC) wc), (1, .sc (.int .i64 n)), (5, .tl 0 i (i == 0)), (6, .sc (.int .i64 i))], [], [(0, .arr 1 ((F.take i).map rwC) false)], 1⟩) (fun i => W.length - i) (fun i => i ≤ W.length) [0, 1, 5, 6] 1 ?_ ?_
 ·exact ⟨[(1, 0)], 0, rfl, (by simp only [go_sem, Int.natCast_zero, List.take_zero, List.map_nil] <;> rfl), Nat.zero_le _⟩
 intro i hi
 have hLn := norefs_rw (F.take i)
 have hLl : ((F.take i).map rwC).length = i := by rw [List.length_map, List.length_take]; omega
 refine EvC.seq ?_
 refine EvC.a ?_ (by simp only [go_sem, hWl] <;> rfl)
 refine EvC.cond (by simp only [go_sem] <;> rfl) (fun hc => ?_) (fun hc => ?_)
 rotate_left
 ·refine EvC.exit ?_
  obtain rfl : i = W.length := by have : ¬ i < W.length := (by simpa using hc); omega
  rw [List.take_of_length_le (by omega)] at hLn hLl ⊢
  have q := sort58_is (W.length == 0) F .unk (by omega) (fun x hx => by
   rw [hF] at hx
   obtain ⟨y, hy, rfl⟩ := List.mem_map.1 hx
   simp only [modW, List.length_map]
   exact (hW y hy).1)
  have hSn := norefs_rw (sortW F)
  generalize (sortW F).map rwC = S at q hSn
  generalize (W.length == 0) = e at q ⊢
  generalize F.map rwC = FC at q hLn hLl ⊢
  refine EvC.frz 0 (by simp only [go_sem, hLn, hLl] <;> rfl) ?_
  refine EvC.k1 ?_ (c1 := .ca q) (h2 := by simp only [go_sem, hSn] <;> rfl) (k2 := by simp [hSn])
  refine EvC.rz ?_
  simp only [go_sem]
 have hil : i < W.length := by simpa using hc
 clear hc
 have hge : W[i]? = some (W[i]'hil) := List.getElem?_eq_getElem hil
 obtain ⟨hwl, hwa⟩ := hW _ (List.getElem_mem hil)
 have htk : F.take (i + 1) = F.take i ++ [modW n (W[i]'hil)] := by
  rw [List.take_succ_eq_append_getElem (by omega)]; simp [hF, withinF]
 generalize W[i]'hil = w at hge hwl hwa htk
 have hrg := rw_get hge
 have hit : (i : Int).toNat = i := Int.toNat_natCast i
 have hwL : (w.2.1.map intC).length = w.2.1.length := List.length_map _
 obtain ⟨Y, hY⟩ : ∃ Y, Y = w.2.1.map (· % n) := ⟨_, rfl⟩
 have hYl : Y.length = w.2.1.length := by rw [hY, List.length_map]
 refine EvC.skip ?_
 refine EvC.seq ?_
 refine EvC.block ?_
 refine EvC.a ?_
 refine EvC.seq ?_
 refine EvC.a ?_
 refine EvC.block ?_
 refine EvC.loopS (σ := Nat) (fun k => ⟨[(0, .sl wn (W.map rwC) wc), (1, .sc (.int .i64 n)), (5, .tl 0 i (i == 0)), (6, .sc (.int .i64 i)), (7, .tl 1 k (k == 0)), (8, .sc (.int .i64 k))], [], [(0, .arr 1 ((F.take i).map rwC) false), (1, .arr 1 ((Y.take k).map intC) true)], 2⟩) (fun k => Y.length - k) (fun k => k ≤ Y.length) [0, 1, 5, 6, 7, 8] 2 ?_ ?_
 ·exact ⟨[(0, 0), (5, 1)], 0, rfl, (by simp only [go_sem, hLn, hLl, Int.natCast_zero, List.take_zero, List.map_nil] <;> rfl), Nat.zero_le _⟩
 intro k hk
 have hYn := norefs_intC (Y.take k)
 have hYk : ((Y.take k).map intC).length = k := by rw [List.length_map, List.length_take]; omega
 refine EvC.seq ?_
 refine EvC.a ?_ (by simp only [go_sem, hrg, hit, hWl, hwL] <;> rfl) (by simp; try omega)
 refine EvC.cond (by simp only [go_sem] <;> rfl) (fun hc => ?_) (fun hc => ?_)
 rotate_left
 ·refine EvC.exit ?_
  obtain rfl : k = Y.length := by have : ¬ k < w.2.1.length := (by simpa using hc); omega
  rw [List.take_length] at hYn hYk ⊢
  have hYe : (Y.length == 0) = Y.isEmpty := by cases Y <;> rfl
  rw [hYe]
  have hmw : rwC (modW n w) = [.sl Y.isEmpty (Y.map intC) .unk] := by rw [hY]; rfl
  refine EvC.frz 1 (by simp only [go_sem, hYn, hYk] <;> rfl) ?_
  have hs : (F.take i).map rwC ++ [[.sl Y.isEmpty (Y.map intC) .unk]] = (F.take (i + 1)).map rwC := by rw [htk, List.map_append, ← hmw]; rfl
  have hL2 := norefs_rw (F.take (i + 1))
  have hL3 : ((F.take (i + 1)).map rwC).length = i + 1 := by rw [List.length_map, List.length_take]; omega
  have hL4 : (F.take (i + 1)).length = i + 1 := by rw [List.length_take]; omega
  have hr2 : room (i + 1) 24 = true := by simp only [room_eq, decide_eq_true_eq]; omega
  have hne : (i + 1 == 0) = false := rfl
  refine EvC.b ?_ (by simp only [go_sem, hs, hLl, hL4, hYn] <;> rfl) (by simp [hr2])
  refine EvC.b ?_ (by simp only [go_sem, hL4] <;> rfl) (by exact inI64_of (by omega) (by omega))
  exact ⟨[(0, 0)], i + 1, rfl, (by simp only [go_sem, hL2, hL3, hL4, hne, Int.natCast_add, Int.natCast_one] <;> rfl), hil, by omega⟩
 have hkl : k < Y.length := by have : k < w.2.1.length := (by simpa using hc); omega
 clear hc
 have hkw : k < w.2.1.length := by omega
 have hae : w.2.1[k]? = some (w.2.1[k]'hkw) := List.getElem?_eq_getElem hkw
 have ham := hwa _ (List.getElem_mem hkw)
 have hyk : Y.take (k + 1) = Y.take k ++ [(w.2.1[k]'hkw) % n] := by
  rw [List.take_succ_eq_append_getElem hkl]; simp [hY]
 generalize w.2.1[k]'hkw = a at hae ham hyk
 have hag : (w.2.1.map intC)[k]? = some [.sc (.int .i64 a)] := by rw [List.getElem?_map, hae]; rfl
 have hkt : (k : Int).toNat = k := Int.toNat_natCast k
 have hs : (Y.take k).map intC ++ [[.sc (.int .i64 (a % n))]] = (Y.take (k + 1)).map intC := by rw [hyk, List.map_append]; rfl
 have hr2 : room (k + 1) 8 = true := by simp only [room_eq, decide_eq_true_eq]; omega
 have hne : (k + 1 == 0) = false := rfl
 have hY2 := norefs_intC (Y.take (k + 1))
 have hY3 : ((Y.take (k + 1)).map intC).length = k + 1 := by rw [List.length_map, List.length_take]; omega
 have hn1 : n ≠ 0 := by omega
 have hI : inI64 (a % n) = true := by
  have h1 := Int.emod_nonneg a hn1
  have h2 := Int.emod_lt_of_pos a hn.1
  exact inI64_of (by omega) (by omega)
 refine EvC.skip ?_
 refine EvC.seq ?_
 refine EvC.block ?_
 refine EvC.b ?_ (by simp only [go_sem, hrg, hit, hag, hkt, hWl, hwL, hn0, hs, hYk] <;> rfl) (by simp [hr2, hI, hn1, ham.1]; try omega)
 have hY4 : (Y.take (k + 1)).length = k + 1 := by rw [List.length_take]; omega
 refine EvC.b ?_ (by simp only [go_sem, hY4] <;> rfl) (by exact inI64_of (by omega) (by omega))
 exact ⟨[(0, 0), (1, 1)], k + 1, rfl, (by simp only [go_sem, hLn, hLl, hY2, hY3, hY4, hne, Int.natCast_add, Int.natCast_one] <;> rfl), hkl, by omega⟩
@[go_sem] theorem norefs_wb (l : List (Bool × List Int)) : (l.map wbR).all AV.norefs = true := by simp [List.all_eq_true, wbR, AV.norefs, AV.noref]
structure LW where
 inp : Int
 wn : Bool
 ws : List (Bool × List Int)
 wc : Cp
def LW.cells (x : LW) : List AV := [.sc (.int .u8 x.inp), .sl x.wn (x.ws.map wbR) x.wc]
structure LW.Ok (x : LW) : Prop where
 i : 0 ≤ x.inp ∧ x.inp < 256
 a : ∀ y ∈ x.ws, ∀ e ∈ y.2, 0 ≤ e ∧ e < 256
def LW.alpha (x : LW) : Int := 1 + x.inp % 3
def LW.rawOf (x : LW) (y : Bool × List Int) : RW := (false, (y.2.take 12).map (· % x.alpha), .unk)
def LW.raw (x : LW) : List RW := (x.ws.take 40).map x.rawOf
theorem alpha_is {x : LW} (hx : x.Ok) : PureIs prog 87 [.ag x.cells] (.sc (.int .i64 x.alpha)) := by
 have h1 := hx.i
 have h2 : 0 ≤ x.inp % 3 := Int.emod_nonneg _ (by omega)
 have h3 : x.inp % 3 < 3 := Int.emod_lt_of_pos _ (by omega)
 unfold LW.alpha
 obtain ⟨q, hq⟩ : ∃ q, q = x.inp % 3 := ⟨_, rfl⟩
 rw [← hq] at h2 h3 ⊢
 have hI : inI64 q = true := inI64_of (by omega) (by omega)
 have hI2 : inI64 (1 + q) = true := inI64_of (by omega) (by omega)
 refine PureIs.of1 3 [] func87 ntmps87 results87 fun _ => ?_
 refine EvC.a ?_ (by simp only [go_sem, LW.cells] <;> rfl)
 refine EvC.z 0 ?_
 refine EvC.a ?_ (by simp only [go_sem, ← hq] <;> rfl) (by simp [h1.1, hI, hI2])
 refine EvC.rz ?_
 simp only [go_sem]
set_option maxHeartbeats 4000000 in
theorem raw_is {x : LW} (hx : x.Ok) (hl : (x.ws.length : Int) ≤ 140737488355328) (hwl : ∀ y ∈ x.ws, (y.2.length : Int) ≤ 140737488355328) : PureIs prog 59 [.ag x.cells] (.sl x.raw.isEmpty (x.raw.map rwC) .unk) := by
 have qa := alpha_is hx
 have ha1 : 1 ≤ x.alpha ∧ x.alpha ≤ 3 := by
  have h2 : 0 ≤ x.inp % 3 := Int.emod_nonneg _ (by omega)
  have h3 : x.inp % 3 < 3 := Int.emod_lt_of_pos _ (by omega)
  unfold LW.alpha; omega
 have hWl : (x.ws.map wbR).length = x.ws.length := List.length_map _
 have hWn := norefs_wb x.ws
 obtain ⟨N, hN⟩ : ∃ N, N = min 40 x.ws.length := ⟨_, rfl⟩
 obtain ⟨F, hF⟩ : ∃ F, F = x.raw := ⟨_, rfl⟩
 have hFl : F.length = N := by rw [hF, LW.raw, List.length_map, List.length_take, hN]
 have hFi : ∀ i (h : i < x.ws.length), i < N → F.take (i + 1) = F.take i ++ [x.rawOf x.ws[i]] := fun i h hi => by
  rw [List.take_succ_eq_append_getElem (by omega)]; simp [hF, LW.raw]
 have hFe : F.isEmpty = (N == 0) := by rw [← hFl]; cases F <;> rfl
 rw [← hF, hFe]
 have hae := hx.a
 rw [LW.cells] at qa ⊢
 generalize ha : x.alpha = A at qa ha1
 have hA0 : decide (A = 0) = false := decide_eq_false (by omega)
 have hA1 : A ≠ 0 := by omega
 clear hF
 refine PureIs.of1 7 [15, 30] func59 ntmps59 results59 fun _ => ?_
 refine EvC.a ?_
 refine EvC.z 0 ?_
 refine EvC.a ?_
 refine EvC.thaw 2 (by simp only [go_sem] <;> rfl) ?_
 refine EvC.seq ?_
 refine EvC.a ?_
 refine EvC.block ?_
 refine EvC.loopS (σ := Nat) (fun i => ⟨[(1, .ia [.sc (.int .u8 x.inp), .sl x.wn (x.ws.map wbR) x.wc]), (3, .tl 0 i (i == 0)), (4, .sc (.int .i64 i))], [], [(0, .arr 1 ((F.take i).map rwC) false)], 1⟩) (fun i => N - i) (fun i => i ≤ N) [1, 3, 4] 1 ?_ ?_
 ·exact ⟨[(2, 0)], 0, rfl, (by simp only [go_sem, Int.natCast_zero, List.take_zero, List.map_nil] <;> rfl), Nat.zero_le _⟩
 intro i hi
 have hLn := norefs_rw (F.take i)
 have hLl : ((F.take i).map rwC).length = i := by rw [List.length_map, List.length_take]; omega
 refine EvC.seq ?_
 by_cases hiN : i < N
 rotate_left
 ·obtain rfl : i = N := by omega
  rw [List.take_of_length_le (by omega)] at hLn hLl ⊢
  generalize F.map rwC = FC at hLn hLl ⊢
  by_cases h1 : i < x.ws.length
  ·have d1 : decide ((i : Int) < x.ws.length) = true := decide_eq_true (by omega)
   have d2 : decide ((i : Int) < 40) = false := decide_eq_false (by omega)
   refine EvC.g ?_ (h := by simp only [go_sem, hWl, hWn, d1, d2] <;> rfl)
   refine EvC.cf ?_
   refine EvC.exit ?_
   refine EvC.frz 0 (by simp only [go_sem, hLn, hLl] <;> rfl) ?_
   refine EvC.a ?_
   refine EvC.rz ?_
   simp only [go_sem]
  ·have d1 : decide ((i : Int) < x.ws.length) = false := decide_eq_false (by omega)
   refine EvC.g ?_ (h := by simp only [go_sem, hWl, hWn, d1] <;> rfl)
   refine EvC.cf ?_
   refine EvC.exit ?_
   refine EvC.frz 0 (by simp only [go_sem, hLn, hLl] <;> rfl) ?_
   refine EvC.a ?_
   refine EvC.rz ?_
   simp only [go_sem]
 have hil : i < x.ws.length := by omega
 have d1 : decide ((i : Int) < x.ws.length) = true := decide_eq_true (by omega)
 have d2 : decide ((i : Int) < 40) = true := decide_eq_true (by omega)
 refine EvC.g ?_ (h := by simp only [go_sem, hWl, hWn, d1, d2] <;> rfl)
 refine EvC.cr ?_
 have hge : x.ws[i]? = some (x.ws[i]'hil) := List.getElem?_eq_getElem hil
 have hwa := hae _ (List.getElem_mem hil)
 have hwL1 := hwl _ (List.getElem_mem hil)
 have htk := hFi i hil hiN
 generalize x.ws[i]'hil = y at hge hwa htk hwL1
 have hrg : (x.ws.map wbR)[i]? = some [.sl y.1 (y.2.map u8C) .unk] := by rw [List.getElem?_map, hge]; rfl
 have hit : (i : Int).toNat = i := Int.toNat_natCast i
 have hwL : (y.2.map u8C).length = y.2.length := List.length_map _
 obtain ⟨M, hM⟩ : ∃ M, M = min 12 y.2.length := ⟨_, rfl⟩
 obtain ⟨Y, hY⟩ : ∃ Y, Y = (y.2.take 12).map (· % A) := ⟨_, rfl⟩
 have hYl : Y.length = M := by rw [hY, List.length_map, List.length_take, hM]
 refine EvC.seq ?_
 refine EvC.block ?_
 refine EvC.a ?_
 refine EvC.ownV 5 1 (by simp only [go_sem] <;> rfl) ?_
 refine EvC.seq ?_
 refine EvC.a ?_
 refine EvC.block ?_
 refine EvC.loopS (σ := Nat) (fun k => ⟨[(1, .ia [.sc (.int .u8 x.inp), .sl x.wn (x.ws.map wbR) x.wc]), (3, .tl 0 i (i == 0)), (4, .sc (.int .i64 i)), (5, .tl 1 k false), (6, .sc (.int .i64 k))], [], [(0, .arr 1 ((F.take i).map rwC) false), (1, .arr 1 ((Y.take k).map intC) true)], 2⟩) (fun k => M - k) (fun k => k ≤ M) [1, 3, 4, 5, 6] 2 ?_ ?_
 ·exact ⟨[(0, 0), (12, 1)], 0, rfl, (by simp only [go_sem, hLn, hLl, Int.natCast_zero, List.take_zero, List.map_nil] <;> rfl), Nat.zero_le _⟩
 intro k hk
 have hYn := norefs_intC (Y.take k)
 have hYk : ((Y.take k).map intC).length = k := by rw [List.length_map, List.length_take]; omega
 refine EvC.seq ?_
 by_cases hkM : k < M
 rotate_left
 ·obtain rfl : k = M := by omega
  rw [show Y.take k = Y from List.take_of_length_le (by omega)] at hYn hYk ⊢
  have hmw : rwC (x.rawOf y) = [.sl false (Y.map intC) .unk] := by rw [hY, ← ha]; rfl
  have hs : (F.take i).map rwC ++ [[.sl false (Y.map intC) .unk]] = (F.take (i + 1)).map rwC := by rw [htk, List.map_append, ← hmw]; rfl
  have hL2 := norefs_rw (F.take (i + 1))
  have hL3 : ((F.take (i + 1)).map rwC).length = i + 1 := by rw [List.length_map, List.length_take]; omega
  have hL4 : (F.take (i + 1)).length = i + 1 := by rw [List.length_take]; omega
  have hr2 : room (i + 1) 24 = true := by simp only [room_eq, decide_eq_true_eq]; omega
  have hne : (i + 1 == 0) = false := rfl
  by_cases h1 : k < y.2.length
  ·have e1 : decide ((k : Int) < y.2.length) = true := decide_eq_true (by omega)
   have e2 : decide ((k : Int) < 12) = false := decide_eq_false (by omega)
   refine EvC.g ?_ (h := by simp only [go_sem, hrg, hit, hWl, hwL, e1, e2] <;> rfl) (hok := by simp; try omega)
   refine EvC.cf ?_
   refine EvC.exit ?_
   refine EvC.frz 1 (by simp only [go_sem, hYn, hYk] <;> rfl) ?_
   refine EvC.b ?_ (by simp only [go_sem, hs, hLl, hL4, hYn] <;> rfl) (by simp [hr2])
   refine EvC.b ?_ (by simp only [go_sem, hL4] <;> rfl) (by exact inI64_of (by omega) (by omega))
   exact ⟨[(0, 0)], i + 1, rfl, (by simp only [go_sem, hL2, hL3, hL4, hne, Int.natCast_add, Int.natCast_one] <;> rfl), hiN, by omega⟩
  ·have e1 : decide ((k : Int) < y.2.length) = false := decide_eq_false (by omega)
   refine EvC.g ?_ (h := by simp only [go_sem, hrg, hit, hWl, hwL, e1] <;> rfl) (hok := by simp; try omega)
   refine EvC.cf ?_
   refine EvC.exit ?_
   refine EvC.frz 1 (by simp only [go_sem, hYn, hYk] <;> rfl) ?_
   refine EvC.b ?_ (by simp only [go_sem, hs, hLl, hL4, hYn] <;> rfl) (by simp [hr2])
   refine EvC.b ?_ (by simp only [go_sem, hL4] <;> rfl) (by exact inI64_of (by omega) (by omega))
   exact ⟨[(0, 0)], i + 1, rfl, (by simp only [go_sem, hL2, hL3, hL4, hne, Int.natCast_add, Int.natCast_one] <;> rfl), hiN, by omega⟩
 have hkw : k < y.2.length := by omega
 have e1 : decide ((k : Int) < y.2.length) = true := decide_eq_true (by omega)
 have e2 : decide ((k : Int) < 12) = true := decide_eq_true (by omega)
 refine EvC.g ?_ (h := by simp only [go_sem, hrg, hit, hWl, hwL, e1, e2] <;> rfl) (hok := by simp; try omega)
 refine EvC.cr ?_
 have hae : y.2[k]? = some (y.2[k]'hkw) := List.getElem?_eq_getElem hkw
 have ham := hwa _ (List.getElem_mem hkw)
 have hyk : Y.take (k + 1) = Y.take k ++ [(y.2[k]'hkw) % A] := by
  rw [List.take_succ_eq_append_getElem (by omega)]; simp [hY]
 generalize y.2[k]'hkw = a at hae ham hyk
 have hag : (y.2.map u8C)[k]? = some [.sc (.int .u8 a)] := by rw [List.getElem?_map, hae]; rfl
 have hkt : (k : Int).toNat = k := Int.toNat_natCast k
 have hs : (Y.take k).map intC ++ [[.sc (.int .i64 (a % A))]] = (Y.take (k + 1)).map intC := by rw [hyk, List.map_append]; rfl
 have hr2 : room (k + 1) 8 = true := by simp only [room_eq, decide_eq_true_eq]; omega
 have hY2 := norefs_intC (Y.take (k + 1))
 have hY3 : ((Y.take (k + 1)).map intC).length = k + 1 := by rw [List.length_map, List.length_take]; omega
 have hY4 : (Y.take (k + 1)).length = k + 1 := by rw [List.length_take]; omega
 have hI0 : inI64 a = true := inI64_of (by omega) (by omega)
 have hI : inI64 (a % A) = true := by
  have h1 := Int.emod_nonneg a hA1
  have h2 := Int.emod_lt_of_pos a (show 0 < A by omega)
  exact inI64_of (by omega) (by omega)
 refine EvC.seq ?_
 refine EvC.block ?_
 refine EvC.k1LD mixed ?_ (h1 := by simp only [go_sem, hrg, hit, hag, hkt, hWl, hwL] <;> rfl) (k1 := by simp [ham.1, hI0]; try omega) (c1 := .ca qa) (h2 := by simp only [go_sem, hA0, hs, hYk] <;> rfl) (k2 := by simp [hr2, hI, hI0, hA1, ham.1]; try omega)
 refine EvC.b ?_ (by simp only [go_sem, hY4] <;> rfl) (by exact inI64_of (by omega) (by omega))
 exact ⟨[(0, 0), (1, 1)], k + 1, rfl, (by simp only [go_sem, hLn, hLl, hY2, hY3, hY4, Int.natCast_add, Int.natCast_one] <;> rfl), hkM, by omega⟩
theorem of25_is {x : LW} (hx : x.Ok) (hl : (x.ws.length : Int) ≤ 140737488355328) (hwl : ∀ y ∈ x.ws, (y.2.length : Int) ≤ 140737488355328) : PureIs prog 25 [.ag x.cells] (.sl (sortW x.raw).isEmpty ((sortW x.raw).map rwC) .unk) := by
 have q1 := raw_is hx hl hwl
 have hRl : x.raw.length ≤ 40 := by rw [LW.raw, List.length_map, List.length_take]; omega
 have hRm : ∀ w ∈ x.raw, w.2.1.length ≤ 12 := fun w hw => by
  obtain ⟨y, _, rfl⟩ := List.mem_map.1 hw
  simp only [LW.rawOf, List.length_map, List.length_take]; omega
 have q2 := sort58_is x.raw.isEmpty x.raw .unk (by omega) fun w hw => by have := hRm w hw; omega
 have h1 := norefs_rw x.raw
 have h2 := norefs_rw (sortW x.raw)
 rw [LW.cells] at q1 ⊢
 generalize (sortW x.raw).map rwC = S at q2 h2 ⊢
 generalize x.raw.map rwC = R at q1 q2 h1
 refine PureIs.of1 3 [] func25 ntmps25 results25 fun _ => ?_
 refine EvC.a ?_
 refine EvC.z 0 ?_
 refine EvC.k2 ?_ (c1 := .ca q1) (c2 := .ca q2) (h3 := by simp only [go_sem, h1, h2] <;> rfl)
 refine EvC.rz ?_
 simp only [go_sem]
def LW.words (x : LW) (n : Int) : List RW := sortW (withinF n (sortW x.raw))
theorem LW.words_ok (x : LW) {n : Int} (hn : 0 < n) : SrtW (x.words n) ∧ (x.words n).length ≤ 40 ∧ ∀ w ∈ x.words n, w.2.1.length ≤ 12 ∧ ∀ a ∈ w.2.1, 0 ≤ a ∧ a < n := by
 refine ⟨sortW_srt _, ?_, fun w hw => ?_⟩
 ·have h1 := sortW_len (withinF n (sortW x.raw))
  have h2 := sortW_len x.raw
  have h3 : x.raw.length ≤ 40 := by rw [LW.raw, List.length_map, List.length_take]; omega
  rw [withinF, List.length_map] at h1
  unfold LW.words withinF; omega
 ·obtain ⟨u, hu, e⟩ := sortW_mem hw
  obtain ⟨v, hv, rfl⟩ := List.mem_map.1 hu
  obtain ⟨z, hz, e2⟩ := sortW_mem hv
  obtain ⟨y, _, rfl⟩ := List.mem_map.1 hz
  rw [e]
  simp only [modW, e2]
  refine ⟨by simp only [LW.rawOf, List.length_map, List.length_take]; omega, fun a ha => ?_⟩
  obtain ⟨b, _, rfl⟩ := List.mem_map.1 ha
  exact ⟨Int.emod_nonneg _ (by omega), Int.emod_lt_of_pos _ hn⟩
end Go.Avl
namespace Go.Proofs.YtmmcendgdcmlkaaDoor
open Go Go.Avl Go.Proofs Go.ChangeShapes Go.RowKit
section
variable {H : Type} {enc : TypeId × Value → H} {w : World}
theorem rd_bytes : Reads enc Tryd.prog w 151 (fun x : Bool × List Int => [.sl x.1 (x.2.map u8C) .unk]) (fun x => (∀ e ∈ x.2, 0 ≤ e ∧ e < 256) ∧ (x.2.length : Int) ≤ 140737488355328) :=
 (Reads.slice Tryd.underlying151 rd_u8 (fun a => by rw [show Program.cellsOf Tryd.prog 5 = 1 by kernel_rfl]; rfl) (by rw [show Program.cellsOf Tryd.prog 5 = 1 by kernel_rfl]; exact Nat.succ_pos _)).mono fun a h => ⟨a, ⟨h.1, len_of (b := Program.bytesOf Tryd.prog 5) (by decide +kernel) h.2.2⟩, rfl⟩
theorem rd_wbs : Reads enc Tryd.prog w 61 (fun x : Bool × List (Bool × List Int) => [.sl x.1 (x.2.map wbR) .unk]) (fun x => (∀ y ∈ x.2, (∀ e ∈ y.2, 0 ≤ e ∧ e < 256) ∧ (y.2.length : Int) ≤ 140737488355328) ∧ (x.2.length : Int) ≤ 140737488355328) :=
 (Reads.slice Tryd.underlying61 (rd_bytes.mono (g := wbR) (Ok' := fun y => (∀ e ∈ y.2, 0 ≤ e ∧ e < 256) ∧ (y.2.length : Int) ≤ 140737488355328) fun a h => ⟨a, h, rfl⟩) (fun a => by rw [show Program.cellsOf Tryd.prog 151 = 1 by kernel_rfl]; rfl) (by rw [show Program.cellsOf Tryd.prog 151 = 1 by kernel_rfl]; exact Nat.succ_pos _)).mono fun a h => ⟨a, ⟨h.1, len_of (b := Program.bytesOf Tryd.prog 151) (by decide +kernel) h.2.2⟩, rfl⟩
theorem rd_LW : Reads enc Tryd.prog w 63 LW.cells (fun y => y.Ok ∧ (y.ws.length : Int) ≤ 140737488355328 ∧ ∀ z ∈ y.ws, (z.2.length : Int) ≤ 140737488355328) := by
 have := (Reads.struct (enc := enc) (w := w) (tot := 2) Tryd.underlying63 (by kernel_rfl) (.cons (sz := 1) rfl (by kernel_rfl) rfl rd_u8' (.cons (sz := 1) rfl (by kernel_rfl) rfl rd_wbs .nil)))
 exact this.mono fun a h => ⟨⟨a.1, a.2.1.1, a.2.1.2, .unk⟩, ⟨⟨h.1, fun y hy => (h.2.1.1 y hy).1⟩, h.2.1.2, fun y hy => (h.2.1.1 y hy).2⟩, rfl⟩
end
end Go.Proofs.YtmmcendgdcmlkaaDoor
namespace Go.Avl
open Go Go.Proofs.Tryd
set_option maxRecDepth 10000
structure WsOk (n : Int) (W : List RW) : Prop where
 s : SrtW W
 l : W.length ≤ 40
 w : ∀ w ∈ W, w.2.1.length ≤ 12 ∧ ∀ a ∈ w.2.1, 0 ≤ a ∧ a < n
theorem LW.wsOk (x : LW) {n : Int} (hn : 0 < n) : WsOk n (x.words n) := by
 obtain ⟨h1, h2, h3⟩ := x.words_ok hn
 exact ⟨h1, h2, h3⟩
theorem aheadB_srt : ∀ {W : List RW}, SrtW W → aheadB W = true
 | [], _ => rfl
 | [_], _ => rfl
 | a :: b :: l, h => by
   obtain ⟨h1, h2⟩ := List.pairwise_cons.1 h
   rw [aheadB, decide_eq_true (h1 b List.mem_cons_self), aheadB_srt h2]; rfl
theorem stepsW_le {K : Nat} : ∀ {W : List RW}, (∀ w ∈ W, w.2.1.length ≤ K) → stepsW W ≤ K * W.length
 | [], _ => Nat.zero_le _
 | w :: W, h => by
   have h1 := h w List.mem_cons_self
   have h2 := stepsW_le (W := W) fun x hx => h x (List.mem_cons_of_mem _ hx)
   simp only [stepsW, List.map_cons, List.sum_cons, List.length_cons] at h2 ⊢
   rw [Nat.mul_add]; omega
theorem wordErr_ok {n : Int} {w : List Int} (hn : 1 ≤ n ∧ n ≤ 16) (hl : w.length ≤ 256) (ha : ∀ a ∈ w, 0 ≤ a ∧ a < n) : wordErr n w = 0 := by
 unfold wordErr
 rw [if_neg (by omega), if_neg]
 rintro (h | h)
 ·omega
 ·rw [List.any_eq_true] at h
  obtain ⟨a, h1, h2⟩ := h
  have := ha a h1
  simp only [Bool.or_eq_true, decide_eq_true_eq] at h2
  omega
theorem errW_ok {n : Int} : ∀ {W : List RW}, (∀ w ∈ W, wordErr n w.2.1 = 0) → errW n W = 0
 | [], _ => rfl
 | w :: W, h => by
   rw [errW, if_neg (by rw [h w List.mem_cons_self]; simp)]
   exact errW_ok fun x hx => h x (List.mem_cons_of_mem _ hx)
theorem WsOk.ready {m : Mach} (hv : Valid m) {W : List RW} (h : WsOk m.ins W) : readyE m W = 0 := by
 have hi := hv.ins
 have h1 := h.l
 have h2 := stepsW_le (K := 12) fun w hw => (h.w w hw).1
 have h3 : errW m.ins W = 0 := errW_ok fun w hw => wordErr_ok (by omega) (by have := (h.w w hw).1; omega) (h.w w hw).2
 unfold readyE
 rw [if_neg (by rw [hv.check]; simp)]
 have h4 : looseE m.ins W = 0 := by
  unfold looseE
  rw [if_neg (by omega), if_neg (by omega), h3]
 unfold triesE
 rw [if_neg (by rw [h4]; simp), if_neg (by rw [aheadB_srt h.s]; simp), if_neg (by omega)]
theorem killL_mem {m t : Mach} {k : Int} : ∀ {W : List RW} {s : Nat}, k ∈ killL m t W s ↔ ∃ i, ∃ h : i < W.length, k = ((s + i : Nat) : Int) ∧ runR m 0 W[i].2.1 ≠ runR t 0 W[i].2.1
 | [], s => by simp [killL]
 | w :: W, s => by
   have ih := killL_mem (m := m) (t := t) (k := k) (W := W) (s := s + 1)
   have hr : (∃ i, ∃ h : i < W.length, k = ((s + 1 + i : Nat) : Int) ∧ runR m 0 W[i].2.1 ≠ runR t 0 W[i].2.1) ↔ ∃ i, ∃ h : i + 1 < (w :: W).length, k = ((s + (i + 1) : Nat) : Int) ∧ runR m 0 ((w :: W)[i + 1]'h).2.1 ≠ runR t 0 ((w :: W)[i + 1]'h).2.1 := by
    constructor
    ·rintro ⟨i, h, e, d⟩; exact ⟨i, by simpa using h, by omega, d⟩
    ·rintro ⟨i, h, e, d⟩; exact ⟨i, by simpa using h, by omega, d⟩
   rw [hr] at ih
   rw [killL]
   constructor
   ·intro h
    split at h
    ·obtain ⟨i, h1, h2⟩ := ih.1 h
     exact ⟨i + 1, h1, h2⟩
    ·rename_i hd
     rcases List.mem_cons.1 h with h | h
     ·exact ⟨0, by simp, by omega, hd⟩
     ·obtain ⟨i, h1, h2⟩ := ih.1 h
      exact ⟨i + 1, h1, h2⟩
   ·rintro ⟨i, h1, h2, h3⟩
    cases i with
    | zero =>
      have h3 : runR m 0 w.2.1 ≠ runR t 0 w.2.1 := h3
      rw [if_neg h3]
      exact List.mem_cons.2 (.inl (by omega))
    | succ i =>
      have := ih.2 ⟨i, h1, h2, h3⟩
      split
      ·exact this
      ·exact List.mem_cons_of_mem _ this
theorem killL_lt {m t : Mach} : ∀ (W : List RW) (s : Nat), (killL m t W s).Nodup
 | [], _ => List.nodup_nil
 | w :: W, s => by
   have ih := killL_lt (m := m) (t := t) W (s + 1)
   rw [killL]
   split
   ·exact ih
   ·refine List.nodup_cons.2 ⟨fun h => ?_, ih⟩
    obtain ⟨i, h1, h2, _⟩ := killL_mem.1 h
    omega
theorem nodup_le {α : Type} [DecidableEq α] : ∀ {a b : List α}, a.Nodup → (∀ x ∈ a, x ∈ b) → a.length ≤ b.length
 | [], b, _, _ => Nat.zero_le _
 | x :: a, b, h, hs => by
   obtain ⟨h1, h2⟩ := List.nodup_cons.1 h
   have hx := hs x List.mem_cons_self
   have := nodup_le (b := b.erase x) h2 fun y hy => (List.mem_erase_of_ne (fun e => h1 (by rw [← e]; exact hy))).2 (hs y (List.mem_cons_of_mem _ hy))
   rw [List.length_erase_of_mem hx] at this
   have : 0 < b.length := List.length_pos_of_mem hx
   rw [List.length_cons]; omega
theorem nodup_lt {α : Type} [DecidableEq α] {a b : List α} {z : α} (h : a.Nodup) (hs : ∀ x ∈ a, x ∈ b) (h1 : z ∈ b) (h2 : z ∉ a) : a.length < b.length := by
 have := nodup_le (b := b.erase z) h fun y hy => (List.mem_erase_of_ne (fun e => h2 (by rw [← e]; exact hy))).2 (hs y hy)
 rw [List.length_erase_of_mem h1] at this
 have : 0 < b.length := List.length_pos_of_mem h1
 omega
theorem subB_iff {a b : List Int} : subB a b = true ↔ ∀ x ∈ a, x ∈ b := by
 unfold subB
 simp
theorem kept_below {S : List (List Int)} (hn : ∀ s ∈ S, s.Nodup) : ∀ (n i : Nat), (S.getD i []).length * S.length + i ≤ n → i < S.length → S.getD i [] ≠ [] → ∃ j, j < S.length ∧ keepB S j = true ∧ ∀ x ∈ S.getD j [], x ∈ S.getD i [] := by
 intro n
 induction n with
 | zero =>
   intro i h1 h2 h3
   have : 0 < (S.getD i []).length := List.length_pos_iff.2 h3
   have : 1 * 1 ≤ (S.getD i []).length * S.length := Nat.mul_le_mul this (by omega)
   omega
 | succ n ih =>
   intro i h1 h2 h3
   by_cases hk : keepB S i = true
   ·exact ⟨i, h2, hk, fun x hx => hx⟩
   have hl : 0 < (S.getD i []).length := List.length_pos_iff.2 h3
   unfold keepB at hk
   rw [decide_eq_false (by omega)] at hk
   simp only [Bool.not_false, Bool.true_and, Bool.not_eq_true', Bool.not_eq_false, List.any_eq_true, List.mem_range] at hk
   obtain ⟨k, hkl, hb⟩ := hk
   unfold badB at hb
   simp only [Bool.and_eq_true, Bool.not_eq_true', decide_eq_false_iff_not, decide_eq_true_eq, Bool.or_eq_true] at hb
   obtain ⟨b1, b2, b3, b4⟩ := hb
   have hge : ∀ i, i < S.length → (S.getD i []).Nodup := fun i h => hn _ (by
    rw [List.getD_eq_getElem?_getD, List.getElem?_eq_getElem h]; exact List.getElem_mem h)
   have hkn := hge k hkl
   have hin := hge i h2
   have hsub := subB_iff.1 b3
   have hmu : (S.getD k []).length * S.length + k < (S.getD i []).length * S.length + i := by
    have hle := nodup_le hkn hsub
    rcases b4 with b4 | b4
    ·have := Nat.mul_le_mul_right S.length hle
     omega
    ·have : ∃ z, z ∈ S.getD i [] ∧ z ∉ S.getD k [] := Classical.byContradiction fun hne => by
       have : subB (S.getD i []) (S.getD k []) = true := subB_iff.2 fun x hx => Classical.byContradiction fun h => hne ⟨x, hx, h⟩
       rw [this] at b4; cases b4
     obtain ⟨z, z1, z2⟩ := this
     have hlt := nodup_lt hkn hsub z1 z2
     have := Nat.mul_le_mul_right S.length (show (S.getD k []).length + 1 ≤ (S.getD i []).length by omega)
     rw [Nat.add_mul] at this
     omega
   obtain ⟨j, j1, j2, j3⟩ := ih k (by omega) hkl (by intro e; rw [e] at b2; simp at b2)
   exact ⟨j, j1, j2, fun x hx => hsub x (j3 x hx)⟩
def killsB (m t : Mach) (w : RW) : Bool := !decide (runR m 0 w.2.1 = runR t 0 w.2.1)
def oneW (m : Mach) (W : List RW) (fs : List FA) (j : Nat) : RW := (W.find? (killsB m (mutF m (fs.getD j ⟨0, 0, 0, 0, 0, 0⟩)))).getD (true, [], .unk)
def keptJ (m : Mach) (W : List RW) (fs : List FA) : List Nat := (List.range fs.length).filter (keepB (fs.map (killW m W)))
theorem leastL_kept (m : Mach) (W : List RW) (fs : List FA) : leastL (fs.map (killW m W)) = (keptJ m W fs).map fun i : Nat => (i : Int) := by
 unfold leastL keptJ
 rw [List.length_map]
theorem keptJ_lt {m : Mach} {W : List RW} {fs : List FA} {j : Nat} (h : j ∈ keptJ m W fs) : j < fs.length ∧ keepB (fs.map (killW m W)) j = true := by
 unfold keptJ at h
 rw [List.mem_filter, List.mem_range] at h
 exact h
theorem sets_getD {m : Mach} {W : List RW} {fs : List FA} {j : Nat} (h : j < fs.length) : (fs.map (killW m W)).getD j [] = killW m W fs[j] := by
 rw [List.getD_eq_getElem?_getD, List.getElem?_map, List.getElem?_eq_getElem h]; rfl
theorem kept_word {m : Mach} {W : List RW} {fs : List FA} {j : Nat} (h : j ∈ keptJ m W fs) (hj : j < fs.length) : ∃ k, ∃ hk : k < W.length, killsB m (mutF m fs[j]) W[k] = true ∧ (∀ i (hi : i < k), killsB m (mutF m fs[j]) (W[i]'(by omega)) = false) ∧ oneW m W fs j = W[k] := by
 obtain ⟨_, h2⟩ := keptJ_lt h
 unfold keepB at h2
 rw [sets_getD hj] at h2
 simp only [Bool.and_eq_true, Bool.not_eq_true', decide_eq_false_iff_not] at h2
 have hne : killW m W fs[j] ≠ [] := fun e => h2.1 (by rw [e]; rfl)
 obtain ⟨x, hx⟩ := List.exists_mem_of_ne_nil _ hne
 obtain ⟨i, hi, _, hd⟩ := killL_mem.1 hx
 have hex : W.findIdx (killsB m (mutF m fs[j])) < W.length := List.findIdx_lt_length_of_exists ⟨W[i], List.getElem_mem hi, by simp [killsB, hd]⟩
 refine ⟨_, hex, List.findIdx_getElem, fun i hi => by simpa using List.not_of_lt_findIdx hi, ?_⟩
 unfold oneW
 rw [List.getD_eq_getElem?_getD, List.getElem?_eq_getElem hj]
 simp only [Option.getD_some]
 rw [List.find?_eq_getElem?_findIdx, List.getElem?_eq_getElem hex]; rfl
theorem agreeB_false {m t : Mach} {W : List RW} : agreeB m t W = false ↔ ∃ w ∈ W, killsB m t w = true := by
 unfold agreeB killsB
 rw [List.all_eq_false]
 simp
theorem least_words {m : Mach} {W : List RW} {fs : List FA} {i : Nat} (hi : i < fs.length) : agreeB m (mutF m fs[i]) W = agreeB m (mutF m fs[i]) ((keptJ m W fs).map (oneW m W fs)) := by
 have key : agreeB m (mutF m fs[i]) W = false ↔ agreeB m (mutF m fs[i]) ((keptJ m W fs).map (oneW m W fs)) = false := by
  simp only [agreeB_false]
  constructor
  ·rintro ⟨w, hw, hk⟩
   obtain ⟨k, hkl, rfl⟩ := List.mem_iff_getElem.1 hw
   have hne : (fs.map (killW m W)).getD i [] ≠ [] := by
    rw [sets_getD hi]
    refine List.ne_nil_of_mem (a := ((0 + k : Nat) : Int)) (killL_mem.2 ⟨k, hkl, rfl, ?_⟩)
    simpa [killsB] using hk
   obtain ⟨j, j1, j2, j3⟩ := kept_below (S := fs.map (killW m W)) (fun s hs => by
    obtain ⟨f, _, rfl⟩ := List.mem_map.1 hs
    exact killL_lt _ _) _ i (Nat.le_refl _) (by rw [List.length_map]; exact hi) hne
   rw [List.length_map] at j1
   have hjm : j ∈ keptJ m W fs := by unfold keptJ; rw [List.mem_filter, List.mem_range]; exact ⟨j1, j2⟩
   obtain ⟨q, hq, q1, _, q2⟩ := kept_word hjm j1
   refine ⟨_, List.mem_map.2 ⟨j, hjm, rfl⟩, ?_⟩
   rw [q2]
   rw [sets_getD j1, sets_getD hi] at j3
   have := j3 ((0 + q : Nat) : Int) (killL_mem.2 ⟨q, hq, rfl, by simpa [killsB] using q1⟩)
   obtain ⟨r, hr, e, hd⟩ := killL_mem.1 this
   obtain rfl : q = r := by omega
   simpa [killsB] using hd
  ·rintro ⟨w, hw, hk⟩
   obtain ⟨j, hj, rfl⟩ := List.mem_map.1 hw
   obtain ⟨k, hkl, _, _, e⟩ := kept_word hj (keptJ_lt hj).1
   rw [e] at hk
   exact ⟨_, List.getElem_mem hkl, hk⟩
 cases h1 : agreeB m (mutF m fs[i]) W
 ·exact (key.1 h1).symm
 ·cases h2 : agreeB m (mutF m fs[i]) ((keptJ m W fs).map (oneW m W fs))
  ·rw [key.2 h2] at h1; cases h1
  ·rfl
set_option maxHeartbeats 8000000 in
theorem ordersLeast_is {x : LM} (hx : x.Ok) {y : LW} (hy : y.Ok) (hyl : (y.ws.length : Int) ≤ 140737488355328) (hyw : ∀ z ∈ y.ws, (z.2.length : Int) ≤ 140737488355328) (nl : Bool) (ns : List Int) (c : Cp) (hns : ∀ n ∈ ns, 0 ≤ n ∧ n < 65536) (hl : (ns.length : Int) ≤ 140737488355328) :
  PureIs prog 5 [.ag x.cells, .ag y.cells, .sl nl (ns.map u16C) c] (.sc (.bool true)) := by
 have hv := LM.valid hx
 obtain ⟨h6, h3⟩ := LM.small hx
 have hnn := LM.noNil x
 have hmo := mOf_is hx
 have hM := LM.muts hx ns
 rw [LM.cells] at hmo ⊢
 generalize x.mach = m at hv h6 h3 hnn hmo hM
 have hms := hv.small
 have hi1 := hv.ins
 have q0 := listA_is hv nl ns c hns hl
 have h12 := (listA_ok (m := m) (ns := ns)).1
 generalize listA m ns = L at q0 hM h12
 have qw := of25_is hy hyl hyw
 have hWs := y.wsOk (n := m.ins) (by omega)
 have hraw : (sortW y.raw).length < 100000 := by
  have h1 := sortW_len y.raw
  have h2 : y.raw.length ≤ 40 := by rw [LW.raw, List.length_map, List.length_take]; omega
  omega
 have qv := within24_is (sortW y.raw).isEmpty (sortW y.raw) .unk m.ins (by omega) hraw (fun w hw => by
  obtain ⟨z, hz, e⟩ := sortW_mem hw
  obtain ⟨u, _, rfl⟩ := List.mem_map.1 hz
  rw [e]
  simp only [LW.rawOf, List.length_map, List.length_take]
  refine ⟨by omega, fun a ha => ?_⟩
  obtain ⟨b, _, rfl⟩ := List.mem_map.1 ha
  have h1 : y.alpha ≠ 0 := by unfold LW.alpha; have := Int.emod_nonneg y.inp (show (3 : Int) ≠ 0 by omega); omega
  have h2 : y.alpha ≤ 3 ∧ 0 < y.alpha := by unfold LW.alpha; have := Int.emod_nonneg y.inp (show (3 : Int) ≠ 0 by omega); have := Int.emod_lt_of_pos y.inp (show (0 : Int) < 3 by omega); omega
  have := Int.emod_nonneg b h1
  have := Int.emod_lt_of_pos b h2.2
  omega)
 have hSn := norefs_rw (sortW y.raw)
 have qv : PureIs prog 24 [.sl (sortW y.raw).isEmpty ((sortW y.raw).map rwC) .unk, .sc (.int .i64 m.ins)] (.sl (y.words m.ins).isEmpty ((y.words m.ins).map rwC) .unk) := qv
 generalize (sortW y.raw).map rwC = S0 at qw qv hSn
 generalize (sortW y.raw).isEmpty = e0 at qw qv
 generalize y.words m.ins = W at qv hWs
 obtain ⟨we, hwe⟩ : ∃ we, we = W.isEmpty := ⟨_, rfl⟩
 rw [← hwe] at qv
 have hW40 := hWs.l
 have hWlen : ∀ w ∈ W, w.2.1.length < 1000000 := fun w hw => by have := (hWs.w w hw).1; omega
 have hWin : ∀ w ∈ W, ∀ a ∈ w.2.1, 0 ≤ a ∧ a < m.ins := fun w hw => (hWs.w w hw).2
 have hWn := norefs_rw W
 have hWl : (W.map rwC).length = W.length := List.length_map _
 have q1 := least_is m hms hnn we W .unk hWlen (by omega) L.isEmpty L .unk (by omega)
 have q2 := distinct_is m hms hnn L.isEmpty L .unk (by omega)
 have hrd := hWs.ready hv
 unfold leastA at q1
 unfold distinctA at q2
 rw [if_neg (by unfold leastE; rw [hrd, hM.err]; simp)] at q1
 rw [if_neg (by rw [hM.err]; simp), hM.dist] at q2
 rw [leastL_kept] at q1
 obtain ⟨J, hJ⟩ : ∃ J, J = keptJ m W L := ⟨_, rfl⟩
 have hJlt : ∀ j ∈ J, j < L.length := fun j h => by rw [hJ] at h; exact (keptJ_lt h).1
 have hJw : ∀ j ∈ J, ∀ hj : j < L.length, ∃ k, ∃ hk : k < W.length, killsB m (mutF m L[j]) W[k] = true ∧ (∀ i (hi : i < k), killsB m (mutF m L[j]) (W[i]'(by omega)) = false) ∧ oneW m W L j = W[k] := fun j h hj => by rw [hJ] at h; exact kept_word h hj
 have hJl : J.length ≤ L.length := by
  rw [hJ, keptJ]
  have := List.length_filter_le (keepB (L.map (killW m W))) (List.range L.length)
  rw [List.length_range] at this; exact this
 have hag : ∀ i (hi : i < L.length), agreeB m (mutF m L[i]) W = agreeB m (mutF m L[i]) (J.map (oneW m W L)) := fun i hi => by rw [hJ]; exact least_words hi
 rw [← hJ] at q1
 clear hJ
 have hLn := norefs_faL L
 have hLl : (L.map FA.cells).length = L.length := List.length_map _
 have hEl : ((J.map fun i : Nat => (i : Int)).map intC).length = J.length := by simp
 have hEn := norefs_intC (J.map fun i : Nat => (i : Int))
 have hDl : ((dR (eqF m) L).map intC).length = L.length := by simp [dR]
 have hDn := norefs_intC (dR (eqF m) L)
 have hEe : (J.map fun i : Nat => (i : Int)).isEmpty = J.isEmpty := by cases J <;> rfl
 rw [hEe] at q1
 have hEi : ∀ i (h : i < J.length), ((J.map fun i : Nat => (i : Int)).map intC)[i]? = some [.sc (.int .i64 (J[i] : Int))] := fun i h => by
  rw [List.map_map, List.getElem?_map, List.getElem?_eq_getElem h]; rfl
 have hDi : ∀ i (h : i < L.length), ∃ k : Nat, k ≤ i ∧ ((dR (eqF m) L).map intC)[i]? = some [.sc (.int .i64 (k : Int))] ∧ ∃ hk : k < L.length, agreeB m (mutF m L[i]) W = agreeB m (mutF m L[k]) W := fun i h => by
  obtain ⟨k, k1, _, k2, k3, k4⟩ := hM.cls h
  refine ⟨k, k1, ?_, k3, ?_⟩
  ·rw [dR, List.map_map, List.getElem?_map, List.getElem?_eq_getElem h]
   simp only [Option.map_some, Function.comp, k2]; rfl
  ·rw [hM.eq (List.getElem_mem k3) (List.getElem_mem h)] at k4
   have hw : ∀ w ∈ W, runR (mutF m L[i]) 0 w.2.1 = runR (mutF m L[k]) 0 w.2.1 := fun w hw => (k4 w.2.1 fun a ha => by have := hWin w hw a ha; omega).symm
   unfold agreeB
   rw [Bool.eq_iff_iff, List.all_eq_true, List.all_eq_true]
   exact ⟨fun h w hw1 => by rw [← hw w hw1]; exact h w hw1, fun h w hw1 => by rw [hw w hw1]; exact h w hw1⟩
 generalize (J.map fun i : Nat => (i : Int)).map intC = E at q1 hEl hEn hEi
 generalize (dR (eqF m) L).map intC = D at q2 hDl hDn hDi
 rw [Mach.cells] at hmo q0 q1 q2
 rw [LW.cells] at qw ⊢
 refine PureIs.of1 5 [6, 7, 8, 9, 10, 11, 12, 13, 14, 15, 16, 17, 18, 19, 55, 59, 75, 81, 92, 109, 141] func5 ntmps5 results5 fun _ => ?_
 refine EvC.a ?_
 refine EvC.z 0 ?_
 refine EvC.z 1 ?_
 refine EvC.k1 ?_ (c1 := .ca hmo)
 refine EvC.z 5 ?_
 refine EvC.k2D mixed ?_ (c1 := .ca qw) (c2 := .ca qv) (h3 := by simp only [go_sem, hSn, hWn] <;> rfl)
 refine EvC.k1 ?_ (c1 := .ca q0) (h2 := by simp only [go_sem, hLn] <;> rfl)
 refine EvC.k1 ?_ (c1 := .ca q1) (h2 := by simp only [go_sem, hEn] <;> rfl) (k2 := by simp [hEn])
 refine EvC.k1 ?_ (c1 := .ca q2) (h2 := by simp only [go_sem, hDn] <;> rfl) (k2 := by simp [hDn])
 refine EvC.seq ?_
 refine EvC.g ?_ (h := by simp only [go_sem, hDl, hLl, hDn, hLn] <;> rfl)
 refine EvC.cs ?_
 refine EvC.a ?_
 refine EvC.seq ?_
 refine EvC.a ?_
 refine EvC.block ?_
 obtain ⟨F, hF⟩ : ∃ F, F = J.map (oneW m W L) := ⟨_, rfl⟩
 have hFl : F.length = J.length := by rw [hF, List.length_map]
 have hFm : ∀ w ∈ F, w ∈ W := fun w hw => by
  rw [hF] at hw
  obtain ⟨j, hj, rfl⟩ := List.mem_map.1 hw
  obtain ⟨k, hk, _, _, e⟩ := hJw j hj (hJlt j hj)
  rw [e]; exact List.getElem_mem hk
 rw [← hF] at hag
 refine EvC.loopS (σ := Nat) (fun i => ⟨[(7, .ia [.sc (.int .i64 m.ins), .sc (.int .i64 m.outs), .sl m.nl (m.rows.map rowC) .unk]), (8, .sl we (W.map rwC) .unk), (9, .sl L.isEmpty (L.map FA.cells) .unk), (10, .sl J.isEmpty E .full), (12, .sl L.isEmpty D .full), (14, .tl 0 i (i == 0)), (15, .sc (.int .i64 i))], [], [(0, .arr 1 ((F.take i).map rwC) true)], 1⟩) (fun i => J.length - i) (fun i => i ≤ J.length) [7, 8, 9, 10, 12, 14, 15] 1 ?_ ?_
 ·exact ⟨[(47, 0)], 0, rfl, (by simp only [go_sem, Int.natCast_zero, List.take_zero, List.map_nil] <;> rfl), Nat.zero_le _⟩
 intro i hi
 have hPn := norefs_rw (F.take i)
 have hPl : ((F.take i).map rwC).length = i := by rw [List.length_map, List.length_take]; omega
 refine EvC.seq ?_
 refine EvC.a ?_ (by simp only [go_sem, hEl, hEn] <;> rfl)
 refine EvC.cond (by simp only [go_sem] <;> rfl) (fun hc => ?_) (fun hc => ?_)
 rotate_left
 ·refine EvC.exit ?_
  obtain rfl : i = J.length := by have : ¬ i < J.length := (by simpa using hc); omega
  rw [show F.take J.length = F from List.take_of_length_le (by omega)] at hPn hPl ⊢
  have hPl2 : (F.map rwC).length = J.length := hPl
  refine EvC.frz 0 (by simp only [go_sem, hPn, hPl] <;> rfl) ?_
  generalize (J.length == 0) = ne
  refine EvC.seq ?_
  refine EvC.a ?_ (by simp only [go_sem, hPn] <;> rfl)
  refine EvC.block ?_
  refine EvC.loopS (σ := Nat) (fun i => ⟨[(7, .ia [.sc (.int .i64 m.ins), .sc (.int .i64 m.outs), .sl m.nl (m.rows.map rowC) .unk]), (8, .sl we (W.map rwC) .unk), (9, .sl L.isEmpty (L.map FA.cells) .unk), (12, .sl L.isEmpty D .full), (14, .sl ne (F.map rwC) .unk), (18, .sc (.int .i64 i))], [], [], 0⟩) (fun i => L.length - i) (fun i => i ≤ L.length) [7, 8, 9, 12, 14, 18] 0 ?_ ?_
  ·exact ⟨[], 0, rfl, (by simp only [go_sem, Int.natCast_zero, hPn] <;> rfl), Nat.zero_le _⟩
  intro i hi
  refine EvC.seq ?_
  refine EvC.a ?_ (by simp only [go_sem, hLl] <;> rfl)
  refine EvC.cond (by simp only [go_sem] <;> rfl) (fun hc => ?_) (fun hc => ?_)
  rotate_left
  ·refine EvC.exit ?_
   refine EvC.k1 ?_ (c1 := .ca lives_is)
   refine EvC.rz ?_
   simp only [go_sem]
  have hil : i < L.length := by simpa using hc
  clear hc
  have hfe : L[i]? = some (L[i]'hil) := List.getElem?_eq_getElem hil
  have hfm := List.getElem_mem hil
  obtain ⟨k, k1, k2, k3, k4⟩ := hDi i hil
  have hge : L[k]? = some (L[k]'k3) := List.getElem?_eq_getElem k3
  have hgm := List.getElem_mem k3
  have qa := apply55_is hv _ (hM.b _ hfm)
  have qb := apply55_is hv _ (hM.b _ hgm)
  have qf := agree_is hv (hM.mv hfm) we W .unk hWin hWin hWlen (by omega)
  have qg := agree_is hv (hM.mv hfm) ne F .unk (fun w hw => hWin w (hFm w hw)) (fun w hw => hWin w (hFm w hw)) (fun w hw => hWlen w (hFm w hw)) (by omega)
  have qh := agree_is hv (hM.mv hgm) we W .unk hWin hWin hWlen (by omega)
  rw [← hag i hil] at qg
  rw [← k4] at qh
  have hA1 : AV.norefs (mutF m (L[i]'hil)).cells = true := norefs_mcells _
  have hA2 : AV.norefs (mutF m (L[k]'k3)).cells = true := norefs_mcells _
  generalize agreeB m (mutF m (L[i]'hil)) W = b at qf qg qh
  generalize mutF m (L[i]'hil) = A at qa qf qg hA1
  generalize mutF m (L[k]'k3) = B at qb qh hA2
  generalize L[i]'hil = f at hfe qa
  generalize L[k]'k3 = g at hge qb
  have hfc : (L.map FA.cells)[i]? = some f.cells := by rw [List.getElem?_map, hfe]; rfl
  have hgc : (L.map FA.cells)[k]? = some g.cells := by rw [List.getElem?_map, hge]; rfl
  have hit : (i : Int).toNat = i := Int.toNat_natCast i
  have hkt : (k : Int).toNat = k := Int.toNat_natCast k
  rw [FA.cells] at hfc hgc
  simp only [FA.cells, Mach.cells] at qa qb qf qg qh hA1 hA2
  have hbb : (b == b) = true := by cases b <;> rfl
  have d1 : decide ((k : Int) < 0) = false := decide_eq_false (by omega)
  have d2 : decide ((i : Int) < k) = false := decide_eq_false (by omega)
  refine EvC.skip ?_
  refine EvC.seq ?_
  refine EvC.block ?_
  refine EvC.k1D mixed ?_ (h1 := by simp only [go_sem, hfc, hit, hLl] <;> rfl) (k1 := by simp; try omega) (c1 := .ca qa) (h2 := by simp only [go_sem, hA1] <;> rfl)
  refine EvC.z 10 ?_
  refine EvC.seq ?_
  refine EvC.k2D mixed ?_ (h1 := by simp only [go_sem, hWn, hPn] <;> rfl) (c1 := .ca qf) (h2 := by simp only [go_sem, hWn, hPn] <;> rfl) (c2 := .ca qg)
  refine EvC.cs ?_ (by simp only [go_sem, hbb] <;> rfl)
  apply EvC.seq
  apply EvC.drw mixed
  ·apply Tr.run
   ·simp only [go_sem, k2, hgc, hit, hkt, hLl, hDl, d1, d2, hWn] <;> rfl
   ·simp; try omega
   apply Tr.cons
   ·exact .cg (qf)
   apply Tr.run
   ·simp only [go_sem, k2, hgc, hit, hkt, hLl, hDl, d1, d2, hWn] <;> rfl
   ·simp; try omega
   apply Tr.cons
   ·exact .cg (qb)
   apply Tr.run
   ·simp only [go_sem, k2, hgc, hit, hkt, hLl, hDl, d1, d2, hWn] <;> rfl
   ·simp; try omega
   apply Tr.cons
   ·exact .cg (qh)
   apply Tr.done
   ·simp only [go_sem, hA2, hbb] <;> rfl
   ·simp
  ·kernel_rfl
  refine EvC.cs ?_ (by simp only [go_sem, hbb] <;> rfl)
  refine EvC.b ?_ (hok := by exact inI64_of (by omega) (by omega))
  exact ⟨[], i + 1, rfl, (by simp only [go_sem, Int.natCast_add, Int.natCast_one, hPn] <;> rfl), hil, by omega⟩
 have hil : i < J.length := by simpa using hc
 clear hc
 have hjm := List.getElem_mem hil
 have hjl := hJlt _ hjm
 have hej := hEi i hil
 obtain ⟨q, hq, q1', q2', q3'⟩ := hJw _ hjm hjl
 have htk : F.take (i + 1) = F.take i ++ [W[q]] := by
  rw [List.take_succ_eq_append_getElem (by omega)]; simp [hF, q3']
 generalize J[i]'hil = j at hjm hjl hej q1' q2' htk
 have hfe : L[j]? = some (L[j]'hjl) := List.getElem?_eq_getElem hjl
 have hfm := List.getElem_mem hjl
 have qk := refKilled_is hv (L[j]'hjl) (hM.b _ hfm) (hM.mv hfm) we W .unk hWin hWlen (by omega)
 rw [← hwe] at qk
 have hkl : ((killedL m (mutF m (L[j]'hjl)) W).map boolC).length = W.length := by simp [killedL]
 have hkn := norefs_bools (killedL m (mutF m (L[j]'hjl)) W)
 have hki : ∀ k (h : k < W.length), ((killedL m (mutF m (L[j]'hjl)) W).map boolC)[k]? = some [.sc (.bool (killsB m (mutF m (L[j]'hjl)) W[k]))] := fun k h => by
  rw [killedL, List.map_map, List.getElem?_map, List.getElem?_eq_getElem h]; rfl
 generalize (killedL m (mutF m (L[j]'hjl)) W).map boolC = KL at qk hkl hkn hki
 generalize L[j]'hjl = f at hfe qk hki q1' q2'
 have hfc : (L.map FA.cells)[j]? = some f.cells := by rw [List.getElem?_map, hfe]; rfl
 have hit : (i : Int).toNat = i := Int.toNat_natCast i
 have hjt : (j : Int).toNat = j := Int.toNat_natCast j
 rw [FA.cells] at hfc
 simp only [FA.cells, Mach.cells] at qk
 refine EvC.skip ?_
 refine EvC.seq ?_
 refine EvC.block ?_
 refine EvC.k1D mixed ?_ (h1 := by simp only [go_sem, hej, hfc, hit, hjt, hLl, hEl, hWn, hPn, hPl] <;> rfl) (k1 := by simp; try omega) (c1 := .ca qk) (h2 := by simp only [go_sem, hkn, hPn, hPl] <;> rfl)
 refine EvC.a ?_ (by simp only [go_sem, hkn, hPn, hPl] <;> rfl)
 refine EvC.block ?_
 refine EvC.loopS (σ := Nat) (fun k => ⟨[(7, .ia [.sc (.int .i64 m.ins), .sc (.int .i64 m.outs), .sl m.nl (m.rows.map rowC) .unk]), (8, .sl we (W.map rwC) .unk), (9, .sl L.isEmpty (L.map FA.cells) .unk), (10, .sl J.isEmpty E .full), (12, .sl L.isEmpty D .full), (14, .tl 0 i (i == 0)), (15, .sc (.int .i64 i)), (16, .sl we KL .unk), (17, .sc (.int .i64 k))], [], [(0, .arr 1 ((F.take i).map rwC) true)], 1⟩) (fun k => q - k) (fun k => k ≤ q) [7, 8, 9, 10, 12, 14, 15, 16, 17] 1 ?_ ?_
 ·exact ⟨[(0, 0)], 0, rfl, (by simp only [go_sem, Int.natCast_zero, hPn, hPl] <;> rfl), Nat.zero_le _⟩
 intro k hk
 have hkW : k < W.length := by omega
 have hkt : (k : Int).toNat = k := Int.toNat_natCast k
 have hkg := hki k hkW
 refine EvC.seq ?_
 refine EvC.a ?_ (by simp only [go_sem, hWl, hWn, hPn, hPl] <;> rfl)
 refine EvC.cr ?_ (by simp only [go_sem, decide_eq_true (show (k : Int) < W.length by omega)] <;> rfl)
 refine EvC.seq ?_
 refine EvC.block ?_
 by_cases hkq : k < q
 ·rw [q2' k hkq] at hkg
  refine EvC.a ?_ (by simp only [go_sem, hkg, hkt, hkl, hPn, hPl] <;> rfl) (by simp; try omega)
  refine EvC.cs ?_
  refine EvC.b ?_ (by simp only [go_sem, hPn, hPl] <;> rfl) (by exact inI64_of (by omega) (by omega))
  exact ⟨[(0, 0)], k + 1, rfl, (by simp only [go_sem, Int.natCast_add, Int.natCast_one, hPn, hPl] <;> rfl), hkq, by omega⟩
 obtain rfl : k = q := by omega
 rw [q1'] at hkg
 have hge : W[k]? = some (W[k]'hkW) := List.getElem?_eq_getElem hkW
 generalize W[k]'hkW = w at hge htk
 have hrg := rw_get hge
 have hrw : rwC w = [.sl w.1 (w.2.1.map intC) w.2.2] := rfl
 have hs : (F.take i).map rwC ++ [[.sl w.1 (w.2.1.map intC) w.2.2]] = (F.take (i + 1)).map rwC := by rw [htk, List.map_append, ← hrw]; rfl
 have hP2 := norefs_rw (F.take (i + 1))
 have hP3 : ((F.take (i + 1)).map rwC).length = i + 1 := by rw [List.length_map, List.length_take]; omega
 have hP4 : (F.take (i + 1)).length = i + 1 := by rw [List.length_take]; omega
 have hr2 : room (i + 1) 24 = true := by simp only [room_eq, decide_eq_true_eq]; omega
 have hne : (i + 1 == 0) = false := rfl
 refine EvC.a ?_ (by simp only [go_sem, hkg, hkt, hkl, hPn, hPl] <;> rfl) (by simp; try omega)
 refine EvC.ct ?_
 refine EvC.a ?_ (by simp only [go_sem, hrg, hkt, hWl, hs, hPl, hP4] <;> rfl) (by simp [hr2]; try omega)
 refine EvC.exit ?_
 refine EvC.b ?_ (by simp only [go_sem, hP4] <;> rfl) (by exact inI64_of (by omega) (by omega))
 exact ⟨[(0, 0)], i + 1, rfl, (by simp only [go_sem, hP2, hP3, hP4, hne, Int.natCast_add, Int.natCast_one] <;> rfl), hil, by omega⟩
end Go.Avl
