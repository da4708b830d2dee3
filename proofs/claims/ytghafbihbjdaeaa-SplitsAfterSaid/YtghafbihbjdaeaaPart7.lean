/-
  Lemmas.
  Lemmas.
  Lemmas.
  Lemmas.
  Lemmas.
  Lemmas.
-/
import Derived.Test.YtghafbihbjdaeaaPart6
set_option linter.unusedSimpArgs false
set_option linter.unusedVariables false
set_option linter.unnecessarySimpa false
set_option linter.deprecated false
namespace Go.Avl
open Go Go.Proofs.Try
set_option maxRecDepth 10000
set_option linter.unusedSimpArgs false

/-- What a round finds. -/
def nowOf (m : Mach) (W : WT) (n : Nat) (p : Nat × Nat) : Option ((Nat × Nat) × List Int) :=
  if W p.1 p.2 = [] ∧ stepW m W p.1 p.2 n ≠ [] then some (p, stepW m W p.1 p.2 n) else none
def nowL (m : Mach) (W : WT) (n : Nat) (l : List (Nat × Nat)) : NowT := l.filterMap (nowOf m W n)
def putOne (W : WT) (p : (Nat × Nat) × List Int) : WT := updW (updW W p.1.1 p.1.2 p.2) p.1.2 p.1.1 p.2
def putAll (W : WT) (l : NowT) : WT := l.foldl putOne W
def roundW (m : Mach) (W : WT) (n : Nat) : WT := putAll W (nowL m W n (pairsN m.rows.length))
def tabAt (m : Mach) : Nat → WT
  | 0 => fun _ _ => []
  | k + 1 => roundW m (tabAt m k) (k + 1)
theorem mem_nowL {m : Mach} {W : WT} {n : Nat} {p : (Nat × Nat) × List Int} (h : p ∈ nowL m W n (pairsN m.rows.length)) : p.1.1 < p.1.2 ∧ p.1.2 < m.rows.length ∧ W p.1.1 p.1.2 = [] ∧ p.2 = stepW m W p.1.1 p.1.2 n ∧ p.2 ≠ [] := by
  obtain ⟨q, h1, h2⟩ := List.mem_filterMap.1 h
  unfold nowOf at h2
  split at h2
  · rename_i h3
    cases h2
    have := mem_pairsN h1
    exact ⟨this.1, this.2, h3.1, rfl, h3.2⟩
  · cases h2
theorem stepW_len (m : Mach) (W : WT) (s t n : Nat) : stepW m W s t n = [] ∨ (stepW m W s t n).length = n := by
  unfold stepW
  split
  · exact .inr ‹_›
  · exact .inl rfl
theorem putAll_or : ∀ (l : NowT) (W : WT) (a b : Nat), putAll W l a b = W a b ∨ ∃ p ∈ l, putAll W l a b = p.2
  | [], W, a, b => .inl rfl
  | p :: l, W, a, b => by
    rcases putAll_or l (putOne W p) a b with h | ⟨q, h1, h2⟩
    · show putAll (putOne W p) l a b = _ ∨ _
      by_cases h3 : putOne W p a b = W a b
      · exact .inl (h.trans h3)
      · refine .inr ⟨p, List.mem_cons_self, ?_⟩
        show putAll (putOne W p) l a b = _
        rw [h]
        unfold putOne updW at h3 ⊢
        by_cases e1 : a = p.1.2 ∧ b = p.1.1
        · rw [if_pos e1]
        · rw [if_neg e1] at h3 ⊢
          by_cases e2 : a = p.1.1 ∧ b = p.1.2
          · rw [if_pos e2]
          · rw [if_neg e2] at h3; exact absurd rfl h3
    · exact .inr ⟨q, List.mem_cons_of_mem _ h1, h2⟩
theorem tabAt_len (m : Mach) : ∀ (k a b : Nat), (tabAt m k a b).length ≤ k
  | 0, _, _ => Nat.le_refl _
  | k + 1, a, b => by
    rcases putAll_or (nowL m (tabAt m k) (k + 1) (pairsN m.rows.length)) (tabAt m k) a b with h | ⟨p, h1, h2⟩
    · show (putAll _ _ a b).length ≤ _
      rw [h]; exact Nat.le_succ_of_le (tabAt_len m k a b)
    · show (putAll _ _ a b).length ≤ _
      rw [h2]
      obtain ⟨_, _, _, h3, _⟩ := mem_nowL h1
      rcases stepW_len m (tabAt m k) p.1.1 p.1.2 (k + 1) with h | h
      · rw [h3, h]; simp
      · rw [h3, h]; omega

theorem inP_len (s : Nat) : ∀ (k t : Nat), (inP s k t).length = k
  | 0, _ => rfl
  | k + 1, t => by simp [inP, inP_len s k]
theorem outP_len (n : Nat) : ∀ (k s : Nat), (outP n k s).length ≤ k * n
  | 0, _ => by simp [outP]
  | k + 1, s => by
    have := outP_len n k (s + 1)
    simp only [outP, List.length_append, inP_len, Nat.add_mul]
    omega
theorem pairsN_len (n : Nat) : (pairsN n).length ≤ n * n := outP_len n n 0
def bodyQ (W : WT) (n : Nat) (now : NowT) (w : List Int) (e : Exit) (st' : St) : Prop := e = .ret ∧ ∃ cp, (w ≠ [] → cp = .full) ∧ st' = ⟨[(10, .sl w.isEmpty (w.map intC) cp)], [], memF W n now, 5⟩
theorem pair_take {α : Type} {l : List α} {k : Nat} (h : k < l.length) : l.take (k + 1) = l.take k ++ [l[k]] := by
  rw [List.take_add_one, List.getElem?_eq_getElem h]; rfl

theorem separated_is {m : Mach} (hv : Valid m) : PureIs prog 33 [.ag m.cells] (.ia (wTab (tabAt m (max m.rows.length 2 - 1)))) := by
  have hrw := hv.rows
  refine PureIs.of (nv := 9) (hid := [10, 18, 22, 23, 24, 32, 33, 34, 35, 36, 37, 40, 48, 49, 50, 51, 54, 56, 58, 60, 63]) func33 rfl (by kernel_rfl) (by simp [ntmps33]) fun _ => ?_
  rw [ntmps33, results33]
  refine EvC.seq (EvC.rg (by (simp only [go_sem, Nat.reduceLT, Nat.reduceLeDiff, Nat.reduceEqDiff, Nat.reduceAdd, Nat.reduceSub, Nat.reduceMul, Nat.reduceBEq, Int.reduceToNat, Int.reduceEq, Int.reduceLT, Int.reduceLE, Int.reduceAdd, ↓reduceIte, reduceCtorEq, Mach.cells]) <;> rfl) (by simp) ?_)
  refine EvC.frzB 0 (by (simp only [go_sem, Nat.reduceLT, Nat.reduceLeDiff, Nat.reduceEqDiff, Nat.reduceAdd, Nat.reduceSub, Nat.reduceMul, Nat.reduceBEq, Int.reduceToNat, Int.reduceEq, Int.reduceLT, Int.reduceLE, Int.reduceAdd, ↓reduceIte, reduceCtorEq]) <;> rfl) ?_
  refine EvC.seq (EvC.rg (by (simp only [go_sem, Nat.reduceLT, Nat.reduceLeDiff, Nat.reduceEqDiff, Nat.reduceAdd, Nat.reduceSub, Nat.reduceMul, Nat.reduceBEq, Int.reduceToNat, Int.reduceEq, Int.reduceLT, Int.reduceLE, Int.reduceAdd, ↓reduceIte, reduceCtorEq]) <;> rfl) (by simp [wTab_all]) ?_)
  refine EvC.seq ?_
  refine EvC.seq (EvC.rg (by (simp only [go_sem, Nat.reduceLT, Nat.reduceLeDiff, Nat.reduceEqDiff, Nat.reduceAdd, Nat.reduceSub, Nat.reduceMul, Nat.reduceBEq, Int.reduceToNat, Int.reduceEq, Int.reduceLT, Int.reduceLE, Int.reduceAdd, ↓reduceIte, reduceCtorEq]) <;> rfl) (by simp) ?_)
  refine EvC.block ?_  -- 0
  refine EvC.loopS (σ := Nat) (fun k => ⟨[(1, .ia m.cells), (3, .rf 1 0), (4, .rf 2 0)], [], [(0, .cells (wTab (tabAt m k))), (1, .cells [.rf 0 0]), (2, .cells [.sc (.int .i64 ((k : Int) + 1))])], 3⟩) (fun k => m.rows.length + 2 - k)
    (fun k => k + 1 ≤ max m.rows.length 2) [1, 3, 4] 3 ?_ ?_
  · exact ⟨[(3, 0), (4, 1), (6, 2)], 0, rfl, (by (simp only [go_sem, Nat.reduceLT, Nat.reduceLeDiff, Nat.reduceEqDiff, Nat.reduceAdd, Nat.reduceSub, Nat.reduceMul, Nat.reduceBEq, Int.reduceToNat, Int.reduceEq, Int.reduceLT, Int.reduceLE, Int.reduceAdd, ↓reduceIte, reduceCtorEq, Mach.cells, tabAt, Int.natCast_zero, Int.zero_add]) <;> rfl), by omega⟩
  intro k hk
  obtain ⟨W, hWk⟩ : ∃ W, W = tabAt m k := ⟨_, rfl⟩
  obtain ⟨n, hn⟩ : ∃ n, n = k + 1 := ⟨_, rfl⟩
  have hnI : (k : Int) + 1 = (n : Int) := by omega
  have hWl : ∀ a b, (W a b).length ≤ k := fun a b => by rw [hWk]; exact tabAt_len m k a b
  rw [← hWk, hnI]
  refine EvC.seq ?_
  refine EvC.seq (EvC.rg (by (simp only [go_sem, Nat.reduceLT, Nat.reduceLeDiff, Nat.reduceEqDiff, Nat.reduceAdd, Nat.reduceSub, Nat.reduceMul, Nat.reduceBEq, Int.reduceToNat, Int.reduceEq, Int.reduceLT, Int.reduceLE, Int.reduceAdd, ↓reduceIte, reduceCtorEq, Mach.cells]) <;> rfl) (by simp) ?_)
  refine EvC.cond (by (simp only [go_sem, Nat.reduceLT, Nat.reduceLeDiff, Nat.reduceEqDiff, Nat.reduceAdd, Nat.reduceSub, Nat.reduceMul, Nat.reduceBEq, Int.reduceToNat, Int.reduceEq, Int.reduceLT, Int.reduceLE, Int.reduceAdd, ↓reduceIte, reduceCtorEq]) <;> rfl) (fun hc => ?_) (fun hc => ?_)
  rotate_left
  · refine EvC.exit ?_  -- 0
    have hn2 : n = max m.rows.length 2 := by
      by_cases h2 : (m.rows.length : Int) ≤ 2 <;> simp [h2] at hc <;> omega
    refine EvC.seq (EvC.rg (by (simp only [go_sem, Nat.reduceLT, Nat.reduceLeDiff, Nat.reduceEqDiff, Nat.reduceAdd, Nat.reduceSub, Nat.reduceMul, Nat.reduceBEq, Int.reduceToNat, Int.reduceEq, Int.reduceLT, Int.reduceLE, Int.reduceAdd, ↓reduceIte, reduceCtorEq]) <;> rfl) (by simp) ?_)
    refine EvC.frzB 0 (by (simp only [go_sem, Nat.reduceLT, Nat.reduceLeDiff, Nat.reduceEqDiff, Nat.reduceAdd, Nat.reduceSub, Nat.reduceMul, Nat.reduceBEq, Int.reduceToNat, Int.reduceEq, Int.reduceLT, Int.reduceLE, Int.reduceAdd, ↓reduceIte, reduceCtorEq]) <;> rfl) ?_
    refine EvC.ret ⟨.inl rfl, _, (by (simp only [go_sem, Nat.reduceLT, Nat.reduceLeDiff, Nat.reduceEqDiff, Nat.reduceAdd, Nat.reduceSub, Nat.reduceMul, Nat.reduceBEq, Int.reduceToNat, Int.reduceEq, Int.reduceLT, Int.reduceLE, Int.reduceAdd, ↓reduceIte, reduceCtorEq]) <;> rfl), ?_, rfl⟩
    simp only [go_sem, Nat.reduceLT, Nat.reduceLeDiff, Nat.reduceEqDiff, Nat.reduceAdd, Nat.reduceSub, Nat.reduceMul, Nat.reduceBEq, Int.reduceToNat, Int.reduceEq, Int.reduceLT, Int.reduceLE, Int.reduceAdd, ↓reduceIte, reduceCtorEq]
    rw [hWk, show max m.rows.length 2 - 1 = k by omega]
  have hn2 : n < max m.rows.length 2 := by
    by_cases h2 : (m.rows.length : Int) ≤ 2 <;> simp [h2] at hc <;> omega
  refine EvC.skip ?_
  refine EvC.seq ?_
  refine EvC.block ?_  -- 1
  refine EvC.seq (EvC.rg (by (simp only [go_sem, Nat.reduceLT, Nat.reduceLeDiff, Nat.reduceEqDiff, Nat.reduceAdd, Nat.reduceSub, Nat.reduceMul, Nat.reduceBEq, Int.reduceToNat, Int.reduceEq, Int.reduceLT, Int.reduceLE, Int.reduceAdd, ↓reduceIte, reduceCtorEq]) <;> rfl) (by simp) ?_)
  refine EvC.seq ?_
  apply EvC.seq
  apply EvC.tr
  · apply Tr.run
    · (simp only [go_sem, Nat.reduceLT, Nat.reduceLeDiff, Nat.reduceEqDiff, Nat.reduceAdd, Nat.reduceSub, Nat.reduceMul, Nat.reduceBEq, Int.reduceToNat, Int.reduceEq, Int.reduceLT, Int.reduceLE, Int.reduceAdd, ↓reduceIte, reduceCtorEq, Mach.cells]) <;> rfl
    · simp
    apply Tr.cons
    · exact .call rfl rfl (by (simp only [go_sem, Nat.reduceLT, Nat.reduceLeDiff, Nat.reduceEqDiff, Nat.reduceAdd, Nat.reduceSub, Nat.reduceMul, Nat.reduceBEq, Int.reduceToNat, Int.reduceEq, Int.reduceLT, Int.reduceLE, Int.reduceAdd, ↓reduceIte, reduceCtorEq]) <;> rfl) (by (simp only [go_sem, Nat.reduceLT, Nat.reduceLeDiff, Nat.reduceEqDiff, Nat.reduceAdd, Nat.reduceSub, Nat.reduceMul, Nat.reduceBEq, Int.reduceToNat, Int.reduceEq, Int.reduceLT, Int.reduceLE, Int.reduceAdd, ↓reduceIte, reduceCtorEq]) <;> rfl) (by (simp only [go_sem, Nat.reduceLT, Nat.reduceLeDiff, Nat.reduceEqDiff, Nat.reduceAdd, Nat.reduceSub, Nat.reduceMul, Nat.reduceBEq, Int.reduceToNat, Int.reduceEq, Int.reduceLT, Int.reduceLE, Int.reduceAdd, ↓reduceIte, reduceCtorEq]) <;> rfl) (by (simp only [go_sem, Nat.reduceLT, Nat.reduceLeDiff, Nat.reduceEqDiff, Nat.reduceAdd, Nat.reduceSub, Nat.reduceMul, Nat.reduceBEq, Int.reduceToNat, Int.reduceEq, Int.reduceLT, Int.reduceLE, Int.reduceAdd, ↓reduceIte, reduceCtorEq]) <;> rfl) (by (simp only [go_sem, Nat.reduceLT, Nat.reduceLeDiff, Nat.reduceEqDiff, Nat.reduceAdd, Nat.reduceSub, Nat.reduceMul, Nat.reduceBEq, Int.reduceToNat, Int.reduceEq, Int.reduceLT, Int.reduceLE, Int.reduceAdd, ↓reduceIte, reduceCtorEq]) <;> rfl) (pairs_is m)
    apply Tr.done
    · (simp only [go_sem, Nat.reduceLT, Nat.reduceLeDiff, Nat.reduceEqDiff, Nat.reduceAdd, Nat.reduceSub, Nat.reduceMul, Nat.reduceBEq, Int.reduceToNat, Int.reduceEq, Int.reduceLT, Int.reduceLE, Int.reduceAdd, ↓reduceIte, reduceCtorEq]) <;> rfl
    · simp
  refine EvC.block ?_  -- 2
  refine EvC.ownC 9 0 4 (by (simp only [go_sem, Nat.reduceLT, Nat.reduceLeDiff, Nat.reduceEqDiff, Nat.reduceAdd, Nat.reduceSub, Nat.reduceMul, Nat.reduceBEq, Int.reduceToNat, Int.reduceEq, Int.reduceLT, Int.reduceLE, Int.reduceAdd, ↓reduceIte, reduceCtorEq]) <;> rfl) ?_
  refine EvC.gcTo ⟨[(1, .ia m.cells), (3, .rf 1 0), (4, .rf 2 0), (5, .rf 3 0), (22, .fn 62 [.ia m.cells])], [], memF W n [], 5⟩ [1, 3, 4, 5, 22] [(0, 0), (1, 1), (2, 2), (9, 3), (12, 4)] (by rfl) (by (simp only [go_sem, Nat.reduceLT, Nat.reduceLeDiff, Nat.reduceEqDiff, Nat.reduceAdd, Nat.reduceSub, Nat.reduceMul, Nat.reduceBEq, Int.reduceToNat, Int.reduceEq, Int.reduceLT, Int.reduceLE, Int.reduceAdd, ↓reduceIte, reduceCtorEq, memF, Mach.cells]) <;> rfl) ?_
  have hlp : (pairsN m.rows.length).length = (pairsN m.rows.length).length := rfl
  refine EvC.range (σ := NowT) (gf := 62) (caps := [.ia m.cells]) (xs := (pairsN m.rows.length).map pairC) rfl (fun _ => rfl) (by (simp only [go_sem, Nat.reduceLT, Nat.reduceLeDiff, Nat.reduceEqDiff, Nat.reduceAdd, Nat.reduceSub, Nat.reduceMul, Nat.reduceBEq, Int.reduceToNat, Int.reduceEq, Int.reduceLT, Int.reduceLE, Int.reduceAdd, ↓reduceIte, reduceCtorEq]) <;> rfl) rfl (pairs1_seq m (by omega)) ?_ (by simp) (Nat.zero_le _)
    (fun _ now => memF W n now) (fun j now => now = nowL m W n ((pairsN m.rows.length).take j)) ⟨[], rfl, rfl⟩ ?_ ?_
  · intro x hx
    obtain ⟨z, _, rfl⟩ := List.mem_map.1 hx
    rfl
  · rintro j now lp hj hnow
    have hj' : j < (pairsN m.rows.length).length := by simpa using hj
    have hz : ((pairsN m.rows.length).map pairC)[j] = pairC (pairsN m.rows.length)[j] := by simp
    have hp := mem_pairsN (List.getElem_mem hj')
    have htk := pair_take hj'
    rw [hz]
    generalize (pairsN m.rows.length)[j] = p at hp htk
    obtain ⟨s, t⟩ := p
    simp only at hp
    have hnx : nowL m W n ((pairsN m.rows.length).take (j + 1)) = now ++ nowL m W n [(s, t)] := by rw [htk, nowL, List.filterMap_append, hnow]; rfl
    have hnl : now.length < 10000 := by
      have h1 : now.length ≤ ((pairsN m.rows.length).take j).length := by rw [hnow]; exact List.length_filterMap_le _ _
      have h2 : (pairsN m.rows.length).length < 10000 := by
        have := pairsN_len m.rows.length
        have : m.rows.length * m.rows.length ≤ 64 * 64 := Nat.mul_le_mul hrw.2 hrw.2
        omega
      simp at h1; omega
    have htab := wTab_get W (show s < 64 by omega) (show t < 64 by omega)
    unfold memF
    refine EvC.seq (EvC.rg (by (simp only [go_sem, Nat.reduceLT, Nat.reduceLeDiff, Nat.reduceEqDiff, Nat.reduceAdd, Nat.reduceSub, Nat.reduceMul, Nat.reduceBEq, Int.reduceToNat, Int.reduceEq, Int.reduceLT, Int.reduceLE, Int.reduceAdd, ↓reduceIte, reduceCtorEq, pairC]) <;> rfl) (by simp) ?_)  -- R7
    refine EvC.rg (by (simp only [go_sem, Nat.reduceLT, Nat.reduceLeDiff, Nat.reduceEqDiff, Nat.reduceAdd, Nat.reduceSub, Nat.reduceMul, Nat.reduceBEq, Int.reduceToNat, Int.reduceEq, Int.reduceLT, Int.reduceLE, Int.reduceAdd, ↓reduceIte, reduceCtorEq]) <;> rfl) (by simp) ⟨rfl, ?_⟩  -- R8
    refine EvC.block ?_
    refine EvC.seq ?_
    refine EvC.seq (EvC.rg (by (simp only [go_sem, Nat.reduceLT, Nat.reduceLeDiff, Nat.reduceEqDiff, Nat.reduceAdd, Nat.reduceSub, Nat.reduceMul, Nat.reduceBEq, Int.reduceToNat, Int.reduceEq, Int.reduceLT, Int.reduceLE, Int.reduceAdd, ↓reduceIte, reduceCtorEq, htab, Nat.mul_one, Int.toNat_natCast]) <;> rfl) (by simp [wTab_len]; omega) ?_)
    refine EvC.cond (by (simp only [go_sem, Nat.reduceLT, Nat.reduceLeDiff, Nat.reduceEqDiff, Nat.reduceAdd, Nat.reduceSub, Nat.reduceMul, Nat.reduceBEq, Int.reduceToNat, Int.reduceEq, Int.reduceLT, Int.reduceLE, Int.reduceAdd, ↓reduceIte, reduceCtorEq]) <;> rfl) (fun hc => ?_) (fun hc => ?_)
    · have hc : W s t ≠ [] := by simpa using hc
      refine EvC.exit ?_
      refine ⟨[(0, 0), (1, 1), (2, 2), (3, 3), (4, 4)], now, rfl, by (simp only [go_sem, Nat.reduceLT, Nat.reduceLeDiff, Nat.reduceEqDiff, Nat.reduceAdd, Nat.reduceSub, Nat.reduceMul, Nat.reduceBEq, Int.reduceToNat, Int.reduceEq, Int.reduceLT, Int.reduceLE, Int.reduceAdd, ↓reduceIte, reduceCtorEq, memF]) <;> rfl, ?_⟩
      rw [hnx]; simp [nowL, nowOf, hc]
    have hWst : W s t = [] := by simpa using hc
    refine EvC.skip ?_
    apply EvC.seq  -- R10
    apply EvC.rs
    · (simp only [go_sem, Nat.reduceLT, Nat.reduceLeDiff, Nat.reduceEqDiff, Nat.reduceAdd, Nat.reduceSub, Nat.reduceMul, Nat.reduceBEq, Int.reduceToNat, Int.reduceEq, Int.reduceLT, Int.reduceLE, Int.reduceAdd, ↓reduceIte, reduceCtorEq]) <;> rfl
    · simp [Mach.cells]
    refine XR.gcTo ⟨[(1, .ia m.cells), (3, .rf 1 0), (4, .rf 2 0), (5, .rf 3 0), (6, .sc (.int .i64 s)), (7, .sc (.int .i64 t)), (33, .rf 0 0), (34, .ag m.cells), (35, .sc (.int .i64 s)), (36, .sc (.int .i64 t)), (37, .sc (.int .i64 n))], [], memF W n now, 5⟩ [1, 3, 4, 5, 6, 7, 33, 34, 35, 36, 37] [(0, 0), (1, 1), (2, 2), (3, 3), (4, 4)] (by rfl) (by (simp only [go_sem, Nat.reduceLT, Nat.reduceLeDiff, Nat.reduceEqDiff, Nat.reduceAdd, Nat.reduceSub, Nat.reduceMul, Nat.reduceBEq, Int.reduceToNat, Int.reduceEq, Int.reduceLT, Int.reduceLE, Int.reduceAdd, ↓reduceIte, reduceCtorEq, memF, Mach.cells]) <;> rfl) ?_
    refine XR.callB 5 [6, 10, 11, 12, 13, 14, 19, 20, 21, 22, 34, 42, 82] rfl rfl (by (simp only [go_sem, Nat.reduceLT, Nat.reduceLeDiff, Nat.reduceEqDiff, Nat.reduceAdd, Nat.reduceSub, Nat.reduceMul, Nat.reduceBEq, Int.reduceToNat, Int.reduceEq, Int.reduceLT, Int.reduceLE, Int.reduceAdd, ↓reduceIte, reduceCtorEq]) <;> rfl) (by (simp only [go_sem, Nat.reduceLT, Nat.reduceLeDiff, Nat.reduceEqDiff, Nat.reduceAdd, Nat.reduceSub, Nat.reduceMul, Nat.reduceBEq, Int.reduceToNat, Int.reduceEq, Int.reduceLT, Int.reduceLE, Int.reduceAdd, ↓reduceIte, reduceCtorEq]) <;> rfl) (by (simp only [go_sem, Nat.reduceLT, Nat.reduceLeDiff, Nat.reduceEqDiff, Nat.reduceAdd, Nat.reduceSub, Nat.reduceMul, Nat.reduceBEq, Int.reduceToNat, Int.reduceEq, Int.reduceLT, Int.reduceLE, Int.reduceAdd, ↓reduceIte, reduceCtorEq]) <;> rfl) func51 rfl (by kernel_rfl) (by simp [ntmps51]) fun h0 => ?_
    rw [ntmps51, results51]
    refine EvC.mono (step_body hv W (fun a b => by have := hWl a b; omega) s t n (by omega) hp.2 (by omega) now h0 _ rfl) ?_
    rintro _ _ ⟨rfl, cp, hcp, rfl⟩
    refine ⟨.inl rfl, _, (by (simp only [go_sem, Nat.reduceLT, Nat.reduceLeDiff, Nat.reduceEqDiff, Nat.reduceAdd, Nat.reduceSub, Nat.reduceMul, Nat.reduceBEq, Int.reduceToNat, Int.reduceEq, Int.reduceLT, Int.reduceLE, Int.reduceAdd, ↓reduceIte, reduceCtorEq]) <;> rfl), ?_⟩
    obtain ⟨w, hw⟩ : ∃ w, w = stepW m W s t n := ⟨_, rfl⟩
    rw [← hw] at hcp ⊢
    unfold memF
    refine XR.done (by (simp only [go_sem, Nat.reduceLT, Nat.reduceLeDiff, Nat.reduceEqDiff, Nat.reduceAdd, Nat.reduceSub, Nat.reduceMul, Nat.reduceBEq, Int.reduceToNat, Int.reduceEq, Int.reduceLT, Int.reduceLE, Int.reduceAdd, ↓reduceIte, reduceCtorEq]) <;> rfl) (by simp) ?_
    apply EvC.seq
    apply EvC.rg
    · (simp only [go_sem, Nat.reduceLT, Nat.reduceLeDiff, Nat.reduceEqDiff, Nat.reduceAdd, Nat.reduceSub, Nat.reduceMul, Nat.reduceBEq, Int.reduceToNat, Int.reduceEq, Int.reduceLT, Int.reduceLE, Int.reduceAdd, ↓reduceIte, reduceCtorEq]) <;> rfl
    · simp
    refine EvC.cond (by (simp only [go_sem, Nat.reduceLT, Nat.reduceLeDiff, Nat.reduceEqDiff, Nat.reduceAdd, Nat.reduceSub, Nat.reduceMul, Nat.reduceBEq, Int.reduceToNat, Int.reduceEq, Int.reduceLT, Int.reduceLE, Int.reduceAdd, ↓reduceIte, reduceCtorEq]) <;> rfl) (fun hc => ?_) (fun hc => ?_)
    · have hne : w ≠ [] := by simpa using hc
      have hwe : w.isEmpty = false := by cases w <;> simp at hne ⊢
      obtain rfl := hcp hne
      apply EvC.rg
      · (simp only [go_sem, Nat.reduceLT, Nat.reduceLeDiff, Nat.reduceEqDiff, Nat.reduceAdd, Nat.reduceSub, Nat.reduceMul, Nat.reduceBEq, Int.reduceToNat, Int.reduceEq, Int.reduceLT, Int.reduceLE, Int.reduceAdd, ↓reduceIte, reduceCtorEq, hwe, List.length_map]) <;> rfl
      · simp [room_eq, AV.norefs, AV.noref]; omega
      refine ⟨[(0, 0), (1, 1), (2, 2), (3, 3), (4, 4)], now ++ [((s, t), w)], rfl, by (simp only [go_sem, Nat.reduceLT, Nat.reduceLeDiff, Nat.reduceEqDiff, Nat.reduceAdd, Nat.reduceSub, Nat.reduceMul, Nat.reduceBEq, Int.reduceToNat, Int.reduceEq, Int.reduceLT, Int.reduceLE, Int.reduceAdd, ↓reduceIte, reduceCtorEq, memF, nowC, hwe, List.length_map]) <;> rfl, ?_⟩
      rw [hnx]
      simp [nowL, nowOf, hWst, ← hw, hne]
    have hne : w = [] := by simpa using hc
    refine EvC.skip ?_
    refine ⟨[(0, 0), (1, 1), (2, 2), (3, 3), (4, 4)], now, rfl, by (simp only [go_sem, Nat.reduceLT, Nat.reduceLeDiff, Nat.reduceEqDiff, Nat.reduceAdd, Nat.reduceSub, Nat.reduceMul, Nat.reduceBEq, Int.reduceToNat, Int.reduceEq, Int.reduceLT, Int.reduceLE, Int.reduceAdd, ↓reduceIte, reduceCtorEq, memF]) <;> rfl, ?_⟩
    rw [hnx]
    simp [nowL, nowOf, ← hw, hne]
  · rintro now hnow
    rw [List.length_map, List.take_length] at hnow
    have hnl : now.length < 10000 := by
      have h1 : now.length ≤ (pairsN m.rows.length).length := by rw [hnow]; exact List.length_filterMap_le _ _
      have := pairsN_len m.rows.length
      have : m.rows.length * m.rows.length ≤ 64 * 64 := Nat.mul_le_mul hrw.2 hrw.2
      omega
    unfold memF
    refine EvC.seq (EvC.rg (by (simp only [go_sem, Nat.reduceLT, Nat.reduceLeDiff, Nat.reduceEqDiff, Nat.reduceAdd, Nat.reduceSub, Nat.reduceMul, Nat.reduceBEq, Int.reduceToNat, Int.reduceEq, Int.reduceLT, Int.reduceLE, Int.reduceAdd, ↓reduceIte, reduceCtorEq]) <;> rfl) (by simp) ?_)
    refine EvC.frz 4 (by (simp only [go_sem, Nat.reduceLT, Nat.reduceLeDiff, Nat.reduceEqDiff, Nat.reduceAdd, Nat.reduceSub, Nat.reduceMul, Nat.reduceBEq, Int.reduceToNat, Int.reduceEq, Int.reduceLT, Int.reduceLE, Int.reduceAdd, ↓reduceIte, reduceCtorEq, List.length_map]) <;> rfl) ?_
    refine EvC.block ?_  -- 4
    refine EvC.loopS (σ := Nat) (fun i => ⟨[(1, .ia m.cells), (3, .rf 1 0), (4, .rf 2 0), (48, .sl now.isEmpty (now.map nowC) .unk), (49, .sc (.int .i64 now.length)), (50, .sc (.int .i64 i))], [], [(0, .cells (wTab (putAll W (now.take i)))), (1, .cells [.rf 0 0]), (2, .cells [.sc (.int .i64 n)])], 3⟩) (fun i => now.length - i)
      (fun i => i ≤ now.length) [1, 3, 4, 48, 49, 50] 3 ?_ ?_
    · exact ⟨[(0, 0), (1, 1), (2, 2)], 0, rfl, (by (simp only [go_sem, Nat.reduceLT, Nat.reduceLeDiff, Nat.reduceEqDiff, Nat.reduceAdd, Nat.reduceSub, Nat.reduceMul, Nat.reduceBEq, Int.reduceToNat, Int.reduceEq, Int.reduceLT, Int.reduceLE, Int.reduceAdd, ↓reduceIte, reduceCtorEq, putAll, List.foldl_nil]) <;> rfl), Nat.zero_le _⟩
    intro i hi
    obtain ⟨V, hV⟩ : ∃ V, V = putAll W (now.take i) := ⟨_, rfl⟩
    rw [← hV]
    refine EvC.seq (EvC.rg (by (simp only [go_sem, Nat.reduceLT, Nat.reduceLeDiff, Nat.reduceEqDiff, Nat.reduceAdd, Nat.reduceSub, Nat.reduceMul, Nat.reduceBEq, Int.reduceToNat, Int.reduceEq, Int.reduceLT, Int.reduceLE, Int.reduceAdd, ↓reduceIte, reduceCtorEq]) <;> rfl) (by simp) ?_)
    refine EvC.seq ?_
    refine EvC.cond (by (simp only [go_sem, Nat.reduceLT, Nat.reduceLeDiff, Nat.reduceEqDiff, Nat.reduceAdd, Nat.reduceSub, Nat.reduceMul, Nat.reduceBEq, Int.reduceToNat, Int.reduceEq, Int.reduceLT, Int.reduceLE, Int.reduceAdd, ↓reduceIte, reduceCtorEq]) <;> rfl) (fun hc => ?_) (fun hc => ?_)
    rotate_left
    · refine EvC.exit ?_  -- 4
      obtain rfl : i = now.length := by have : ¬ i < now.length := by simpa using hc
                                        omega
      rw [List.take_length] at hV
      refine EvC.seq ?_
      refine EvC.seq (EvC.rg (by (simp only [go_sem, Nat.reduceLT, Nat.reduceLeDiff, Nat.reduceEqDiff, Nat.reduceAdd, Nat.reduceSub, Nat.reduceMul, Nat.reduceBEq, Int.reduceToNat, Int.reduceEq, Int.reduceLT, Int.reduceLE, Int.reduceAdd, ↓reduceIte, reduceCtorEq]) <;> rfl) (by simp) ?_)
      refine EvC.rg (by (simp only [go_sem, Nat.reduceLT, Nat.reduceLeDiff, Nat.reduceEqDiff, Nat.reduceAdd, Nat.reduceSub, Nat.reduceMul, Nat.reduceBEq, Int.reduceToNat, Int.reduceEq, Int.reduceLT, Int.reduceLE, Int.reduceAdd, ↓reduceIte, reduceCtorEq]) <;> rfl) (by simp) ?_
      apply EvC.rg
      · (simp only [go_sem, Nat.reduceLT, Nat.reduceLeDiff, Nat.reduceEqDiff, Nat.reduceAdd, Nat.reduceSub, Nat.reduceMul, Nat.reduceBEq, Int.reduceToNat, Int.reduceEq, Int.reduceLT, Int.reduceLE, Int.reduceAdd, ↓reduceIte, reduceCtorEq]) <;> rfl
      · exact inI64_of (by omega) (by omega)
      have hV2 : tabAt m (k + 1) = V := by rw [hV, hnow, hWk, hn]; rfl
      have hn1 : (n : Int) = (k : Int) + ((1 : Nat) : Int) := by omega
      exact ⟨[(0, 0), (1, 1), (5, 2)], k + 1, rfl, (by (simp only [go_sem, Nat.reduceLT, Nat.reduceLeDiff, Nat.reduceEqDiff, Nat.reduceAdd, Nat.reduceSub, Nat.reduceMul, Nat.reduceBEq, Int.reduceToNat, Int.reduceEq, Int.reduceLT, Int.reduceLE, Int.reduceAdd, ↓reduceIte, reduceCtorEq, hV2, hn1]) <;> rfl), by omega, by omega⟩
    have hi : i < now.length := by simpa using hc
    have he : now[i]? = some now[i] := List.getElem?_eq_getElem hi
    have hm : now[i].1.1 < now[i].1.2 ∧ now[i].1.2 < m.rows.length ∧ W now[i].1.1 now[i].1.2 = [] ∧ now[i].2 = stepW m W now[i].1.1 now[i].1.2 n ∧ now[i].2 ≠ [] := by
      have h := List.getElem_mem hi
      generalize now[i] = p at h
      rw [hnow] at h
      exact mem_nowL h
    have htk := pair_take hi
    generalize now[i] = p at he hm htk
    obtain ⟨⟨s, t⟩, w⟩ := p
    simp only at hm
    refine EvC.skip ?_
    refine EvC.seq ?_
    refine EvC.block ?_  -- 5
    refine EvC.seq (EvC.rg (by (simp only [go_sem, Nat.reduceLT, Nat.reduceLeDiff, Nat.reduceEqDiff, Nat.reduceAdd, Nat.reduceSub, Nat.reduceMul, Nat.reduceBEq, Int.reduceToNat, Int.reduceEq, Int.reduceLT, Int.reduceLE, Int.reduceAdd, ↓reduceIte, reduceCtorEq, he, nowC, Int.toNat_natCast]) <;> rfl) (by simp) ?_)
    apply EvC.rs  -- R16
    · (simp only [go_sem, Nat.reduceLT, Nat.reduceLeDiff, Nat.reduceEqDiff, Nat.reduceAdd, Nat.reduceSub, Nat.reduceMul, Nat.reduceBEq, Int.reduceToNat, Int.reduceEq, Int.reduceLT, Int.reduceLE, Int.reduceAdd, ↓reduceIte, reduceCtorEq]) <;> rfl
    · simp
    obtain ⟨cc, hcc⟩ : ∃ cc, cc = nowC ((s, t), w) := ⟨_, rfl⟩
    refine XR.gcTo ⟨[(1, .ia m.cells), (3, .rf 1 0), (4, .rf 2 0), (48, .sl now.isEmpty (now.map nowC) .unk), (49, .sc (.int .i64 now.length)), (50, .sc (.int .i64 i)), (54, .rf 0 0), (56, .sc (.int .i64 s)), (58, .sc (.int .i64 t)), (60, .sl false (w.map intC) .full)], [], memP V n cc, 4⟩ [1, 3, 4, 48, 49, 50, 54, 56, 58, 60] [(0, 0), (1, 1), (2, 2), (6, 3)] (by rfl) (by (simp only [go_sem, Nat.reduceLT, Nat.reduceLeDiff, Nat.reduceEqDiff, Nat.reduceAdd, Nat.reduceSub, Nat.reduceMul, Nat.reduceBEq, Int.reduceToNat, Int.reduceEq, Int.reduceLT, Int.reduceLE, Int.reduceAdd, ↓reduceIte, reduceCtorEq, memP, hcc, nowC]) <;> rfl) ?_
    refine XR.callB 4 [] rfl rfl (by (simp only [go_sem, Nat.reduceLT, Nat.reduceLeDiff, Nat.reduceEqDiff, Nat.reduceAdd, Nat.reduceSub, Nat.reduceMul, Nat.reduceBEq, Int.reduceToNat, Int.reduceEq, Int.reduceLT, Int.reduceLE, Int.reduceAdd, ↓reduceIte, reduceCtorEq]) <;> rfl) (by (simp only [go_sem, Nat.reduceLT, Nat.reduceLeDiff, Nat.reduceEqDiff, Nat.reduceAdd, Nat.reduceSub, Nat.reduceMul, Nat.reduceBEq, Int.reduceToNat, Int.reduceEq, Int.reduceLT, Int.reduceLE, Int.reduceAdd, ↓reduceIte, reduceCtorEq]) <;> rfl) (by (simp only [go_sem, Nat.reduceLT, Nat.reduceLeDiff, Nat.reduceEqDiff, Nat.reduceAdd, Nat.reduceSub, Nat.reduceMul, Nat.reduceBEq, Int.reduceToNat, Int.reduceEq, Int.reduceLT, Int.reduceLE, Int.reduceAdd, ↓reduceIte, reduceCtorEq]) <;> rfl) func52 rfl (by kernel_rfl) (by simp [ntmps52]) fun h0 => ?_
    rw [ntmps52, results52]
    refine EvC.mono (put_body V n s t w (by omega) (by omega) hm.2.2.2.2 cc h0 _ rfl) ?_
    rintro _ ⟨_, _, _, _⟩ ⟨rfl, rfl, rfl⟩
    refine ⟨.inr rfl, _, (by (simp only [go_sem, Nat.reduceLT, Nat.reduceLeDiff, Nat.reduceEqDiff, Nat.reduceAdd, Nat.reduceSub, Nat.reduceMul, Nat.reduceBEq, Int.reduceToNat, Int.reduceEq, Int.reduceLT, Int.reduceLE, Int.reduceAdd, ↓reduceIte, reduceCtorEq]) <;> rfl), ?_⟩
    unfold memP
    refine XR.done (by (simp only [go_sem, Nat.reduceLT, Nat.reduceLeDiff, Nat.reduceEqDiff, Nat.reduceAdd, Nat.reduceSub, Nat.reduceMul, Nat.reduceBEq, Int.reduceToNat, Int.reduceEq, Int.reduceLT, Int.reduceLE, Int.reduceAdd, ↓reduceIte, reduceCtorEq]) <;> rfl) (by simp) ?_
    apply EvC.rg
    · (simp only [go_sem, Nat.reduceLT, Nat.reduceLeDiff, Nat.reduceEqDiff, Nat.reduceAdd, Nat.reduceSub, Nat.reduceMul, Nat.reduceBEq, Int.reduceToNat, Int.reduceEq, Int.reduceLT, Int.reduceLE, Int.reduceAdd, ↓reduceIte, reduceCtorEq]) <;> rfl
    · exact inI64_of (by omega) (by omega)
    refine ⟨[(0, 0), (1, 1), (2, 2)], i + 1, rfl, ?_, by omega, by omega⟩
    have hpt : putAll W (now.take (i + 1)) = updW (updW V s t w) t s w := by
      rw [htk, putAll, List.foldl_append, hV]; rfl
    (simp only [go_sem, Nat.reduceLT, Nat.reduceLeDiff, Nat.reduceEqDiff, Nat.reduceAdd, Nat.reduceSub, Nat.reduceMul, Nat.reduceBEq, Int.reduceToNat, Int.reduceEq, Int.reduceLT, Int.reduceLE, Int.reduceAdd, ↓reduceIte, reduceCtorEq, hpt]) <;> rfl
end Go.Avl
namespace Go.Avl
open Go Go.Proofs.Try
set_option maxRecDepth 10000
set_option linter.unusedSimpArgs false

theorem wTab_get2 (W : WT) {s t : Nat} (hs : s < 64) (ht : t < 64) : List.take 1 (List.drop t (List.drop (s * 64) (wTab W))) = [.sl (W s t).isEmpty ((W s t).map intC) (cpW (W s t))] := by
  rw [List.drop_drop]; exact wTab_get W hs ht
/-- The separating word of two states. -/
def sepW (m : Mach) (s t : Nat) : List Int := tabAt m (max m.rows.length 2 - 1) s t
theorem sepW_len (m : Mach) (hv : Valid m) (s t : Nat) : (sepW m s t).length < 100 := by
  have := tabAt_len m (max m.rows.length 2 - 1) s t
  have := hv.rows
  unfold sepW; omega
theorem isEmpty_nil {l : List Int} : l.isEmpty = true → l = [] := by cases l <;> simp
def separateA (m : Mach) (s t : Int) : AV :=
  if stateErr m [s, t] ≠ 0 then .tu [.sl true [] .unk, .sc (.bool false), .sc (.int .i64 (stateErr m [s, t]))]
  else .tu [.sl (sepW m s.toNat t.toNat).isEmpty ((sepW m s.toNat t.toNat).map intC) .full, .sc (.bool (decide (0 < ((sepW m s.toNat t.toNat).length : Int)))), .sc (.int .i64 0)]
theorem separateA_noref (m : Mach) (s t : Int) : (separateA m s t).noref = true := by unfold separateA; repeat (first | rfl | split)
theorem separate_is (m : Mach) (hr : ∀ r ∈ m.rows, r.2.length < 1000000) (s t : Int) : PureIs prog 11 [.ag m.cells, .sc (.int .i64 s), .sc (.int .i64 t)] (separateA m s t) := by
  refine PureIs.of (nv := 4) (hid := [6, 7, 8, 9, 10, 17]) func11 rfl (by kernel_rfl) (by simp [ntmps11]) fun _ => ?_
  rw [ntmps11, results11]
  refine EvC.seq (EvC.rg (by (simp only [go_sem, Nat.reduceLT, Nat.reduceLeDiff, Nat.reduceEqDiff, Nat.reduceAdd, Nat.reduceSub, Nat.reduceMul, Nat.reduceBEq, Int.reduceToNat, Int.reduceEq, Int.reduceLT, Int.reduceLE, Int.reduceAdd, ↓reduceIte, reduceCtorEq, Mach.cells]) <;> rfl) (by simp) ?_)
  refine EvC.frzB 0 (by (simp only [go_sem, Nat.reduceLT, Nat.reduceLeDiff, Nat.reduceEqDiff, Nat.reduceAdd, Nat.reduceSub, Nat.reduceMul, Nat.reduceBEq, Int.reduceToNat, Int.reduceEq, Int.reduceLT, Int.reduceLE, Int.reduceAdd, ↓reduceIte, reduceCtorEq]) <;> rfl) ?_
  refine EvC.seq ?_
  apply EvC.seq
  apply EvC.tr
  · apply Tr.run
    · (simp only [go_sem, Nat.reduceLT, Nat.reduceLeDiff, Nat.reduceEqDiff, Nat.reduceAdd, Nat.reduceSub, Nat.reduceMul, Nat.reduceBEq, Int.reduceToNat, Int.reduceEq, Int.reduceLT, Int.reduceLE, Int.reduceAdd, ↓reduceIte, reduceCtorEq, Mach.cells]) <;> rfl
    · simp
    apply Tr.cons
    · exact .call rfl rfl (by (simp only [go_sem, Nat.reduceLT, Nat.reduceLeDiff, Nat.reduceEqDiff, Nat.reduceAdd, Nat.reduceSub, Nat.reduceMul, Nat.reduceBEq, Int.reduceToNat, Int.reduceEq, Int.reduceLT, Int.reduceLE, Int.reduceAdd, ↓reduceIte, reduceCtorEq]) <;> rfl) (by (simp only [go_sem, Nat.reduceLT, Nat.reduceLeDiff, Nat.reduceEqDiff, Nat.reduceAdd, Nat.reduceSub, Nat.reduceMul, Nat.reduceBEq, Int.reduceToNat, Int.reduceEq, Int.reduceLT, Int.reduceLE, Int.reduceAdd, ↓reduceIte, reduceCtorEq]) <;> rfl) (by (simp only [go_sem, Nat.reduceLT, Nat.reduceLeDiff, Nat.reduceEqDiff, Nat.reduceAdd, Nat.reduceSub, Nat.reduceMul, Nat.reduceBEq, Int.reduceToNat, Int.reduceEq, Int.reduceLT, Int.reduceLE, Int.reduceAdd, ↓reduceIte, reduceCtorEq]) <;> rfl) (by (simp only [go_sem, Nat.reduceLT, Nat.reduceLeDiff, Nat.reduceEqDiff, Nat.reduceAdd, Nat.reduceSub, Nat.reduceMul, Nat.reduceBEq, Int.reduceToNat, Int.reduceEq, Int.reduceLT, Int.reduceLE, Int.reduceAdd, ↓reduceIte, reduceCtorEq]) <;> rfl) (by (simp only [go_sem, Nat.reduceLT, Nat.reduceLeDiff, Nat.reduceEqDiff, Nat.reduceAdd, Nat.reduceSub, Nat.reduceMul, Nat.reduceBEq, Int.reduceToNat, Int.reduceEq, Int.reduceLT, Int.reduceLE, Int.reduceAdd, ↓reduceIte, reduceCtorEq]) <;> rfl) (by simpa [intC, Mach.cells] using state_is m hr false [s, t] .full (by simp))
    apply Tr.done
    · (simp only [go_sem, Nat.reduceLT, Nat.reduceLeDiff, Nat.reduceEqDiff, Nat.reduceAdd, Nat.reduceSub, Nat.reduceMul, Nat.reduceBEq, Int.reduceToNat, Int.reduceEq, Int.reduceLT, Int.reduceLE, Int.reduceAdd, ↓reduceIte, reduceCtorEq]) <;> rfl
    · simp
  refine EvC.seq (EvC.rg (by (simp only [go_sem, Nat.reduceLT, Nat.reduceLeDiff, Nat.reduceEqDiff, Nat.reduceAdd, Nat.reduceSub, Nat.reduceMul, Nat.reduceBEq, Int.reduceToNat, Int.reduceEq, Int.reduceLT, Int.reduceLE, Int.reduceAdd, ↓reduceIte, reduceCtorEq]) <;> rfl) (by simp) ?_)
  refine EvC.cond (by (simp only [go_sem, Nat.reduceLT, Nat.reduceLeDiff, Nat.reduceEqDiff, Nat.reduceAdd, Nat.reduceSub, Nat.reduceMul, Nat.reduceBEq, Int.reduceToNat, Int.reduceEq, Int.reduceLT, Int.reduceLE, Int.reduceAdd, ↓reduceIte, reduceCtorEq]) <;> rfl) (fun hc => ?_) (fun hc => ?_)
  · have hc : stateErr m [s, t] ≠ 0 := by simpa using hc
    refine EvC.seq (EvC.rg (by (simp only [go_sem, Nat.reduceLT, Nat.reduceLeDiff, Nat.reduceEqDiff, Nat.reduceAdd, Nat.reduceSub, Nat.reduceMul, Nat.reduceBEq, Int.reduceToNat, Int.reduceEq, Int.reduceLT, Int.reduceLE, Int.reduceAdd, ↓reduceIte, reduceCtorEq]) <;> rfl) (by simp) ?_)
    refine EvC.ret ⟨.inl rfl, _, (by (simp only [go_sem, Nat.reduceLT, Nat.reduceLeDiff, Nat.reduceEqDiff, Nat.reduceAdd, Nat.reduceSub, Nat.reduceMul, Nat.reduceBEq, Int.reduceToNat, Int.reduceEq, Int.reduceLT, Int.reduceLE, Int.reduceAdd, ↓reduceIte, reduceCtorEq]) <;> rfl), ?_, separateA_noref _ _ _⟩
    simp only [go_sem, Nat.reduceLT, Nat.reduceLeDiff, Nat.reduceEqDiff, Nat.reduceAdd, Nat.reduceSub, Nat.reduceMul, Nat.reduceBEq, Int.reduceToNat, Int.reduceEq, Int.reduceLT, Int.reduceLE, Int.reduceAdd, ↓reduceIte, reduceCtorEq]
    rw [separateA, if_pos hc]
  have h1 : ¬ stateErr m [s, t] ≠ 0 := by simpa using hc
  clear hc
  obtain ⟨hv, hst⟩ := stateErr_zero (show stateErr m [s, t] = 0 by simpa using h1)
  have hs := hst s (by simp)
  have ht := hst t (by simp)
  have hrw := hv.rows
  have htab := wTab_get2 (tabAt m (max m.rows.length 2 - 1)) (show s.toNat < 64 by omega) (show t.toNat < 64 by omega)
  obtain ⟨w, hw⟩ : ∃ w, w = sepW m s.toNat t.toNat := ⟨_, rfl⟩
  have hwl := sepW_len m hv s.toNat t.toNat
  rw [show tabAt m (max m.rows.length 2 - 1) s.toNat t.toNat = w from hw.symm] at htab
  rw [← hw] at hwl
  refine EvC.skip ?_
  apply EvC.seq
  apply EvC.tr
  · apply Tr.run
    · (simp only [go_sem, Nat.reduceLT, Nat.reduceLeDiff, Nat.reduceEqDiff, Nat.reduceAdd, Nat.reduceSub, Nat.reduceMul, Nat.reduceBEq, Int.reduceToNat, Int.reduceEq, Int.reduceLT, Int.reduceLE, Int.reduceAdd, ↓reduceIte, reduceCtorEq, Mach.cells, htab, Nat.mul_one]) <;> rfl
    · simp [wTab_len, hs.1, ht.1]; try omega
    apply Tr.cons
    · exact .call rfl rfl (by (simp only [go_sem, Nat.reduceLT, Nat.reduceLeDiff, Nat.reduceEqDiff, Nat.reduceAdd, Nat.reduceSub, Nat.reduceMul, Nat.reduceBEq, Int.reduceToNat, Int.reduceEq, Int.reduceLT, Int.reduceLE, Int.reduceAdd, ↓reduceIte, reduceCtorEq]) <;> rfl) (by (simp only [go_sem, Nat.reduceLT, Nat.reduceLeDiff, Nat.reduceEqDiff, Nat.reduceAdd, Nat.reduceSub, Nat.reduceMul, Nat.reduceBEq, Int.reduceToNat, Int.reduceEq, Int.reduceLT, Int.reduceLE, Int.reduceAdd, ↓reduceIte, reduceCtorEq]) <;> rfl) (by (simp only [go_sem, Nat.reduceLT, Nat.reduceLeDiff, Nat.reduceEqDiff, Nat.reduceAdd, Nat.reduceSub, Nat.reduceMul, Nat.reduceBEq, Int.reduceToNat, Int.reduceEq, Int.reduceLT, Int.reduceLE, Int.reduceAdd, ↓reduceIte, reduceCtorEq]) <;> rfl) (by (simp only [go_sem, Nat.reduceLT, Nat.reduceLeDiff, Nat.reduceEqDiff, Nat.reduceAdd, Nat.reduceSub, Nat.reduceMul, Nat.reduceBEq, Int.reduceToNat, Int.reduceEq, Int.reduceLT, Int.reduceLE, Int.reduceAdd, ↓reduceIte, reduceCtorEq]) <;> rfl) (by (simp only [go_sem, Nat.reduceLT, Nat.reduceLeDiff, Nat.reduceEqDiff, Nat.reduceAdd, Nat.reduceSub, Nat.reduceMul, Nat.reduceBEq, Int.reduceToNat, Int.reduceEq, Int.reduceLT, Int.reduceLE, Int.reduceAdd, ↓reduceIte, reduceCtorEq]) <;> rfl) (separated_is hv)
    apply Tr.run
    · (simp only [go_sem, Nat.reduceLT, Nat.reduceLeDiff, Nat.reduceEqDiff, Nat.reduceAdd, Nat.reduceSub, Nat.reduceMul, Nat.reduceBEq, Int.reduceToNat, Int.reduceEq, Int.reduceLT, Int.reduceLE, Int.reduceAdd, ↓reduceIte, reduceCtorEq, Mach.cells, htab, Nat.mul_one]) <;> rfl
    · simp [wTab_len, hs.1, ht.1]; try omega
    apply Tr.cons
    · exact .call rfl rfl (by (simp only [go_sem, Nat.reduceLT, Nat.reduceLeDiff, Nat.reduceEqDiff, Nat.reduceAdd, Nat.reduceSub, Nat.reduceMul, Nat.reduceBEq, Int.reduceToNat, Int.reduceEq, Int.reduceLT, Int.reduceLE, Int.reduceAdd, ↓reduceIte, reduceCtorEq]) <;> rfl) (by (simp only [go_sem, Nat.reduceLT, Nat.reduceLeDiff, Nat.reduceEqDiff, Nat.reduceAdd, Nat.reduceSub, Nat.reduceMul, Nat.reduceBEq, Int.reduceToNat, Int.reduceEq, Int.reduceLT, Int.reduceLE, Int.reduceAdd, ↓reduceIte, reduceCtorEq]) <;> rfl) (by (simp only [go_sem, Nat.reduceLT, Nat.reduceLeDiff, Nat.reduceEqDiff, Nat.reduceAdd, Nat.reduceSub, Nat.reduceMul, Nat.reduceBEq, Int.reduceToNat, Int.reduceEq, Int.reduceLT, Int.reduceLE, Int.reduceAdd, ↓reduceIte, reduceCtorEq]) <;> rfl) (by (simp only [go_sem, Nat.reduceLT, Nat.reduceLeDiff, Nat.reduceEqDiff, Nat.reduceAdd, Nat.reduceSub, Nat.reduceMul, Nat.reduceBEq, Int.reduceToNat, Int.reduceEq, Int.reduceLT, Int.reduceLE, Int.reduceAdd, ↓reduceIte, reduceCtorEq]) <;> rfl) (by (simp only [go_sem, Nat.reduceLT, Nat.reduceLeDiff, Nat.reduceEqDiff, Nat.reduceAdd, Nat.reduceSub, Nat.reduceMul, Nat.reduceBEq, Int.reduceToNat, Int.reduceEq, Int.reduceLT, Int.reduceLE, Int.reduceAdd, ↓reduceIte, reduceCtorEq]) <;> rfl) (clone_is w.isEmpty w (cpW w) isEmpty_nil (by omega))
    apply Tr.run
    · (simp only [go_sem, Nat.reduceLT, Nat.reduceLeDiff, Nat.reduceEqDiff, Nat.reduceAdd, Nat.reduceSub, Nat.reduceMul, Nat.reduceBEq, Int.reduceToNat, Int.reduceEq, Int.reduceLT, Int.reduceLE, Int.reduceAdd, ↓reduceIte, reduceCtorEq, Mach.cells, htab, Nat.mul_one]) <;> rfl
    · simp [wTab_len, hs.1, ht.1]; try omega
    apply Tr.cons
    · exact .call rfl rfl (by (simp only [go_sem, Nat.reduceLT, Nat.reduceLeDiff, Nat.reduceEqDiff, Nat.reduceAdd, Nat.reduceSub, Nat.reduceMul, Nat.reduceBEq, Int.reduceToNat, Int.reduceEq, Int.reduceLT, Int.reduceLE, Int.reduceAdd, ↓reduceIte, reduceCtorEq]) <;> rfl) (by (simp only [go_sem, Nat.reduceLT, Nat.reduceLeDiff, Nat.reduceEqDiff, Nat.reduceAdd, Nat.reduceSub, Nat.reduceMul, Nat.reduceBEq, Int.reduceToNat, Int.reduceEq, Int.reduceLT, Int.reduceLE, Int.reduceAdd, ↓reduceIte, reduceCtorEq]) <;> rfl) (by (simp only [go_sem, Nat.reduceLT, Nat.reduceLeDiff, Nat.reduceEqDiff, Nat.reduceAdd, Nat.reduceSub, Nat.reduceMul, Nat.reduceBEq, Int.reduceToNat, Int.reduceEq, Int.reduceLT, Int.reduceLE, Int.reduceAdd, ↓reduceIte, reduceCtorEq]) <;> rfl) (by (simp only [go_sem, Nat.reduceLT, Nat.reduceLeDiff, Nat.reduceEqDiff, Nat.reduceAdd, Nat.reduceSub, Nat.reduceMul, Nat.reduceBEq, Int.reduceToNat, Int.reduceEq, Int.reduceLT, Int.reduceLE, Int.reduceAdd, ↓reduceIte, reduceCtorEq]) <;> rfl) (by (simp only [go_sem, Nat.reduceLT, Nat.reduceLeDiff, Nat.reduceEqDiff, Nat.reduceAdd, Nat.reduceSub, Nat.reduceMul, Nat.reduceBEq, Int.reduceToNat, Int.reduceEq, Int.reduceLT, Int.reduceLE, Int.reduceAdd, ↓reduceIte, reduceCtorEq]) <;> rfl) (clip31_is w.isEmpty (w.map intC) .unk (intC_len w))
    apply Tr.done
    · (simp only [go_sem, Nat.reduceLT, Nat.reduceLeDiff, Nat.reduceEqDiff, Nat.reduceAdd, Nat.reduceSub, Nat.reduceMul, Nat.reduceBEq, Int.reduceToNat, Int.reduceEq, Int.reduceLT, Int.reduceLE, Int.reduceAdd, ↓reduceIte, reduceCtorEq]) <;> rfl
    · simp
  refine EvC.seq (EvC.rg (by (simp only [go_sem, Nat.reduceLT, Nat.reduceLeDiff, Nat.reduceEqDiff, Nat.reduceAdd, Nat.reduceSub, Nat.reduceMul, Nat.reduceBEq, Int.reduceToNat, Int.reduceEq, Int.reduceLT, Int.reduceLE, Int.reduceAdd, ↓reduceIte, reduceCtorEq]) <;> rfl) (by simp) ?_)
  refine EvC.ret ⟨.inl rfl, _, (by (simp only [go_sem, Nat.reduceLT, Nat.reduceLeDiff, Nat.reduceEqDiff, Nat.reduceAdd, Nat.reduceSub, Nat.reduceMul, Nat.reduceBEq, Int.reduceToNat, Int.reduceEq, Int.reduceLT, Int.reduceLE, Int.reduceAdd, ↓reduceIte, reduceCtorEq]) <;> rfl), ?_, separateA_noref _ _ _⟩
  simp only [go_sem, Nat.reduceLT, Nat.reduceLeDiff, Nat.reduceEqDiff, Nat.reduceAdd, Nat.reduceSub, Nat.reduceMul, Nat.reduceBEq, Int.reduceToNat, Int.reduceEq, Int.reduceLT, Int.reduceLE, Int.reduceAdd, ↓reduceIte, reduceCtorEq]
  rw [separateA, if_neg h1, ← hw]

abbrev TRow := (Nat × Nat) × List Int
def tblC (p : TRow) : List AV := [.sc (.int .i64 p.1.1), .sc (.int .i64 p.1.2), .sl p.2.isEmpty (p.2.map intC) .full, .sc (.bool (decide (0 < (p.2.length : Int))))]
@[go_sem] theorem norefs_tbl (l : List TRow) : (l.map tblC).all AV.norefs = true := by simp [List.all_eq_true, tblC, AV.norefs, AV.noref]
theorem tblC_len (l : List TRow) : ((l.map tblC).all fun y => decide (y.length = 4)) = true := by simp [List.all_eq_true, tblC]
def tblL (m : Mach) : List TRow := (pairsN m.rows.length).map fun p => (p, sepW m p.1 p.2)
def memT (W : WT) (rows : List TRow) : Mem := [(0, .cells [.ia (wTab W)]), (1, .cells [.tl 2 rows.length rows.isEmpty]), (2, .arr 4 (rows.map tblC) true)]
def tableA (m : Mach) : AV :=
  if checkM m ≠ 0 then .tu [.sl true [] .unk, .sc (.int .i64 (checkM m))] else .tu [.sl (tblL m).isEmpty ((tblL m).map tblC) .full, .sc (.int .i64 0)]
theorem tableA_noref (m : Mach) : (tableA m).noref = true := by unfold tableA; repeat (first | rfl | split)
theorem table_is (m : Mach) (hr : ∀ r ∈ m.rows, r.2.length < 1000000) : PureIs prog 20 [.ag m.cells] (tableA m) := by
  refine PureIs.of (nv := 10) (hid := [13, 18, 19, 20]) func20 rfl (by kernel_rfl) (by simp [ntmps20]) fun _ => ?_
  rw [ntmps20, results20]
  refine EvC.seq (EvC.rg (by (simp only [go_sem, Nat.reduceLT, Nat.reduceLeDiff, Nat.reduceEqDiff, Nat.reduceAdd, Nat.reduceSub, Nat.reduceMul, Nat.reduceBEq, Int.reduceToNat, Int.reduceEq, Int.reduceLT, Int.reduceLE, Int.reduceAdd, ↓reduceIte, reduceCtorEq, Mach.cells]) <;> rfl) (by simp) ?_)
  refine EvC.frzB 0 (by (simp only [go_sem, Nat.reduceLT, Nat.reduceLeDiff, Nat.reduceEqDiff, Nat.reduceAdd, Nat.reduceSub, Nat.reduceMul, Nat.reduceBEq, Int.reduceToNat, Int.reduceEq, Int.reduceLT, Int.reduceLE, Int.reduceAdd, ↓reduceIte, reduceCtorEq]) <;> rfl) ?_
  refine EvC.seq ?_
  apply EvC.seq
  apply EvC.tr
  · apply Tr.run
    · (simp only [go_sem, Nat.reduceLT, Nat.reduceLeDiff, Nat.reduceEqDiff, Nat.reduceAdd, Nat.reduceSub, Nat.reduceMul, Nat.reduceBEq, Int.reduceToNat, Int.reduceEq, Int.reduceLT, Int.reduceLE, Int.reduceAdd, ↓reduceIte, reduceCtorEq, Mach.cells]) <;> rfl
    · simp
    apply Tr.cons
    · exact .call rfl rfl (by (simp only [go_sem, Nat.reduceLT, Nat.reduceLeDiff, Nat.reduceEqDiff, Nat.reduceAdd, Nat.reduceSub, Nat.reduceMul, Nat.reduceBEq, Int.reduceToNat, Int.reduceEq, Int.reduceLT, Int.reduceLE, Int.reduceAdd, ↓reduceIte, reduceCtorEq]) <;> rfl) (by (simp only [go_sem, Nat.reduceLT, Nat.reduceLeDiff, Nat.reduceEqDiff, Nat.reduceAdd, Nat.reduceSub, Nat.reduceMul, Nat.reduceBEq, Int.reduceToNat, Int.reduceEq, Int.reduceLT, Int.reduceLE, Int.reduceAdd, ↓reduceIte, reduceCtorEq]) <;> rfl) (by (simp only [go_sem, Nat.reduceLT, Nat.reduceLeDiff, Nat.reduceEqDiff, Nat.reduceAdd, Nat.reduceSub, Nat.reduceMul, Nat.reduceBEq, Int.reduceToNat, Int.reduceEq, Int.reduceLT, Int.reduceLE, Int.reduceAdd, ↓reduceIte, reduceCtorEq]) <;> rfl) (by (simp only [go_sem, Nat.reduceLT, Nat.reduceLeDiff, Nat.reduceEqDiff, Nat.reduceAdd, Nat.reduceSub, Nat.reduceMul, Nat.reduceBEq, Int.reduceToNat, Int.reduceEq, Int.reduceLT, Int.reduceLE, Int.reduceAdd, ↓reduceIte, reduceCtorEq]) <;> rfl) (by (simp only [go_sem, Nat.reduceLT, Nat.reduceLeDiff, Nat.reduceEqDiff, Nat.reduceAdd, Nat.reduceSub, Nat.reduceMul, Nat.reduceBEq, Int.reduceToNat, Int.reduceEq, Int.reduceLT, Int.reduceLE, Int.reduceAdd, ↓reduceIte, reduceCtorEq]) <;> rfl) (check_is m hr)
    apply Tr.done
    · (simp only [go_sem, Nat.reduceLT, Nat.reduceLeDiff, Nat.reduceEqDiff, Nat.reduceAdd, Nat.reduceSub, Nat.reduceMul, Nat.reduceBEq, Int.reduceToNat, Int.reduceEq, Int.reduceLT, Int.reduceLE, Int.reduceAdd, ↓reduceIte, reduceCtorEq]) <;> rfl
    · simp
  refine EvC.seq (EvC.rg (by (simp only [go_sem, Nat.reduceLT, Nat.reduceLeDiff, Nat.reduceEqDiff, Nat.reduceAdd, Nat.reduceSub, Nat.reduceMul, Nat.reduceBEq, Int.reduceToNat, Int.reduceEq, Int.reduceLT, Int.reduceLE, Int.reduceAdd, ↓reduceIte, reduceCtorEq]) <;> rfl) (by simp) ?_)
  refine EvC.cond (by (simp only [go_sem, Nat.reduceLT, Nat.reduceLeDiff, Nat.reduceEqDiff, Nat.reduceAdd, Nat.reduceSub, Nat.reduceMul, Nat.reduceBEq, Int.reduceToNat, Int.reduceEq, Int.reduceLT, Int.reduceLE, Int.reduceAdd, ↓reduceIte, reduceCtorEq]) <;> rfl) (fun hc => ?_) (fun hc => ?_)
  · have hc : checkM m ≠ 0 := by simpa using hc
    refine EvC.seq (EvC.rg (by (simp only [go_sem, Nat.reduceLT, Nat.reduceLeDiff, Nat.reduceEqDiff, Nat.reduceAdd, Nat.reduceSub, Nat.reduceMul, Nat.reduceBEq, Int.reduceToNat, Int.reduceEq, Int.reduceLT, Int.reduceLE, Int.reduceAdd, ↓reduceIte, reduceCtorEq]) <;> rfl) (by simp) ?_)
    refine EvC.ret ⟨.inl rfl, _, (by (simp only [go_sem, Nat.reduceLT, Nat.reduceLeDiff, Nat.reduceEqDiff, Nat.reduceAdd, Nat.reduceSub, Nat.reduceMul, Nat.reduceBEq, Int.reduceToNat, Int.reduceEq, Int.reduceLT, Int.reduceLE, Int.reduceAdd, ↓reduceIte, reduceCtorEq]) <;> rfl), ?_, tableA_noref _⟩
    simp only [go_sem, Nat.reduceLT, Nat.reduceLeDiff, Nat.reduceEqDiff, Nat.reduceAdd, Nat.reduceSub, Nat.reduceMul, Nat.reduceBEq, Int.reduceToNat, Int.reduceEq, Int.reduceLT, Int.reduceLE, Int.reduceAdd, ↓reduceIte, reduceCtorEq]
    rw [tableA, if_pos hc]
  have h1 : ¬ checkM m ≠ 0 := by simpa using hc
  clear hc
  have hv : Valid m := .of (by simpa using h1)
  have hrw := hv.rows
  obtain ⟨W, hW⟩ : ∃ W, W = tabAt m (max m.rows.length 2 - 1) := ⟨_, rfl⟩
  have hsep := separated_is hv
  rw [← hW] at hsep
  refine EvC.skip ?_
  apply EvC.seq
  apply EvC.tr
  · apply Tr.run
    · (simp only [go_sem, Nat.reduceLT, Nat.reduceLeDiff, Nat.reduceEqDiff, Nat.reduceAdd, Nat.reduceSub, Nat.reduceMul, Nat.reduceBEq, Int.reduceToNat, Int.reduceEq, Int.reduceLT, Int.reduceLE, Int.reduceAdd, ↓reduceIte, reduceCtorEq, Mach.cells]) <;> rfl
    · simp
    apply Tr.cons
    · exact .call rfl rfl (by (simp only [go_sem, Nat.reduceLT, Nat.reduceLeDiff, Nat.reduceEqDiff, Nat.reduceAdd, Nat.reduceSub, Nat.reduceMul, Nat.reduceBEq, Int.reduceToNat, Int.reduceEq, Int.reduceLT, Int.reduceLE, Int.reduceAdd, ↓reduceIte, reduceCtorEq]) <;> rfl) (by (simp only [go_sem, Nat.reduceLT, Nat.reduceLeDiff, Nat.reduceEqDiff, Nat.reduceAdd, Nat.reduceSub, Nat.reduceMul, Nat.reduceBEq, Int.reduceToNat, Int.reduceEq, Int.reduceLT, Int.reduceLE, Int.reduceAdd, ↓reduceIte, reduceCtorEq]) <;> rfl) (by (simp only [go_sem, Nat.reduceLT, Nat.reduceLeDiff, Nat.reduceEqDiff, Nat.reduceAdd, Nat.reduceSub, Nat.reduceMul, Nat.reduceBEq, Int.reduceToNat, Int.reduceEq, Int.reduceLT, Int.reduceLE, Int.reduceAdd, ↓reduceIte, reduceCtorEq]) <;> rfl) (by (simp only [go_sem, Nat.reduceLT, Nat.reduceLeDiff, Nat.reduceEqDiff, Nat.reduceAdd, Nat.reduceSub, Nat.reduceMul, Nat.reduceBEq, Int.reduceToNat, Int.reduceEq, Int.reduceLT, Int.reduceLE, Int.reduceAdd, ↓reduceIte, reduceCtorEq]) <;> rfl) (by (simp only [go_sem, Nat.reduceLT, Nat.reduceLeDiff, Nat.reduceEqDiff, Nat.reduceAdd, Nat.reduceSub, Nat.reduceMul, Nat.reduceBEq, Int.reduceToNat, Int.reduceEq, Int.reduceLT, Int.reduceLE, Int.reduceAdd, ↓reduceIte, reduceCtorEq]) <;> rfl) (hsep)
    apply Tr.done
    · (simp only [go_sem, Nat.reduceLT, Nat.reduceLeDiff, Nat.reduceEqDiff, Nat.reduceAdd, Nat.reduceSub, Nat.reduceMul, Nat.reduceBEq, Int.reduceToNat, Int.reduceEq, Int.reduceLT, Int.reduceLE, Int.reduceAdd, ↓reduceIte, reduceCtorEq]) <;> rfl
    · simp
  refine EvC.seq (EvC.rg (by (simp only [go_sem, Nat.reduceLT, Nat.reduceLeDiff, Nat.reduceEqDiff, Nat.reduceAdd, Nat.reduceSub, Nat.reduceMul, Nat.reduceBEq, Int.reduceToNat, Int.reduceEq, Int.reduceLT, Int.reduceLE, Int.reduceAdd, ↓reduceIte, reduceCtorEq]) <;> rfl) (by simp) ?_)
  refine EvC.seq ?_
  apply EvC.seq
  apply EvC.tr
  · apply Tr.run
    · (simp only [go_sem, Nat.reduceLT, Nat.reduceLeDiff, Nat.reduceEqDiff, Nat.reduceAdd, Nat.reduceSub, Nat.reduceMul, Nat.reduceBEq, Int.reduceToNat, Int.reduceEq, Int.reduceLT, Int.reduceLE, Int.reduceAdd, ↓reduceIte, reduceCtorEq, Mach.cells]) <;> rfl
    · simp
    apply Tr.cons
    · exact .call rfl rfl (by (simp only [go_sem, Nat.reduceLT, Nat.reduceLeDiff, Nat.reduceEqDiff, Nat.reduceAdd, Nat.reduceSub, Nat.reduceMul, Nat.reduceBEq, Int.reduceToNat, Int.reduceEq, Int.reduceLT, Int.reduceLE, Int.reduceAdd, ↓reduceIte, reduceCtorEq]) <;> rfl) (by (simp only [go_sem, Nat.reduceLT, Nat.reduceLeDiff, Nat.reduceEqDiff, Nat.reduceAdd, Nat.reduceSub, Nat.reduceMul, Nat.reduceBEq, Int.reduceToNat, Int.reduceEq, Int.reduceLT, Int.reduceLE, Int.reduceAdd, ↓reduceIte, reduceCtorEq]) <;> rfl) (by (simp only [go_sem, Nat.reduceLT, Nat.reduceLeDiff, Nat.reduceEqDiff, Nat.reduceAdd, Nat.reduceSub, Nat.reduceMul, Nat.reduceBEq, Int.reduceToNat, Int.reduceEq, Int.reduceLT, Int.reduceLE, Int.reduceAdd, ↓reduceIte, reduceCtorEq]) <;> rfl) (by (simp only [go_sem, Nat.reduceLT, Nat.reduceLeDiff, Nat.reduceEqDiff, Nat.reduceAdd, Nat.reduceSub, Nat.reduceMul, Nat.reduceBEq, Int.reduceToNat, Int.reduceEq, Int.reduceLT, Int.reduceLE, Int.reduceAdd, ↓reduceIte, reduceCtorEq]) <;> rfl) (by (simp only [go_sem, Nat.reduceLT, Nat.reduceLeDiff, Nat.reduceEqDiff, Nat.reduceAdd, Nat.reduceSub, Nat.reduceMul, Nat.reduceBEq, Int.reduceToNat, Int.reduceEq, Int.reduceLT, Int.reduceLE, Int.reduceAdd, ↓reduceIte, reduceCtorEq]) <;> rfl) (pairs_is m)
    apply Tr.done
    · (simp only [go_sem, Nat.reduceLT, Nat.reduceLeDiff, Nat.reduceEqDiff, Nat.reduceAdd, Nat.reduceSub, Nat.reduceMul, Nat.reduceBEq, Int.reduceToNat, Int.reduceEq, Int.reduceLT, Int.reduceLE, Int.reduceAdd, ↓reduceIte, reduceCtorEq]) <;> rfl
    · simp
  refine EvC.block ?_  -- 0
  refine EvC.ownC 12 0 4 (by (simp only [go_sem, Nat.reduceLT, Nat.reduceLeDiff, Nat.reduceEqDiff, Nat.reduceAdd, Nat.reduceSub, Nat.reduceMul, Nat.reduceBEq, Int.reduceToNat, Int.reduceEq, Int.reduceLT, Int.reduceLE, Int.reduceAdd, ↓reduceIte, reduceCtorEq]) <;> rfl) ?_
  refine EvC.gcTo ⟨[(1, .ia m.cells), (5, .rf 0 0), (6, .rf 1 0), (18, .fn 62 [.ia m.cells])], [], memT W [], 3⟩ [1, 5, 6, 18] [(10, 0), (12, 1), (15, 2)] (by rfl) (by (simp only [go_sem, Nat.reduceLT, Nat.reduceLeDiff, Nat.reduceEqDiff, Nat.reduceAdd, Nat.reduceSub, Nat.reduceMul, Nat.reduceBEq, Int.reduceToNat, Int.reduceEq, Int.reduceLT, Int.reduceLE, Int.reduceAdd, ↓reduceIte, reduceCtorEq, memT, Mach.cells]) <;> rfl) ?_
  have hplen : (pairsN m.rows.length).length < 10000 := by
    have := pairsN_len m.rows.length
    have : m.rows.length * m.rows.length ≤ 64 * 64 := Nat.mul_le_mul hrw.2 hrw.2
    omega
  refine EvC.range (σ := List TRow) (gf := 62) (caps := [.ia m.cells]) (xs := (pairsN m.rows.length).map pairC) rfl (fun _ => rfl) (by (simp only [go_sem, Nat.reduceLT, Nat.reduceLeDiff, Nat.reduceEqDiff, Nat.reduceAdd, Nat.reduceSub, Nat.reduceMul, Nat.reduceBEq, Int.reduceToNat, Int.reduceEq, Int.reduceLT, Int.reduceLE, Int.reduceAdd, ↓reduceIte, reduceCtorEq]) <;> rfl) rfl (pairs1_seq m (by omega)) ?_ (by simp) (Nat.zero_le _)
    (fun _ rows => memT W rows) (fun j rows => rows = ((pairsN m.rows.length).take j).map fun p => (p, sepW m p.1 p.2)) ⟨[], rfl, rfl⟩ ?_ ?_
  · intro x hx
    obtain ⟨z, _, rfl⟩ := List.mem_map.1 hx
    rfl
  · rintro j rows lp hj hrows
    have hj' : j < (pairsN m.rows.length).length := by simpa using hj
    have hz : ((pairsN m.rows.length).map pairC)[j] = pairC (pairsN m.rows.length)[j] := by simp
    have hp := mem_pairsN (List.getElem_mem hj')
    have htk := pair_take hj'
    rw [hz]
    generalize (pairsN m.rows.length)[j] = p at hp htk
    obtain ⟨s, t⟩ := p
    simp only at hp
    have hrl : rows.length < 10000 := by rw [hrows]; simp; omega
    have htab := wTab_get2 W (show s < 64 by omega) (show t < 64 by omega)
    obtain ⟨w, hw⟩ : ∃ w, w = sepW m s t := ⟨_, rfl⟩
    have hwl := sepW_len m hv s t
    rw [show W s t = w by rw [hw, hW]; rfl] at htab
    rw [← hw] at hwl
    unfold memT
    refine EvC.seq (EvC.rg (by (simp only [go_sem, Nat.reduceLT, Nat.reduceLeDiff, Nat.reduceEqDiff, Nat.reduceAdd, Nat.reduceSub, Nat.reduceMul, Nat.reduceBEq, Int.reduceToNat, Int.reduceEq, Int.reduceLT, Int.reduceLE, Int.reduceAdd, ↓reduceIte, reduceCtorEq, pairC]) <;> rfl) (by simp) ?_)  -- R7
    refine EvC.rg (by (simp only [go_sem, Nat.reduceLT, Nat.reduceLeDiff, Nat.reduceEqDiff, Nat.reduceAdd, Nat.reduceSub, Nat.reduceMul, Nat.reduceBEq, Int.reduceToNat, Int.reduceEq, Int.reduceLT, Int.reduceLE, Int.reduceAdd, ↓reduceIte, reduceCtorEq]) <;> rfl) (by simp) ⟨rfl, ?_⟩  -- R8
    refine EvC.block ?_
    apply EvC.seq
    apply EvC.tr
    · apply Tr.run
      · (simp only [go_sem, Nat.reduceLT, Nat.reduceLeDiff, Nat.reduceEqDiff, Nat.reduceAdd, Nat.reduceSub, Nat.reduceMul, Nat.reduceBEq, Int.reduceToNat, Int.reduceEq, Int.reduceLT, Int.reduceLE, Int.reduceAdd, ↓reduceIte, reduceCtorEq, htab, Nat.mul_one, Int.toNat_natCast]) <;> rfl
      · simp [wTab_len]; try omega
      apply Tr.cons
      · exact .call rfl rfl (by (simp only [go_sem, Nat.reduceLT, Nat.reduceLeDiff, Nat.reduceEqDiff, Nat.reduceAdd, Nat.reduceSub, Nat.reduceMul, Nat.reduceBEq, Int.reduceToNat, Int.reduceEq, Int.reduceLT, Int.reduceLE, Int.reduceAdd, ↓reduceIte, reduceCtorEq]) <;> rfl) (by (simp only [go_sem, Nat.reduceLT, Nat.reduceLeDiff, Nat.reduceEqDiff, Nat.reduceAdd, Nat.reduceSub, Nat.reduceMul, Nat.reduceBEq, Int.reduceToNat, Int.reduceEq, Int.reduceLT, Int.reduceLE, Int.reduceAdd, ↓reduceIte, reduceCtorEq]) <;> rfl) (by (simp only [go_sem, Nat.reduceLT, Nat.reduceLeDiff, Nat.reduceEqDiff, Nat.reduceAdd, Nat.reduceSub, Nat.reduceMul, Nat.reduceBEq, Int.reduceToNat, Int.reduceEq, Int.reduceLT, Int.reduceLE, Int.reduceAdd, ↓reduceIte, reduceCtorEq]) <;> rfl) (by (simp only [go_sem, Nat.reduceLT, Nat.reduceLeDiff, Nat.reduceEqDiff, Nat.reduceAdd, Nat.reduceSub, Nat.reduceMul, Nat.reduceBEq, Int.reduceToNat, Int.reduceEq, Int.reduceLT, Int.reduceLE, Int.reduceAdd, ↓reduceIte, reduceCtorEq]) <;> rfl) (by (simp only [go_sem, Nat.reduceLT, Nat.reduceLeDiff, Nat.reduceEqDiff, Nat.reduceAdd, Nat.reduceSub, Nat.reduceMul, Nat.reduceBEq, Int.reduceToNat, Int.reduceEq, Int.reduceLT, Int.reduceLE, Int.reduceAdd, ↓reduceIte, reduceCtorEq]) <;> rfl) (clone_is w.isEmpty w (cpW w) isEmpty_nil (by omega))
      apply Tr.run
      · (simp only [go_sem, Nat.reduceLT, Nat.reduceLeDiff, Nat.reduceEqDiff, Nat.reduceAdd, Nat.reduceSub, Nat.reduceMul, Nat.reduceBEq, Int.reduceToNat, Int.reduceEq, Int.reduceLT, Int.reduceLE, Int.reduceAdd, ↓reduceIte, reduceCtorEq, htab, Nat.mul_one, Int.toNat_natCast]) <;> rfl
      · simp [wTab_len]; try omega
      apply Tr.cons
      · exact .call rfl rfl (by (simp only [go_sem, Nat.reduceLT, Nat.reduceLeDiff, Nat.reduceEqDiff, Nat.reduceAdd, Nat.reduceSub, Nat.reduceMul, Nat.reduceBEq, Int.reduceToNat, Int.reduceEq, Int.reduceLT, Int.reduceLE, Int.reduceAdd, ↓reduceIte, reduceCtorEq]) <;> rfl) (by (simp only [go_sem, Nat.reduceLT, Nat.reduceLeDiff, Nat.reduceEqDiff, Nat.reduceAdd, Nat.reduceSub, Nat.reduceMul, Nat.reduceBEq, Int.reduceToNat, Int.reduceEq, Int.reduceLT, Int.reduceLE, Int.reduceAdd, ↓reduceIte, reduceCtorEq]) <;> rfl) (by (simp only [go_sem, Nat.reduceLT, Nat.reduceLeDiff, Nat.reduceEqDiff, Nat.reduceAdd, Nat.reduceSub, Nat.reduceMul, Nat.reduceBEq, Int.reduceToNat, Int.reduceEq, Int.reduceLT, Int.reduceLE, Int.reduceAdd, ↓reduceIte, reduceCtorEq]) <;> rfl) (by (simp only [go_sem, Nat.reduceLT, Nat.reduceLeDiff, Nat.reduceEqDiff, Nat.reduceAdd, Nat.reduceSub, Nat.reduceMul, Nat.reduceBEq, Int.reduceToNat, Int.reduceEq, Int.reduceLT, Int.reduceLE, Int.reduceAdd, ↓reduceIte, reduceCtorEq]) <;> rfl) (by (simp only [go_sem, Nat.reduceLT, Nat.reduceLeDiff, Nat.reduceEqDiff, Nat.reduceAdd, Nat.reduceSub, Nat.reduceMul, Nat.reduceBEq, Int.reduceToNat, Int.reduceEq, Int.reduceLT, Int.reduceLE, Int.reduceAdd, ↓reduceIte, reduceCtorEq]) <;> rfl) (clip31_is w.isEmpty (w.map intC) .unk (intC_len w))
      apply Tr.done
      · (simp only [go_sem, Nat.reduceLT, Nat.reduceLeDiff, Nat.reduceEqDiff, Nat.reduceAdd, Nat.reduceSub, Nat.reduceMul, Nat.reduceBEq, Int.reduceToNat, Int.reduceEq, Int.reduceLT, Int.reduceLE, Int.reduceAdd, ↓reduceIte, reduceCtorEq]) <;> rfl
      · simp
    apply EvC.rg
    · (simp only [go_sem, Nat.reduceLT, Nat.reduceLeDiff, Nat.reduceEqDiff, Nat.reduceAdd, Nat.reduceSub, Nat.reduceMul, Nat.reduceBEq, Int.reduceToNat, Int.reduceEq, Int.reduceLT, Int.reduceLE, Int.reduceAdd, ↓reduceIte, reduceCtorEq, List.length_map]) <;> rfl
    · simp [room_eq, AV.norefs, AV.noref]; omega
    refine ⟨[(0, 0), (1, 1), (2, 2)], rows ++ [((s, t), w)], rfl, by (simp only [go_sem, Nat.reduceLT, Nat.reduceLeDiff, Nat.reduceEqDiff, Nat.reduceAdd, Nat.reduceSub, Nat.reduceMul, Nat.reduceBEq, Int.reduceToNat, Int.reduceEq, Int.reduceLT, Int.reduceLE, Int.reduceAdd, ↓reduceIte, reduceCtorEq, memT, tblC, List.length_map]) <;> rfl, ?_⟩
    rw [htk, List.map_append, hrows, hw]; rfl
  · rintro rows hrows
    rw [List.length_map, List.take_length] at hrows
    have hrows : rows = tblL m := hrows
    subst hrows
    unfold memT
    refine EvC.frzD 2 (by (simp only [go_sem, Nat.reduceLT, Nat.reduceLeDiff, Nat.reduceEqDiff, Nat.reduceAdd, Nat.reduceSub, Nat.reduceMul, Nat.reduceBEq, Int.reduceToNat, Int.reduceEq, Int.reduceLT, Int.reduceLE, Int.reduceAdd, ↓reduceIte, reduceCtorEq, List.length_map]) <;> rfl) ?_
    apply EvC.seq
    apply EvC.tr
    · apply Tr.run
      · (simp only [go_sem, Nat.reduceLT, Nat.reduceLeDiff, Nat.reduceEqDiff, Nat.reduceAdd, Nat.reduceSub, Nat.reduceMul, Nat.reduceBEq, Int.reduceToNat, Int.reduceEq, Int.reduceLT, Int.reduceLE, Int.reduceAdd, ↓reduceIte, reduceCtorEq]) <;> rfl
      · simp
      apply Tr.cons
      · exact .call rfl rfl (by (simp only [go_sem, Nat.reduceLT, Nat.reduceLeDiff, Nat.reduceEqDiff, Nat.reduceAdd, Nat.reduceSub, Nat.reduceMul, Nat.reduceBEq, Int.reduceToNat, Int.reduceEq, Int.reduceLT, Int.reduceLE, Int.reduceAdd, ↓reduceIte, reduceCtorEq]) <;> rfl) (by (simp only [go_sem, Nat.reduceLT, Nat.reduceLeDiff, Nat.reduceEqDiff, Nat.reduceAdd, Nat.reduceSub, Nat.reduceMul, Nat.reduceBEq, Int.reduceToNat, Int.reduceEq, Int.reduceLT, Int.reduceLE, Int.reduceAdd, ↓reduceIte, reduceCtorEq]) <;> rfl) (by (simp only [go_sem, Nat.reduceLT, Nat.reduceLeDiff, Nat.reduceEqDiff, Nat.reduceAdd, Nat.reduceSub, Nat.reduceMul, Nat.reduceBEq, Int.reduceToNat, Int.reduceEq, Int.reduceLT, Int.reduceLE, Int.reduceAdd, ↓reduceIte, reduceCtorEq]) <;> rfl) (by (simp only [go_sem, Nat.reduceLT, Nat.reduceLeDiff, Nat.reduceEqDiff, Nat.reduceAdd, Nat.reduceSub, Nat.reduceMul, Nat.reduceBEq, Int.reduceToNat, Int.reduceEq, Int.reduceLT, Int.reduceLE, Int.reduceAdd, ↓reduceIte, reduceCtorEq]) <;> rfl) (by (simp only [go_sem, Nat.reduceLT, Nat.reduceLeDiff, Nat.reduceEqDiff, Nat.reduceAdd, Nat.reduceSub, Nat.reduceMul, Nat.reduceBEq, Int.reduceToNat, Int.reduceEq, Int.reduceLT, Int.reduceLE, Int.reduceAdd, ↓reduceIte, reduceCtorEq]) <;> rfl) (clip43_is (tblL m).isEmpty ((tblL m).map tblC) .unk (tblC_len _))
      apply Tr.done
      · (simp only [go_sem, Nat.reduceLT, Nat.reduceLeDiff, Nat.reduceEqDiff, Nat.reduceAdd, Nat.reduceSub, Nat.reduceMul, Nat.reduceBEq, Int.reduceToNat, Int.reduceEq, Int.reduceLT, Int.reduceLE, Int.reduceAdd, ↓reduceIte, reduceCtorEq]) <;> rfl
      · simp
    refine EvC.ret ⟨.inl rfl, _, (by (simp only [go_sem, Nat.reduceLT, Nat.reduceLeDiff, Nat.reduceEqDiff, Nat.reduceAdd, Nat.reduceSub, Nat.reduceMul, Nat.reduceBEq, Int.reduceToNat, Int.reduceEq, Int.reduceLT, Int.reduceLE, Int.reduceAdd, ↓reduceIte, reduceCtorEq]) <;> rfl), ?_, tableA_noref _⟩
    simp only [go_sem, Nat.reduceLT, Nat.reduceLeDiff, Nat.reduceEqDiff, Nat.reduceAdd, Nat.reduceSub, Nat.reduceMul, Nat.reduceBEq, Int.reduceToNat, Int.reduceEq, Int.reduceLT, Int.reduceLE, Int.reduceAdd, ↓reduceIte, reduceCtorEq]
    rw [tableA, if_neg h1]
def maxLen (l : List TRow) : Int := l.foldl (fun n p => max n (p.2.length : Int)) 0
def heightA (m : Mach) : AV := if checkM m ≠ 0 then .tu [.sc (.int .i64 0), .sc (.int .i64 (checkM m))] else .tu [.sc (.int .i64 (maxLen (tblL m))), .sc (.int .i64 0)]
theorem heightA_noref (m : Mach) : (heightA m).noref = true := by unfold heightA; repeat (first | rfl | split)
theorem height_is (m : Mach) (hr : ∀ r ∈ m.rows, r.2.length < 1000000) : PureIs prog 21 [.ag m.cells] (heightA m) := by
  refine PureIs.of (nv := 7) (hid := [8, 14, 15, 16, 17]) func21 rfl (by kernel_rfl) (by simp [ntmps21]) fun _ => ?_
  rw [ntmps21, results21]
  refine EvC.seq (EvC.rg (by (simp only [go_sem, Nat.reduceLT, Nat.reduceLeDiff, Nat.reduceEqDiff, Nat.reduceAdd, Nat.reduceSub, Nat.reduceMul, Nat.reduceBEq, Int.reduceToNat, Int.reduceEq, Int.reduceLT, Int.reduceLE, Int.reduceAdd, ↓reduceIte, reduceCtorEq, Mach.cells]) <;> rfl) (by simp) ?_)
  refine EvC.frzB 0 (by (simp only [go_sem, Nat.reduceLT, Nat.reduceLeDiff, Nat.reduceEqDiff, Nat.reduceAdd, Nat.reduceSub, Nat.reduceMul, Nat.reduceBEq, Int.reduceToNat, Int.reduceEq, Int.reduceLT, Int.reduceLE, Int.reduceAdd, ↓reduceIte, reduceCtorEq]) <;> rfl) ?_
  have ht := table_is m hr
  by_cases h1 : checkM m ≠ 0
  · rw [tableA, if_pos h1] at ht
    apply EvC.seq
    apply EvC.tr
    · apply Tr.run
      · (simp only [go_sem, Nat.reduceLT, Nat.reduceLeDiff, Nat.reduceEqDiff, Nat.reduceAdd, Nat.reduceSub, Nat.reduceMul, Nat.reduceBEq, Int.reduceToNat, Int.reduceEq, Int.reduceLT, Int.reduceLE, Int.reduceAdd, ↓reduceIte, reduceCtorEq, Mach.cells]) <;> rfl
      · simp
      apply Tr.cons
      · exact .call rfl rfl (by (simp only [go_sem, Nat.reduceLT, Nat.reduceLeDiff, Nat.reduceEqDiff, Nat.reduceAdd, Nat.reduceSub, Nat.reduceMul, Nat.reduceBEq, Int.reduceToNat, Int.reduceEq, Int.reduceLT, Int.reduceLE, Int.reduceAdd, ↓reduceIte, reduceCtorEq]) <;> rfl) (by (simp only [go_sem, Nat.reduceLT, Nat.reduceLeDiff, Nat.reduceEqDiff, Nat.reduceAdd, Nat.reduceSub, Nat.reduceMul, Nat.reduceBEq, Int.reduceToNat, Int.reduceEq, Int.reduceLT, Int.reduceLE, Int.reduceAdd, ↓reduceIte, reduceCtorEq]) <;> rfl) (by (simp only [go_sem, Nat.reduceLT, Nat.reduceLeDiff, Nat.reduceEqDiff, Nat.reduceAdd, Nat.reduceSub, Nat.reduceMul, Nat.reduceBEq, Int.reduceToNat, Int.reduceEq, Int.reduceLT, Int.reduceLE, Int.reduceAdd, ↓reduceIte, reduceCtorEq]) <;> rfl) (by (simp only [go_sem, Nat.reduceLT, Nat.reduceLeDiff, Nat.reduceEqDiff, Nat.reduceAdd, Nat.reduceSub, Nat.reduceMul, Nat.reduceBEq, Int.reduceToNat, Int.reduceEq, Int.reduceLT, Int.reduceLE, Int.reduceAdd, ↓reduceIte, reduceCtorEq]) <;> rfl) (by (simp only [go_sem, Nat.reduceLT, Nat.reduceLeDiff, Nat.reduceEqDiff, Nat.reduceAdd, Nat.reduceSub, Nat.reduceMul, Nat.reduceBEq, Int.reduceToNat, Int.reduceEq, Int.reduceLT, Int.reduceLE, Int.reduceAdd, ↓reduceIte, reduceCtorEq]) <;> rfl) (ht)
      apply Tr.done
      · (simp only [go_sem, Nat.reduceLT, Nat.reduceLeDiff, Nat.reduceEqDiff, Nat.reduceAdd, Nat.reduceSub, Nat.reduceMul, Nat.reduceBEq, Int.reduceToNat, Int.reduceEq, Int.reduceLT, Int.reduceLE, Int.reduceAdd, ↓reduceIte, reduceCtorEq]) <;> rfl
      · simp
    refine EvC.seq (EvC.rg (by (simp only [go_sem, Nat.reduceLT, Nat.reduceLeDiff, Nat.reduceEqDiff, Nat.reduceAdd, Nat.reduceSub, Nat.reduceMul, Nat.reduceBEq, Int.reduceToNat, Int.reduceEq, Int.reduceLT, Int.reduceLE, Int.reduceAdd, ↓reduceIte, reduceCtorEq]) <;> rfl) (by simp) ?_)
    refine EvC.seq ?_
    refine EvC.seq (EvC.rg (by (simp only [go_sem, Nat.reduceLT, Nat.reduceLeDiff, Nat.reduceEqDiff, Nat.reduceAdd, Nat.reduceSub, Nat.reduceMul, Nat.reduceBEq, Int.reduceToNat, Int.reduceEq, Int.reduceLT, Int.reduceLE, Int.reduceAdd, ↓reduceIte, reduceCtorEq]) <;> rfl) (by simp) ?_)
    refine EvC.block ?_  -- 0
    refine EvC.loopS (σ := Unit) (fun _ => ⟨[(5, .sc (.int .i64 (checkM m))), (6, .sc (.int .i64 0)), (14, .sl true [] .unk), (15, .sc (.int .i64 0)), (16, .sc (.int .i64 0))], [], [], 0⟩) (fun _ => 0) (fun _ => True) [5, 6, 14, 15, 16] 0 ?_ ?_
    · exact ⟨[], (), rfl, (by (simp only [go_sem, Nat.reduceLT, Nat.reduceLeDiff, Nat.reduceEqDiff, Nat.reduceAdd, Nat.reduceSub, Nat.reduceMul, Nat.reduceBEq, Int.reduceToNat, Int.reduceEq, Int.reduceLT, Int.reduceLE, Int.reduceAdd, ↓reduceIte, reduceCtorEq]) <;> rfl), trivial⟩
    rintro _ _
    refine EvC.seq (EvC.rg (by (simp only [go_sem, Nat.reduceLT, Nat.reduceLeDiff, Nat.reduceEqDiff, Nat.reduceAdd, Nat.reduceSub, Nat.reduceMul, Nat.reduceBEq, Int.reduceToNat, Int.reduceEq, Int.reduceLT, Int.reduceLE, Int.reduceAdd, ↓reduceIte, reduceCtorEq]) <;> rfl) (by simp) ?_)
    refine EvC.seq ?_
    refine EvC.cond_false (by (simp only [go_sem, Nat.reduceLT, Nat.reduceLeDiff, Nat.reduceEqDiff, Nat.reduceAdd, Nat.reduceSub, Nat.reduceMul, Nat.reduceBEq, Int.reduceToNat, Int.reduceEq, Int.reduceLT, Int.reduceLE, Int.reduceAdd, ↓reduceIte, reduceCtorEq]) <;> rfl) ?_
    refine EvC.exit ?_
    refine EvC.seq (EvC.rg (by (simp only [go_sem, Nat.reduceLT, Nat.reduceLeDiff, Nat.reduceEqDiff, Nat.reduceAdd, Nat.reduceSub, Nat.reduceMul, Nat.reduceBEq, Int.reduceToNat, Int.reduceEq, Int.reduceLT, Int.reduceLE, Int.reduceAdd, ↓reduceIte, reduceCtorEq]) <;> rfl) (by simp) ?_)
    refine EvC.ret ⟨.inl rfl, _, (by (simp only [go_sem, Nat.reduceLT, Nat.reduceLeDiff, Nat.reduceEqDiff, Nat.reduceAdd, Nat.reduceSub, Nat.reduceMul, Nat.reduceBEq, Int.reduceToNat, Int.reduceEq, Int.reduceLT, Int.reduceLE, Int.reduceAdd, ↓reduceIte, reduceCtorEq]) <;> rfl), ?_, heightA_noref _⟩
    simp only [go_sem, Nat.reduceLT, Nat.reduceLeDiff, Nat.reduceEqDiff, Nat.reduceAdd, Nat.reduceSub, Nat.reduceMul, Nat.reduceBEq, Int.reduceToNat, Int.reduceEq, Int.reduceLT, Int.reduceLE, Int.reduceAdd, ↓reduceIte, reduceCtorEq]
    rw [heightA, if_pos h1]
  rw [tableA, if_neg h1] at ht
  have hv : Valid m := .of (by simpa using h1)
  have hrw := hv.rows
  obtain ⟨T, hT⟩ : ∃ T, T = tblL m := ⟨_, rfl⟩
  have hTl : T.length < 10000 := by
    have := pairsN_len m.rows.length
    have : m.rows.length * m.rows.length ≤ 64 * 64 := Nat.mul_le_mul hrw.2 hrw.2
    rw [hT, tblL, List.length_map]; omega
  rw [← hT] at ht
  apply EvC.seq
  apply EvC.tr
  · apply Tr.run
    · (simp only [go_sem, Nat.reduceLT, Nat.reduceLeDiff, Nat.reduceEqDiff, Nat.reduceAdd, Nat.reduceSub, Nat.reduceMul, Nat.reduceBEq, Int.reduceToNat, Int.reduceEq, Int.reduceLT, Int.reduceLE, Int.reduceAdd, ↓reduceIte, reduceCtorEq, Mach.cells]) <;> rfl
    · simp
    apply Tr.cons
    · exact .call rfl rfl (by (simp only [go_sem, Nat.reduceLT, Nat.reduceLeDiff, Nat.reduceEqDiff, Nat.reduceAdd, Nat.reduceSub, Nat.reduceMul, Nat.reduceBEq, Int.reduceToNat, Int.reduceEq, Int.reduceLT, Int.reduceLE, Int.reduceAdd, ↓reduceIte, reduceCtorEq]) <;> rfl) (by (simp only [go_sem, Nat.reduceLT, Nat.reduceLeDiff, Nat.reduceEqDiff, Nat.reduceAdd, Nat.reduceSub, Nat.reduceMul, Nat.reduceBEq, Int.reduceToNat, Int.reduceEq, Int.reduceLT, Int.reduceLE, Int.reduceAdd, ↓reduceIte, reduceCtorEq]) <;> rfl) (by (simp only [go_sem, Nat.reduceLT, Nat.reduceLeDiff, Nat.reduceEqDiff, Nat.reduceAdd, Nat.reduceSub, Nat.reduceMul, Nat.reduceBEq, Int.reduceToNat, Int.reduceEq, Int.reduceLT, Int.reduceLE, Int.reduceAdd, ↓reduceIte, reduceCtorEq]) <;> rfl) (by (simp only [go_sem, Nat.reduceLT, Nat.reduceLeDiff, Nat.reduceEqDiff, Nat.reduceAdd, Nat.reduceSub, Nat.reduceMul, Nat.reduceBEq, Int.reduceToNat, Int.reduceEq, Int.reduceLT, Int.reduceLE, Int.reduceAdd, ↓reduceIte, reduceCtorEq]) <;> rfl) (by (simp only [go_sem, Nat.reduceLT, Nat.reduceLeDiff, Nat.reduceEqDiff, Nat.reduceAdd, Nat.reduceSub, Nat.reduceMul, Nat.reduceBEq, Int.reduceToNat, Int.reduceEq, Int.reduceLT, Int.reduceLE, Int.reduceAdd, ↓reduceIte, reduceCtorEq]) <;> rfl) (ht)
    apply Tr.done
    · (simp only [go_sem, Nat.reduceLT, Nat.reduceLeDiff, Nat.reduceEqDiff, Nat.reduceAdd, Nat.reduceSub, Nat.reduceMul, Nat.reduceBEq, Int.reduceToNat, Int.reduceEq, Int.reduceLT, Int.reduceLE, Int.reduceAdd, ↓reduceIte, reduceCtorEq]) <;> rfl
    · simp
  refine EvC.seq (EvC.rg (by (simp only [go_sem, Nat.reduceLT, Nat.reduceLeDiff, Nat.reduceEqDiff, Nat.reduceAdd, Nat.reduceSub, Nat.reduceMul, Nat.reduceBEq, Int.reduceToNat, Int.reduceEq, Int.reduceLT, Int.reduceLE, Int.reduceAdd, ↓reduceIte, reduceCtorEq]) <;> rfl) (by simp) ?_)
  refine EvC.seq ?_
  refine EvC.seq (EvC.rg (by (simp only [go_sem, Nat.reduceLT, Nat.reduceLeDiff, Nat.reduceEqDiff, Nat.reduceAdd, Nat.reduceSub, Nat.reduceMul, Nat.reduceBEq, Int.reduceToNat, Int.reduceEq, Int.reduceLT, Int.reduceLE, Int.reduceAdd, ↓reduceIte, reduceCtorEq]) <;> rfl) (by simp) ?_)
  refine EvC.block ?_  -- 0
  refine EvC.loopS (σ := Nat) (fun i => ⟨[(5, .sc (.int .i64 0)), (6, .sc (.int .i64 (maxLen (T.take i)))), (14, .sl T.isEmpty (T.map tblC) .full), (15, .sc (.int .i64 T.length)), (16, .sc (.int .i64 i))], [], [], 0⟩) (fun i => T.length - i) (fun i => i ≤ T.length) [5, 6, 14, 15, 16] 0 ?_ ?_
  · exact ⟨[], 0, rfl, (by (simp only [go_sem, Nat.reduceLT, Nat.reduceLeDiff, Nat.reduceEqDiff, Nat.reduceAdd, Nat.reduceSub, Nat.reduceMul, Nat.reduceBEq, Int.reduceToNat, Int.reduceEq, Int.reduceLT, Int.reduceLE, Int.reduceAdd, ↓reduceIte, reduceCtorEq, maxLen, List.foldl_nil]) <;> rfl), Nat.zero_le _⟩
  intro i hi
  refine EvC.seq (EvC.rg (by (simp only [go_sem, Nat.reduceLT, Nat.reduceLeDiff, Nat.reduceEqDiff, Nat.reduceAdd, Nat.reduceSub, Nat.reduceMul, Nat.reduceBEq, Int.reduceToNat, Int.reduceEq, Int.reduceLT, Int.reduceLE, Int.reduceAdd, ↓reduceIte, reduceCtorEq]) <;> rfl) (by simp) ?_)
  refine EvC.seq ?_
  refine EvC.cond (by (simp only [go_sem, Nat.reduceLT, Nat.reduceLeDiff, Nat.reduceEqDiff, Nat.reduceAdd, Nat.reduceSub, Nat.reduceMul, Nat.reduceBEq, Int.reduceToNat, Int.reduceEq, Int.reduceLT, Int.reduceLE, Int.reduceAdd, ↓reduceIte, reduceCtorEq]) <;> rfl) (fun hc => ?_) (fun hc => ?_)
  rotate_left
  · refine EvC.exit ?_  -- 0
    obtain rfl : i = T.length := by have : ¬ i < T.length := by simpa using hc
                                    omega
    rw [List.take_length]
    refine EvC.seq (EvC.rg (by (simp only [go_sem, Nat.reduceLT, Nat.reduceLeDiff, Nat.reduceEqDiff, Nat.reduceAdd, Nat.reduceSub, Nat.reduceMul, Nat.reduceBEq, Int.reduceToNat, Int.reduceEq, Int.reduceLT, Int.reduceLE, Int.reduceAdd, ↓reduceIte, reduceCtorEq]) <;> rfl) (by simp) ?_)
    refine EvC.ret ⟨.inl rfl, _, (by (simp only [go_sem, Nat.reduceLT, Nat.reduceLeDiff, Nat.reduceEqDiff, Nat.reduceAdd, Nat.reduceSub, Nat.reduceMul, Nat.reduceBEq, Int.reduceToNat, Int.reduceEq, Int.reduceLT, Int.reduceLE, Int.reduceAdd, ↓reduceIte, reduceCtorEq]) <;> rfl), ?_, heightA_noref _⟩
    simp only [go_sem, Nat.reduceLT, Nat.reduceLeDiff, Nat.reduceEqDiff, Nat.reduceAdd, Nat.reduceSub, Nat.reduceMul, Nat.reduceBEq, Int.reduceToNat, Int.reduceEq, Int.reduceLT, Int.reduceLE, Int.reduceAdd, ↓reduceIte, reduceCtorEq]
    rw [heightA, if_neg h1, hT]
  have hi : i < T.length := by simpa using hc
  have he : T[i]? = some T[i] := List.getElem?_eq_getElem hi
  have htk := pair_take hi
  generalize T[i] = p at he htk
  have hmx : maxLen (T.take (i + 1)) = if maxLen (T.take i) ≤ (p.2.length : Int) then (p.2.length : Int) else maxLen (T.take i) := by
    rw [htk, maxLen, List.foldl_append]; show max _ _ = _; unfold maxLen; omega
  refine EvC.skip ?_
  refine EvC.seq ?_
  refine EvC.block ?_  -- 1
  refine EvC.seq (EvC.rg (by (simp only [go_sem, Nat.reduceLT, Nat.reduceLeDiff, Nat.reduceEqDiff, Nat.reduceAdd, Nat.reduceSub, Nat.reduceMul, Nat.reduceBEq, Int.reduceToNat, Int.reduceEq, Int.reduceLT, Int.reduceLE, Int.reduceAdd, ↓reduceIte, reduceCtorEq, he, tblC, Int.toNat_natCast]) <;> rfl) (by simp) ?_)
  refine EvC.rg (by (simp only [go_sem, Nat.reduceLT, Nat.reduceLeDiff, Nat.reduceEqDiff, Nat.reduceAdd, Nat.reduceSub, Nat.reduceMul, Nat.reduceBEq, Int.reduceToNat, Int.reduceEq, Int.reduceLT, Int.reduceLE, Int.reduceAdd, ↓reduceIte, reduceCtorEq]) <;> rfl) (by simp) ?_
  refine EvC.rg (by (simp only [go_sem, Nat.reduceLT, Nat.reduceLeDiff, Nat.reduceEqDiff, Nat.reduceAdd, Nat.reduceSub, Nat.reduceMul, Nat.reduceBEq, Int.reduceToNat, Int.reduceEq, Int.reduceLT, Int.reduceLE, Int.reduceAdd, ↓reduceIte, reduceCtorEq]) <;> rfl) (by exact inI64_of (by omega) (by omega)) ?_
  exact ⟨[], i + 1, rfl, (by (simp only [go_sem, Nat.reduceLT, Nat.reduceLeDiff, Nat.reduceEqDiff, Nat.reduceAdd, Nat.reduceSub, Nat.reduceMul, Nat.reduceBEq, Int.reduceToNat, Int.reduceEq, Int.reduceLT, Int.reduceLE, Int.reduceAdd, ↓reduceIte, reduceCtorEq, hmx]) <;> rfl), by omega, by omega⟩
end Go.Avl
namespace Go.Avl
open Go Go.Proofs.Try
set_option maxRecDepth 10000
set_option linter.unusedSimpArgs false

/-- The different elements of a list, in the order in which they first come. -/
def ddStep (acc : List Int) (x : Int) : List Int := if x ∈ acc then acc else acc ++ [x]
def dd (l : List Int) : List Int := l.foldl ddStep []
/-- Equal elements by the same number, the numbers in the order in which they first come. -/
def nmOf (D l : List Int) : List Int := l.map fun x => ((D.idxOf x : Nat) : Int)
def nm (l : List Int) : List Int := nmOf (dd l) l
theorem ddStep_pre (acc : List Int) (x : Int) : ∃ t, ddStep acc x = acc ++ t := by unfold ddStep; split; exact ⟨[], by simp⟩; exact ⟨_, rfl⟩
theorem foldl_dd_pre : ∀ (l acc : List Int), ∃ t, l.foldl ddStep acc = acc ++ t
  | [], acc => ⟨[], by simp⟩
  | x :: l, acc => by
    obtain ⟨t, ht⟩ := ddStep_pre acc x
    obtain ⟨u, hu⟩ := foldl_dd_pre l (ddStep acc x)
    exact ⟨t ++ u, by rw [List.foldl_cons, hu, ht, List.append_assoc]⟩
theorem dd_pre (l : List Int) (i : Nat) : ∃ t, dd l = dd (l.take i) ++ t := by
  obtain ⟨t, ht⟩ := foldl_dd_pre (l.drop i) (dd (l.take i))
  refine ⟨t, ?_⟩
  rw [← ht, dd, dd, ← List.foldl_append, List.take_append_drop]
theorem mem_foldl_dd : ∀ (l acc : List Int) (x : Int), x ∈ l.foldl ddStep acc ↔ x ∈ acc ∨ x ∈ l
  | [], acc, x => by simp
  | y :: l, acc, x => by
    rw [List.foldl_cons, mem_foldl_dd l]
    unfold ddStep
    split
    · rename_i h
      constructor
      · rintro (h1 | h1)
        · exact .inl h1
        · exact .inr (List.mem_cons_of_mem _ h1)
      · rintro (h1 | h1)
        · exact .inl h1
        · rcases List.mem_cons.1 h1 with rfl | h1
          · exact .inl h
          · exact .inr h1
    · simp [or_assoc]
theorem mem_dd {l : List Int} {x : Int} : x ∈ dd l ↔ x ∈ l := by unfold dd; rw [mem_foldl_dd]; simp
theorem dd_snoc {l : List Int} {i : Nat} {x : Int} (h : l[i]? = some x) : dd (l.take (i + 1)) = if x ∈ l.take i then dd (l.take i) else dd (l.take i) ++ [x] := by
  rw [List.take_add_one, h, dd, List.foldl_append]
  show ddStep (dd (l.take i)) x = _
  unfold ddStep
  by_cases hx : x ∈ l.take i
  · rw [if_pos (mem_dd.2 hx), if_pos hx]
  · rw [if_neg (fun h => hx (mem_dd.1 h)), if_neg hx]
theorem idx_old {l : List Int} {i : Nat} {x : Int} (hx : x ∈ l.take i) : (dd l).idxOf x = (dd (l.take i)).idxOf x := by
  obtain ⟨t, ht⟩ := dd_pre l i
  rw [ht, List.idxOf_append, if_pos (mem_dd.2 hx)]
theorem idx_new {l : List Int} {i : Nat} {x : Int} (h : l[i]? = some x) (hx : x ∉ l.take i) : (dd l).idxOf x = (dd (l.take i)).length := by
  obtain ⟨t, ht⟩ := dd_pre l (i + 1)
  rw [dd_snoc h, if_neg hx] at ht
  rw [ht, List.append_assoc, List.idxOf_append, if_neg (fun h => hx (mem_dd.1 h))]
  simp
theorem dd_len (l : List Int) : (dd l).length ≤ l.length := by
  have : ∀ (l acc : List Int), (l.foldl ddStep acc).length ≤ acc.length + l.length := fun l => by
    induction l with
    | nil => intro acc; simp
    | cons x l ih =>
      intro acc
      have := ih (ddStep acc x)
      have h2 : (ddStep acc x).length ≤ acc.length + 1 := by unfold ddStep; split <;> simp
      simp only [List.foldl_cons, List.length_cons]; omega
  have := this l []
  simpa [dd] using this
theorem nmOf_len (D l : List Int) : (nmOf D l).length = l.length := by simp [nmOf]
theorem nmOf_get {D l : List Int} {k : Nat} {x : Int} (h : l[k]? = some x) : (nmOf D l)[k]? = some ((D.idxOf x : Nat) : Int) := by unfold nmOf; rw [List.getElem?_map, h]; rfl
theorem nmOf_snoc {D l : List Int} {i : Nat} {x : Int} (h : l[i]? = some x) : nmOf D (l.take (i + 1)) = nmOf D (l.take i) ++ [((D.idxOf x : Nat) : Int)] := by
  unfold nmOf; rw [List.take_add_one, h, List.map_append]; rfl
theorem take_snoc {α : Type} {l : List α} {i : Nat} {x : α} (h : l[i]? = some x) : l.take (i + 1) = l.take i ++ [x] := by rw [List.take_add_one, h]; rfl

theorem of48_is (nl : Bool) (l : List Int) (c : Cp) (hl : l.length < 1000000) : PureIs prog 48 [.sl nl (l.map intC) c] (.sl (nm l).isEmpty ((nm l).map intC) .unk) := by
  obtain ⟨D, hD⟩ : ∃ D, D = dd l := ⟨_, rfl⟩
  refine PureIs.of (nv := 1) (hid := [2, 3, 4, 5, 6, 7, 11, 16, 27, 33]) func48 rfl (by kernel_rfl) (by simp [ntmps48]) fun _ => ?_
  rw [ntmps48, results48]
  refine EvC.seq (EvC.rg (by (simp only [go_sem, Nat.reduceLT, Nat.reduceLeDiff, Nat.reduceEqDiff, Nat.reduceAdd, Nat.reduceSub, Nat.reduceMul, Nat.reduceBEq, Int.reduceToNat, Int.reduceEq, Int.reduceLT, Int.reduceLE, Int.reduceAdd, ↓reduceIte, reduceCtorEq]) <;> rfl) (by simp) ?_)
  refine EvC.seq (EvC.rg (by (simp only [go_sem, Nat.reduceLT, Nat.reduceLeDiff, Nat.reduceEqDiff, Nat.reduceAdd, Nat.reduceSub, Nat.reduceMul, Nat.reduceBEq, Int.reduceToNat, Int.reduceEq, Int.reduceLT, Int.reduceLE, Int.reduceAdd, ↓reduceIte, reduceCtorEq]) <;> rfl) (by simp) ?_)
  refine EvC.seq (EvC.rg (by (simp only [go_sem, Nat.reduceLT, Nat.reduceLeDiff, Nat.reduceEqDiff, Nat.reduceAdd, Nat.reduceSub, Nat.reduceMul, Nat.reduceBEq, Int.reduceToNat, Int.reduceEq, Int.reduceLT, Int.reduceLE, Int.reduceAdd, ↓reduceIte, reduceCtorEq]) <;> rfl) (by simp) ?_)
  refine EvC.seq ?_
  refine EvC.seq (EvC.rg (by (simp only [go_sem, Nat.reduceLT, Nat.reduceLeDiff, Nat.reduceEqDiff, Nat.reduceAdd, Nat.reduceSub, Nat.reduceMul, Nat.reduceBEq, Int.reduceToNat, Int.reduceEq, Int.reduceLT, Int.reduceLE, Int.reduceAdd, ↓reduceIte, reduceCtorEq]) <;> rfl) (by simp) ?_)
  refine EvC.block ?_  -- 0
  refine EvC.loopS (σ := Nat × List Int × Nat) (fun g => ⟨[(0, .sl nl (l.map intC) c), (3, .tl 0 g.2.1.length g.2.1.isEmpty), (4, .sc (.int .i64 g.2.2)), (5, .sc (.int .i64 g.1))], [], [(0, .arr 1 (g.2.1.map intC) true)], 1⟩) (fun g => l.length - g.1)
    (fun g => g.1 ≤ l.length ∧ g.2.1 = nmOf D (l.take g.1) ∧ g.2.2 = (dd (l.take g.1)).length) [0, 3, 4, 5] 1 ?_ ?_
  · exact ⟨[(1, 0)], (0, [], 0), rfl, (by (simp only [go_sem, Nat.reduceLT, Nat.reduceLeDiff, Nat.reduceEqDiff, Nat.reduceAdd, Nat.reduceSub, Nat.reduceMul, Nat.reduceBEq, Int.reduceToNat, Int.reduceEq, Int.reduceLT, Int.reduceLE, Int.reduceAdd, ↓reduceIte, reduceCtorEq]) <;> rfl), Nat.zero_le _, rfl, rfl⟩
  rintro ⟨i, out, n⟩ ⟨h1, h2, h3⟩
  simp only at h1 h2 h3
  have hol : out.length = i := by rw [h2, nmOf_len]; simp; omega
  have hnl : n ≤ l.length := by rw [h3]; have := dd_len (l.take i); simp at this; omega
  refine EvC.seq ?_
  refine EvC.seq (EvC.rg (by (simp only [go_sem, Nat.reduceLT, Nat.reduceLeDiff, Nat.reduceEqDiff, Nat.reduceAdd, Nat.reduceSub, Nat.reduceMul, Nat.reduceBEq, Int.reduceToNat, Int.reduceEq, Int.reduceLT, Int.reduceLE, Int.reduceAdd, ↓reduceIte, reduceCtorEq]) <;> rfl) (by simp) ?_)
  refine EvC.cond (by (simp only [go_sem, Nat.reduceLT, Nat.reduceLeDiff, Nat.reduceEqDiff, Nat.reduceAdd, Nat.reduceSub, Nat.reduceMul, Nat.reduceBEq, Int.reduceToNat, Int.reduceEq, Int.reduceLT, Int.reduceLE, Int.reduceAdd, ↓reduceIte, reduceCtorEq]) <;> rfl) (fun hc => ?_) (fun hc => ?_)
  rotate_left
  · refine EvC.exit ?_  -- 0
    obtain rfl : i = l.length := by have : ¬ i < l.length := by simpa using hc
                                    omega
    rw [List.take_length] at h2
    refine EvC.frz 0 (by (simp only [go_sem, Nat.reduceLT, Nat.reduceLeDiff, Nat.reduceEqDiff, Nat.reduceAdd, Nat.reduceSub, Nat.reduceMul, Nat.reduceBEq, Int.reduceToNat, Int.reduceEq, Int.reduceLT, Int.reduceLE, Int.reduceAdd, ↓reduceIte, reduceCtorEq, List.length_map]) <;> rfl) ?_
    refine EvC.seq (EvC.rg (by (simp only [go_sem, Nat.reduceLT, Nat.reduceLeDiff, Nat.reduceEqDiff, Nat.reduceAdd, Nat.reduceSub, Nat.reduceMul, Nat.reduceBEq, Int.reduceToNat, Int.reduceEq, Int.reduceLT, Int.reduceLE, Int.reduceAdd, ↓reduceIte, reduceCtorEq]) <;> rfl) (by simp) ?_)
    refine EvC.ret ⟨.inl rfl, _, (by (simp only [go_sem, Nat.reduceLT, Nat.reduceLeDiff, Nat.reduceEqDiff, Nat.reduceAdd, Nat.reduceSub, Nat.reduceMul, Nat.reduceBEq, Int.reduceToNat, Int.reduceEq, Int.reduceLT, Int.reduceLE, Int.reduceAdd, ↓reduceIte, reduceCtorEq]) <;> rfl), ?_, rfl⟩
    simp only [go_sem, Nat.reduceLT, Nat.reduceLeDiff, Nat.reduceEqDiff, Nat.reduceAdd, Nat.reduceSub, Nat.reduceMul, Nat.reduceBEq, Int.reduceToNat, Int.reduceEq, Int.reduceLT, Int.reduceLE, Int.reduceAdd, ↓reduceIte, reduceCtorEq]
    rw [nm, h2, hD]
  have hi : i < l.length := by simpa using hc
  have he : l[i]? = some l[i] := List.getElem?_eq_getElem hi
  generalize l[i] = x at he
  refine EvC.skip ?_
  refine EvC.seq ?_
  refine EvC.block ?_  -- 1
  refine EvC.seq (EvC.rg (by (simp only [go_sem, Nat.reduceLT, Nat.reduceLeDiff, Nat.reduceEqDiff, Nat.reduceAdd, Nat.reduceSub, Nat.reduceMul, Nat.reduceBEq, Int.reduceToNat, Int.reduceEq, Int.reduceLT, Int.reduceLE, Int.reduceAdd, ↓reduceIte, reduceCtorEq]) <;> rfl) (by simp) ?_)
  refine EvC.seq ?_
  refine EvC.seq (EvC.rg (by (simp only [go_sem, Nat.reduceLT, Nat.reduceLeDiff, Nat.reduceEqDiff, Nat.reduceAdd, Nat.reduceSub, Nat.reduceMul, Nat.reduceBEq, Int.reduceToNat, Int.reduceEq, Int.reduceLT, Int.reduceLE, Int.reduceAdd, ↓reduceIte, reduceCtorEq]) <;> rfl) (by simp) ?_)
  refine EvC.block ?_  -- 2
  refine EvC.loopS (σ := Nat × Int) (fun g => ⟨[(0, .sl nl (l.map intC) c), (3, .tl 0 out.length out.isEmpty), (4, .sc (.int .i64 n)), (5, .sc (.int .i64 i)), (6, .sc (.int .i64 g.2)), (7, .sc (.int .i64 g.1))], [], [(0, .arr 1 (out.map intC) true)], 1⟩) (fun g => i - g.1)
    (fun g => g.1 ≤ i ∧ g.2 = if x ∈ l.take g.1 then ((D.idxOf x : Nat) : Int) else -1) [0, 3, 4, 5, 6, 7] 1 ?_ ?_
  · exact ⟨[(0, 0)], (0, -1), rfl, (by (simp only [go_sem, Nat.reduceLT, Nat.reduceLeDiff, Nat.reduceEqDiff, Nat.reduceAdd, Nat.reduceSub, Nat.reduceMul, Nat.reduceBEq, Int.reduceToNat, Int.reduceEq, Int.reduceLT, Int.reduceLE, Int.reduceAdd, ↓reduceIte, reduceCtorEq]) <;> rfl), Nat.zero_le _, by simp⟩
  rintro ⟨k, b⟩ ⟨k1, k2⟩
  simp only at k1 k2
  refine EvC.seq ?_
  refine EvC.seq (EvC.rg (by (simp only [go_sem, Nat.reduceLT, Nat.reduceLeDiff, Nat.reduceEqDiff, Nat.reduceAdd, Nat.reduceSub, Nat.reduceMul, Nat.reduceBEq, Int.reduceToNat, Int.reduceEq, Int.reduceLT, Int.reduceLE, Int.reduceAdd, ↓reduceIte, reduceCtorEq]) <;> rfl) (by simp) ?_)
  refine EvC.cond (by (simp only [go_sem, Nat.reduceLT, Nat.reduceLeDiff, Nat.reduceEqDiff, Nat.reduceAdd, Nat.reduceSub, Nat.reduceMul, Nat.reduceBEq, Int.reduceToNat, Int.reduceEq, Int.reduceLT, Int.reduceLE, Int.reduceAdd, ↓reduceIte, reduceCtorEq]) <;> rfl) (fun hc => ?_) (fun hc => ?_)
  rotate_left
  · refine EvC.exit ?_  -- 2
    obtain rfl : k = i := by have : ¬ k < i := by simpa using hc
                             omega
    refine EvC.seq ?_
    refine EvC.seq (EvC.rg (by (simp only [go_sem, Nat.reduceLT, Nat.reduceLeDiff, Nat.reduceEqDiff, Nat.reduceAdd, Nat.reduceSub, Nat.reduceMul, Nat.reduceBEq, Int.reduceToNat, Int.reduceEq, Int.reduceLT, Int.reduceLE, Int.reduceAdd, ↓reduceIte, reduceCtorEq]) <;> rfl) (by simp) ?_)
    refine EvC.cond (by (simp only [go_sem, Nat.reduceLT, Nat.reduceLeDiff, Nat.reduceEqDiff, Nat.reduceAdd, Nat.reduceSub, Nat.reduceMul, Nat.reduceBEq, Int.reduceToNat, Int.reduceEq, Int.reduceLT, Int.reduceLE, Int.reduceAdd, ↓reduceIte, reduceCtorEq]) <;> rfl) (fun hc => ?_) (fun hc => ?_)
    · have hb : b < 0 := by simpa using hc
      have hx : x ∉ l.take k := fun h => by rw [if_pos h] at k2; omega
      have hdx : ((D.idxOf x : Nat) : Int) = n := by rw [hD, idx_new he hx, h3]
      refine EvC.seq (EvC.rg (by (simp only [go_sem, Nat.reduceLT, Nat.reduceLeDiff, Nat.reduceEqDiff, Nat.reduceAdd, Nat.reduceSub, Nat.reduceMul, Nat.reduceBEq, Int.reduceToNat, Int.reduceEq, Int.reduceLT, Int.reduceLE, Int.reduceAdd, ↓reduceIte, reduceCtorEq]) <;> rfl) (by simp) ?_)
      refine EvC.rg (by (simp only [go_sem, Nat.reduceLT, Nat.reduceLeDiff, Nat.reduceEqDiff, Nat.reduceAdd, Nat.reduceSub, Nat.reduceMul, Nat.reduceBEq, Int.reduceToNat, Int.reduceEq, Int.reduceLT, Int.reduceLE, Int.reduceAdd, ↓reduceIte, reduceCtorEq]) <;> rfl) (by exact inI64_of (by omega) (by omega)) ?_
      refine EvC.rg (by (simp only [go_sem, Nat.reduceLT, Nat.reduceLeDiff, Nat.reduceEqDiff, Nat.reduceAdd, Nat.reduceSub, Nat.reduceMul, Nat.reduceBEq, Int.reduceToNat, Int.reduceEq, Int.reduceLT, Int.reduceLE, Int.reduceAdd, ↓reduceIte, reduceCtorEq, List.length_map]) <;> rfl) (by simp [room_eq, AV.norefs, AV.noref]; omega) ?_
      refine EvC.rg (by (simp only [go_sem, Nat.reduceLT, Nat.reduceLeDiff, Nat.reduceEqDiff, Nat.reduceAdd, Nat.reduceSub, Nat.reduceMul, Nat.reduceBEq, Int.reduceToNat, Int.reduceEq, Int.reduceLT, Int.reduceLE, Int.reduceAdd, ↓reduceIte, reduceCtorEq]) <;> rfl) (by exact inI64_of (by omega) (by omega)) ?_
      refine ⟨[(0, 0)], (k + 1, out ++ [(n : Int)], n + 1), rfl, (by (simp only [go_sem, Nat.reduceLT, Nat.reduceLeDiff, Nat.reduceEqDiff, Nat.reduceAdd, Nat.reduceSub, Nat.reduceMul, Nat.reduceBEq, Int.reduceToNat, Int.reduceEq, Int.reduceLT, Int.reduceLE, Int.reduceAdd, ↓reduceIte, reduceCtorEq, intC, List.length_map]) <;> rfl), ⟨by simp only; omega, ?_, ?_⟩, by simp only; omega⟩
      · simp only; rw [nmOf_snoc he, h2, hdx]
      · simp only; rw [dd_snoc he, if_neg hx, h3]; simp
    have hb : ¬ b < 0 := by simpa using hc
    have hx : x ∈ l.take k := by
      by_cases h : x ∈ l.take k
      · exact h
      · rw [if_neg h] at k2; omega
    rw [if_pos hx] at k2
    refine EvC.skip ?_
    refine EvC.rg (by (simp only [go_sem, Nat.reduceLT, Nat.reduceLeDiff, Nat.reduceEqDiff, Nat.reduceAdd, Nat.reduceSub, Nat.reduceMul, Nat.reduceBEq, Int.reduceToNat, Int.reduceEq, Int.reduceLT, Int.reduceLE, Int.reduceAdd, ↓reduceIte, reduceCtorEq, List.length_map]) <;> rfl) (by simp [room_eq, AV.norefs, AV.noref]; omega) ?_
    refine EvC.rg (by (simp only [go_sem, Nat.reduceLT, Nat.reduceLeDiff, Nat.reduceEqDiff, Nat.reduceAdd, Nat.reduceSub, Nat.reduceMul, Nat.reduceBEq, Int.reduceToNat, Int.reduceEq, Int.reduceLT, Int.reduceLE, Int.reduceAdd, ↓reduceIte, reduceCtorEq]) <;> rfl) (by exact inI64_of (by omega) (by omega)) ?_
    refine ⟨[(0, 0)], (k + 1, out ++ [b], n), rfl, (by (simp only [go_sem, Nat.reduceLT, Nat.reduceLeDiff, Nat.reduceEqDiff, Nat.reduceAdd, Nat.reduceSub, Nat.reduceMul, Nat.reduceBEq, Int.reduceToNat, Int.reduceEq, Int.reduceLT, Int.reduceLE, Int.reduceAdd, ↓reduceIte, reduceCtorEq, intC, List.length_map]) <;> rfl), ⟨by simp only; omega, ?_, ?_⟩, by simp only; omega⟩
    · simp only; rw [nmOf_snoc he, h2, k2]
    · simp only; rw [dd_snoc he, if_pos hx, h3]
  have hk : k < i := by simpa using hc
  have hke : l[k]? = some l[k] := List.getElem?_eq_getElem (by omega)
  generalize l[k] = y at hke
  have htk := take_snoc hke
  have hok : out[k]? = some ((D.idxOf y : Nat) : Int) := by
    rw [h2]; exact nmOf_get (by rw [List.getElem?_take, if_pos hk]; exact hke)
  refine EvC.skip ?_
  refine EvC.seq ?_
  refine EvC.block ?_  -- 3
  apply EvC.seq
  apply EvC.drd mixed
  · (simp only [go_sem, Nat.reduceLT, Nat.reduceLeDiff, Nat.reduceEqDiff, Nat.reduceAdd, Nat.reduceSub, Nat.reduceMul, Nat.reduceBEq, Int.reduceToNat, Int.reduceEq, Int.reduceLT, Int.reduceLE, Int.reduceAdd, ↓reduceIte, reduceCtorEq, hke, he, intC]) <;> rfl
  · simp
  · kernel_rfl
  refine EvC.cond (by (simp only [go_sem, Nat.reduceLT, Nat.reduceLeDiff, Nat.reduceEqDiff, Nat.reduceAdd, Nat.reduceSub, Nat.reduceMul, Nat.reduceBEq, Int.reduceToNat, Int.reduceEq, Int.reduceLT, Int.reduceLE, Int.reduceAdd, ↓reduceIte, reduceCtorEq]) <;> rfl) (fun hc => ?_) (fun hc => ?_)
  · have hc : y = x := by simpa using hc
    subst hc
    refine EvC.rg (by (simp only [go_sem, Nat.reduceLT, Nat.reduceLeDiff, Nat.reduceEqDiff, Nat.reduceAdd, Nat.reduceSub, Nat.reduceMul, Nat.reduceBEq, Int.reduceToNat, Int.reduceEq, Int.reduceLT, Int.reduceLE, Int.reduceAdd, ↓reduceIte, reduceCtorEq, hok, intC]) <;> rfl) (by simp [hol]; omega) ?_
    refine EvC.rg (by (simp only [go_sem, Nat.reduceLT, Nat.reduceLeDiff, Nat.reduceEqDiff, Nat.reduceAdd, Nat.reduceSub, Nat.reduceMul, Nat.reduceBEq, Int.reduceToNat, Int.reduceEq, Int.reduceLT, Int.reduceLE, Int.reduceAdd, ↓reduceIte, reduceCtorEq]) <;> rfl) (by exact inI64_of (by omega) (by omega)) ?_
    exact ⟨[(0, 0)], (k + 1, ((D.idxOf y : Nat) : Int)), rfl, (by (simp only [go_sem, Nat.reduceLT, Nat.reduceLeDiff, Nat.reduceEqDiff, Nat.reduceAdd, Nat.reduceSub, Nat.reduceMul, Nat.reduceBEq, Int.reduceToNat, Int.reduceEq, Int.reduceLT, Int.reduceLE, Int.reduceAdd, ↓reduceIte, reduceCtorEq]) <;> rfl), ⟨by simp only; omega, by simp only; rw [if_pos (by rw [htk]; simp)]⟩, by simp only; omega⟩
  have hc : ¬ y = x := by simpa using hc
  refine EvC.skip ?_
  refine EvC.rg (by (simp only [go_sem, Nat.reduceLT, Nat.reduceLeDiff, Nat.reduceEqDiff, Nat.reduceAdd, Nat.reduceSub, Nat.reduceMul, Nat.reduceBEq, Int.reduceToNat, Int.reduceEq, Int.reduceLT, Int.reduceLE, Int.reduceAdd, ↓reduceIte, reduceCtorEq]) <;> rfl) (by exact inI64_of (by omega) (by omega)) ?_
  refine ⟨[(0, 0)], (k + 1, b), rfl, (by (simp only [go_sem, Nat.reduceLT, Nat.reduceLeDiff, Nat.reduceEqDiff, Nat.reduceAdd, Nat.reduceSub, Nat.reduceMul, Nat.reduceBEq, Int.reduceToNat, Int.reduceEq, Int.reduceLT, Int.reduceLE, Int.reduceAdd, ↓reduceIte, reduceCtorEq]) <;> rfl), ⟨by simp only; omega, ?_⟩, by simp only; omega⟩
  simp only
  rw [k2, htk]
  have : x ∈ l.take k ++ [y] ↔ x ∈ l.take k := by simp; intro h; exact absurd h.symm hc
  by_cases h : x ∈ l.take k
  · rw [if_pos h, if_pos (this.2 h)]
  · rw [if_neg h, if_neg (fun h' => h (this.1 h'))]
end Go.Avl
namespace Go.Avl
open Go Go.Proofs.Try
set_option maxRecDepth 10000
set_option linter.unusedSimpArgs false

@[go_sem] theorem key3 : isKey prog 3 = keyTest false [.int .i64] := isKey_of (by kernel_rfl) (by kernel_rfl)
def entsI : Nat → List Int → List (Value × AV)
  | _, [] => []
  | i, c :: l => (.int .i64 c, .sc (.int .i64 i)) :: entsI (i + 1) l
@[go_sem] theorem norefs_entsI : ∀ (l : List Int) (i : Nat), ((entsI i l).all fun p => p.2.noref) = true
  | [], _ => rfl
  | c :: l, i => by simp only [entsI, List.all_cons, norefs_entsI l, AV.noref, Bool.and_self]
@[go_sem] theorem entsI_len : ∀ (l : List Int) (i : Nat), (entsI i l).length = l.length
  | [], _ => rfl
  | c :: l, i => by simp only [entsI, List.length_cons, entsI_len l]
theorem eqVal_int (a b : Int) : eqVal (.int .i64 a) (.int .i64 b) = decide (a = b) := by
  simp [eqVal, Value.cells, eqCells, eqCell]
theorem elook_entsI (x : Int) : ∀ (l : List Int) (i : Nat), elook (entsI i l) (.int .i64 x) = if x ∈ l then some (.sc (.int .i64 (i + l.idxOf x : Nat))) else none
  | [], _ => rfl
  | d :: l, i => by
    simp only [entsI, elook, eqVal_int, List.mem_cons, List.idxOf_cons]
    by_cases h : x = d
    · subst h; simp
    · have h' : (d == x) = false := by simpa using fun e => h e.symm
      rw [if_neg (by simpa using h), elook_entsI x l (i + 1), h']
      simp only [h, false_or, cond_false]
      by_cases hc : x ∈ l
      · rw [if_pos hc, if_pos hc, show i + 1 + l.idxOf x = i + (l.idxOf x + 1) by omega]
      · rw [if_neg hc, if_neg hc]
theorem eset_entsI (x : Int) : ∀ (l : List Int) (i : Nat), x ∉ l → eset (entsI i l) (.int .i64 x) (.sc (.int .i64 (i + l.length : Nat))) = entsI i (l ++ [x])
  | [], _, _ => rfl
  | d :: l, i, h => by
    simp only [List.mem_cons, not_or] at h
    simp only [entsI, eset, eqVal_int, List.cons_append]
    rw [if_neg (by simpa using h.1)]
    congr 1
    have := eset_entsI x l (i + 1) h.2
    rw [show i + 1 + l.length = i + (d :: l).length by simp; omega] at this
    exact this
theorem named_is (nl : Bool) (l : List Int) (c : Cp) (hl : l.length < 1000000) (hne : 0 < l.length) : PureIs prog 63 [.sl nl (l.map intC) c] (.sl false ((nm l).map intC) .full) := by
  obtain ⟨D, hD⟩ : ∃ D, D = dd l := ⟨_, rfl⟩
  refine PureIs.of (nv := 1) (hid := [2, 3, 4, 5, 6, 8, 12, 13, 14, 15, 16, 27]) func63 rfl (by kernel_rfl) (by simp [ntmps63]) fun _ => ?_
  rw [ntmps63, results63]
  refine EvC.seq (EvC.rg (by (simp only [go_sem, Nat.reduceLT, Nat.reduceLeDiff, Nat.reduceEqDiff, Nat.reduceAdd, Nat.reduceSub, Nat.reduceMul, Nat.reduceBEq, Int.reduceToNat, Int.reduceEq, Int.reduceLT, Int.reduceLE, Int.reduceAdd, ↓reduceIte, reduceCtorEq]) <;> rfl) (by simp) ?_)
  refine EvC.seq (EvC.rg (by (simp only [go_sem, Nat.reduceLT, Nat.reduceLeDiff, Nat.reduceEqDiff, Nat.reduceAdd, Nat.reduceSub, Nat.reduceMul, Nat.reduceBEq, Int.reduceToNat, Int.reduceEq, Int.reduceLT, Int.reduceLE, Int.reduceAdd, ↓reduceIte, reduceCtorEq]) <;> rfl) (by simp) ?_)
  have hz : ∀ n : Nat, List.replicate n [AV.sc (.int .i64 0)] = (List.replicate n (0 : Int)).map intC := fun n => by simp [intC]
  refine EvC.seq (EvC.rg (by (simp only [go_sem, Nat.reduceLT, Nat.reduceLeDiff, Nat.reduceEqDiff, Nat.reduceAdd, Nat.reduceSub, Nat.reduceMul, Nat.reduceBEq, Int.reduceToNat, Int.reduceEq, Int.reduceLT, Int.reduceLE, Int.reduceAdd, ↓reduceIte, reduceCtorEq, Int.toNat_natCast, hz]) <;> rfl) (by simp [room_eq, hne]; omega) ?_)
  refine EvC.seq ?_
  refine EvC.seq (EvC.rg (by (simp only [go_sem, Nat.reduceLT, Nat.reduceLeDiff, Nat.reduceEqDiff, Nat.reduceAdd, Nat.reduceSub, Nat.reduceMul, Nat.reduceBEq, Int.reduceToNat, Int.reduceEq, Int.reduceLT, Int.reduceLE, Int.reduceAdd, ↓reduceIte, reduceCtorEq]) <;> rfl) (by simp) ?_)
  refine EvC.block ?_  -- 0
  refine EvC.loopS (σ := Nat × List Int × List Int) (fun g => ⟨[(3, .mp 0), (4, .tv 1 l.length 0 l.length (.val l.length)), (13, .sl nl (l.map intC) c), (14, .sc (.int .i64 l.length)), (15, .sc (.int .i64 g.1))], [], [(0, .map 3 (entsI 0 g.2.1)), (1, .arr 1 (g.2.2.map intC) false)], 2⟩) (fun g => l.length - g.1)
    (fun g => g.1 ≤ l.length ∧ g.2.1 = dd (l.take g.1) ∧ g.2.2 = nmOf D (l.take g.1) ++ List.replicate (l.length - g.1) 0) [3, 4, 13, 14, 15] 2 ?_ ?_
  · exact ⟨[(1, 0), (5, 1)], (0, [], List.replicate l.length 0), rfl, (by (simp only [go_sem, Nat.reduceLT, Nat.reduceLeDiff, Nat.reduceEqDiff, Nat.reduceAdd, Nat.reduceSub, Nat.reduceMul, Nat.reduceBEq, Int.reduceToNat, Int.reduceEq, Int.reduceLT, Int.reduceLE, Int.reduceAdd, ↓reduceIte, reduceCtorEq, entsI]) <;> rfl), Nat.zero_le _, rfl, rfl⟩
  rintro ⟨i, E, out⟩ ⟨h1, h2, h3⟩
  simp only at h1 h2 h3
  have hol : out.length = l.length := by rw [h3]; simp [nmOf_len]; omega
  refine EvC.seq (EvC.rg (by (simp only [go_sem, Nat.reduceLT, Nat.reduceLeDiff, Nat.reduceEqDiff, Nat.reduceAdd, Nat.reduceSub, Nat.reduceMul, Nat.reduceBEq, Int.reduceToNat, Int.reduceEq, Int.reduceLT, Int.reduceLE, Int.reduceAdd, ↓reduceIte, reduceCtorEq]) <;> rfl) (by simp) ?_)
  refine EvC.seq ?_
  refine EvC.cond (by (simp only [go_sem, Nat.reduceLT, Nat.reduceLeDiff, Nat.reduceEqDiff, Nat.reduceAdd, Nat.reduceSub, Nat.reduceMul, Nat.reduceBEq, Int.reduceToNat, Int.reduceEq, Int.reduceLT, Int.reduceLE, Int.reduceAdd, ↓reduceIte, reduceCtorEq]) <;> rfl) (fun hc => ?_) (fun hc => ?_)
  rotate_left
  · refine EvC.exit ?_  -- 0
    obtain rfl : i = l.length := by have : ¬ i < l.length := by simpa using hc
                                    omega
    rw [List.take_length] at h3
    have ho : out = nm l := by rw [h3, nm, hD]; simp
    subst ho
    refine EvC.frz 1 (by (simp only [go_sem, Nat.reduceLT, Nat.reduceLeDiff, Nat.reduceEqDiff, Nat.reduceAdd, Nat.reduceSub, Nat.reduceMul, Nat.reduceBEq, Int.reduceToNat, Int.reduceEq, Int.reduceLT, Int.reduceLE, Int.reduceAdd, ↓reduceIte, reduceCtorEq, List.length_map, hol]) <;> rfl) ?_
    refine EvC.seq (EvC.rg (by (simp only [go_sem, Nat.reduceLT, Nat.reduceLeDiff, Nat.reduceEqDiff, Nat.reduceAdd, Nat.reduceSub, Nat.reduceMul, Nat.reduceBEq, Int.reduceToNat, Int.reduceEq, Int.reduceLT, Int.reduceLE, Int.reduceAdd, ↓reduceIte, reduceCtorEq]) <;> rfl) (by simp) ?_)
    refine EvC.ret ⟨.inl rfl, _, (by (simp only [go_sem, Nat.reduceLT, Nat.reduceLeDiff, Nat.reduceEqDiff, Nat.reduceAdd, Nat.reduceSub, Nat.reduceMul, Nat.reduceBEq, Int.reduceToNat, Int.reduceEq, Int.reduceLT, Int.reduceLE, Int.reduceAdd, ↓reduceIte, reduceCtorEq]) <;> rfl), ?_, rfl⟩
    simp only [go_sem, Nat.reduceLT, Nat.reduceLeDiff, Nat.reduceEqDiff, Nat.reduceAdd, Nat.reduceSub, Nat.reduceMul, Nat.reduceBEq, Int.reduceToNat, Int.reduceEq, Int.reduceLT, Int.reduceLE, Int.reduceAdd, ↓reduceIte, reduceCtorEq]
  have hi : i < l.length := by simpa using hc
  have he : l[i]? = some l[i] := List.getElem?_eq_getElem hi
  generalize l[i] = x at he
  have hr : l.length - i = (l.length - (i + 1)) + 1 := by omega
  have hset' : ∀ y : Int, out.set i y = (nmOf D (l.take i) ++ [y]) ++ List.replicate (l.length - (i + 1)) 0 := fun y => by
    rw [h3, hr, List.replicate_succ]
    have := set_mid (nmOf D (l.take i)) (List.replicate (l.length - (i + 1)) 0) 0 y
    rw [nmOf_len, List.length_take, Nat.min_eq_left h1] at this
    rw [this]; simp
  have hset : ∀ y : Int, (out.map intC).set i [.sc (.int .i64 y)] = (out.set i y).map intC := fun y => by
    rw [show [AV.sc (.int .i64 y)] = intC y from rfl, ← List.map_set]
  have hge : out[i]? = some 0 := by
    rw [h3, List.getElem?_append_right (by simp [nmOf_len]; omega), hr]; simp [nmOf_len, Nat.min_eq_left h1]
  have hel := elook_entsI x E 0
  have hxE : x ∈ E ↔ x ∈ l.take i := by rw [h2]; exact mem_dd
  refine EvC.skip ?_
  refine EvC.seq ?_
  refine EvC.block ?_  -- 1
  refine EvC.seq (EvC.rg (by (simp only [go_sem, Nat.reduceLT, Nat.reduceLeDiff, Nat.reduceEqDiff, Nat.reduceAdd, Nat.reduceSub, Nat.reduceMul, Nat.reduceBEq, Int.reduceToNat, Int.reduceEq, Int.reduceLT, Int.reduceLE, Int.reduceAdd, ↓reduceIte, reduceCtorEq, he, intC, Int.toNat_natCast]) <;> rfl) (by simp) ?_)
  refine EvC.seq ?_
  by_cases hx : x ∈ l.take i
  · rw [if_pos (hxE.2 hx), Nat.zero_add] at hel
    have hdx : E.idxOf x = D.idxOf x := by rw [h2, hD, idx_old hx]
    refine EvC.seq (EvC.rg (by (simp only [go_sem, Nat.reduceLT, Nat.reduceLeDiff, Nat.reduceEqDiff, Nat.reduceAdd, Nat.reduceSub, Nat.reduceMul, Nat.reduceBEq, Int.reduceToNat, Int.reduceEq, Int.reduceLT, Int.reduceLE, Int.reduceAdd, ↓reduceIte, reduceCtorEq, hel]) <;> rfl) (by simp [descAgg, keyTest, matchKinds, matchKind]) ?_)
    refine EvC.seq (EvC.rg (by (simp only [go_sem, Nat.reduceLT, Nat.reduceLeDiff, Nat.reduceEqDiff, Nat.reduceAdd, Nat.reduceSub, Nat.reduceMul, Nat.reduceBEq, Int.reduceToNat, Int.reduceEq, Int.reduceLT, Int.reduceLE, Int.reduceAdd, ↓reduceIte, reduceCtorEq]) <;> rfl) (by simp) ?_)
    refine EvC.cond_false (by (simp only [go_sem, Nat.reduceLT, Nat.reduceLeDiff, Nat.reduceEqDiff, Nat.reduceAdd, Nat.reduceSub, Nat.reduceMul, Nat.reduceBEq, Int.reduceToNat, Int.reduceEq, Int.reduceLT, Int.reduceLE, Int.reduceAdd, ↓reduceIte, reduceCtorEq]) <;> rfl) ?_
    refine EvC.skip ?_
    refine EvC.rg (by (simp only [go_sem, Nat.reduceLT, Nat.reduceLeDiff, Nat.reduceEqDiff, Nat.reduceAdd, Nat.reduceSub, Nat.reduceMul, Nat.reduceBEq, Int.reduceToNat, Int.reduceEq, Int.reduceLT, Int.reduceLE, Int.reduceAdd, ↓reduceIte, reduceCtorEq, hel, hset, hge, intC, Int.toNat_natCast, Nat.zero_add]) <;> rfl) (by simp [descAgg, keyTest, matchKinds, matchKind, hol]; omega) ?_
    refine EvC.rg (by (simp only [go_sem, Nat.reduceLT, Nat.reduceLeDiff, Nat.reduceEqDiff, Nat.reduceAdd, Nat.reduceSub, Nat.reduceMul, Nat.reduceBEq, Int.reduceToNat, Int.reduceEq, Int.reduceLT, Int.reduceLE, Int.reduceAdd, ↓reduceIte, reduceCtorEq]) <;> rfl) (by exact inI64_of (by omega) (by omega)) ?_
    refine ⟨[(0, 0), (1, 1)], (i + 1, E, out.set i ((E.idxOf x : Nat) : Int)), rfl, (by (simp only [go_sem, Nat.reduceLT, Nat.reduceLeDiff, Nat.reduceEqDiff, Nat.reduceAdd, Nat.reduceSub, Nat.reduceMul, Nat.reduceBEq, Int.reduceToNat, Int.reduceEq, Int.reduceLT, Int.reduceLE, Int.reduceAdd, ↓reduceIte, reduceCtorEq]) <;> rfl), ⟨by simp only; omega, ?_, ?_⟩, by simp only; omega⟩
    · simp only; rw [dd_snoc he, if_pos hx, h2]
    · simp only; rw [hset', nmOf_snoc he, hdx]
  · rw [if_neg (fun h => hx (hxE.1 h))] at hel
    have hes := eset_entsI x E 0 (fun h => hx (hxE.1 h))
    rw [Nat.zero_add] at hes
    have hel2 := elook_entsI x (E ++ [x]) 0
    have hidx : (E ++ [x]).idxOf x = E.length := by rw [List.idxOf_append, if_neg (fun h => hx (hxE.1 h))]; simp
    rw [if_pos (by simp), Nat.zero_add, hidx] at hel2
    have hdx : E.length = D.idxOf x := by rw [h2, hD, idx_new he hx]
    refine EvC.seq (EvC.rg (by (simp only [go_sem, Nat.reduceLT, Nat.reduceLeDiff, Nat.reduceEqDiff, Nat.reduceAdd, Nat.reduceSub, Nat.reduceMul, Nat.reduceBEq, Int.reduceToNat, Int.reduceEq, Int.reduceLT, Int.reduceLE, Int.reduceAdd, ↓reduceIte, reduceCtorEq, hel]) <;> rfl) (by simp [descAgg, keyTest, matchKinds, matchKind]) ?_)
    refine EvC.seq (EvC.rg (by (simp only [go_sem, Nat.reduceLT, Nat.reduceLeDiff, Nat.reduceEqDiff, Nat.reduceAdd, Nat.reduceSub, Nat.reduceMul, Nat.reduceBEq, Int.reduceToNat, Int.reduceEq, Int.reduceLT, Int.reduceLE, Int.reduceAdd, ↓reduceIte, reduceCtorEq]) <;> rfl) (by simp) ?_)
    refine EvC.cond_true (by (simp only [go_sem, Nat.reduceLT, Nat.reduceLeDiff, Nat.reduceEqDiff, Nat.reduceAdd, Nat.reduceSub, Nat.reduceMul, Nat.reduceBEq, Int.reduceToNat, Int.reduceEq, Int.reduceLT, Int.reduceLE, Int.reduceAdd, ↓reduceIte, reduceCtorEq]) <;> rfl) ?_
    refine EvC.rg (by (simp only [go_sem, Nat.reduceLT, Nat.reduceLeDiff, Nat.reduceEqDiff, Nat.reduceAdd, Nat.reduceSub, Nat.reduceMul, Nat.reduceBEq, Int.reduceToNat, Int.reduceEq, Int.reduceLT, Int.reduceLE, Int.reduceAdd, ↓reduceIte, reduceCtorEq, hes]) <;> rfl) (by simp [descAgg, keyTest, matchKinds, matchKind]) ?_
    refine EvC.rg (by (simp only [go_sem, Nat.reduceLT, Nat.reduceLeDiff, Nat.reduceEqDiff, Nat.reduceAdd, Nat.reduceSub, Nat.reduceMul, Nat.reduceBEq, Int.reduceToNat, Int.reduceEq, Int.reduceLT, Int.reduceLE, Int.reduceAdd, ↓reduceIte, reduceCtorEq, hel2, hset, hge, intC, Int.toNat_natCast, Nat.zero_add]) <;> rfl) (by simp [descAgg, keyTest, matchKinds, matchKind, hol]; omega) ?_
    refine EvC.rg (by (simp only [go_sem, Nat.reduceLT, Nat.reduceLeDiff, Nat.reduceEqDiff, Nat.reduceAdd, Nat.reduceSub, Nat.reduceMul, Nat.reduceBEq, Int.reduceToNat, Int.reduceEq, Int.reduceLT, Int.reduceLE, Int.reduceAdd, ↓reduceIte, reduceCtorEq]) <;> rfl) (by exact inI64_of (by omega) (by omega)) ?_
    refine ⟨[(0, 0), (1, 1)], (i + 1, E ++ [x], out.set i ((E.length : Nat) : Int)), rfl, (by (simp only [go_sem, Nat.reduceLT, Nat.reduceLeDiff, Nat.reduceEqDiff, Nat.reduceAdd, Nat.reduceSub, Nat.reduceMul, Nat.reduceBEq, Int.reduceToNat, Int.reduceEq, Int.reduceLT, Int.reduceLE, Int.reduceAdd, ↓reduceIte, reduceCtorEq]) <;> rfl), ⟨by simp only; omega, ?_, ?_⟩, by simp only; omega⟩
    · simp only; rw [dd_snoc he, if_neg hx, h2]
    · simp only; rw [hset', nmOf_snoc he, hdx]
theorem of47_is (nl : Bool) (l : List Int) (c : Cp) (hl : l.length ≤ 256) (hne : 0 < l.length) : PureIs prog 47 [.sl nl (l.map intC) c] (.tu [.sl false ((nm l).map intC) .full, .sc (.int .i64 0)]) := by
  refine PureIs.of (nv := 1) (hid := [2, 3, 6]) func47 rfl (by kernel_rfl) (by simp [ntmps47]) fun _ => ?_
  rw [ntmps47, results47]
  refine EvC.seq (EvC.rg (by (simp only [go_sem, Nat.reduceLT, Nat.reduceLeDiff, Nat.reduceEqDiff, Nat.reduceAdd, Nat.reduceSub, Nat.reduceMul, Nat.reduceBEq, Int.reduceToNat, Int.reduceEq, Int.reduceLT, Int.reduceLE, Int.reduceAdd, ↓reduceIte, reduceCtorEq]) <;> rfl) (by simp) ?_)
  refine EvC.seq ?_
  refine EvC.seq (EvC.rg (by (simp only [go_sem, Nat.reduceLT, Nat.reduceLeDiff, Nat.reduceEqDiff, Nat.reduceAdd, Nat.reduceSub, Nat.reduceMul, Nat.reduceBEq, Int.reduceToNat, Int.reduceEq, Int.reduceLT, Int.reduceLE, Int.reduceAdd, ↓reduceIte, reduceCtorEq]) <;> rfl) (by simp) ?_)
  have h : decide ((256 : Int) < (l.length : Int)) = false := by simp; omega
  refine EvC.cond_false (by (simp only [go_sem, Nat.reduceLT, Nat.reduceLeDiff, Nat.reduceEqDiff, Nat.reduceAdd, Nat.reduceSub, Nat.reduceMul, Nat.reduceBEq, Int.reduceToNat, Int.reduceEq, Int.reduceLT, Int.reduceLE, Int.reduceAdd, ↓reduceIte, reduceCtorEq, h]) <;> rfl) ?_
  refine EvC.skip ?_
  apply EvC.seq
  apply EvC.tr
  · apply Tr.run
    · (simp only [go_sem, Nat.reduceLT, Nat.reduceLeDiff, Nat.reduceEqDiff, Nat.reduceAdd, Nat.reduceSub, Nat.reduceMul, Nat.reduceBEq, Int.reduceToNat, Int.reduceEq, Int.reduceLT, Int.reduceLE, Int.reduceAdd, ↓reduceIte, reduceCtorEq]) <;> rfl
    · simp
    apply Tr.cons
    · exact .call rfl rfl (by (simp only [go_sem, Nat.reduceLT, Nat.reduceLeDiff, Nat.reduceEqDiff, Nat.reduceAdd, Nat.reduceSub, Nat.reduceMul, Nat.reduceBEq, Int.reduceToNat, Int.reduceEq, Int.reduceLT, Int.reduceLE, Int.reduceAdd, ↓reduceIte, reduceCtorEq]) <;> rfl) (by (simp only [go_sem, Nat.reduceLT, Nat.reduceLeDiff, Nat.reduceEqDiff, Nat.reduceAdd, Nat.reduceSub, Nat.reduceMul, Nat.reduceBEq, Int.reduceToNat, Int.reduceEq, Int.reduceLT, Int.reduceLE, Int.reduceAdd, ↓reduceIte, reduceCtorEq]) <;> rfl) (by (simp only [go_sem, Nat.reduceLT, Nat.reduceLeDiff, Nat.reduceEqDiff, Nat.reduceAdd, Nat.reduceSub, Nat.reduceMul, Nat.reduceBEq, Int.reduceToNat, Int.reduceEq, Int.reduceLT, Int.reduceLE, Int.reduceAdd, ↓reduceIte, reduceCtorEq]) <;> rfl) (by (simp only [go_sem, Nat.reduceLT, Nat.reduceLeDiff, Nat.reduceEqDiff, Nat.reduceAdd, Nat.reduceSub, Nat.reduceMul, Nat.reduceBEq, Int.reduceToNat, Int.reduceEq, Int.reduceLT, Int.reduceLE, Int.reduceAdd, ↓reduceIte, reduceCtorEq]) <;> rfl) (by (simp only [go_sem, Nat.reduceLT, Nat.reduceLeDiff, Nat.reduceEqDiff, Nat.reduceAdd, Nat.reduceSub, Nat.reduceMul, Nat.reduceBEq, Int.reduceToNat, Int.reduceEq, Int.reduceLT, Int.reduceLE, Int.reduceAdd, ↓reduceIte, reduceCtorEq]) <;> rfl) (named_is nl l c (by omega) hne)
    apply Tr.done
    · (simp only [go_sem, Nat.reduceLT, Nat.reduceLeDiff, Nat.reduceEqDiff, Nat.reduceAdd, Nat.reduceSub, Nat.reduceMul, Nat.reduceBEq, Int.reduceToNat, Int.reduceEq, Int.reduceLT, Int.reduceLE, Int.reduceAdd, ↓reduceIte, reduceCtorEq]) <;> rfl
    · simp
  refine EvC.ret ⟨.inl rfl, _, (by (simp only [go_sem, Nat.reduceLT, Nat.reduceLeDiff, Nat.reduceEqDiff, Nat.reduceAdd, Nat.reduceSub, Nat.reduceMul, Nat.reduceBEq, Int.reduceToNat, Int.reduceEq, Int.reduceLT, Int.reduceLE, Int.reduceAdd, ↓reduceIte, reduceCtorEq]) <;> rfl), ?_, rfl⟩
  simp only [go_sem, Nat.reduceLT, Nat.reduceLeDiff, Nat.reduceEqDiff, Nat.reduceAdd, Nat.reduceSub, Nat.reduceMul, Nat.reduceBEq, Int.reduceToNat, Int.reduceEq, Int.reduceLT, Int.reduceLE, Int.reduceAdd, ↓reduceIte, reduceCtorEq]
/-- A finer partition. -/
theorem finer_is (np : Bool) (p : List Int) (cp : Cp) (nq : Bool) (q : List Int) (cq : Cp) (hl : p.length < 1000000) (hpq : p.length ≤ q.length) (h : ∀ i k : Nat, k < i → i < p.length → p[i]? = p[k]? → q[i]? = q[k]?) :
    PureIs prog 25 [.sl np (p.map intC) cp, .sl nq (q.map intC) cq] (.sc (.int .i64 1)) := by
  refine PureIs.of (nv := 2) (hid := [4, 5, 6, 10, 15, 37]) func25 rfl (by kernel_rfl) (by simp [ntmps25]) fun _ => ?_
  rw [ntmps25, results25]
  refine EvC.seq (EvC.rg (by (simp only [go_sem, Nat.reduceLT, Nat.reduceLeDiff, Nat.reduceEqDiff, Nat.reduceAdd, Nat.reduceSub, Nat.reduceMul, Nat.reduceBEq, Int.reduceToNat, Int.reduceEq, Int.reduceLT, Int.reduceLE, Int.reduceAdd, ↓reduceIte, reduceCtorEq]) <;> rfl) (by simp) ?_)
  refine EvC.seq ?_
  refine EvC.seq (EvC.rg (by (simp only [go_sem, Nat.reduceLT, Nat.reduceLeDiff, Nat.reduceEqDiff, Nat.reduceAdd, Nat.reduceSub, Nat.reduceMul, Nat.reduceBEq, Int.reduceToNat, Int.reduceEq, Int.reduceLT, Int.reduceLE, Int.reduceAdd, ↓reduceIte, reduceCtorEq]) <;> rfl) (by simp) ?_)
  refine EvC.block ?_  -- 0
  refine EvC.loopS (σ := Nat) (fun i => ⟨[(0, .sl np (p.map intC) cp), (1, .sl nq (q.map intC) cq), (5, .sc (.int .i64 i))], [], [], 0⟩) (fun i => p.length - i) (fun i => i ≤ p.length) [0, 1, 5] 0 ?_ ?_
  · exact ⟨[], 0, rfl, (by (simp only [go_sem, Nat.reduceLT, Nat.reduceLeDiff, Nat.reduceEqDiff, Nat.reduceAdd, Nat.reduceSub, Nat.reduceMul, Nat.reduceBEq, Int.reduceToNat, Int.reduceEq, Int.reduceLT, Int.reduceLE, Int.reduceAdd, ↓reduceIte, reduceCtorEq]) <;> rfl), Nat.zero_le _⟩
  intro i hi
  refine EvC.seq ?_
  refine EvC.seq (EvC.rg (by (simp only [go_sem, Nat.reduceLT, Nat.reduceLeDiff, Nat.reduceEqDiff, Nat.reduceAdd, Nat.reduceSub, Nat.reduceMul, Nat.reduceBEq, Int.reduceToNat, Int.reduceEq, Int.reduceLT, Int.reduceLE, Int.reduceAdd, ↓reduceIte, reduceCtorEq]) <;> rfl) (by simp) ?_)
  refine EvC.cond (by (simp only [go_sem, Nat.reduceLT, Nat.reduceLeDiff, Nat.reduceEqDiff, Nat.reduceAdd, Nat.reduceSub, Nat.reduceMul, Nat.reduceBEq, Int.reduceToNat, Int.reduceEq, Int.reduceLT, Int.reduceLE, Int.reduceAdd, ↓reduceIte, reduceCtorEq]) <;> rfl) (fun hc => ?_) (fun hc => ?_)
  rotate_left
  · refine EvC.exit ?_  -- 0
    refine EvC.seq (EvC.rg (by (simp only [go_sem, Nat.reduceLT, Nat.reduceLeDiff, Nat.reduceEqDiff, Nat.reduceAdd, Nat.reduceSub, Nat.reduceMul, Nat.reduceBEq, Int.reduceToNat, Int.reduceEq, Int.reduceLT, Int.reduceLE, Int.reduceAdd, ↓reduceIte, reduceCtorEq]) <;> rfl) (by simp) ?_)
    refine EvC.ret ⟨.inl rfl, _, (by (simp only [go_sem, Nat.reduceLT, Nat.reduceLeDiff, Nat.reduceEqDiff, Nat.reduceAdd, Nat.reduceSub, Nat.reduceMul, Nat.reduceBEq, Int.reduceToNat, Int.reduceEq, Int.reduceLT, Int.reduceLE, Int.reduceAdd, ↓reduceIte, reduceCtorEq]) <;> rfl), ?_, rfl⟩
    simp only [go_sem, Nat.reduceLT, Nat.reduceLeDiff, Nat.reduceEqDiff, Nat.reduceAdd, Nat.reduceSub, Nat.reduceMul, Nat.reduceBEq, Int.reduceToNat, Int.reduceEq, Int.reduceLT, Int.reduceLE, Int.reduceAdd, ↓reduceIte, reduceCtorEq]
  have hi : i < p.length := by simpa using hc
  refine EvC.skip ?_
  refine EvC.seq ?_
  refine EvC.block ?_  -- 1
  refine EvC.seq (EvC.rg (by (simp only [go_sem, Nat.reduceLT, Nat.reduceLeDiff, Nat.reduceEqDiff, Nat.reduceAdd, Nat.reduceSub, Nat.reduceMul, Nat.reduceBEq, Int.reduceToNat, Int.reduceEq, Int.reduceLT, Int.reduceLE, Int.reduceAdd, ↓reduceIte, reduceCtorEq]) <;> rfl) (by simp) ?_)
  refine EvC.block ?_  -- 2
  refine EvC.loopS (σ := Nat) (fun k => ⟨[(0, .sl np (p.map intC) cp), (1, .sl nq (q.map intC) cq), (5, .sc (.int .i64 i)), (6, .sc (.int .i64 k))], [], [], 0⟩) (fun k => i - k) (fun k => k ≤ i) [0, 1, 5, 6] 0 ?_ ?_
  · exact ⟨[], 0, rfl, (by (simp only [go_sem, Nat.reduceLT, Nat.reduceLeDiff, Nat.reduceEqDiff, Nat.reduceAdd, Nat.reduceSub, Nat.reduceMul, Nat.reduceBEq, Int.reduceToNat, Int.reduceEq, Int.reduceLT, Int.reduceLE, Int.reduceAdd, ↓reduceIte, reduceCtorEq]) <;> rfl), Nat.zero_le _⟩
  intro k hk
  refine EvC.seq ?_
  refine EvC.seq (EvC.rg (by (simp only [go_sem, Nat.reduceLT, Nat.reduceLeDiff, Nat.reduceEqDiff, Nat.reduceAdd, Nat.reduceSub, Nat.reduceMul, Nat.reduceBEq, Int.reduceToNat, Int.reduceEq, Int.reduceLT, Int.reduceLE, Int.reduceAdd, ↓reduceIte, reduceCtorEq]) <;> rfl) (by simp) ?_)
  refine EvC.cond (by (simp only [go_sem, Nat.reduceLT, Nat.reduceLeDiff, Nat.reduceEqDiff, Nat.reduceAdd, Nat.reduceSub, Nat.reduceMul, Nat.reduceBEq, Int.reduceToNat, Int.reduceEq, Int.reduceLT, Int.reduceLE, Int.reduceAdd, ↓reduceIte, reduceCtorEq]) <;> rfl) (fun hc => ?_) (fun hc => ?_)
  rotate_left
  · refine EvC.exit ?_  -- 2
    refine EvC.rg (by (simp only [go_sem, Nat.reduceLT, Nat.reduceLeDiff, Nat.reduceEqDiff, Nat.reduceAdd, Nat.reduceSub, Nat.reduceMul, Nat.reduceBEq, Int.reduceToNat, Int.reduceEq, Int.reduceLT, Int.reduceLE, Int.reduceAdd, ↓reduceIte, reduceCtorEq]) <;> rfl) (by exact inI64_of (by omega) (by omega)) ?_
    exact ⟨[], i + 1, rfl, (by (simp only [go_sem, Nat.reduceLT, Nat.reduceLeDiff, Nat.reduceEqDiff, Nat.reduceAdd, Nat.reduceSub, Nat.reduceMul, Nat.reduceBEq, Int.reduceToNat, Int.reduceEq, Int.reduceLT, Int.reduceLE, Int.reduceAdd, ↓reduceIte, reduceCtorEq]) <;> rfl), by omega, by omega⟩
  have hk : k < i := by simpa using hc
  have h1 : p[i]? = some p[i] := List.getElem?_eq_getElem hi
  have h2 : p[k]? = some (p[k]'(by omega)) := List.getElem?_eq_getElem _
  have h3 : q[i]? = some (q[i]'(by omega)) := List.getElem?_eq_getElem _
  have h4 : q[k]? = some (q[k]'(by omega)) := List.getElem?_eq_getElem _
  have h5 := h i k hk hi
  generalize p[i] = a at h1
  generalize p[k]'(by omega) = b at h2
  generalize q[i]'(by omega) = u at h3
  generalize q[k]'(by omega) = v at h4
  rw [h1, h2, h3, h4] at h5
  have h6 : a = b → u = v := fun e => by simpa using h5 (by rw [e])
  refine EvC.skip ?_
  refine EvC.seq ?_
  refine EvC.block ?_  -- 3
  apply EvC.seq
  apply EvC.drd mixed
  · (simp only [go_sem, Nat.reduceLT, Nat.reduceLeDiff, Nat.reduceEqDiff, Nat.reduceAdd, Nat.reduceSub, Nat.reduceMul, Nat.reduceBEq, Int.reduceToNat, Int.reduceEq, Int.reduceLT, Int.reduceLE, Int.reduceAdd, ↓reduceIte, reduceCtorEq, h1, h2, h3, h4, intC]) <;> rfl
  · simp
  · kernel_rfl
  refine EvC.cond (by (simp only [go_sem, Nat.reduceLT, Nat.reduceLeDiff, Nat.reduceEqDiff, Nat.reduceAdd, Nat.reduceSub, Nat.reduceMul, Nat.reduceBEq, Int.reduceToNat, Int.reduceEq, Int.reduceLT, Int.reduceLE, Int.reduceAdd, ↓reduceIte, reduceCtorEq]) <;> rfl) (fun hc => ?_) (fun hc => ?_)
  · exfalso
    by_cases e : a = b
    · simp [e, h6 e] at hc
    · simp [e] at hc
  refine EvC.skip ?_
  refine EvC.rg (by (simp only [go_sem, Nat.reduceLT, Nat.reduceLeDiff, Nat.reduceEqDiff, Nat.reduceAdd, Nat.reduceSub, Nat.reduceMul, Nat.reduceBEq, Int.reduceToNat, Int.reduceEq, Int.reduceLT, Int.reduceLE, Int.reduceAdd, ↓reduceIte, reduceCtorEq]) <;> rfl) (by exact inI64_of (by omega) (by omega)) ?_
  exact ⟨[], k + 1, rfl, (by (simp only [go_sem, Nat.reduceLT, Nat.reduceLeDiff, Nat.reduceEqDiff, Nat.reduceAdd, Nat.reduceSub, Nat.reduceMul, Nat.reduceBEq, Int.reduceToNat, Int.reduceEq, Int.reduceLT, Int.reduceLE, Int.reduceAdd, ↓reduceIte, reduceCtorEq]) <;> rfl), by omega, by omega⟩
def countR (l : List Int) : Int := l.foldl (fun n x => if n ≤ x then x + 1 else n) 0
theorem count_is (nl : Bool) (l : List Int) (c : Cp) (hl : l.length < 1000000) (hx : ∀ x ∈ l, 0 ≤ x ∧ x < 1000000) : PureIs prog 26 [.sl nl (l.map intC) c] (.sc (.int .i64 (countR l))) := by
  refine PureIs.of (nv := 1) (hid := [2, 3, 4, 8, 16]) func26 rfl (by kernel_rfl) (by simp [ntmps26]) fun _ => ?_
  rw [ntmps26, results26]
  refine EvC.seq (EvC.rg (by (simp only [go_sem, Nat.reduceLT, Nat.reduceLeDiff, Nat.reduceEqDiff, Nat.reduceAdd, Nat.reduceSub, Nat.reduceMul, Nat.reduceBEq, Int.reduceToNat, Int.reduceEq, Int.reduceLT, Int.reduceLE, Int.reduceAdd, ↓reduceIte, reduceCtorEq]) <;> rfl) (by simp) ?_)
  refine EvC.seq (EvC.rg (by (simp only [go_sem, Nat.reduceLT, Nat.reduceLeDiff, Nat.reduceEqDiff, Nat.reduceAdd, Nat.reduceSub, Nat.reduceMul, Nat.reduceBEq, Int.reduceToNat, Int.reduceEq, Int.reduceLT, Int.reduceLE, Int.reduceAdd, ↓reduceIte, reduceCtorEq]) <;> rfl) (by simp) ?_)
  refine EvC.seq ?_
  refine EvC.seq (EvC.rg (by (simp only [go_sem, Nat.reduceLT, Nat.reduceLeDiff, Nat.reduceEqDiff, Nat.reduceAdd, Nat.reduceSub, Nat.reduceMul, Nat.reduceBEq, Int.reduceToNat, Int.reduceEq, Int.reduceLT, Int.reduceLE, Int.reduceAdd, ↓reduceIte, reduceCtorEq]) <;> rfl) (by simp) ?_)
  refine EvC.block ?_  -- 0
  refine EvC.loopS (σ := Nat) (fun i => ⟨[(0, .sl nl (l.map intC) c), (3, .sc (.int .i64 (countR (l.take i)))), (4, .sc (.int .i64 i))], [], [], 0⟩) (fun i => l.length - i) (fun i => i ≤ l.length) [0, 3, 4] 0 ?_ ?_
  · exact ⟨[], 0, rfl, (by (simp only [go_sem, Nat.reduceLT, Nat.reduceLeDiff, Nat.reduceEqDiff, Nat.reduceAdd, Nat.reduceSub, Nat.reduceMul, Nat.reduceBEq, Int.reduceToNat, Int.reduceEq, Int.reduceLT, Int.reduceLE, Int.reduceAdd, ↓reduceIte, reduceCtorEq, countR, List.foldl_nil]) <;> rfl), Nat.zero_le _⟩
  intro i hi
  refine EvC.seq ?_
  refine EvC.seq (EvC.rg (by (simp only [go_sem, Nat.reduceLT, Nat.reduceLeDiff, Nat.reduceEqDiff, Nat.reduceAdd, Nat.reduceSub, Nat.reduceMul, Nat.reduceBEq, Int.reduceToNat, Int.reduceEq, Int.reduceLT, Int.reduceLE, Int.reduceAdd, ↓reduceIte, reduceCtorEq]) <;> rfl) (by simp) ?_)
  refine EvC.cond (by (simp only [go_sem, Nat.reduceLT, Nat.reduceLeDiff, Nat.reduceEqDiff, Nat.reduceAdd, Nat.reduceSub, Nat.reduceMul, Nat.reduceBEq, Int.reduceToNat, Int.reduceEq, Int.reduceLT, Int.reduceLE, Int.reduceAdd, ↓reduceIte, reduceCtorEq]) <;> rfl) (fun hc => ?_) (fun hc => ?_)
  rotate_left
  · refine EvC.exit ?_  -- 0
    obtain rfl : i = l.length := by have : ¬ i < l.length := by simpa using hc
                                    omega
    rw [List.take_length]
    refine EvC.seq (EvC.rg (by (simp only [go_sem, Nat.reduceLT, Nat.reduceLeDiff, Nat.reduceEqDiff, Nat.reduceAdd, Nat.reduceSub, Nat.reduceMul, Nat.reduceBEq, Int.reduceToNat, Int.reduceEq, Int.reduceLT, Int.reduceLE, Int.reduceAdd, ↓reduceIte, reduceCtorEq]) <;> rfl) (by simp) ?_)
    refine EvC.ret ⟨.inl rfl, _, (by (simp only [go_sem, Nat.reduceLT, Nat.reduceLeDiff, Nat.reduceEqDiff, Nat.reduceAdd, Nat.reduceSub, Nat.reduceMul, Nat.reduceBEq, Int.reduceToNat, Int.reduceEq, Int.reduceLT, Int.reduceLE, Int.reduceAdd, ↓reduceIte, reduceCtorEq]) <;> rfl), ?_, rfl⟩
    simp only [go_sem, Nat.reduceLT, Nat.reduceLeDiff, Nat.reduceEqDiff, Nat.reduceAdd, Nat.reduceSub, Nat.reduceMul, Nat.reduceBEq, Int.reduceToNat, Int.reduceEq, Int.reduceLT, Int.reduceLE, Int.reduceAdd, ↓reduceIte, reduceCtorEq]
  have hi : i < l.length := by simpa using hc
  have he : l[i]? = some l[i] := List.getElem?_eq_getElem hi
  have hb := hx _ (List.getElem_mem hi)
  generalize l[i] = x at he hb
  have hs : countR (l.take (i + 1)) = if countR (l.take i) ≤ x then x + 1 else countR (l.take i) := by
    rw [take_snoc he, countR, List.foldl_append]; rfl
  refine EvC.skip ?_
  refine EvC.seq ?_
  refine EvC.block ?_  -- 1
  refine EvC.seq (EvC.rg (by (simp only [go_sem, Nat.reduceLT, Nat.reduceLeDiff, Nat.reduceEqDiff, Nat.reduceAdd, Nat.reduceSub, Nat.reduceMul, Nat.reduceBEq, Int.reduceToNat, Int.reduceEq, Int.reduceLT, Int.reduceLE, Int.reduceAdd, ↓reduceIte, reduceCtorEq, he, intC]) <;> rfl) (by simp) ?_)
  refine EvC.cond (by (simp only [go_sem, Nat.reduceLT, Nat.reduceLeDiff, Nat.reduceEqDiff, Nat.reduceAdd, Nat.reduceSub, Nat.reduceMul, Nat.reduceBEq, Int.reduceToNat, Int.reduceEq, Int.reduceLT, Int.reduceLE, Int.reduceAdd, ↓reduceIte, reduceCtorEq]) <;> rfl) (fun hc => ?_) (fun hc => ?_)
  · have hc : countR (l.take i) ≤ x := by simpa using hc
    rw [if_pos hc] at hs
    refine EvC.rg (by (simp only [go_sem, Nat.reduceLT, Nat.reduceLeDiff, Nat.reduceEqDiff, Nat.reduceAdd, Nat.reduceSub, Nat.reduceMul, Nat.reduceBEq, Int.reduceToNat, Int.reduceEq, Int.reduceLT, Int.reduceLE, Int.reduceAdd, ↓reduceIte, reduceCtorEq, he, intC]) <;> rfl) (by exact inI64_of (by omega) (by omega)) ?_
    refine EvC.rg (by (simp only [go_sem, Nat.reduceLT, Nat.reduceLeDiff, Nat.reduceEqDiff, Nat.reduceAdd, Nat.reduceSub, Nat.reduceMul, Nat.reduceBEq, Int.reduceToNat, Int.reduceEq, Int.reduceLT, Int.reduceLE, Int.reduceAdd, ↓reduceIte, reduceCtorEq]) <;> rfl) (by exact inI64_of (by omega) (by omega)) ?_
    exact ⟨[], i + 1, rfl, (by (simp only [go_sem, Nat.reduceLT, Nat.reduceLeDiff, Nat.reduceEqDiff, Nat.reduceAdd, Nat.reduceSub, Nat.reduceMul, Nat.reduceBEq, Int.reduceToNat, Int.reduceEq, Int.reduceLT, Int.reduceLE, Int.reduceAdd, ↓reduceIte, reduceCtorEq, hs]) <;> rfl), by omega, by omega⟩
  have hc : ¬ countR (l.take i) ≤ x := by simpa using hc
  rw [if_neg hc] at hs
  refine EvC.skip ?_
  refine EvC.rg (by (simp only [go_sem, Nat.reduceLT, Nat.reduceLeDiff, Nat.reduceEqDiff, Nat.reduceAdd, Nat.reduceSub, Nat.reduceMul, Nat.reduceBEq, Int.reduceToNat, Int.reduceEq, Int.reduceLT, Int.reduceLE, Int.reduceAdd, ↓reduceIte, reduceCtorEq]) <;> rfl) (by exact inI64_of (by omega) (by omega)) ?_
  exact ⟨[], i + 1, rfl, (by (simp only [go_sem, Nat.reduceLT, Nat.reduceLeDiff, Nat.reduceEqDiff, Nat.reduceAdd, Nat.reduceSub, Nat.reduceMul, Nat.reduceBEq, Int.reduceToNat, Int.reduceEq, Int.reduceLT, Int.reduceLE, Int.reduceAdd, ↓reduceIte, reduceCtorEq, hs]) <;> rfl), by omega, by omega⟩
end Go.Avl
namespace Go.Avl
open Go Go.Proofs.Try
set_option maxRecDepth 10000
set_option linter.unusedSimpArgs false

/-- The words in their order. -/
def wordAt (k : Int) : Nat → List Int
  | 0 => []
  | n + 1 => nextW k (wordAt k n)
theorem incrW_ok {k : Int} (hk : 1 ≤ k) : ∀ {w : List Int}, (∀ x ∈ w, 0 ≤ x ∧ x < k) → (∀ x ∈ (incrW k w).1, 0 ≤ x ∧ x < k) ∧ (incrW k w).1.length = w.length
  | [], _ => by simp [incrW]
  | x :: w, h => by
    obtain ⟨h1, h2⟩ := incrW_ok hk (w := w) fun y hy => h y (List.mem_cons_of_mem _ hy)
    have hx := h x List.mem_cons_self
    unfold incrW
    split
    · split
      · exact ⟨fun y hy => by rcases List.mem_cons.1 hy with rfl | hy; omega; exact h1 y hy, by simp [h2]⟩
      · exact ⟨fun y hy => by rcases List.mem_cons.1 hy with rfl | hy; omega; exact h1 y hy, by simp [h2]⟩
    · exact ⟨fun y hy => by rcases List.mem_cons.1 hy with rfl | hy; exact hx; exact h1 y hy, by simp [h2]⟩
theorem nextW_ok {k : Int} (hk : 1 ≤ k) {w : List Int} (h : ∀ x ∈ w, 0 ≤ x ∧ x < k) : (∀ x ∈ nextW k w, 0 ≤ x ∧ x < k) ∧ w.length ≤ (nextW k w).length ∧ (nextW k w).length ≤ w.length + 1 := by
  obtain ⟨h1, h2⟩ := incrW_ok hk h
  unfold nextW
  split
  · refine ⟨fun y hy => ?_, by simp [h2], by simp [h2]⟩
    rcases List.mem_append.1 hy with hy | hy
    · exact h1 y hy
    · simp at hy; omega
  · exact ⟨h1, by omega, by omega⟩
theorem wordAt_ok {k : Int} (hk : 1 ≤ k) : ∀ (n : Nat), (∀ x ∈ wordAt k n, 0 ≤ x ∧ x < k)
  | 0 => by simp [wordAt]
  | n + 1 => (nextW_ok hk (wordAt_ok hk n)).1

theorem refsep_is {m : Mach} (hv : Valid m) (s t : Int) (hs : s < m.rows.length) (ht : t < m.rows.length) (k : Nat)
    (hlt : ∀ j < k, (wordAt m.ins j).length < max m.rows.length 2 ∧ runR m s (wordAt m.ins j) = runR m t (wordAt m.ins j)) (w : List Int)
    (hw : ((wordAt m.ins k).length < max m.rows.length 2 ∧ runR m s w ≠ runR m t w ∧ w = wordAt m.ins k) ∨ (max m.rows.length 2 ≤ (wordAt m.ins k).length ∧ w = [])) :
    PureIs prog 12 [.ag m.cells, .sc (.int .i64 s), .sc (.int .i64 t)] (.tu [.sl w.isEmpty (w.map intC) .unk, .sc (.bool (!w.isEmpty))]) := by
  have hins := hv.ins
  have hrw := hv.rows
  refine PureIs.of (nv := 4) (hid := [6, 7, 8, 16, 26]) func12 rfl (by kernel_rfl) (by simp [ntmps12]) fun _ => ?_
  rw [ntmps12, results12]
  refine EvC.seq (EvC.rg (by (simp only [go_sem, Nat.reduceLT, Nat.reduceLeDiff, Nat.reduceEqDiff, Nat.reduceAdd, Nat.reduceSub, Nat.reduceMul, Nat.reduceBEq, Int.reduceToNat, Int.reduceEq, Int.reduceLT, Int.reduceLE, Int.reduceAdd, ↓reduceIte, reduceCtorEq, Mach.cells]) <;> rfl) (by simp) ?_)
  refine EvC.frzB 0 (by (simp only [go_sem, Nat.reduceLT, Nat.reduceLeDiff, Nat.reduceEqDiff, Nat.reduceAdd, Nat.reduceSub, Nat.reduceMul, Nat.reduceBEq, Int.reduceToNat, Int.reduceEq, Int.reduceLT, Int.reduceLE, Int.reduceAdd, ↓reduceIte, reduceCtorEq]) <;> rfl) ?_
  refine EvC.seq ?_
  refine EvC.seq (EvC.rg (by (simp only [go_sem, Nat.reduceLT, Nat.reduceLeDiff, Nat.reduceEqDiff, Nat.reduceAdd, Nat.reduceSub, Nat.reduceMul, Nat.reduceBEq, Int.reduceToNat, Int.reduceEq, Int.reduceLT, Int.reduceLE, Int.reduceAdd, ↓reduceIte, reduceCtorEq]) <;> rfl) (by simp) ?_)
  refine EvC.block ?_  -- 0
  refine EvC.loopS (σ := Nat × Cp) (fun g => ⟨[(1, .sc (.int .i64 s)), (2, .sc (.int .i64 t)), (3, .ia m.cells), (8, .sl false ((wordAt m.ins g.1).map intC) g.2)], [], [], 0⟩) (fun g => k - g.1) (fun g => g.1 ≤ k ∧ (g.1 = 0 ∨ g.2 = .unk)) [1, 2, 3, 8] 0 ?_ ?_
  · exact ⟨[], (0, .zer), rfl, (by (simp only [go_sem, Nat.reduceLT, Nat.reduceLeDiff, Nat.reduceEqDiff, Nat.reduceAdd, Nat.reduceSub, Nat.reduceMul, Nat.reduceBEq, Int.reduceToNat, Int.reduceEq, Int.reduceLT, Int.reduceLE, Int.reduceAdd, ↓reduceIte, reduceCtorEq, Mach.cells, wordAt]) <;> rfl), Nat.zero_le _, .inl rfl⟩
  rintro ⟨j, cp⟩ ⟨hj, hcp⟩
  simp only at hj hcp
  have hok := wordAt_ok hins.1 j
  obtain ⟨v, hvj⟩ : ∃ v, v = wordAt m.ins j := ⟨_, rfl⟩
  rw [← hvj] at hok ⊢
  refine EvC.seq ?_
  refine EvC.seq (EvC.rg (by (simp only [go_sem, Nat.reduceLT, Nat.reduceLeDiff, Nat.reduceEqDiff, Nat.reduceAdd, Nat.reduceSub, Nat.reduceMul, Nat.reduceBEq, Int.reduceToNat, Int.reduceEq, Int.reduceLT, Int.reduceLE, Int.reduceAdd, ↓reduceIte, reduceCtorEq, Mach.cells]) <;> rfl) (by simp) ?_)
  refine EvC.cond (by (simp only [go_sem, Nat.reduceLT, Nat.reduceLeDiff, Nat.reduceEqDiff, Nat.reduceAdd, Nat.reduceSub, Nat.reduceMul, Nat.reduceBEq, Int.reduceToNat, Int.reduceEq, Int.reduceLT, Int.reduceLE, Int.reduceAdd, ↓reduceIte, reduceCtorEq]) <;> rfl) (fun hc => ?_) (fun hc => ?_)
  rotate_left
  · refine EvC.exit ?_  -- 0
    have hlen : max m.rows.length 2 ≤ v.length := by
      by_cases h2 : (m.rows.length : Int) ≤ 2 <;> simp [h2] at hc <;> omega
    have hjk : j = k := by
      by_cases h : j < k
      · have := (hlt j h).1; rw [← hvj] at this; omega
      · omega
    subst hjk
    have hwe : w = [] := by
      rcases hw with ⟨h1, _, _⟩ | ⟨_, h⟩
      · rw [← hvj] at h1; omega
      · exact h
    subst hwe
    refine EvC.seq (EvC.rg (by (simp only [go_sem, Nat.reduceLT, Nat.reduceLeDiff, Nat.reduceEqDiff, Nat.reduceAdd, Nat.reduceSub, Nat.reduceMul, Nat.reduceBEq, Int.reduceToNat, Int.reduceEq, Int.reduceLT, Int.reduceLE, Int.reduceAdd, ↓reduceIte, reduceCtorEq]) <;> rfl) (by simp) ?_)
    refine EvC.ret ⟨.inl rfl, _, (by (simp only [go_sem, Nat.reduceLT, Nat.reduceLeDiff, Nat.reduceEqDiff, Nat.reduceAdd, Nat.reduceSub, Nat.reduceMul, Nat.reduceBEq, Int.reduceToNat, Int.reduceEq, Int.reduceLT, Int.reduceLE, Int.reduceAdd, ↓reduceIte, reduceCtorEq]) <;> rfl), ?_, rfl⟩
    simp only [go_sem, Nat.reduceLT, Nat.reduceLeDiff, Nat.reduceEqDiff, Nat.reduceAdd, Nat.reduceSub, Nat.reduceMul, Nat.reduceBEq, Int.reduceToNat, Int.reduceEq, Int.reduceLT, Int.reduceLE, Int.reduceAdd, ↓reduceIte, reduceCtorEq]
  have hlen : v.length < max m.rows.length 2 := by
    by_cases h2 : (m.rows.length : Int) ≤ 2 <;> simp [h2] at hc <;> omega
  refine EvC.skip ?_
  refine EvC.seq ?_
  refine EvC.block ?_  -- 1
  apply EvC.seq
  apply EvC.tr
  · apply Tr.run
    · (simp only [go_sem, Nat.reduceLT, Nat.reduceLeDiff, Nat.reduceEqDiff, Nat.reduceAdd, Nat.reduceSub, Nat.reduceMul, Nat.reduceBEq, Int.reduceToNat, Int.reduceEq, Int.reduceLT, Int.reduceLE, Int.reduceAdd, ↓reduceIte, reduceCtorEq, Mach.cells]) <;> rfl
    · simp
    apply Tr.cons
    · exact .call rfl rfl (by (simp only [go_sem, Nat.reduceLT, Nat.reduceLeDiff, Nat.reduceEqDiff, Nat.reduceAdd, Nat.reduceSub, Nat.reduceMul, Nat.reduceBEq, Int.reduceToNat, Int.reduceEq, Int.reduceLT, Int.reduceLE, Int.reduceAdd, ↓reduceIte, reduceCtorEq]) <;> rfl) (by (simp only [go_sem, Nat.reduceLT, Nat.reduceLeDiff, Nat.reduceEqDiff, Nat.reduceAdd, Nat.reduceSub, Nat.reduceMul, Nat.reduceBEq, Int.reduceToNat, Int.reduceEq, Int.reduceLT, Int.reduceLE, Int.reduceAdd, ↓reduceIte, reduceCtorEq]) <;> rfl) (by (simp only [go_sem, Nat.reduceLT, Nat.reduceLeDiff, Nat.reduceEqDiff, Nat.reduceAdd, Nat.reduceSub, Nat.reduceMul, Nat.reduceBEq, Int.reduceToNat, Int.reduceEq, Int.reduceLT, Int.reduceLE, Int.reduceAdd, ↓reduceIte, reduceCtorEq]) <;> rfl) (by (simp only [go_sem, Nat.reduceLT, Nat.reduceLeDiff, Nat.reduceEqDiff, Nat.reduceAdd, Nat.reduceSub, Nat.reduceMul, Nat.reduceBEq, Int.reduceToNat, Int.reduceEq, Int.reduceLT, Int.reduceLE, Int.reduceAdd, ↓reduceIte, reduceCtorEq]) <;> rfl) (by (simp only [go_sem, Nat.reduceLT, Nat.reduceLeDiff, Nat.reduceEqDiff, Nat.reduceAdd, Nat.reduceSub, Nat.reduceMul, Nat.reduceBEq, Int.reduceToNat, Int.reduceEq, Int.reduceLT, Int.reduceLE, Int.reduceAdd, ↓reduceIte, reduceCtorEq]) <;> rfl) (splits_is hv s t hs ht false v cp hok (by omega))
    apply Tr.done
    · (simp only [go_sem, Nat.reduceLT, Nat.reduceLeDiff, Nat.reduceEqDiff, Nat.reduceAdd, Nat.reduceSub, Nat.reduceMul, Nat.reduceBEq, Int.reduceToNat, Int.reduceEq, Int.reduceLT, Int.reduceLE, Int.reduceAdd, ↓reduceIte, reduceCtorEq]) <;> rfl
    · simp
  by_cases hd : runR m s v = runR m t v
  · rw [if_pos hd]
    have hjk : j < k := by
      by_cases h : j < k
      · exact h
      · obtain rfl : j = k := by omega
        rcases hw with ⟨_, h2, h3⟩ | ⟨h1, _⟩
        · rw [h3, ← hvj] at h2; exact absurd hd h2
        · rw [← hvj] at h1; omega
    refine EvC.cond_false (by (simp only [go_sem, Nat.reduceLT, Nat.reduceLeDiff, Nat.reduceEqDiff, Nat.reduceAdd, Nat.reduceSub, Nat.reduceMul, Nat.reduceBEq, Int.reduceToNat, Int.reduceEq, Int.reduceLT, Int.reduceLE, Int.reduceAdd, ↓reduceIte, reduceCtorEq]) <;> rfl) ?_
    refine EvC.skip ?_
    apply EvC.tr
    · apply Tr.run
      · (simp only [go_sem, Nat.reduceLT, Nat.reduceLeDiff, Nat.reduceEqDiff, Nat.reduceAdd, Nat.reduceSub, Nat.reduceMul, Nat.reduceBEq, Int.reduceToNat, Int.reduceEq, Int.reduceLT, Int.reduceLE, Int.reduceAdd, ↓reduceIte, reduceCtorEq, Mach.cells]) <;> rfl
      · simp
      apply Tr.cons
      · exact .call rfl rfl (by (simp only [go_sem, Nat.reduceLT, Nat.reduceLeDiff, Nat.reduceEqDiff, Nat.reduceAdd, Nat.reduceSub, Nat.reduceMul, Nat.reduceBEq, Int.reduceToNat, Int.reduceEq, Int.reduceLT, Int.reduceLE, Int.reduceAdd, ↓reduceIte, reduceCtorEq]) <;> rfl) (by (simp only [go_sem, Nat.reduceLT, Nat.reduceLeDiff, Nat.reduceEqDiff, Nat.reduceAdd, Nat.reduceSub, Nat.reduceMul, Nat.reduceBEq, Int.reduceToNat, Int.reduceEq, Int.reduceLT, Int.reduceLE, Int.reduceAdd, ↓reduceIte, reduceCtorEq]) <;> rfl) (by (simp only [go_sem, Nat.reduceLT, Nat.reduceLeDiff, Nat.reduceEqDiff, Nat.reduceAdd, Nat.reduceSub, Nat.reduceMul, Nat.reduceBEq, Int.reduceToNat, Int.reduceEq, Int.reduceLT, Int.reduceLE, Int.reduceAdd, ↓reduceIte, reduceCtorEq]) <;> rfl) (by (simp only [go_sem, Nat.reduceLT, Nat.reduceLeDiff, Nat.reduceEqDiff, Nat.reduceAdd, Nat.reduceSub, Nat.reduceMul, Nat.reduceBEq, Int.reduceToNat, Int.reduceEq, Int.reduceLT, Int.reduceLE, Int.reduceAdd, ↓reduceIte, reduceCtorEq]) <;> rfl) (by (simp only [go_sem, Nat.reduceLT, Nat.reduceLeDiff, Nat.reduceEqDiff, Nat.reduceAdd, Nat.reduceSub, Nat.reduceMul, Nat.reduceBEq, Int.reduceToNat, Int.reduceEq, Int.reduceLT, Int.reduceLE, Int.reduceAdd, ↓reduceIte, reduceCtorEq]) <;> rfl) (next_is false v cp m.ins (by omega) (fun x hx => by have := hok x hx; omega))
      apply Tr.done
      · (simp only [go_sem, Nat.reduceLT, Nat.reduceLeDiff, Nat.reduceEqDiff, Nat.reduceAdd, Nat.reduceSub, Nat.reduceMul, Nat.reduceBEq, Int.reduceToNat, Int.reduceEq, Int.reduceLT, Int.reduceLE, Int.reduceAdd, ↓reduceIte, reduceCtorEq]) <;> rfl
      · simp
    have hn : wordAt m.ins (j + 1) = nextW m.ins v := by rw [hvj]; rfl
    exact ⟨[], (j + 1, .unk), rfl, (by (simp only [go_sem, Nat.reduceLT, Nat.reduceLeDiff, Nat.reduceEqDiff, Nat.reduceAdd, Nat.reduceSub, Nat.reduceMul, Nat.reduceBEq, Int.reduceToNat, Int.reduceEq, Int.reduceLT, Int.reduceLE, Int.reduceAdd, ↓reduceIte, reduceCtorEq, Mach.cells, hn]) <;> rfl), ⟨by simp only; omega, .inr rfl⟩, by simp only; omega⟩
  · rw [if_neg hd]
    have hjk : j = k := by
      by_cases h : j < k
      · have := (hlt j h).2; rw [← hvj] at this; exact absurd this hd
      · omega
    subst hjk
    have hwv : w = v := by
      rcases hw with ⟨_, _, h3⟩ | ⟨h1, _⟩
      · rw [h3, hvj]
      · rw [← hvj] at h1; omega
    have hne : w.isEmpty = false := by
      rw [hwv]
      cases hv0 : v with
      | nil => rw [hv0] at hd; exact absurd rfl hd
      | cons a l => rfl
    refine EvC.cond_true (by (simp only [go_sem, Nat.reduceLT, Nat.reduceLeDiff, Nat.reduceEqDiff, Nat.reduceAdd, Nat.reduceSub, Nat.reduceMul, Nat.reduceBEq, Int.reduceToNat, Int.reduceEq, Int.reduceLT, Int.reduceLE, Int.reduceAdd, ↓reduceIte, reduceCtorEq]) <;> rfl) ?_
    refine EvC.seq (EvC.rg (by (simp only [go_sem, Nat.reduceLT, Nat.reduceLeDiff, Nat.reduceEqDiff, Nat.reduceAdd, Nat.reduceSub, Nat.reduceMul, Nat.reduceBEq, Int.reduceToNat, Int.reduceEq, Int.reduceLT, Int.reduceLE, Int.reduceAdd, ↓reduceIte, reduceCtorEq]) <;> rfl) (by simp) ?_)
    have hj0 : j ≠ 0 := by
      rintro rfl
      rw [hvj] at hd; exact hd rfl
    have hcu : cp = .unk := hcp.resolve_left hj0
    subst hcu
    refine EvC.ret ⟨.inl rfl, _, (by (simp only [go_sem, Nat.reduceLT, Nat.reduceLeDiff, Nat.reduceEqDiff, Nat.reduceAdd, Nat.reduceSub, Nat.reduceMul, Nat.reduceBEq, Int.reduceToNat, Int.reduceEq, Int.reduceLT, Int.reduceLE, Int.reduceAdd, ↓reduceIte, reduceCtorEq]) <;> rfl), ?_, rfl⟩
    simp only [go_sem, Nat.reduceLT, Nat.reduceLeDiff, Nat.reduceEqDiff, Nat.reduceAdd, Nat.reduceSub, Nat.reduceMul, Nat.reduceBEq, Int.reduceToNat, Int.reduceEq, Int.reduceLT, Int.reduceLE, Int.reduceAdd, ↓reduceIte, reduceCtorEq]
    rw [hne, hwv]; rfl

theorem after22_is {m : Mach} (hv : Valid m) : ∀ (w : List Int) (s : Int) (nl : Bool) (c : Cp), s < m.rows.length → (∀ a ∈ w, 0 ≤ a ∧ a < m.ins) → w.length < 1000000 →
    PureIs prog 22 [.ag m.cells, .sc (.int .i64 s), .sl nl (w.map intC) c] (.sc (.int .i64 (afterR m s w)))
  | [], s, nl, c, hs, hw, hl => by
    refine PureIs.of (nv := 4) (hid := [6, 9]) func22 rfl (by kernel_rfl) (by simp [ntmps22]) fun _ => ?_
    rw [ntmps22, results22]
    refine EvC.seq (EvC.rg (by (simp only [go_sem, Nat.reduceLT, Nat.reduceLeDiff, Nat.reduceEqDiff, Nat.reduceAdd, Nat.reduceSub, Nat.reduceMul, Nat.reduceBEq, Int.reduceToNat, Int.reduceEq, Int.reduceLT, Int.reduceLE, Int.reduceAdd, ↓reduceIte, reduceCtorEq, Mach.cells]) <;> rfl) (by simp) ?_)
    refine EvC.frzB 0 (by (simp only [go_sem, Nat.reduceLT, Nat.reduceLeDiff, Nat.reduceEqDiff, Nat.reduceAdd, Nat.reduceSub, Nat.reduceMul, Nat.reduceBEq, Int.reduceToNat, Int.reduceEq, Int.reduceLT, Int.reduceLE, Int.reduceAdd, ↓reduceIte, reduceCtorEq]) <;> rfl) ?_
    refine EvC.seq ?_
    refine EvC.seq (EvC.rg (by (simp only [go_sem, Nat.reduceLT, Nat.reduceLeDiff, Nat.reduceEqDiff, Nat.reduceAdd, Nat.reduceSub, Nat.reduceMul, Nat.reduceBEq, Int.reduceToNat, Int.reduceEq, Int.reduceLT, Int.reduceLE, Int.reduceAdd, ↓reduceIte, reduceCtorEq]) <;> rfl) (by simp) ?_)
    refine EvC.cond_true (by (simp only [go_sem, Nat.reduceLT, Nat.reduceLeDiff, Nat.reduceEqDiff, Nat.reduceAdd, Nat.reduceSub, Nat.reduceMul, Nat.reduceBEq, Int.reduceToNat, Int.reduceEq, Int.reduceLT, Int.reduceLE, Int.reduceAdd, ↓reduceIte, reduceCtorEq]) <;> rfl) ?_
    refine EvC.seq (EvC.rg (by (simp only [go_sem, Nat.reduceLT, Nat.reduceLeDiff, Nat.reduceEqDiff, Nat.reduceAdd, Nat.reduceSub, Nat.reduceMul, Nat.reduceBEq, Int.reduceToNat, Int.reduceEq, Int.reduceLT, Int.reduceLE, Int.reduceAdd, ↓reduceIte, reduceCtorEq]) <;> rfl) (by simp) ?_)
    refine EvC.ret ⟨.inl rfl, _, (by (simp only [go_sem, Nat.reduceLT, Nat.reduceLeDiff, Nat.reduceEqDiff, Nat.reduceAdd, Nat.reduceSub, Nat.reduceMul, Nat.reduceBEq, Int.reduceToNat, Int.reduceEq, Int.reduceLT, Int.reduceLE, Int.reduceAdd, ↓reduceIte, reduceCtorEq]) <;> rfl), ?_, rfl⟩
    simp only [go_sem, Nat.reduceLT, Nat.reduceLeDiff, Nat.reduceEqDiff, Nat.reduceAdd, Nat.reduceSub, Nat.reduceMul, Nat.reduceBEq, Int.reduceToNat, Int.reduceEq, Int.reduceLT, Int.reduceLE, Int.reduceAdd, ↓reduceIte, reduceCtorEq]
    rfl
  | a :: w, s, nl, c, hs, hw, hl => by
    have ha := hw a List.mem_cons_self
    have ih := after22_is hv w (stepR m s a).1 nl (cutTail c) (stepR_lt hv hs ha) (fun b hb => hw b (List.mem_cons_of_mem _ hb)) (by simp at hl; omega)
    refine PureIs.of (nv := 4) (hid := [6, 9]) func22 rfl (by kernel_rfl) (by simp [ntmps22]) fun _ => ?_
    rw [ntmps22, results22]
    refine EvC.seq (EvC.rg (by (simp only [go_sem, Nat.reduceLT, Nat.reduceLeDiff, Nat.reduceEqDiff, Nat.reduceAdd, Nat.reduceSub, Nat.reduceMul, Nat.reduceBEq, Int.reduceToNat, Int.reduceEq, Int.reduceLT, Int.reduceLE, Int.reduceAdd, ↓reduceIte, reduceCtorEq, Mach.cells]) <;> rfl) (by simp) ?_)
    refine EvC.frzB 0 (by (simp only [go_sem, Nat.reduceLT, Nat.reduceLeDiff, Nat.reduceEqDiff, Nat.reduceAdd, Nat.reduceSub, Nat.reduceMul, Nat.reduceBEq, Int.reduceToNat, Int.reduceEq, Int.reduceLT, Int.reduceLE, Int.reduceAdd, ↓reduceIte, reduceCtorEq]) <;> rfl) ?_
    refine EvC.seq ?_
    refine EvC.seq (EvC.rg (by (simp only [go_sem, Nat.reduceLT, Nat.reduceLeDiff, Nat.reduceEqDiff, Nat.reduceAdd, Nat.reduceSub, Nat.reduceMul, Nat.reduceBEq, Int.reduceToNat, Int.reduceEq, Int.reduceLT, Int.reduceLE, Int.reduceAdd, ↓reduceIte, reduceCtorEq]) <;> rfl) (by simp) ?_)
    have h0 : decide (((w.length + 1 : Nat) : Int) = 0) = false := by simp; omega
    refine EvC.cond_false (by (simp only [go_sem, Nat.reduceLT, Nat.reduceLeDiff, Nat.reduceEqDiff, Nat.reduceAdd, Nat.reduceSub, Nat.reduceMul, Nat.reduceBEq, Int.reduceToNat, Int.reduceEq, Int.reduceLT, Int.reduceLE, Int.reduceAdd, ↓reduceIte, reduceCtorEq, h0]) <;> rfl) ?_
    refine EvC.skip ?_
    apply EvC.seq
    apply EvC.drw mixed
    · apply Tr.run
      · (simp only [go_sem, Nat.reduceLT, Nat.reduceLeDiff, Nat.reduceEqDiff, Nat.reduceAdd, Nat.reduceSub, Nat.reduceMul, Nat.reduceBEq, Int.reduceToNat, Int.reduceEq, Int.reduceLT, Int.reduceLE, Int.reduceAdd, ↓reduceIte, reduceCtorEq, Mach.cells, intC, edgeA, Option.getD_some]) <;> rfl
      · simp [intC]; try omega
      apply Tr.cons
      · exact .call rfl rfl (by (simp only [go_sem, Nat.reduceLT, Nat.reduceLeDiff, Nat.reduceEqDiff, Nat.reduceAdd, Nat.reduceSub, Nat.reduceMul, Nat.reduceBEq, Int.reduceToNat, Int.reduceEq, Int.reduceLT, Int.reduceLE, Int.reduceAdd, ↓reduceIte, reduceCtorEq]) <;> rfl) (by (simp only [go_sem, Nat.reduceLT, Nat.reduceLeDiff, Nat.reduceEqDiff, Nat.reduceAdd, Nat.reduceSub, Nat.reduceMul, Nat.reduceBEq, Int.reduceToNat, Int.reduceEq, Int.reduceLT, Int.reduceLE, Int.reduceAdd, ↓reduceIte, reduceCtorEq]) <;> rfl) (by (simp only [go_sem, Nat.reduceLT, Nat.reduceLeDiff, Nat.reduceEqDiff, Nat.reduceAdd, Nat.reduceSub, Nat.reduceMul, Nat.reduceBEq, Int.reduceToNat, Int.reduceEq, Int.reduceLT, Int.reduceLE, Int.reduceAdd, ↓reduceIte, reduceCtorEq]) <;> rfl) (by (simp only [go_sem, Nat.reduceLT, Nat.reduceLeDiff, Nat.reduceEqDiff, Nat.reduceAdd, Nat.reduceSub, Nat.reduceMul, Nat.reduceBEq, Int.reduceToNat, Int.reduceEq, Int.reduceLT, Int.reduceLE, Int.reduceAdd, ↓reduceIte, reduceCtorEq]) <;> rfl) (by (simp only [go_sem, Nat.reduceLT, Nat.reduceLeDiff, Nat.reduceEqDiff, Nat.reduceAdd, Nat.reduceSub, Nat.reduceMul, Nat.reduceBEq, Int.reduceToNat, Int.reduceEq, Int.reduceLT, Int.reduceLE, Int.reduceAdd, ↓reduceIte, reduceCtorEq]) <;> rfl) (stepR_is hv hs ha)
      apply Tr.run
      · (simp only [go_sem, Nat.reduceLT, Nat.reduceLeDiff, Nat.reduceEqDiff, Nat.reduceAdd, Nat.reduceSub, Nat.reduceMul, Nat.reduceBEq, Int.reduceToNat, Int.reduceEq, Int.reduceLT, Int.reduceLE, Int.reduceAdd, ↓reduceIte, reduceCtorEq, Mach.cells, intC, edgeA, Option.getD_some]) <;> rfl
      · simp [intC]; try omega
      apply Tr.cons
      · exact .call rfl rfl (by (simp only [go_sem, Nat.reduceLT, Nat.reduceLeDiff, Nat.reduceEqDiff, Nat.reduceAdd, Nat.reduceSub, Nat.reduceMul, Nat.reduceBEq, Int.reduceToNat, Int.reduceEq, Int.reduceLT, Int.reduceLE, Int.reduceAdd, ↓reduceIte, reduceCtorEq]) <;> rfl) (by (simp only [go_sem, Nat.reduceLT, Nat.reduceLeDiff, Nat.reduceEqDiff, Nat.reduceAdd, Nat.reduceSub, Nat.reduceMul, Nat.reduceBEq, Int.reduceToNat, Int.reduceEq, Int.reduceLT, Int.reduceLE, Int.reduceAdd, ↓reduceIte, reduceCtorEq]) <;> rfl) (by (simp only [go_sem, Nat.reduceLT, Nat.reduceLeDiff, Nat.reduceEqDiff, Nat.reduceAdd, Nat.reduceSub, Nat.reduceMul, Nat.reduceBEq, Int.reduceToNat, Int.reduceEq, Int.reduceLT, Int.reduceLE, Int.reduceAdd, ↓reduceIte, reduceCtorEq]) <;> rfl) (by (simp only [go_sem, Nat.reduceLT, Nat.reduceLeDiff, Nat.reduceEqDiff, Nat.reduceAdd, Nat.reduceSub, Nat.reduceMul, Nat.reduceBEq, Int.reduceToNat, Int.reduceEq, Int.reduceLT, Int.reduceLE, Int.reduceAdd, ↓reduceIte, reduceCtorEq]) <;> rfl) (by (simp only [go_sem, Nat.reduceLT, Nat.reduceLeDiff, Nat.reduceEqDiff, Nat.reduceAdd, Nat.reduceSub, Nat.reduceMul, Nat.reduceBEq, Int.reduceToNat, Int.reduceEq, Int.reduceLT, Int.reduceLE, Int.reduceAdd, ↓reduceIte, reduceCtorEq]) <;> rfl) (ih)
      apply Tr.done
      · (simp only [go_sem, Nat.reduceLT, Nat.reduceLeDiff, Nat.reduceEqDiff, Nat.reduceAdd, Nat.reduceSub, Nat.reduceMul, Nat.reduceBEq, Int.reduceToNat, Int.reduceEq, Int.reduceLT, Int.reduceLE, Int.reduceAdd, ↓reduceIte, reduceCtorEq]) <;> rfl
      · simp
    · kernel_rfl
    refine EvC.ret ⟨.inl rfl, _, (by (simp only [go_sem, Nat.reduceLT, Nat.reduceLeDiff, Nat.reduceEqDiff, Nat.reduceAdd, Nat.reduceSub, Nat.reduceMul, Nat.reduceBEq, Int.reduceToNat, Int.reduceEq, Int.reduceLT, Int.reduceLE, Int.reduceAdd, ↓reduceIte, reduceCtorEq]) <;> rfl), ?_, rfl⟩
    simp only [go_sem, Nat.reduceLT, Nat.reduceLeDiff, Nat.reduceEqDiff, Nat.reduceAdd, Nat.reduceSub, Nat.reduceMul, Nat.reduceBEq, Int.reduceToNat, Int.reduceEq, Int.reduceLT, Int.reduceLE, Int.reduceAdd, ↓reduceIte, reduceCtorEq]
    rfl
end Go.Avl
namespace Go.Avl
open Go Go.Proofs.Try
set_option maxRecDepth 10000
set_option linter.unusedSimpArgs false

def leastFrom (f : Nat → List Int) (s : Nat) : Nat → Nat → Nat
  | 0, k => k
  | n + 1, k => if f k = f s then k else leastFrom f s n (k + 1)
def leastEq (f : Nat → List Int) (s : Nat) : Nat := leastFrom f s s 0
theorem leastFrom_is {f : Nat → List Int} {s K : Nat} (hK : f K = f s) (hlt : ∀ j < K, f j ≠ f s) : ∀ (n k : Nat), k ≤ K → K ≤ k + n → leastFrom f s n k = K
  | 0, k, h1, h2 => by unfold leastFrom; omega
  | n + 1, k, h1, h2 => by
    unfold leastFrom
    by_cases h : k = K
    · subst h; rw [if_pos hK]
    · rw [if_neg (hlt k (by omega)), leastFrom_is hK hlt n (k + 1) (by omega) (by omega)]
theorem leastEq_is {f : Nat → List Int} {s k : Nat} (hk : f k = f s) (hlt : ∀ j < k, f j ≠ f s) : leastEq f s = k :=
  leastFrom_is hk hlt s 0 (Nat.zero_le _) (by
    by_cases h : k ≤ 0 + s
    · exact h
    · exact absurd rfl (hlt s (by omega)))
theorem leastEq_ex (f : Nat → List Int) (s : Nat) : ∃ k, k ≤ s ∧ f k = f s ∧ (∀ j < k, f j ≠ f s) ∧ leastEq f s = k := by
  have hx : ∃ k, f k = f s := ⟨s, rfl⟩
  obtain ⟨k, hk, hlt⟩ : ∃ k, f k = f s ∧ ∀ j < k, f j ≠ f s := by
    have : ∀ n, (∃ k, k ≤ n ∧ f k = f s) → ∃ k, f k = f s ∧ ∀ j < k, f j ≠ f s := by
      intro n
      induction n with
      | zero => rintro ⟨k, hk, he⟩; exact ⟨k, he, fun j hj => by omega⟩
      | succ n ih =>
        rintro ⟨k, hk, he⟩
        by_cases h : ∃ k, k ≤ n ∧ f k = f s
        · exact ih h
        · exact ⟨k, he, fun j hj e => h ⟨j, by omega, e⟩⟩
    exact this s ⟨s, Nat.le_refl _, rfl⟩
  refine ⟨k, ?_, hk, hlt, leastEq_is hk hlt⟩
  by_cases h : k ≤ s
  · exact h
  · exact absurd rfl (hlt s (by omega))
def findIdxG {α : Type} (p : α → Bool) : List α → Int → Int
  | [], _ => -1
  | e :: es, i => if p e = true then i else findIdxG p es (i + 1)
theorem findIdxG_is {α : Type} {p : α → Bool} : ∀ {l : List α} {k : Nat} {e : α} {i : Int}, l[k]? = some e → p e = true → (∀ j < k, ∀ x, l[j]? = some x → p x = false) → findIdxG p l i = i + k
  | [], k, e, i, h, _, _ => by simp at h
  | x :: l, 0, e, i, h, hp, _ => by
    have : x = e := by simpa using h
    subst this
    rw [findIdxG, if_pos hp]; simp
  | x :: l, k + 1, e, i, h, hp, hl => by
    have h0 := hl 0 (by omega) x (by simp)
    rw [findIdxG, if_neg (by simp [h0]), findIdxG_is (k := k) (by simpa using h) hp fun j hj y hy => hl (j + 1) (by omega) y (by simpa using hy)]
    omega
theorem indexL_is (nl : Bool) (xs : List LRow) (c : Cp) (f : FuncId) (cs : List AV) (hcs : AV.norefs cs = true) (p : LRow → Bool) (hp : ∀ e ∈ xs, PureIs prog f (.sl e.1 (e.2.map intC) .unk :: cs) (.sc (.bool (p e)))) (hl : xs.length < 1000000) :
    PureIs prog 45 [.sl nl (xs.map listC) c, .fn f cs] (.sc (.int .i64 (findIdxG p xs 0))) := by
  refine PureIs.of (nv := 2) (hid := [4, 5, 7, 8, 9, 16]) func45 rfl (by kernel_rfl) (by simp [ntmps45]) fun _ => ?_
  rw [ntmps45, results45]
  refine EvC.seq (EvC.rg (by (simp only [go_sem, Nat.reduceLT, Nat.reduceLeDiff, Nat.reduceEqDiff, Nat.reduceAdd, Nat.reduceSub, Nat.reduceMul, Nat.reduceBEq, Int.reduceToNat, Int.reduceEq, Int.reduceLT, Int.reduceLE, Int.reduceAdd, ↓reduceIte, reduceCtorEq]) <;> rfl) (by simp) ?_)
  refine EvC.seq ?_
  refine EvC.seq (EvC.rg (by (simp only [go_sem, Nat.reduceLT, Nat.reduceLeDiff, Nat.reduceEqDiff, Nat.reduceAdd, Nat.reduceSub, Nat.reduceMul, Nat.reduceBEq, Int.reduceToNat, Int.reduceEq, Int.reduceLT, Int.reduceLE, Int.reduceAdd, ↓reduceIte, reduceCtorEq]) <;> rfl) (by simp) ?_)
  refine EvC.block ?_  -- 0
  refine EvC.loopS (σ := Nat) (fun i => ⟨[(0, .sl nl (xs.map listC) c), (1, .fn f cs), (7, .sc (.int .i64 xs.length)), (8, .sc (.int .i64 i))], [], [], 0⟩) (fun i => xs.length - i) (fun i => i ≤ xs.length ∧ findIdxG p xs 0 = findIdxG p (xs.drop i) i) [0, 1, 7, 8] 0 ?_ ?_
  · refine ⟨[], 0, rfl, (by (simp only [go_sem, Nat.reduceLT, Nat.reduceLeDiff, Nat.reduceEqDiff, Nat.reduceAdd, Nat.reduceSub, Nat.reduceMul, Nat.reduceBEq, Int.reduceToNat, Int.reduceEq, Int.reduceLT, Int.reduceLE, Int.reduceAdd, ↓reduceIte, reduceCtorEq, hcs]) <;> rfl), Nat.zero_le _, by simp⟩
  rintro i ⟨h1, h2⟩
  refine EvC.seq (EvC.rg (by (simp only [go_sem, Nat.reduceLT, Nat.reduceLeDiff, Nat.reduceEqDiff, Nat.reduceAdd, Nat.reduceSub, Nat.reduceMul, Nat.reduceBEq, Int.reduceToNat, Int.reduceEq, Int.reduceLT, Int.reduceLE, Int.reduceAdd, ↓reduceIte, reduceCtorEq]) <;> rfl) (by simp) ?_)
  refine EvC.seq ?_
  refine EvC.cond (by (simp only [go_sem, Nat.reduceLT, Nat.reduceLeDiff, Nat.reduceEqDiff, Nat.reduceAdd, Nat.reduceSub, Nat.reduceMul, Nat.reduceBEq, Int.reduceToNat, Int.reduceEq, Int.reduceLT, Int.reduceLE, Int.reduceAdd, ↓reduceIte, reduceCtorEq]) <;> rfl) (fun hc => ?_) (fun hc => ?_)
  rotate_left
  · refine EvC.exit ?_  -- 0
    have hi : ¬ i < xs.length := by simpa using hc
    refine EvC.seq (EvC.rg (by (simp only [go_sem, Nat.reduceLT, Nat.reduceLeDiff, Nat.reduceEqDiff, Nat.reduceAdd, Nat.reduceSub, Nat.reduceMul, Nat.reduceBEq, Int.reduceToNat, Int.reduceEq, Int.reduceLT, Int.reduceLE, Int.reduceAdd, ↓reduceIte, reduceCtorEq]) <;> rfl) (by simp) ?_)
    refine EvC.ret ⟨.inl rfl, _, (by (simp only [go_sem, Nat.reduceLT, Nat.reduceLeDiff, Nat.reduceEqDiff, Nat.reduceAdd, Nat.reduceSub, Nat.reduceMul, Nat.reduceBEq, Int.reduceToNat, Int.reduceEq, Int.reduceLT, Int.reduceLE, Int.reduceAdd, ↓reduceIte, reduceCtorEq]) <;> rfl), ?_, rfl⟩
    simp only [go_sem, Nat.reduceLT, Nat.reduceLeDiff, Nat.reduceEqDiff, Nat.reduceAdd, Nat.reduceSub, Nat.reduceMul, Nat.reduceBEq, Int.reduceToNat, Int.reduceEq, Int.reduceLT, Int.reduceLE, Int.reduceAdd, ↓reduceIte, reduceCtorEq]
    rw [h2, List.drop_of_length_le (by omega)]; rfl
  have hi : i < xs.length := by simpa using hc
  have he : xs[i]? = some xs[i] := List.getElem?_eq_getElem hi
  have hd : xs.drop i = xs[i] :: xs.drop (i + 1) := List.drop_eq_getElem_cons hi
  have hm : xs[i] ∈ xs := List.getElem_mem hi
  generalize xs[i] = e at he hd hm
  refine EvC.skip ?_
  refine EvC.seq ?_
  refine EvC.block ?_  -- 1
  refine EvC.seq (EvC.rg (by (simp only [go_sem, Nat.reduceLT, Nat.reduceLeDiff, Nat.reduceEqDiff, Nat.reduceAdd, Nat.reduceSub, Nat.reduceMul, Nat.reduceBEq, Int.reduceToNat, Int.reduceEq, Int.reduceLT, Int.reduceLE, Int.reduceAdd, ↓reduceIte, reduceCtorEq]) <;> rfl) (by simp) ?_)
  apply EvC.seq
  apply EvC.tr
  · apply Tr.run
    · (simp only [go_sem, Nat.reduceLT, Nat.reduceLeDiff, Nat.reduceEqDiff, Nat.reduceAdd, Nat.reduceSub, Nat.reduceMul, Nat.reduceBEq, Int.reduceToNat, Int.reduceEq, Int.reduceLT, Int.reduceLE, Int.reduceAdd, ↓reduceIte, reduceCtorEq, he, listC]) <;> rfl
    · simp
    apply Tr.cons
    · exact .call rfl rfl (by (simp only [go_sem, Nat.reduceLT, Nat.reduceLeDiff, Nat.reduceEqDiff, Nat.reduceAdd, Nat.reduceSub, Nat.reduceMul, Nat.reduceBEq, Int.reduceToNat, Int.reduceEq, Int.reduceLT, Int.reduceLE, Int.reduceAdd, ↓reduceIte, reduceCtorEq]) <;> rfl) (by (simp only [go_sem, Nat.reduceLT, Nat.reduceLeDiff, Nat.reduceEqDiff, Nat.reduceAdd, Nat.reduceSub, Nat.reduceMul, Nat.reduceBEq, Int.reduceToNat, Int.reduceEq, Int.reduceLT, Int.reduceLE, Int.reduceAdd, ↓reduceIte, reduceCtorEq]) <;> rfl) (by (simp only [go_sem, Nat.reduceLT, Nat.reduceLeDiff, Nat.reduceEqDiff, Nat.reduceAdd, Nat.reduceSub, Nat.reduceMul, Nat.reduceBEq, Int.reduceToNat, Int.reduceEq, Int.reduceLT, Int.reduceLE, Int.reduceAdd, ↓reduceIte, reduceCtorEq]) <;> rfl) (by (simp only [go_sem, Nat.reduceLT, Nat.reduceLeDiff, Nat.reduceEqDiff, Nat.reduceAdd, Nat.reduceSub, Nat.reduceMul, Nat.reduceBEq, Int.reduceToNat, Int.reduceEq, Int.reduceLT, Int.reduceLE, Int.reduceAdd, ↓reduceIte, reduceCtorEq, hcs]) <;> rfl) (by (simp only [go_sem, Nat.reduceLT, Nat.reduceLeDiff, Nat.reduceEqDiff, Nat.reduceAdd, Nat.reduceSub, Nat.reduceMul, Nat.reduceBEq, Int.reduceToNat, Int.reduceEq, Int.reduceLT, Int.reduceLE, Int.reduceAdd, ↓reduceIte, reduceCtorEq]) <;> rfl) (hp e hm)
    apply Tr.done
    · (simp only [go_sem, Nat.reduceLT, Nat.reduceLeDiff, Nat.reduceEqDiff, Nat.reduceAdd, Nat.reduceSub, Nat.reduceMul, Nat.reduceBEq, Int.reduceToNat, Int.reduceEq, Int.reduceLT, Int.reduceLE, Int.reduceAdd, ↓reduceIte, reduceCtorEq]) <;> rfl
    · simp
  refine EvC.cond (by (simp only [go_sem, Nat.reduceLT, Nat.reduceLeDiff, Nat.reduceEqDiff, Nat.reduceAdd, Nat.reduceSub, Nat.reduceMul, Nat.reduceBEq, Int.reduceToNat, Int.reduceEq, Int.reduceLT, Int.reduceLE, Int.reduceAdd, ↓reduceIte, reduceCtorEq]) <;> rfl) (fun hc => ?_) (fun hc => ?_)
  · refine EvC.seq (EvC.rg (by (simp only [go_sem, Nat.reduceLT, Nat.reduceLeDiff, Nat.reduceEqDiff, Nat.reduceAdd, Nat.reduceSub, Nat.reduceMul, Nat.reduceBEq, Int.reduceToNat, Int.reduceEq, Int.reduceLT, Int.reduceLE, Int.reduceAdd, ↓reduceIte, reduceCtorEq]) <;> rfl) (by simp) ?_)
    refine EvC.ret ⟨.inl rfl, _, (by (simp only [go_sem, Nat.reduceLT, Nat.reduceLeDiff, Nat.reduceEqDiff, Nat.reduceAdd, Nat.reduceSub, Nat.reduceMul, Nat.reduceBEq, Int.reduceToNat, Int.reduceEq, Int.reduceLT, Int.reduceLE, Int.reduceAdd, ↓reduceIte, reduceCtorEq]) <;> rfl), ?_, rfl⟩
    simp only [go_sem, Nat.reduceLT, Nat.reduceLeDiff, Nat.reduceEqDiff, Nat.reduceAdd, Nat.reduceSub, Nat.reduceMul, Nat.reduceBEq, Int.reduceToNat, Int.reduceEq, Int.reduceLT, Int.reduceLE, Int.reduceAdd, ↓reduceIte, reduceCtorEq]
    rw [h2, hd, findIdxG, if_pos hc]
  refine EvC.skip ?_
  refine EvC.rg (by (simp only [go_sem, Nat.reduceLT, Nat.reduceLeDiff, Nat.reduceEqDiff, Nat.reduceAdd, Nat.reduceSub, Nat.reduceMul, Nat.reduceBEq, Int.reduceToNat, Int.reduceEq, Int.reduceLT, Int.reduceLE, Int.reduceAdd, ↓reduceIte, reduceCtorEq]) <;> rfl) (by exact inI64_of (by omega) (by omega)) ?_
  refine ⟨[], i + 1, rfl, (by (simp only [go_sem, Nat.reduceLT, Nat.reduceLeDiff, Nat.reduceEqDiff, Nat.reduceAdd, Nat.reduceSub, Nat.reduceMul, Nat.reduceBEq, Int.reduceToNat, Int.reduceEq, Int.reduceLT, Int.reduceLE, Int.reduceAdd, ↓reduceIte, reduceCtorEq, hcs]) <;> rfl), ⟨by omega, ?_⟩, by omega⟩
  rw [h2, hd, findIdxG, if_neg (by simp [hc])]; rfl
/-- The rows that are made so far. -/
def lcC (r : Option (List Int)) : List AV := match r with
  | some r => [.sl false (r.map intC) .unk]
  | none => [.sl true [] .zer]
@[go_sem] theorem norefs_lc (l : List (Option (List Int))) : (l.map lcC).all AV.norefs = true := by
  simp only [List.all_eq_true, List.mem_map]
  rintro _ ⟨r, _, rfl⟩
  cases r <;> rfl
theorem after1_is (na : Bool) (a : List Int) (ca : Cp) (nl : Bool) (rs : List (Option (List Int))) (cl : Cp) (s : Nat) (b : List Int) (hs : rs[s]? = some (some b)) (hl : a.length < 1000000) :
    PureIs prog 46 [.sl na (a.map intC) ca, .ia [.sl nl (rs.map lcC) cl], .ia [.sc (.int .i64 s)]] (.sc (.bool (decide (a = b)))) := by
  refine PureIs.of (nv := 3) (hid := [4]) func46 rfl (by kernel_rfl) (by simp [ntmps46]) fun _ => ?_
  rw [ntmps46, results46]
  refine EvC.seq (EvC.rg (by (simp only [go_sem, Nat.reduceLT, Nat.reduceLeDiff, Nat.reduceEqDiff, Nat.reduceAdd, Nat.reduceSub, Nat.reduceMul, Nat.reduceBEq, Int.reduceToNat, Int.reduceEq, Int.reduceLT, Int.reduceLE, Int.reduceAdd, ↓reduceIte, reduceCtorEq]) <;> rfl) (by simp) ?_)
  apply EvC.seq
  apply EvC.tr
  · apply Tr.run
    · (simp only [go_sem, Nat.reduceLT, Nat.reduceLeDiff, Nat.reduceEqDiff, Nat.reduceAdd, Nat.reduceSub, Nat.reduceMul, Nat.reduceBEq, Int.reduceToNat, Int.reduceEq, Int.reduceLT, Int.reduceLE, Int.reduceAdd, ↓reduceIte, reduceCtorEq, hs, lcC, Int.toNat_natCast]) <;> rfl
    · simp
    apply Tr.cons
    · exact .call rfl rfl (by (simp only [go_sem, Nat.reduceLT, Nat.reduceLeDiff, Nat.reduceEqDiff, Nat.reduceAdd, Nat.reduceSub, Nat.reduceMul, Nat.reduceBEq, Int.reduceToNat, Int.reduceEq, Int.reduceLT, Int.reduceLE, Int.reduceAdd, ↓reduceIte, reduceCtorEq]) <;> rfl) (by (simp only [go_sem, Nat.reduceLT, Nat.reduceLeDiff, Nat.reduceEqDiff, Nat.reduceAdd, Nat.reduceSub, Nat.reduceMul, Nat.reduceBEq, Int.reduceToNat, Int.reduceEq, Int.reduceLT, Int.reduceLE, Int.reduceAdd, ↓reduceIte, reduceCtorEq]) <;> rfl) (by (simp only [go_sem, Nat.reduceLT, Nat.reduceLeDiff, Nat.reduceEqDiff, Nat.reduceAdd, Nat.reduceSub, Nat.reduceMul, Nat.reduceBEq, Int.reduceToNat, Int.reduceEq, Int.reduceLT, Int.reduceLE, Int.reduceAdd, ↓reduceIte, reduceCtorEq]) <;> rfl) (by (simp only [go_sem, Nat.reduceLT, Nat.reduceLeDiff, Nat.reduceEqDiff, Nat.reduceAdd, Nat.reduceSub, Nat.reduceMul, Nat.reduceBEq, Int.reduceToNat, Int.reduceEq, Int.reduceLT, Int.reduceLE, Int.reduceAdd, ↓reduceIte, reduceCtorEq]) <;> rfl) (by (simp only [go_sem, Nat.reduceLT, Nat.reduceLeDiff, Nat.reduceEqDiff, Nat.reduceAdd, Nat.reduceSub, Nat.reduceMul, Nat.reduceBEq, Int.reduceToNat, Int.reduceEq, Int.reduceLT, Int.reduceLE, Int.reduceAdd, ↓reduceIte, reduceCtorEq]) <;> rfl) (equal_is na a ca false b .unk hl)
    apply Tr.done
    · (simp only [go_sem, Nat.reduceLT, Nat.reduceLeDiff, Nat.reduceEqDiff, Nat.reduceAdd, Nat.reduceSub, Nat.reduceMul, Nat.reduceBEq, Int.reduceToNat, Int.reduceEq, Int.reduceLT, Int.reduceLE, Int.reduceAdd, ↓reduceIte, reduceCtorEq]) <;> rfl
    · simp
  refine EvC.ret ⟨.inl rfl, _, (by (simp only [go_sem, Nat.reduceLT, Nat.reduceLeDiff, Nat.reduceEqDiff, Nat.reduceAdd, Nat.reduceSub, Nat.reduceMul, Nat.reduceBEq, Int.reduceToNat, Int.reduceEq, Int.reduceLT, Int.reduceLE, Int.reduceAdd, ↓reduceIte, reduceCtorEq]) <;> rfl), ?_, rfl⟩
  simp only [go_sem, Nat.reduceLT, Nat.reduceLeDiff, Nat.reduceEqDiff, Nat.reduceAdd, Nat.reduceSub, Nat.reduceMul, Nat.reduceBEq, Int.reduceToNat, Int.reduceEq, Int.reduceLT, Int.reduceLE, Int.reduceAdd, ↓reduceIte, reduceCtorEq]
end Go.Avl
