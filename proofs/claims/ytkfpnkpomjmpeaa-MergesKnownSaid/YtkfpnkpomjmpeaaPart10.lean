/-
  Lemmas.
  Lemmas.
  Lemmas.
  Lemmas.
  Lemmas.
  Lemmas.
  Lemmas.
  Lemmas.
  Lemmas.
  Lemmas.
  Lemmas.
  Lemmas.
  Lemmas.
  Lemmas.
  Lemmas.
  Lemmas.
  Lemmas.
  Lemmas.
  Lemmas.
-/
import Derived.Test.YtkfpnkpomjmpeaaPart9
set_option linter.unusedSimpArgs false
set_option linter.unusedVariables false
set_option linter.unnecessarySimpa false
set_option linter.deprecated false
namespace Go.Avl
open Go Go.Proofs.Try
set_option maxRecDepth 10000
set_option linter.unusedSimpArgs false
def insN (N : List (List Int)) (t : TR) (k : Nat) : List (List Int) := (List.range k).foldl (fun N j => if t.w.take (j + 1) ∈ N then N else N ++ [t.w.take (j + 1)]) N
def rawN (L : List TR) : List (List Int) := L.foldl (fun N t => insN N t (preN t.r)) [[]]
theorem insN_succ (N : List (List Int)) (t : TR) (k : Nat) : insN N t (k + 1) = if t.w.take (k + 1) ∈ insN N t k then insN N t k else insN N t k ++ [t.w.take (k + 1)] := by
 rw [insN, List.range_succ, List.foldl_append]; rfl
theorem mem_insN {N : List (List Int)} {t : TR} {x : List Int} : ∀ {k : Nat}, x ∈ insN N t k ↔ x ∈ N ∨ ∃ j, j < k ∧ x = t.w.take (j + 1)
 | 0 => by simp [insN]
 | k + 1 => by
   rw [insN_succ]
   split
   ·rename_i h
    rw [mem_insN]
    constructor
    ·rintro (h1 | ⟨j, h1, h2⟩)
     ·exact .inl h1
     ·exact .inr ⟨j, by omega, h2⟩
    ·rintro (h1 | ⟨j, h1, h2⟩)
     ·exact .inl h1
     ·by_cases e : j = k
      ·subst e
       rw [h2]
       rw [mem_insN] at h
       exact h
      ·exact .inr ⟨j, by omega, h2⟩
   ·rw [List.mem_append, List.mem_singleton, mem_insN]
    constructor
    ·rintro ((h1 | ⟨j, h1, h2⟩) | h1)
     ·exact .inl h1
     ·exact .inr ⟨j, by omega, h2⟩
     ·exact .inr ⟨k, by omega, h1⟩
    ·rintro (h1 | ⟨j, h1, h2⟩)
     ·exact .inl (.inl h1)
     ·by_cases e : j = k
      ·subst e; exact .inr h2
      ·exact .inl (.inr ⟨j, by omega, h2⟩)
theorem insN_nodup {N : List (List Int)} (h : N.Nodup) (t : TR) : ∀ k, (insN N t k).Nodup
 | 0 => h
 | k + 1 => by
   rw [insN_succ]
   split
   ·exact insN_nodup h t k
   ·rename_i hn
    rw [List.nodup_append]
    refine ⟨insN_nodup h t k, by simp, fun a ha b hb he => ?_⟩
    rw [List.mem_singleton.1 hb] at he
    exact hn (he ▸ ha)
theorem rawN_snoc (T : List TR) (t : TR) : rawN (T ++ [t]) = insN (rawN T) t (preN t.r) := by
 unfold rawN; rw [List.foldl_append]; rfl
theorem rawN_props (L : List TR) : (rawN L).Nodup ∧ ∀ x, x ∈ rawN L ↔ x ∈ nodesL L := by
 have key : ∀ (L : List TR) (N : List (List Int)), N.Nodup → (L.foldl (fun N t => insN N t (preN t.r)) N).Nodup ∧ ∀ x, x ∈ L.foldl (fun N t => insN N t (preN t.r)) N ↔ x ∈ N ∨ ∃ t ∈ L, ∃ j, j < preN t.r ∧ x = t.w.take (j + 1) := by
  intro L
  induction L with
  | nil => intro N h; exact ⟨h, fun x => by simp⟩
  | cons t L ih =>
    intro N h
    obtain ⟨h1, h2⟩ := ih (insN N t (preN t.r)) (insN_nodup h t _)
    rw [List.foldl_cons]
    refine ⟨h1, fun x => ?_⟩
    rw [h2, mem_insN]
    constructor
    ·rintro ((h3 | ⟨j, h3, h4⟩) | ⟨u, hu, h3⟩)
     ·exact .inl h3
     ·exact .inr ⟨t, List.mem_cons_self, j, h3, h4⟩
     ·exact .inr ⟨u, List.mem_cons_of_mem _ hu, h3⟩
    ·rintro (h3 | ⟨u, hu, h3⟩)
     ·exact .inl (.inl h3)
     ·rcases List.mem_cons.1 hu with rfl | hu
      ·exact .inl (.inr h3)
      ·exact .inr ⟨u, hu, h3⟩
 obtain ⟨h1, h2⟩ := key L [[]] (by simp)
 refine ⟨h1, fun x => ?_⟩
 unfold rawN
 rw [h2, mem_nodesL, List.mem_singleton]
def cutK (t : TR) (k : Nat) : TR := ⟨t.w.take k, t.r.take k⟩
theorem cutK_full {t : TR} {k : Nat} (h1 : t.w.length ≤ k) (h2 : t.r.length = t.w.length) : cutK t k = t := by
 unfold cutK
 rw [List.take_of_length_le h1, List.take_of_length_le (by omega)]
theorem TrVal.cutK {ins : Nat} {outs : Int} {t : TR} (h : TrVal ins outs t) (k : Nat) : TrVal ins outs (cutK t k) :=
 ⟨by simp only [Avl.cutK, List.length_take, h.len], fun a ha => h.sym a (List.mem_of_mem_take ha), FormR.take h.form k⟩
theorem hasW_cutK {t : TR} {k : Nat} {w : List Int} : hasW (cutK t k) w ↔ hasW t w ∧ w.length ≤ k := by
 unfold hasW cutK
 simp only [List.length_take, List.take_take]
 constructor
 ·rintro ⟨h1, h2⟩
  rw [Nat.min_eq_left (by omega)] at h2
  exact ⟨⟨by omega, h2⟩, by omega⟩
 ·rintro ⟨⟨h1, h2⟩, h3⟩
  exact ⟨by omega, by rw [Nat.min_eq_left (by omega)]; exact h2⟩
theorem Cons.cutK {T : List TR} {t : TR} (h : Cons (T ++ [t])) (k : Nat) : Cons (T ++ [cutK t k]) := by
 have key : ∀ u ∈ T ++ [Avl.cutK t k], ∃ u' ∈ T ++ [t], ∀ w, w ≠ [] → hasW u w → hasW u' w ∧ (u.r[w.length - 1]?).getD 0 = (u'.r[w.length - 1]?).getD 0 := fun u hu => by
  rcases List.mem_append.1 hu with hu | hu
  ·exact ⟨u, List.mem_append_left _ hu, fun w _ hw => ⟨hw, rfl⟩⟩
  ·rw [List.mem_singleton.1 hu]
   refine ⟨t, by simp, fun w hne hw => ?_⟩
   obtain ⟨h1, h2⟩ := hasW_cutK.1 hw
   have hwl : w.length ≠ 0 := fun hh => hne (List.length_eq_zero_iff.1 hh)
   refine ⟨h1, ?_⟩
   simp only [Avl.cutK]
   rw [List.getElem?_take, if_pos (by omega)]
 intro u hu u2 hu2 w hw h1 h2
 obtain ⟨u', a1, a2⟩ := key u hu
 obtain ⟨u2', b1, b2⟩ := key u2 hu2
 rw [(a2 w hw h1).2, (b2 w hw h2).2]
 exact h u' a1 u2' b1 w hw (a2 w hw h1).1 (b2 w hw h2).1
theorem edge_raw {ins : Nat} {outs : Int} {L : List TR} (hv : ∀ t ∈ L, TrVal ins outs t) (hc : Cons L) {N : List (List Int)} (hN : ∀ x, x ∈ N ↔ x ∈ nodesL L) {w : List Int} (hw : w ≠ []) :
  (w ∉ N ∧ ((lastL L w = none ∧ edgeOf L N w = (-1, -1)) ∨ (lastL L w = some (-1) ∧ edgeOf L N w = (-1, -2)))) ∨ (w ∈ N ∧ ∃ n, lastL L w = some n ∧ 0 ≤ n ∧ n < outs ∧ edgeOf L N w = (((N.idxOf w : Nat) : Int), n)) := by
 rcases edge_cases hv hc hw with ⟨h1, h2⟩ | ⟨h1, n, h2, h3, h4, h5⟩
 ·refine .inl ⟨fun h => h1 ((hN w).1 h), ?_⟩
  have he : edgeOf L (nodesL L) w = match lastL L w with | none => (-1, -1) | some n => if n = -1 then (-1, -2) else (posOf (nodesL L) w, n) := rfl
  have he2 : edgeOf L N w = match lastL L w with | none => (-1, -1) | some n => if n = -1 then (-1, -2) else (posOf N w, n) := rfl
  cases hl : lastL L w with
  | none =>
    rw [hl] at he2
    exact .inl ⟨rfl, he2⟩
  | some n =>
    rw [hl] at he he2
    by_cases hn : n = -1
    ·subst hn
     simp only [if_true] at he2
     exact .inr ⟨rfl, he2⟩
    ·simp only [if_neg hn] at he
     obtain ⟨t, ht, hw', hr⟩ := lastL_mem hl
     have hkl : w.length - 1 < t.r.length := by
      have := hw'.1
      have := (hv t ht).len
      have hwl : w.length ≠ 0 := fun hh => hw (List.length_eq_zero_iff.1 hh)
      omega
     rcases (hv t ht).get hkl with h6 | h6
     ·rcases h2 with h2 | h2 <;> (rw [he] at h2; have := congrArg Prod.snd h2; simp only at this; omega)
     ·omega
 ·refine .inr ⟨(hN w).2 h1, n, h2, h3, h4, ?_⟩
  have he2 : edgeOf L N w = match lastL L w with | none => (-1, -1) | some n => if n = -1 then (-1, -2) else (posOf N w, n) := rfl
  rw [h2] at he2
  simp only at he2
  rw [if_neg (by omega), posOf, if_pos (List.idxOf_lt_length_of_mem ((hN w).2 h1))] at he2
  exact he2
theorem lastL_append (A B : List TR) (w : List Int) : lastL (A ++ B) w = match lastL A w with | some n => some n | none => lastL B w := by
 induction A with
 | nil => rfl
 | cons t A ih =>
   rw [List.cons_append, lastL, lastL]
   by_cases h : hasW t w
   ·rw [if_pos h, if_pos h]
   ·rw [if_neg h, if_neg h, ih]
theorem lastL_one (t : TR) (w : List Int) : lastL [t] w = if hasW t w then some ((t.r[w.length - 1]?).getD 0) else none := rfl
theorem lastL_cut {T : List TR} {t : TR} {k : Nat} (hk : k < t.w.length) {w : List Int} (hw : w ≠ t.w.take (k + 1)) : lastL (T ++ [cutK t (k + 1)]) w = lastL (T ++ [cutK t k]) w ∨ w = [] := by
 by_cases h0 : w = []
 ·exact .inr h0
 left
 rw [lastL_append, lastL_append]
 cases lastL T w with
 | some n => rfl
 | none =>
   simp only
   rw [lastL_one, lastL_one]
   have hwl : w.length ≠ 0 := fun hh => h0 (List.length_eq_zero_iff.1 hh)
   by_cases h1 : hasW t w ∧ w.length ≤ k
   ·rw [if_pos (hasW_cutK.2 h1), if_pos (hasW_cutK.2 ⟨h1.1, by omega⟩)]
    simp only [cutK]
    rw [List.getElem?_take, List.getElem?_take, if_pos (by omega), if_pos (by omega)]
   ·rw [if_neg (fun h => h1 (hasW_cutK.1 h)), if_neg]
    intro h
    obtain ⟨h2, h3⟩ := hasW_cutK.1 h
    refine hw ?_
    rw [← h2.2, show w.length = k + 1 by
     have : ¬ w.length ≤ k := fun hh => h1 ⟨h2, hh⟩
     omega]
end Go.Avl
namespace Go.Avl
open Go Go.Proofs.Try
set_option maxRecDepth 10000
set_option linter.unusedSimpArgs false
def rawW (L : List TR) (N : List (List Int)) (s i : Nat) : Int × Int := edgeOf L N ((N[s]?).getD [] ++ [(i : Int)])
theorem preN_take : ∀ (r : List Int) (k : Nat), preN (r.take k) = min k (preN r)
 | [], k => by simp [preN]
 | x :: r, 0 => by simp [preN]
 | x :: r, k + 1 => by
   have ih := preN_take r k
   unfold preN at ih ⊢
   rw [List.take_succ_cons, List.takeWhile_cons, List.takeWhile_cons]
   by_cases h : decide (x ≠ -1) = true
   ·rw [if_pos h, if_pos h, List.length_cons, List.length_cons, ih]; omega
   ·rw [if_neg h, if_neg h]; simp
theorem insN_mem {T : List TR} {t : TR} {k : Nat} (hk : k ≤ preN t.r) (x : List Int) : x ∈ insN (rawN T) t k ↔ x ∈ nodesL (T ++ [cutK t k]) := by
 rw [mem_insN, (rawN_props T).2, mem_nodesL, mem_nodesL]
 constructor
 ·rintro ((h | ⟨u, hu, j, hj, hx⟩) | ⟨j, hj, hx⟩)
  ·exact .inl h
  ·exact .inr ⟨u, List.mem_append_left _ hu, j, hj, hx⟩
  ·refine .inr ⟨cutK t k, by simp, j, ?_, ?_⟩
   ·simp only [cutK]; rw [preN_take]; omega
   ·simp only [cutK]; rw [List.take_take, Nat.min_eq_left (by omega)]; exact hx
 ·rintro (h | ⟨u, hu, j, hj, hx⟩)
  ·exact .inl (.inl h)
  ·rcases List.mem_append.1 hu with hu | hu
   ·exact .inl (.inr ⟨u, hu, j, hj, hx⟩)
   ·have e := List.mem_singleton.1 hu
    subst e
    simp only [cutK] at hj hx
    rw [preN_take] at hj
    rw [List.take_take, Nat.min_eq_left (by omega)] at hx
    exact .inr ⟨j, by omega, hx⟩
structure RawS (ins : Nat) (outs : Int) (T : List TR) (t : TR) : Prop where
 val : ∀ u ∈ T ++ [t], TrVal ins outs u
 cons : Cons (T ++ [t])
theorem RawS.vt {ins : Nat} {outs : Int} {T : List TR} {t : TR} (h : RawS ins outs T t) : TrVal ins outs t := h.val t (by simp)
theorem RawS.cut {ins : Nat} {outs : Int} {T : List TR} {t : TR} (h : RawS ins outs T t) (k : Nat) : (∀ u ∈ T ++ [cutK t k], TrVal ins outs u) ∧ Cons (T ++ [cutK t k]) :=
 ⟨fun u hu => by
  rcases List.mem_append.1 hu with hu | hu
  ·exact h.val u (List.mem_append_left _ hu)
  ·rw [List.mem_singleton.1 hu]; exact h.vt.cutK k, h.cons.cutK k⟩
theorem RawS.edge {ins : Nat} {outs : Int} {T : List TR} {t : TR} (h : RawS ins outs T t) {k : Nat} (hk : k ≤ preN t.r) {w : List Int} (hw : w ≠ []) :
  (w ∉ insN (rawN T) t k ∧ ((lastL (T ++ [cutK t k]) w = none ∧ edgeOf (T ++ [cutK t k]) (insN (rawN T) t k) w = (-1, -1)) ∨ (lastL (T ++ [cutK t k]) w = some (-1) ∧ edgeOf (T ++ [cutK t k]) (insN (rawN T) t k) w = (-1, -2)))) ∨
   (w ∈ insN (rawN T) t k ∧ ∃ n, lastL (T ++ [cutK t k]) w = some n ∧ 0 ≤ n ∧ n < outs ∧ edgeOf (T ++ [cutK t k]) (insN (rawN T) t k) w = ((((insN (rawN T) t k).idxOf w : Nat) : Int), n)) :=
 edge_raw (h.cut k).1 (h.cut k).2 (insN_mem (T := T) hk) hw
theorem RawS.at {ins : Nat} {outs : Int} {T : List TR} {t : TR} (h : RawS ins outs T t) {k : Nat} (hk : k ≤ preN t.r) : t.w.take k ∈ insN (rawN T) t k := by
 by_cases h0 : k = 0
 ·subst h0
  rw [List.take_zero, mem_insN]
  exact .inl (((rawN_props T).2 []).2 (mem_nodesL.2 (.inl rfl)))
 ·rw [mem_insN]
  exact .inr ⟨k - 1, by omega, by rw [show k - 1 + 1 = k by omega]⟩
theorem take_snoc {w : List Int} {k : Nat} {a : Int} (h : w[k]? = some a) : w.take (k + 1) = w.take k ++ [a] := by rw [List.take_succ, h]; rfl
theorem idx_word {N : List (List Int)} (hn : N.Nodup) {s : Nat} (hs : s < N.length) {x : List Int} (hx : (N[s]?).getD [] = x) : N.idxOf x = s := by
 have h1 : N[s]? = some N[s] := List.getElem?_eq_getElem hs
 rw [h1] at hx
 have hx : N[s] = x := hx
 subst hx
 exact hn.idxOf_getElem s hs
theorem idx_get {N : List (List Int)} {x : List Int} (h : x ∈ N) : N[N.idxOf x]? = some x := by
 have hl := List.idxOf_lt_length_of_mem h
 rw [List.getElem?_eq_getElem hl, List.getElem_idxOf hl]
theorem word_eq {N : List (List Int)} (hn : N.Nodup) {x : List Int} (hx : x ∈ N) {i : Nat} {s j : Nat} (hs : s < N.length) : (N[s]?).getD [] ++ [(j : Int)] = x ++ [(i : Int)] ↔ s = N.idxOf x ∧ j = i := by
 constructor
 ·intro h
  have h1 := List.append_inj h (by have := congrArg List.length h; simpa using this)
  refine ⟨(idx_word hn hs h1.1).symm, ?_⟩
  have := h1.2
  simp at this
  omega
 ·rintro ⟨rfl, rfl⟩
  rw [idx_get hx]; rfl
theorem word_in {N : List (List Int)} {s : Nat} (hs : s < N.length) : (N[s]?).getD [] ∈ N := by
 rw [List.getElem?_eq_getElem hs]; exact List.getElem_mem hs
theorem snoc_ne (x : List Int) (a : Int) : x ++ [a] ≠ [] := by simp
theorem RawS.refuse {ins : Nat} {outs : Int} {T : List TR} {t : TR} (h : RawS ins outs T t) {k i : Nat} (hk : k = preN t.r) (hkw : t.w[k]? = some (i : Int)) (ho : (t.r[k]?).getD 0 = -1) {s j : Nat} (hs : s < (insN (rawN T) t k).length) :
  rawW (T ++ [t]) (insN (rawN T) t k) s j = if s = (insN (rawN T) t k).idxOf (t.w.take k) ∧ j = i then (-1, -2) else rawW (T ++ [cutK t k]) (insN (rawN T) t k) s j := by
 have hkl := (List.getElem?_eq_some_iff.1 hkw).1
 have hw1 := take_snoc hkw
 have hin := h.at (k := k) (by omega)
 have hnd := insN_nodup (rawN_props T).1 t k
 have hwe := word_eq hnd hin (i := i) (j := j) hs
 rw [← hw1] at hwe
 unfold rawW
 by_cases he : s = (insN (rawN T) t k).idxOf (t.w.take k) ∧ j = i
 ·rw [if_pos he, hwe.2 he]
  have hl : lastL (T ++ [t]) (t.w.take (k + 1)) = some (-1) := by
   have := h.cons.last (w := t.w.take (k + 1)) (show t ∈ T ++ [t] by simp) (by rw [hw1]; exact snoc_ne _ _) (hasW_take t (k + 1))
   rw [show (t.w.take (k + 1)).length - 1 = k by rw [List.length_take]; omega, ho] at this
   exact this
  rw [edgeOf, hl]; rfl
 ·rw [if_neg he]
  have hne : ((insN (rawN T) t k)[s]?).getD [] ++ [(j : Int)] ≠ t.w.take (k + 1) := fun e => he (hwe.1 e)
  have hmem := word_in hs
  generalize ((insN (rawN T) t k)[s]?).getD [] = x at hne hmem
  have hlast : lastL (T ++ [t]) (x ++ [(j : Int)]) = lastL (T ++ [cutK t k]) (x ++ [(j : Int)]) := by
   rw [lastL_append, lastL_append]
   cases lastL T (x ++ [(j : Int)]) with
   | some n => rfl
   | none =>
     simp only
     rw [lastL_one, lastL_one]
     by_cases h1 : hasW t (x ++ [(j : Int)]) ∧ (x ++ [(j : Int)]).length ≤ k
     ·rw [if_pos h1.1, if_pos (hasW_cutK.2 h1)]
      simp only [cutK]
      rw [List.getElem?_take, if_pos (by simp at h1 ⊢; omega)]
     ·rw [if_neg (fun hh => h1 (hasW_cutK.1 hh)), if_neg]
      intro h2
      have hlen : ¬ (x ++ [(j : Int)]).length ≤ k := fun hh => h1 ⟨h2, hh⟩
      have h2t := h2.2
      have hx : t.w.take x.length = x := by
       have := congrArg (fun l => l.take x.length) h2t
       simp only [List.take_left', List.take_take] at this
       rw [Nat.min_eq_left (by simp)] at this
       exact this
      have hxl : k + 1 ≤ x.length := by
       refine Nat.lt_of_not_le fun hh => ?_
       have : x.length = k := by simp at hlen; omega
       refine hne ?_
       rw [← h2t, List.length_append, List.length_singleton, this]
      rw [mem_insN] at hmem
      rcases hmem with hm | ⟨m, hm, hxm⟩
      ·rw [(rawN_props T).2, mem_nodesL] at hm
       rcases hm with hm | ⟨u, hu, m, hm, hxm⟩
       ·rw [hm] at hxl; simp at hxl
       ·have huv := h.val u (List.mem_append_left _ hu)
        have hul : u.r.length = u.w.length := huv.len
        have hpl := preN_le u.r
        have hxml : x.length = m + 1 := by rw [hxm, List.length_take]; omega
        have hutk : u.w.take (k + 1) = t.w.take (k + 1) := by
         have e1 := congrArg (fun l => l.take (k + 1)) (hxm.symm.trans hx.symm)
         simp only [List.take_take] at e1
         rw [Nat.min_eq_left (by omega), Nat.min_eq_left (by omega)] at e1
         exact e1
        have hcc := h.cons u (List.mem_append_left _ hu) t (by simp) (t.w.take (k + 1)) (by rw [hw1]; exact snoc_ne _ _) (by
         rw [← hutk]; exact hasW_take u (k + 1)) (hasW_take t (k + 1))
        rw [show (t.w.take (k + 1)).length - 1 = k by rw [List.length_take]; omega, ho] at hcc
        rcases huv.get (k := k) (by omega) with h5 | h5 <;> omega
      ·have := congrArg List.length hxm
       rw [List.length_take] at this
       omega
  rw [edgeOf, edgeOf, hlast]
theorem RawS.old {ins : Nat} {outs : Int} {T : List TR} {t : TR} (h : RawS ins outs T t) {k i : Nat} (hk : k < preN t.r) (hkw : t.w[k]? = some (i : Int)) (hin : t.w.take (k + 1) ∈ insN (rawN T) t k) :
  insN (rawN T) t (k + 1) = insN (rawN T) t k ∧ ∀ s j, rawW (T ++ [cutK t (k + 1)]) (insN (rawN T) t k) s j = rawW (T ++ [cutK t k]) (insN (rawN T) t k) s j := by
 have hkl := (List.getElem?_eq_some_iff.1 hkw).1
 refine ⟨by rw [insN_succ, if_pos hin], fun s j => ?_⟩
 unfold rawW
 by_cases he : ((insN (rawN T) t k)[s]?).getD [] ++ [(j : Int)] = t.w.take (k + 1)
 ·rw [he]
  have hT : ∃ n, lastL T (t.w.take (k + 1)) = some n := by
   rcases h.edge (k := k) (by omega) (w := t.w.take (k + 1)) (by rw [take_snoc hkw]; exact snoc_ne _ _) with ⟨h1, _⟩ | ⟨_, n, h1, _⟩
   ·exact absurd hin h1
   ·rw [lastL_append] at h1
    cases hl : lastL T (t.w.take (k + 1)) with
    | some n => exact ⟨n, rfl⟩
    | none =>
      rw [hl] at h1
      simp only at h1
      rw [lastL_one, if_neg] at h1
      ·cases h1
      ·intro hh
       have := (hasW_cutK.1 hh).2
       rw [List.length_take] at this; omega
  obtain ⟨n, hT⟩ := hT
  rw [edgeOf, edgeOf, lastL_append, lastL_append, hT]
 ·rcases lastL_cut (T := T) hkl he with h1 | h1
  ·rw [edgeOf, edgeOf, h1]
  ·exact absurd h1 (snoc_ne _ _)
theorem RawS.new {ins : Nat} {outs : Int} {T : List TR} {t : TR} (h : RawS ins outs T t) {k i : Nat} (hk : k < preN t.r) (hkw : t.w[k]? = some (i : Int)) (hin : t.w.take (k + 1) ∉ insN (rawN T) t k) :
  insN (rawN T) t (k + 1) = insN (rawN T) t k ++ [t.w.take (k + 1)] ∧ ∀ s j, s < (insN (rawN T) t k).length + 1 → rawW (T ++ [cutK t (k + 1)]) (insN (rawN T) t (k + 1)) s j =
   if s = (insN (rawN T) t k).idxOf (t.w.take k) ∧ j = i then ((((insN (rawN T) t k).length : Nat) : Int), (t.r[k]?).getD 0) else if s < (insN (rawN T) t k).length then rawW (T ++ [cutK t k]) (insN (rawN T) t k) s j else (-1, -1) := by
 have hkl := (List.getElem?_eq_some_iff.1 hkw).1
 have hw1 := take_snoc hkw
 have hN : insN (rawN T) t (k + 1) = insN (rawN T) t k ++ [t.w.take (k + 1)] := by rw [insN_succ, if_neg hin]
 have hat := h.at (k := k) (by omega)
 have hatl := List.idxOf_lt_length_of_mem hat
 have hnd := insN_nodup (rawN_props T).1 t k
 have hlw : lastL (T ++ [cutK t (k + 1)]) (t.w.take (k + 1)) = some ((t.r[k]?).getD 0) := by
  have := (h.cut (k + 1)).2.last (t := cutK t (k + 1)) (w := t.w.take (k + 1)) (by simp) (by rw [hw1]; exact snoc_ne _ _) (hasW_cutK.2 ⟨hasW_take t (k + 1), by rw [List.length_take]; omega⟩)
  rw [show (t.w.take (k + 1)).length - 1 = k by rw [List.length_take]; omega] at this
  simp only [cutK] at this
  rw [List.getElem?_take, if_pos (by omega)] at this
  exact this
 refine ⟨hN, fun s j hs => ?_⟩
 have hed := fun (w : List Int) (hw : w ≠ []) => h.edge (k := k + 1) (by omega) hw
 have hed0 := fun (w : List Int) (hw : w ≠ []) => h.edge (k := k) (by omega) hw
 rw [hN] at hed ⊢
 by_cases hsl : s < (insN (rawN T) t k).length
 ·have hwe := word_eq hnd hat (i := i) (j := j) hsl
  rw [← hw1] at hwe
  unfold rawW
  rw [List.getElem?_append_left hsl]
  by_cases he : s = (insN (rawN T) t k).idxOf (t.w.take k) ∧ j = i
  ·rw [if_pos he, hwe.2 he]
   rcases hed (t.w.take (k + 1)) (by rw [hw1]; exact snoc_ne _ _) with ⟨h1, _⟩ | ⟨_, n, h1, _, _, h2⟩
   ·exact absurd (List.mem_append_right _ (by simp)) h1
   ·rw [h2]
    rw [hlw] at h1
    rw [← Option.some.inj h1, List.idxOf_append, if_neg hin]
    simp
  ·rw [if_neg he, if_pos hsl]
   have hne : ((insN (rawN T) t k)[s]?).getD [] ++ [(j : Int)] ≠ t.w.take (k + 1) := fun e => he (hwe.1 e)
   have hv0 : ((insN (rawN T) t k)[s]?).getD [] ++ [(j : Int)] ≠ [] := snoc_ne _ _
   generalize ((insN (rawN T) t k)[s]?).getD [] ++ [(j : Int)] = v at hne hwe hv0
   ·have hl : lastL (T ++ [cutK t (k + 1)]) v = lastL (T ++ [cutK t k]) v := (lastL_cut (T := T) hkl hne).resolve_right hv0
    rcases hed v hv0 with ⟨a1, a2⟩ | ⟨a1, n, a2, a3, a4, a5⟩
    ·rcases hed0 v hv0 with ⟨b1, b2⟩ | ⟨b1, _⟩
     ·rcases a2 with ⟨a2, a3⟩ | ⟨a2, a3⟩
      ·rcases b2 with ⟨b2, b3⟩ | ⟨b2, b3⟩
       ·rw [a3, b3]
       ·rw [hl, b2] at a2; cases a2
      ·rcases b2 with ⟨b2, b3⟩ | ⟨b2, b3⟩
       ·rw [hl, b2] at a2; cases a2
       ·rw [a3, b3]
     ·exact absurd (List.mem_append_left _ b1) a1
    ·have hvN : v ∈ insN (rawN T) t k := by
       rcases List.mem_append.1 a1 with a1 | a1
       ·exact a1
       ·exact absurd (List.mem_singleton.1 a1) hne
     rcases hed0 v hv0 with ⟨b1, _⟩ | ⟨_, n', b2, _, _, b5⟩
     ·exact absurd hvN b1
     ·rw [hl, b2] at a2
      rw [a5, b5, Option.some.inj a2, List.idxOf_append, if_pos hvN]
 ·obtain rfl : s = (insN (rawN T) t k).length := by omega
  rw [if_neg (by omega), if_neg hsl]
  unfold rawW
  rw [List.getElem?_append_right (Nat.le_refl _), Nat.sub_self]
  simp only [List.getElem?_cons_zero, Option.getD_some]
  have hno : ∀ m, lastL (T ++ [cutK t (k + 1)]) (t.w.take (k + 1) ++ [(j : Int)]) ≠ some m := fun m hm => by
   obtain ⟨u, hu, hw, _⟩ := lastL_mem hm
   have hlen : (t.w.take (k + 1)).length = k + 1 := by rw [List.length_take]; omega
   rcases List.mem_append.1 hu with hu | hu
   ·have huw : u.w.take (k + 1) = t.w.take (k + 1) := by
      have := congrArg (fun l => l.take (k + 1)) hw.2
      simp only [List.take_take] at this
      rw [Nat.min_eq_left (by simp; omega), List.take_append_of_le_length (by omega), List.take_take, Nat.min_self] at this
      exact this
    have hul := hw.1
    rw [List.length_append, List.length_singleton, hlen] at hul
    have huv := h.val u (List.mem_append_left _ hu)
    have hcc := h.cons u (List.mem_append_left _ hu) t (by simp) (t.w.take (k + 1)) (by rw [hw1]; exact snoc_ne _ _) (by rw [← huw]; exact hasW_take u (k + 1)) (hasW_take t (k + 1))
    rw [show (t.w.take (k + 1)).length - 1 = k by omega] at hcc
    have hpl := preN_le t.r
    have hur : k < u.r.length := by rw [huv.len]; omega
    rcases huv.get hur with h5 | h5
    ·refine hin ?_
     rw [mem_insN, (rawN_props T).2, mem_nodesL]
     exact .inl (.inr ⟨u, hu, k, h5.1, huw.symm⟩)
    ·rcases h.vt.get (k := k) (by omega) with h6 | h6 <;> omega
   ·rw [List.mem_singleton.1 hu] at hw
    have := (hasW_cutK.1 hw).2
    rw [List.length_append, List.length_singleton, hlen] at this
    omega
  rcases hed (t.w.take (k + 1) ++ [(j : Int)]) (snoc_ne _ _) with ⟨h1, h2 | h2⟩ | ⟨h1, n, h2, _⟩
  ·exact h2.2
  ·exact absurd h2.1 (hno _)
  ·exact absurd h2 (hno _)
end Go.Avl
namespace Go.Avl
open Go Go.Proofs.Try
set_option maxRecDepth 10000
set_option linter.unusedSimpArgs false
def partR (I i : Nat) : List (List AV) := List.replicate i (edgeC (-1, -1)) ++ List.replicate (I - i) [.sc (.int .i64 0), .sc (.int .i64 0)]
theorem row81_new {I : Nat} (hI : 1 ≤ I ∧ I ≤ 16) : PureNew prog 81 [.sc (.int .i64 I)] 2 (List.replicate I (edgeC (-1, -1))) := by
 have hIin : (I : Int).toNat = I := Int.toNat_natCast I
 have hlen : ∀ i, i ≤ I → (partR I i).length = I := fun i h => by simp [partR]; omega
 have hnr : ∀ i, (partR I i).all AV.norefs = true := fun i => by simp [partR, List.all_eq_true, edgeC, AV.norefs, AV.noref]
 refine PureNew.of (nv := 1) (hid := [2, 3, 4, 8, 9, 10]) func81 rfl (by kernel_rfl) (by simp [ntmps81]) fun _ => ?_
 rw [ntmps81, results81]
 refine EvC.seq (EvC.rg (by simp only [go_sem] <;> rfl) (by simp) ?_)
 refine EvC.seq (EvC.rg (by simp only [go_sem, hIin] <;> rfl) (by simp [room_eq]; omega) ?_)
 refine EvC.seq ?_
 refine EvC.seq (EvC.rg (by simp only [go_sem, List.length_replicate] <;> rfl) (by simp) ?_)
 refine EvC.block ?_
 refine EvC.loopS (σ := Nat) (fun i => ⟨[(3, .tl 0 I false), (8, .sc (.int .i64 I)), (9, .sc (.int .i64 i))], [], [(0, .arr 2 (partR I i) false)], 1⟩) (fun i => I - i) (fun i => i ≤ I) [3, 8, 9] 1 ?_ ?_
 ·have h0 : List.replicate I [AV.sc (.int .i64 0), .sc (.int .i64 0)] = partR I 0 := by simp [partR]
  have hn := hnr 0
  rw [← h0] at hn
  refine ⟨[(2, 0)], 0, rfl, ?_, Nat.zero_le _⟩
  rw [← h0]
  simp only [go_sem, hn, Int.natCast_zero] <;> rfl
 intro i hi
 have hiin : (i : Int).toNat = i := Int.toNat_natCast i
 refine EvC.seq (EvC.rg (by simp only [go_sem] <;> rfl) (by simp) ?_)
 refine EvC.seq ?_
 refine EvC.cond (by simp only [go_sem] <;> rfl) (fun hc => ?_) (fun hc => ?_)
 rotate_left
 ·
  obtain rfl : i = I := by have : ¬ i < I := by simpa using hc
                           omega
  refine EvC.exit ?_
  have hall : partR i i = List.replicate i (edgeC (-1, -1)) := by simp [partR]
  rw [hall]
  refine EvC.seq (EvC.rg (by simp only [go_sem] <;> rfl) (by simp) ?_)
  refine EvC.ret ⟨.inl rfl, _, 0, (by simp only [go_sem, List.length_replicate] <;> rfl), .inl ?_, ?_, by simp; omega, by simp [List.all_eq_true, edgeC, AV.norefs, AV.noref]⟩
  ·simp only [List.length_replicate]
  ·rfl
 have hiI : i < I := by simpa using hc
 clear hc
 refine EvC.skip ?_
 refine EvC.seq ?_
 refine EvC.block ?_
 refine EvC.seq (EvC.rg (by simp only [go_sem] <;> rfl) (by simp) ?_)
 have hli := hlen i (by omega)
 have hgi : (partR I i)[i]? = some [.sc (.int .i64 0), .sc (.int .i64 0)] := by
  rw [partR, List.getElem?_append_right (by simp), List.length_replicate, Nat.sub_self, List.getElem?_replicate, if_pos (by omega)]
 have hset : (partR I i).set i [.sc (.int .i64 (-1)), .sc (.int .i64 (-1))] = partR I (i + 1) := by
  unfold partR
  rw [List.set_append_right _ _ (by simp), List.length_replicate, Nat.sub_self, show I - i = (I - (i + 1)) + 1 by omega, List.replicate_succ, List.set_cons_zero, List.replicate_succ', List.append_assoc]
  rfl
 refine EvC.rg (by simp only [go_sem, hli, hgi, hiin, hset] <;> rfl) (by simp; try omega) ?_
 refine EvC.rg (by simp only [go_sem] <;> rfl) (by exact inI64_of (by omega) (by omega)) ?_
 exact ⟨[(0, 0)], i + 1, rfl, (by simp only [go_sem, hnr, Int.natCast_add, Int.natCast_one] <;> rfl), by omega, by omega⟩
end Go.Avl
namespace Go.Avl
open Go Go.Proofs.Try
set_option maxRecDepth 10000
set_option linter.unusedSimpArgs false
def enterM (I n : Nat) (W : Nat → Nat → Int × Int) : Mem :=
 (1000100, .cells [.sc (.int .i64 0), .sc (.int .i64 0), .sl true [] .zer]) :: (1000200, .cells [.tl 1000201 n false]) :: (1000201, .arr 1 (ocell I n) false) :: otab 2 edgeC W n I
def enterA : List (Nat × Nat) := [(1000100, 1000100), (1000200, 1000200), (1000201, 1000201)]
def enterK (n : Nat) : List (Nat × Nat) := osegK enterA n []
theorem lastL_cut0 (T : List TR) (t : TR) {w : List Int} (hw : w ≠ []) : lastL (T ++ [cutK t 0]) w = lastL T w := by
 rw [lastL_append]
 cases lastL T w with
 | some n => rfl
 | none =>
   simp only
   rw [lastL_one, if_neg]
   intro h
   have := (hasW_cutK.1 h).2
   exact hw (List.length_eq_zero_iff.1 (by omega))
theorem rawW_cut0 (T : List TR) (t : TR) (N : List (List Int)) (s i : Nat) : rawW (T ++ [cutK t 0]) N s i = rawW T N s i := by
 unfold rawW
 rw [edgeOf, edgeOf, lastL_cut0 T t (snoc_ne _ _)]
theorem osegK_okN {base nx n k : Nat} {A : List (Nat × Nat)} (hA : gcOk base nx A = true) (h1 : (A.all fun p => notO p.1) = true) (h2 : (A.all fun p => notO p.2) = true) (hk : notO k = true) (hkA : rlook A k = none) (hkb : base ≤ k) (hb2 : base ≤ 2000000 + n) (hn : n < 1000000) (hx : 3000000 ≤ nx) : gcOk base nx (osegK A n [(k, 2000000 + n)]) = true := by
 have h0 := osegK_ok hA h1 h2 (Nat.le_of_lt hn) hx
 have hb := gcOk_base hA
 have e : osegK A n [(k, 2000000 + n)] = osegK A n [] ++ [(k, 2000000 + n)] := by simp [osegK]
 rw [e]
 refine gcOk_append h0 ?_ fun p hp => ?_
 ·simp [gcOk, blook, rlook, hb, hkb]; omega
 ·have hb : p.2 ≠ 2000000 + n ∧ p.1 ≠ k := by
    rw [osegK, List.append_nil] at hp
    rcases List.mem_append.1 hp with hp | hp
    ·rw [List.all_eq_true] at h2
     refine ⟨notO_ne (h2 p hp) hn, fun hk2 => ?_⟩
     have := rlook_ne (show (p.1, p.2) ∈ A from hp)
     rw [hk2] at this; exact this hkA
    ·obtain ⟨i, hi, rfl⟩ := mem_oK hp
     exact ⟨by simp only; omega, fun e => notO_ne hk (show i < 1000000 by omega) e.symm⟩
  simp only [blook, rlook]
  rw [if_neg hb.1, if_neg hb.2]; exact ⟨rfl, rfl⟩
set_option maxHeartbeats 8000000 in
theorem enter82_body {ins : Nat} {outs : Int} {T : List TR} {t : TR} (h : RawS ins outs T t) (hI : 1 ≤ ins ∧ ins ≤ 16) (hN : (rawN (T ++ [t])).length ≤ 70000) (hw : t.w.length ≤ 256) (xs : List AV) (o2 : Int) (W : Nat → Nat → Int × Int) (hW : ∀ s j, s < (rawN T).length → j < ins → W s j = rawW T (rawN T) s j) {R : AV → Mem → Nat → Prop}
  (hR : ∀ W' nx', 3000000 ≤ nx' → (∀ s j, s < (rawN (T ++ [t])).length → j < ins → W' s j = rawW (T ++ [t]) (rawN (T ++ [t])) s j) → R (mkRes []) (enterM ins (rawN (T ++ [t])).length W') nx') :
  BodyIs prog 82 [.ag (traceC t), .rf 1000200 0, .ia (.sc (.int .i64 ins) :: xs)] (enterM ins (rawN T).length W) (2000000 + (rawN T).length) R := by
 have vt := h.vt
 have hpl := preN_le t.r
 have hrl := vt.len
 have hlenk : ∀ k, k ≤ preN t.r → (insN (rawN T) t k).length ≤ 70000 := fun k hk => by
  have hmono : ∀ d k, (insN (rawN T) t k).length ≤ (insN (rawN T) t (k + d)).length := by
   intro d
   induction d with
   | zero => intro k; exact Nat.le_refl _
   | succ d ih =>
     intro k
     have := ih k
     rw [show k + (d + 1) = (k + d) + 1 by omega, insN_succ]
     split
     ·exact this
     ·rw [List.length_append]; omega
  have := hmono (preN t.r - k) k
  rw [show k + (preN t.r - k) = preN t.r by omega, ← rawN_snoc] at this
  omega
 have hge0 : ∀ k, (rawN T).length ≤ (insN (rawN T) t k).length := by
  intro k
  induction k with
  | zero => exact Nat.le_refl _
  | succ k ih =>
    rw [insN_succ]
    split
    ·exact ih
    ·rw [List.length_append]; omega
 rw [rawN_snoc] at hR
 have hrow := row81_new hI
 refine BodyIs.of (nv := 3) (hid := [3, 4, 5, 6, 7, 9, 10, 11, 12, 22, 38, 53]) func82 rfl (by kernel_rfl) (by simp [ntmps82]) fun h0 => ?_
 rw [ntmps82, results82]
 have hn0 := hlenk 0 (Nat.zero_le _)
 obtain ⟨b0, hb0⟩ : ∃ b0, b0 = 2000000 + (rawN T).length := ⟨_, rfl⟩
 have hn00 : (rawN T).length ≤ 70000 := hn0
 have hgA : gcOk b0 3000000 enterA = true := by
  simp [gcOk, enterA, blook, rlook]; omega
 have hgk : ∀ n, n ≤ 1000000 → gcOk b0 3000000 (enterK n) = true := fun n hn => osegK_ok (A := enterA) hgA rfl rfl hn (by omega)
 have hlo : ∀ n, n ≤ 1000000 → ∀ k, k < n → rlook (enterK n) (2000000 + k) = some (2000000 + k) := fun n hn k hk => rlook_osegK_lo hk hn (A := enterA) rfl
 have hhi : ∀ n, n ≤ 1000000 → ∀ k, notO k = true → rlook (enterK n) k = rlook enterA k := fun n hn k hk => by rw [enterK, rlook_osegK_hi hn _ _ _ hk, List.append_nil]
 obtain ⟨Nf, hNf⟩ : ∃ Nf : Nat → List (List Int), ∀ k, insN (rawN T) t k = Nf k := ⟨_, fun _ => rfl⟩
 obtain ⟨Wf, hWf⟩ : ∃ Wf : Nat → Nat → Nat → Int × Int, ∀ k, rawW (T ++ [cutK t k]) (Nf k) = Wf k := ⟨_, fun _ => rfl⟩
 have hN0 : Nf 0 = rawN T := (hNf 0).symm
 have hge : ∀ k, (Nf 0).length ≤ (Nf k).length := fun k => by rw [hN0, ← hNf]; exact hge0 k
 have hat : ∀ k, k ≤ preN t.r → (Nf k).idxOf (t.w.take k) < (Nf k).length := fun k hk => List.idxOf_lt_length_of_mem (by rw [← hNf]; exact h.at hk)
 have hW0 : otab 2 edgeC W (rawN T).length ins = otab 2 edgeC (Wf 0) (Nf 0).length ins := by
  rw [hN0]
  refine otab_congr 2 edgeC fun s j hs hj => ?_
  rw [hW s j hs hj, ← hWf, rawW_cut0, hN0]
 unfold enterM
 rw [hW0, ← hN0]
 have hl0 := hlenk 0 (Nat.zero_le _)
 rw [hNf] at hl0
 have hmd : ∀ k (W : Nat → Nat → Int × Int) n, n ≤ 1000000 → notO k = true → mdel (otab 2 edgeC W n ins) k = otab 2 edgeC W n ins := fun k W n hn hk => mdel_otab _ _ _ hn k hk
 have hn07 : (Nf 0).length ≤ 70000 := hl0
 rw [← hN0] at hb0
 rw [← hb0]
 have hb6 : ∀ k, notO k = true → (b0 = k) = False := fun k hk => by rw [hb0]; exact o_ne (show (Nf 0).length < 1000000 by omega) k hk
 refine EvC.seq (EvC.rg (by simp only [go_sem, traceC, hb6] <;> rfl) (by simp) ?_)
 have hb7 : ∀ k, notO k = true → (k = b0) = False := fun k hk => eq_false fun e => by have := hb6 k hk; rw [e] at this; simp at this
 have hmd0 : mdel (otab 2 edgeC (Wf 0) (Nf 0).length ins) b0 = otab 2 edgeC (Wf 0) (Nf 0).length ins := mdel_msegA _ _ _ (.inr (by simp; omega))
 refine EvC.frzB b0 (by simp only [go_sem, hb6, hb7, hmd0] <;> rfl) ?_
 refine EvC.seq (EvC.rg (by simp only [go_sem] <;> rfl) (by simp) ?_)
 refine EvC.seq (EvC.rg (by simp only [go_sem] <;> rfl) (by simp) ?_)
 refine EvC.block ?_
 refine EvC.loopS (σ := Nat) (fun k => ⟨[(1, .rf 1000200 0), (2, .ia (.sc (.int .i64 ins) :: xs)), (3, .ia (traceC t)), (4, .sc (.int .i64 ((Nf k).idxOf (t.w.take k)))), (9, .sl t.w.isEmpty (t.w.map intC) .unk), (10, .sc (.int .i64 t.w.length)), (11, .sc (.int .i64 k))], [], enterM ins (Nf k).length (Wf k), 3000000⟩) (fun k => t.w.length - k)
  (fun k => k ≤ t.w.length ∧ k ≤ preN t.r) [1, 2, 3, 4, 9, 10, 11] 3000000 ?_ ?_
 ·have hi0 : (Nf 0).idxOf (t.w.take 0) = 0 := by
    rw [hN0, List.take_zero]
    have : ∀ (L : List TR) (N : List (List Int)), N[0]? = some [] → (L.foldl (fun N t => insN N t (preN t.r)) N)[0]? = some [] := by
     intro L
     induction L with
     | nil => intro N h; exact h
     | cons u L ih =>
       intro N h
       rw [List.foldl_cons]
       refine ih _ ?_
       have : ∀ k, (insN N u k)[0]? = some [] := by
        intro k
        induction k with
        | zero => exact h
        | succ k ihk =>
          rw [insN_succ]
          split
          ·exact ihk
          ·rw [List.getElem?_append_left (List.getElem?_eq_some_iff.1 ihk).1]; exact ihk
       exact this _
    have h1 := this T [[]] rfl
    obtain ⟨hl, he⟩ := List.getElem?_eq_some_iff.1 h1
    have := (rawN_props T).1.idxOf_getElem 0 hl
    rw [show (rawN T)[0]'hl = [] from he] at this
    exact this
  refine ⟨enterK (Nf 0).length, 0, hgk _ (by omega), ?_, Nat.zero_le _, Nat.zero_le _⟩
  unfold enterM
  have hlo := hlo (Nf 0).length (by omega)
  have hhi := hhi (Nf 0).length (by omega)
  rw [hi0]
  unfold enterK enterA at hlo hhi ⊢
  simp only [go_sem, hhi, traceC, List.length_map, List.cons_append, List.nil_append, List.append_nil, renMem_oK_cons (show (Nf 0).length ≤ 1000000 by omega), otab_ren 2 norefs_edgeC, ocell_ren hlo, ite_self, Int.natCast_zero] <;> rfl
 rintro k ⟨h1, h2⟩
 have hkin : (k : Int).toNat = k := Int.toNat_natCast k
 have hlk := hlenk k h2
 rw [hNf] at hlk
 have hgek := hge k
 unfold enterM
 refine EvC.seq (EvC.rg (by simp only [go_sem] <;> rfl) (by simp) ?_)
 refine EvC.seq ?_
 refine EvC.cond (by simp only [go_sem] <;> rfl) (fun hc => ?_) (fun hc => ?_)
 rotate_left
 ·
  have hc : ¬ k < t.w.length := by simpa using hc
  have hk : k = preN t.r := by omega
  refine EvC.exit ?_
  refine ⟨.inr rfl, _, rfl, ?_⟩
  rw [← hk, hNf] at hR
  refine hR (Wf k) _ (show 3000000 ≤ 3000001 by omega) fun s j _ _ => ?_
  rw [← hWf, cutK_full (by omega) hrl]
 have hkl : k < t.w.length := by simpa using hc
 clear hc
 have hwa := vt.sym _ (List.getElem_mem hkl)
 have hwk : t.w[k]? = some (t.w[k]'hkl) := List.getElem?_eq_getElem hkl
 obtain ⟨i, hi⟩ : ∃ i : Nat, t.w[k]'hkl = (i : Int) := ⟨(t.w[k]'hkl).toNat, by omega⟩
 rw [hi] at hwa hwk
 have hiI : i < ins := by omega
 have hiin : (i : Int).toNat = i := Int.toNat_natCast i
 have hrk : t.r[k]? = some ((t.r[k]?).getD 0) := by rw [List.getElem?_eq_getElem (by omega)]; rfl
 have hcase := vt.get (k := k) (by omega)
 have href := fun hh ho s j hs => h.refuse (k := k) (i := i) hh hwk ho (s := s) (j := j) hs
 have hold := fun hh hm => h.old (k := k) (i := i) hh hwk hm
 have hnew := fun hh hm => h.new (k := k) (i := i) hh hwk hm
 generalize (t.r[k]?).getD 0 = o at hrk hcase href hnew
 have hatk := hat k h2
 obtain ⟨A, hA⟩ : ∃ A, A = (Nf k).idxOf (t.w.take k) := ⟨_, rfl⟩
 rw [← hA] at hatk ⊢
 have hAin : (A : Int).toNat = A := Int.toNat_natCast A
 obtain ⟨n, hn⟩ : ∃ n, n = (Nf k).length := ⟨_, rfl⟩
 rw [← hn] at hatk hlk ⊢
 refine EvC.skip ?_
 refine EvC.seq ?_
 refine EvC.block ?_
 refine EvC.seq (EvC.rg (by simp only [go_sem, hwk, hkin, intC, List.length_map] <;> rfl) (by simp; try omega) ?_)
 refine EvC.seq (EvC.rg (by simp only [go_sem, hrk, hkin, intC, traceC, List.length_map] <;> rfl) (by simp; try omega) ?_)
 refine EvC.seq ?_
 refine EvC.seq (EvC.rg (by simp only [go_sem] <;> rfl) (by simp) ?_)
 have htl := ocell_len ins n
 have hta := ocell_get (m := ins) hatk
 have hla := otab_look 2 edgeC (Wf k) (m := ins) hatk
 have hgl := gcells_len edgeC
 have hga := gcells_get edgeC (Wf k A) hiI
 have hA6 : A < 1000000 := by omega
 by_cases ho : o = -1
 ·have hkp : k = preN t.r := by omega
  refine EvC.cond_true (by simp only [go_sem, decide_eq_true ho] <;> rfl) ?_
  have hset := otab_set 2 edgeC (Wf k) (-1, -2) hatk hiI
  rw [show edgeC (-1, -2) = [.sc (.int .i64 (-1)), .sc (.int .i64 (-2))] from rfl] at hset
  refine EvC.seq (EvC.rg (by simp only [go_sem, htl, hta, hAin, o_ne hA6, hla, hgl, hiin, hga, hset, edgeC] <;> rfl) (by simp; try omega) ?_)
  refine EvC.gcE (st2 := ⟨[], [], enterM ins n (upd2 (Wf k) A i (-1, -2)), 3000000⟩) [] (enterK n) 3000000 (hgk _ (show n ≤ 1000000 by omega)) ?_ ?_
  ·unfold enterM
   have hlo := hlo n (by omega)
   have hhi := hhi n (by omega)
   unfold enterK enterA at hlo hhi ⊢
   simp only [go_sem, hhi, List.cons_append, List.nil_append, List.append_nil, renMem_oK_cons (show n ≤ 1000000 by omega), otab_ren 2 norefs_edgeC, ocell_ren hlo, ite_self] <;> rfl
  refine EvC.ret ⟨.inl rfl, _, rfl, ?_⟩
  rw [← hkp, hNf, ← hn] at hR
  refine hR _ _ (Nat.le_refl _) fun s j hs hj => ?_
  have := href hkp ho s j (by rw [hNf, ← hn]; exact hs)
  rw [hNf, hWf, ← hA] at this
  rw [this]; rfl
 have hkp : k < preN t.r := by omega
 refine EvC.cond_false (by simp only [go_sem, decide_eq_false ho] <;> rfl) ?_
 refine EvC.skip ?_
 have hmk := h.at (k := k) h2
 have hWA : Wf k A i = edgeOf (T ++ [cutK t k]) (insN (rawN T) t k) (t.w.take (k + 1)) := by
  rw [← hWf, rawW, hA, ← hNf, idx_get hmk, take_snoc hwk]; rfl
 have hedge := h.edge (k := k) h2 (w := t.w.take (k + 1)) (by rw [take_snoc hwk]; exact snoc_ne _ _)
 rw [← hWA, hNf] at hedge
 have hga2 : (gcells edgeC (Wf k A) ins)[i]? = some [.sc (.int .i64 (Wf k A i).1), .sc (.int .i64 (Wf k A i).2)] := hga
 by_cases hm : t.w.take (k + 1) ∈ Nf k
 ·
  have hc1 : ∃ o', Wf k A i = ((((Nf k).idxOf (t.w.take (k + 1)) : Nat) : Int), o') := by
   rcases hedge with ⟨h1, _⟩ | ⟨_, n', _, _, _, h2⟩
   ·exact absurd hm h1
   ·exact ⟨n', h2⟩
  obtain ⟨o', hc1⟩ := hc1
  obtain ⟨hN1, hW1⟩ := hold hkp (by rw [hNf]; exact hm)
  rw [hNf, hNf] at hN1
  have hW1 : Wf (k + 1) = Wf k := by
   funext s j
   rw [← hWf, ← hWf, hN1]
   have := hW1 s j
   rw [hNf] at this
   exact this
  rw [hc1] at hga2
  simp only at hga2
  refine EvC.seq ?_
  refine EvC.seq (EvC.rg (by simp only [go_sem, htl, hta, hAin, o_ne hA6, hla, hgl, hiin, hga2, edgeC] <;> rfl) (by simp; try omega) ?_)
  refine EvC.cond_false (by simp only [go_sem, decide_eq_false (show ¬ (((Nf k).idxOf (t.w.take (k + 1)) : Nat) : Int) = -1 by omega)] <;> rfl) ?_
  refine EvC.skip ?_
  refine EvC.rg (by simp only [go_sem, htl, hta, hAin, o_ne hA6, hla, hgl, hiin, hga2, edgeC] <;> rfl) (by simp; try omega) ?_
  refine EvC.rg (by simp only [go_sem] <;> rfl) (by exact inI64_of (by omega) (by omega)) ?_
  refine ⟨enterK n, k + 1, hgk _ (show n ≤ 1000000 by omega), ?_, ⟨by omega, by omega⟩, by omega⟩
  rw [hN1, hW1, ← hn]
  show _ = St.mk _ _ (enterM ins n (Wf k)) _
  unfold enterM
  have hlo := hlo n (by omega)
  have hhi := hhi n (by omega)
  unfold enterK enterA at hlo hhi ⊢
  simp only [go_sem, hhi, traceC, List.cons_append, List.nil_append, List.append_nil, renMem_oK_cons (show n ≤ 1000000 by omega), otab_ren 2 norefs_edgeC, ocell_ren hlo, ite_self, Int.natCast_add, Int.natCast_one] <;> rfl
 ·
  have hc1 : (Wf k A i).1 = -1 := by
   rcases hedge with ⟨_, h1⟩ | ⟨h1, _⟩
   ·rcases h1 with h1 | h1 <;> rw [h1.2]
   ·exact absurd h1 hm
  obtain ⟨hN1, hW1⟩ := hnew hkp (by rw [hNf]; exact hm)
  rw [hNf, hNf] at hN1
  have hn1 : (Nf (k + 1)).length = n + 1 := by rw [hN1, List.length_append, ← hn]; rfl
  have hW1 : ∀ s j, s < n + 1 → Wf (k + 1) s j = if s = A ∧ j = i then ((n : Int), o) else if s < n then Wf k s j else (-1, -1) := fun s j hs => by
   have := hW1 s j (by rw [hNf, ← hn]; exact hs)
   rw [hNf, hNf, hWf, hWf, ← hn, ← hA] at this
   exact this
  have hidx : (Nf (k + 1)).idxOf (t.w.take (k + 1)) = n := by
   rw [hN1, List.idxOf_append, if_neg hm, ← hn]; simp
  refine EvC.seq ?_
  refine EvC.seq (EvC.rg (by simp only [go_sem, htl, hta, hAin, o_ne hA6, hla, hgl, hiin, hga2, edgeC] <;> rfl) (by simp; try omega) ?_)
  refine EvC.cond_true (by simp only [go_sem, decide_eq_true hc1] <;> rfl) ?_
  have hset := otab_set 2 edgeC (Wf k) ((n : Int), o) hatk hiI
  rw [show edgeC ((n : Int), o) = [.sc (.int .i64 n), .sc (.int .i64 o)] from rfl] at hset
  apply EvC.seq
  apply EvC.drd mixed
  ·simp only [go_sem, htl, hta, hAin, o_ne hA6, hla, hgl, hiin, hga, hset, edgeC] <;> rfl
  ·simp; try omega
  ·exact confAll_slots (by simp [rdOk, slotsOf, opSlots, memless, Op.operands, Call.operands]) (by kernel_rfl)
  refine EvC.gcE (st2 := ⟨[(1, .rf 1000200 0), (2, .ia (.sc (.int .i64 ins) :: xs)), (3, .ia (traceC t)), (4, .sc (.int .i64 A)), (6, .sc (.int .i64 i)), (9, .sl t.w.isEmpty (t.w.map intC) .unk), (10, .sc (.int .i64 t.w.length)), (11, .sc (.int .i64 k))], [], enterM ins n (upd2 (Wf k) A i ((n : Int), o)), 3000000⟩) [1, 2, 3, 4, 6, 9, 10, 11] (enterK n) 3000000 (hgk _ (show n ≤ 1000000 by omega)) ?_ ?_
  ·unfold enterM
   have hlo := hlo n (by omega)
   have hhi := hhi n (by omega)
   unfold enterK enterA at hlo hhi ⊢
   simp only [go_sem, hhi, traceC, List.cons_append, List.nil_append, List.append_nil, renMem_oK_cons (show n ≤ 1000000 by omega), otab_ren 2 norefs_edgeC, ocell_ren hlo, ite_self] <;> rfl
  unfold enterM
  apply EvC.drwA mixed
  ·apply Tr.run
   ·simp only [go_sem] <;> rfl
   ·simp
   apply Tr.cons
   ·exact .callN rfl rfl (by simp only [go_sem] <;> rfl) (by simp only [go_sem] <;> rfl) (by simp only [go_sem] <;> rfl) (by simp only [go_sem] <;> rfl) (by simp only [go_sem] <;> rfl) hrow
   apply Tr.done
   ·simp only [go_sem, htl, List.length_replicate, mlook_mset] <;> rfl
   ·simp [htl, room_eq]; omega
  ·kernel_rfl
  have hnn : n ≤ 1000000 := by omega
  have hcong : otab 2 edgeC (upd2 (Wf k) A i ((n : Int), o)) n ins = otab 2 edgeC (Wf (k + 1)) n ins := otab_congr 2 edgeC fun s j hs hj => by
   rw [hW1 s j (by omega)]
   unfold upd2
   by_cases e : s = A ∧ j = i
   ·rw [if_pos e, if_pos e]
   ·rw [if_neg e, if_neg e, if_pos hs]
  have hgr : List.replicate ins (edgeC (-1, -1)) = gcells edgeC (Wf (k + 1) n) ins := by
   rw [gcells_const]
   refine gcells_congr edgeC fun j hj => ?_
   rw [hW1 n j (by omega), if_neg (by omega), if_neg (by omega)]
  rw [hcong, hgr]
  have hlo' : ∀ q, q < n → rlook (osegK [(1000100, 1000100), (1000200, 1000200), (1000201, 1000201)] n [(3000003, 2000000 + n)]) (2000000 + q) = some (2000000 + q) := fun q hq => rlook_osegK_lo hq hnn (A := [(1000100, 1000100), (1000200, 1000200), (1000201, 1000201)]) rfl
  have hhi' : rlook (osegK [(1000100, 1000100), (1000200, 1000200), (1000201, 1000201)] n [(3000003, 2000000 + n)]) 3000003 = some (2000000 + n) := rlook_osegK_hi hnn _ _ _ rfl
  have hor : (ocell ins n ++ [[AV.tl 3000003 ins false]]).map (fun c => c.map (AV.ren (osegK [(1000100, 1000100), (1000200, 1000200), (1000201, 1000201)] n [(3000003, 2000000 + n)]))) = ocell ins (n + 1) := by
   rw [List.map_append, ocell_ren hlo', ← ocell_succ]
   simp [AV.ren, AV.noref, AV.deep, renLeaf, hhi']
  refine EvC.gcE (st2 := ⟨[(1, .rf 1000200 0), (2, .ia (.sc (.int .i64 ins) :: xs)), (3, .ia (traceC t)), (4, .sc (.int .i64 A)), (6, .sc (.int .i64 i)), (9, .sl t.w.isEmpty (t.w.map intC) .unk), (10, .sc (.int .i64 t.w.length)), (11, .sc (.int .i64 k))], [], enterM ins (n + 1) (Wf (k + 1)), 3000000⟩) [1, 2, 3, 4, 6, 9, 10, 11] (osegK [(1000100, 1000100), (1000200, 1000200), (1000201, 1000201)] n [(3000003, 2000000 + n)]) 3000000 (osegK_okN (A := [(1000100, 1000100), (1000200, 1000200), (1000201, 1000201)]) hgA rfl rfl rfl rfl (show b0 ≤ 3000003 by omega) (show b0 ≤ 2000000 + n by omega) (by omega) (by omega)) ?_ ?_
  ·unfold enterM
   simp only [go_sem, rlook_osegK_hi hnn, traceC, List.cons_append, List.nil_append, renMem_oK_cons hnn, renMem_oK_mset hnn, mlook_mset, gcells_norefs norefs_edgeC, otab_ren 2 norefs_edgeC, otab_snoc, hor, Int.natCast_add, Int.natCast_one] <;> rfl
  unfold enterM
  have htl2 := ocell_len ins (n + 1)
  have hta2 := ocell_get (m := ins) (show A < n + 1 by omega)
  have hla2 := otab_look 2 edgeC (Wf (k + 1)) (m := ins) (show A < n + 1 by omega)
  have hgb : (gcells edgeC (Wf (k + 1) A) ins)[i]? = some [.sc (.int .i64 n), .sc (.int .i64 o)] := by
   rw [gcells_get edgeC _ hiI, hW1 A i (by omega), if_pos ⟨rfl, rfl⟩]; rfl
  refine EvC.rg (by simp only [go_sem, htl2, hta2, hAin, o_ne hA6, hla2, hgl, hiin, hgb, edgeC] <;> rfl) (by simp; try omega) ?_
  refine EvC.rg (by simp only [go_sem] <;> rfl) (by exact inI64_of (by omega) (by omega)) ?_
  refine ⟨enterK (n + 1), k + 1, hgk _ (show n + 1 ≤ 1000000 by omega), ?_, ⟨by omega, by omega⟩, by omega⟩
  rw [hidx, hn1]
  show _ = St.mk _ _ (enterM ins (n + 1) (Wf (k + 1))) _
  unfold enterM
  have hlo := hlo (n + 1) (by omega)
  have hhi := hhi (n + 1) (by omega)
  unfold enterK enterA at hlo hhi ⊢
  simp only [go_sem, hhi, traceC, List.cons_append, List.nil_append, List.append_nil, renMem_oK_cons (show n + 1 ≤ 1000000 by omega), otab_ren 2 norefs_edgeC, ocell_ren hlo, ite_self, Int.natCast_add, Int.natCast_one] <;> rfl
end Go.Avl
namespace Go.Avl
open Go Go.Proofs.Try
set_option maxRecDepth 10000
set_option linter.unusedSimpArgs false
theorem sub_lenW : ∀ (l r : List (List Int)), l.Nodup → (∀ x ∈ l, x ∈ r) → l.length ≤ r.length
 | [], _, _, _ => Nat.zero_le _
 | a :: l, r, h, hs => by
   rw [List.nodup_cons] at h
   have ha : a ∈ r := hs a List.mem_cons_self
   have h1 := sub_lenW l (r.erase a) h.2 fun x hx => (List.mem_erase_of_ne (fun he : x = a => h.1 (he ▸ hx))).2 (hs x (List.mem_cons_of_mem _ hx))
   have h2 := List.length_erase_of_mem ha
   have h3 := List.length_pos_of_mem ha
   rw [List.length_cons]
   omega
theorem rawN_len (L : List TR) : (rawN L).length = (nodesL L).length := by
 obtain ⟨h1, h2⟩ := rawN_props L
 have h3 := (nodesL_sort L).nodup
 have := sub_lenW _ _ h1 fun x hx => (h2 x).1 hx
 have := sub_lenW _ _ h3 fun x hx => (h2 x).2 hx
 omega
def qF (M : List (List Int)) (ins m i : Nat) : Nat := 1 + ((M.take m).flatMap (kids M ins)).length + ((List.range i).filterMap (kidsF M ((M[m]?).getD []))).length
theorem qF_next {M : List (List Int)} {ins m i : Nat} : qF M ins m (i + 1) = qF M ins m i + (if (M[m]?).getD [] ++ [(i : Int)] ∈ M then 1 else 0) := by
 unfold qF
 rw [List.range_succ, List.filterMap_append, List.length_append]
 have : ((([i] : List Nat).filterMap (kidsF M ((M[m]?).getD []))).length) = if (M[m]?).getD [] ++ [(i : Int)] ∈ M then 1 else 0 := by
  rw [List.filterMap_cons, List.filterMap_nil]
  unfold kidsF
  by_cases h : (M[m]?).getD [] ++ [(i : Int)] ∈ M
  ·rw [if_pos h, if_pos h]; rfl
  ·rw [if_neg h, if_neg h]; rfl
 rw [this]; omega
theorem qF_row {M : List (List Int)} {ins m : Nat} (hm : m < M.length) : qF M ins m ins = qF M ins (m + 1) 0 := by
 unfold qF
 have hx : M[m]? = some M[m] := List.getElem?_eq_getElem hm
 rw [List.take_succ, hx]
 simp only [Option.toList_some, Option.getD_some, List.flatMap_append, List.flatMap_singleton, List.length_append, List.range_zero, List.filterMap_nil, List.length_nil]
 show _ = _ + (_ + (List.filterMap _ _).length) + 0
 omega
theorem qF_get {ins : Nat} {outs : Int} {L : List TR} (hv : ∀ t ∈ L, TrVal ins outs t) {m i : Nat} (hm : m < (nodesL L).length) (hi : i < ins) (hin : ((nodesL L)[m]?).getD [] ++ [(i : Int)] ∈ nodesL L) : (nodesL L)[qF (nodesL L) ins m i]? = some (((nodesL L)[m]?).getD [] ++ [(i : Int)]) := by
 have hk := kids_all hv
 generalize hM : nodesL L = M at hm hin hk ⊢
 have hx : M[m]? = some M[m] := List.getElem?_eq_getElem hm
 rw [hx] at hin ⊢
 simp only [Option.getD_some] at hin ⊢
 have hsp : M = M.take m ++ (M[m] :: M.drop (m + 1)) := by rw [← List.drop_eq_getElem_cons hm, List.take_append_drop]
 have hkx : kids M ins M[m] = (List.range i).filterMap (kidsF M M[m]) ++ ((M[m] ++ [(i : Int)]) :: (List.range' (i + 1) (ins - (i + 1))).filterMap (kidsF M M[m])) := by
  have hr : List.range ins = List.range i ++ (i :: List.range' (i + 1) (ins - (i + 1))) := by
   rw [List.range_eq_range', List.range_eq_range', ← List.range'_succ, show ins = i + ((ins - (i + 1)) + 1) by omega, ← List.range'_append_1, Nat.zero_add]
   congr 2; omega
  unfold kids
  rw [hr, List.filterMap_append, List.filterMap_cons]
  have : kidsF M M[m] i = some (M[m] ++ [(i : Int)]) := by unfold kidsF; rw [if_pos hin]
  rw [this]
 have hfl : M.flatMap (kids M ins) = (M.take m).flatMap (kids M ins) ++ (((List.range i).filterMap (kidsF M M[m]) ++ ((M[m] ++ [(i : Int)]) :: (List.range' (i + 1) (ins - (i + 1))).filterMap (kidsF M M[m]))) ++ (M.drop (m + 1)).flatMap (kids M ins)) := by
  conv => lhs; arg 2; rw [hsp]
  rw [List.flatMap_append, List.flatMap_cons, hkx]
 have hq : qF M ins m i = 1 + (((M.take m).flatMap (kids M ins)).length + ((List.range i).filterMap (kidsF M M[m])).length) := by
  unfold qF; rw [hx]; simp only [Option.getD_some]; omega
 rw [hq]
 conv => lhs; arg 1; rw [hk, hfl]
 rw [show ∀ a : Nat, 1 + a = a + 1 from fun a => Nat.add_comm 1 a, List.getElem?_cons_succ, List.getElem?_append_right (by omega), Nat.add_sub_cancel_left, List.append_assoc, List.getElem?_append_right (Nat.le_refl _), Nat.sub_self]
 rfl
theorem qF_lt {ins : Nat} {outs : Int} {L : List TR} (hv : ∀ t ∈ L, TrVal ins outs t) {m : Nat} (hm : m < (nodesL L).length) : m < qF (nodesL L) ins m 0 := by
 have hk := kids_all hv
 have hs := nodesL_sort L
 by_cases h0 : m = 0
 ·subst h0; unfold qF; simp
 have hx : (nodesL L)[m]? = some (nodesL L)[m] := List.getElem?_eq_getElem hm
 have hxm := List.getElem_mem hm
 have hne : (nodesL L)[m] ≠ [] := fun e => by
  have h1 : (nodesL L)[0]? = some [] := by rw [hk]; rfl
  obtain ⟨hl, he⟩ := List.getElem?_eq_some_iff.1 h1
  have := List.pairwise_iff_getElem.1 hs 0 m hl hm (by omega)
  rw [he, e] at this
  exact cmpW_irr _ this
 obtain ⟨x, a, hxa⟩ : ∃ x a, (nodesL L)[m] = x ++ [a] := ⟨_, _, (List.dropLast_concat_getLast hne).symm⟩
 have hpre := nodesL_pre hv (x := x) (a := a) (by rw [← hxa]; exact hxm)
 obtain ⟨p, hp, hpx⟩ := List.mem_iff_getElem.1 hpre.1
 have hpm : p < m := by
  refine Nat.lt_of_not_le fun hle => ?_
  by_cases e : p = m
  ·subst e
   rw [hpx] at hxa
   have := congrArg List.length hxa; simp at this
  ·have := List.pairwise_iff_getElem.1 hs m p hm hp (by omega)
   rw [hpx, hxa] at this
   exact cmpW_irr _ (cmpW_trans this (cmpW_short (by simp)))
 have hmem : (nodesL L)[m] ∈ ((nodesL L).take m).flatMap (kids (nodesL L) ins) := by
  rw [List.mem_flatMap]
  refine ⟨x, ?_, ?_⟩
  ·rw [← hpx]
   rw [List.mem_iff_getElem]
   exact ⟨p, by rw [List.length_take]; omega, by rw [List.getElem_take]⟩
  ·unfold kids
   rw [List.mem_filterMap]
   refine ⟨a.toNat, List.mem_range.2 (by omega), ?_⟩
   unfold kidsF
   rw [show ((a.toNat : Nat) : Int) = a by omega, ← hxa, if_pos hxm]
 obtain ⟨j, hj, hje⟩ := List.mem_iff_getElem.1 hmem
 have hsp : (nodesL L).flatMap (kids (nodesL L) ins) = ((nodesL L).take m).flatMap (kids (nodesL L) ins) ++ ((nodesL L).drop m).flatMap (kids (nodesL L) ins) := by
  rw [← List.flatMap_append, List.take_append_drop]
 have hg : (nodesL L)[j + 1]? = some (nodesL L)[m] := by
  conv => lhs; arg 1; rw [hk, hsp]
  rw [List.getElem?_cons_succ, List.getElem?_append_left hj, List.getElem?_eq_getElem hj, hje]
 obtain ⟨hl, he⟩ := List.getElem?_eq_some_iff.1 hg
 have := (List.getElem_inj hs.nodup).1 he
 unfold qF
 simp only [List.range_zero, List.filterMap_nil, List.length_nil]
 omega
theorem qF_end {ins : Nat} {outs : Int} {L : List TR} (hv : ∀ t ∈ L, TrVal ins outs t) : qF (nodesL L) ins (nodesL L).length 0 = (nodesL L).length := by
 have hk := congrArg List.length (kids_all hv)
 unfold qF
 rw [List.take_length]
 simp only [List.range_zero, List.filterMap_nil, List.length_nil]
 rw [List.length_cons] at hk
 omega
end Go.Avl
namespace Go.Avl
open Go Go.Proofs.Try
set_option maxRecDepth 10000
set_option linter.unusedSimpArgs false
theorem clip90_clips : Clips prog 90 := fun a n c h hlt => by
 refine PureIs.of (nv := 1) (hid := [2]) func90 rfl (by kernel_rfl) (by simp [ntmps90]) fun _ => ?_
 rw [ntmps90, results90]
 refine EvC.seq (EvC.rg (by simp only [go_sem] <;> rfl) (by simp) ?_)
 refine EvC.seq (EvC.rg (by simp only [go_sem, Int.toNat_natCast] <;> rfl) (by simp; try omega) ?_)
 refine EvC.ret ⟨.inl rfl, _, (by simp only [go_sem] <;> rfl), ?_, rfl⟩
 simp only [go_sem]
def mixE (L : List TR) (m i j : Nat) : Int × Int := if j < i then edgeOf L (nodesL L) (((nodesL L)[m]?).getD [] ++ [(j : Int)]) else edgeOf L (rawN L) (((nodesL L)[m]?).getD [] ++ [(j : Int)])
def ordC (L : List TR) (q : Nat) : List (List AV) := ((nodesL L).take q).map fun x => [.sc (.int .i64 (((rawN L).idxOf x : Nat) : Int))]
def outC (ins : Nat) (L : List TR) (m : Nat) : List (List AV) := ((nodesL L).take m).map fun x => [.sl false ((treeRow L (nodesL L) x ins).map edgeC) .unk]
theorem mixE_zero {L : List TR} {m j : Nat} : mixE L m 0 j = edgeOf L (rawN L) (((nodesL L)[m]?).getD [] ++ [(j : Int)]) := by unfold mixE; rw [if_neg (by omega)]
theorem rawN_zero (L : List TR) : (rawN L)[0]? = some [] := by
 have key : ∀ (L : List TR) (N : List (List Int)), N[0]? = some [] → (L.foldl (fun N t => insN N t (preN t.r)) N)[0]? = some [] := by
  intro L
  induction L with
  | nil => intro N h; exact h
  | cons u L ih =>
    intro N h
    rw [List.foldl_cons]
    refine ih _ ?_
    have : ∀ k, (insN N u k)[0]? = some [] := by
     intro k
     induction k with
     | zero => exact h
     | succ k ihk =>
       rw [insN_succ]
       split
       ·exact ihk
       ·rw [List.getElem?_append_left (List.getElem?_eq_some_iff.1 ihk).1]; exact ihk
    exact this _
 exact key L [[]] rfl
set_option maxHeartbeats 8000000 in
theorem numbered83_is {ins : Nat} {outs : Int} {L : List TR} (hv : ∀ t ∈ L, TrVal ins outs t) (hc : Cons L) (hI : 1 ≤ ins ∧ ins ≤ 16) (hn : (nodesL L).length ≤ 70000) (W : Nat → Nat → Int × Int) (hW : ∀ s j, s < (rawN L).length → j < ins → W s j = rawW L (rawN L) s j) (c : Cp) :
  PureIs prog 83 [.sl false (rowsV W (rawN L).length ins) c] (.sl false ((treeM ins outs L).rows.map rowC) .unk) := by
 have hlen := rawN_len L
 have hvl := rowsV_len W (rawN L).length ins
 have hne : 1 ≤ (nodesL L).length := by rw [kids_all hv, List.length_cons]; omega
 have hNm := (rawN_props L).2
 have hsrt := nodesL_sort L
 have hq0 : ∀ m, m < (nodesL L).length → m < qF (nodesL L) ins m 0 := fun m => qF_lt hv
 have hqe := qF_end hv
 have hqg := fun m i => qF_get hv (m := m) (i := i)
 have hqn : ∀ m i, qF (nodesL L) ins m (i + 1) = qF (nodesL L) ins m i + (if ((nodesL L)[m]?).getD [] ++ [(i : Int)] ∈ nodesL L then 1 else 0) := fun m i => qF_next
 have hqr : ∀ m, m < (nodesL L).length → qF (nodesL L) ins m ins = qF (nodesL L) ins (m + 1) 0 := fun m => qF_row
 have hed := fun w hw => edge_raw hv hc hNm (w := w) hw
 have hem := fun w hw => edge_raw hv hc (N := nodesL L) (fun x => Iff.rfl) (w := w) hw
 have hordl : ∀ q, q ≤ (nodesL L).length → (ordC L q).length = q := fun q h => by rw [ordC, List.length_map, List.length_take]; omega
 have houtl : ∀ q, q ≤ (nodesL L).length → (outC ins L q).length = q := fun q h => by rw [outC, List.length_map, List.length_take]; omega
 have hon : ∀ m, (outC ins L m).all AV.norefs = true := fun m => List.all_eq_true.2 fun y hy => by
  obtain ⟨z, _, rfl⟩ := List.mem_map.1 hy
  simp [AV.norefs, AV.noref, norefs_edges]
 have hor : ∀ q, (ordC L q).all AV.norefs = true := fun m => List.all_eq_true.2 fun y hy => by
  obtain ⟨z, _, rfl⟩ := List.mem_map.1 hy
  rfl
 have hq00 : qF (nodesL L) ins 0 0 = 1 := by simp [qF]
 have h00 : (nodesL L)[0]? = some [] := by rw [kids_all hv]; rfl
 have hord0 : ordC L 1 = [[.sc (.int .i64 0)]] := by
  have h1 : (nodesL L).take 1 = [[]] := by rw [List.take_succ, h00]; rfl
  rw [ordC, h1]
  have : (rawN L).idxOf ([] : List Int) = 0 := by
   have hr : (rawN L)[0]? = some [] := rawN_zero L
   obtain ⟨hl, he⟩ := List.getElem?_eq_some_iff.1 hr
   have := (rawN_props L).1.idxOf_getElem 0 hl
   rwa [he] at this
  rw [List.map_singleton, this]; rfl
 have hqm : ∀ d m i, qF (nodesL L) ins m i ≤ qF (nodesL L) ins m (i + d) := fun d m i => by
  induction d with
  | zero => exact Nat.le_refl _
  | succ d ih =>
    have := hqn m (i + d)
    rw [show i + (d + 1) = i + d + 1 by omega]; omega
 have hqz : ∀ d m, m + d ≤ (nodesL L).length → qF (nodesL L) ins m 0 ≤ qF (nodesL L) ins (m + d) 0 := fun d m h => by
  induction d with
  | zero => exact Nat.le_refl _
  | succ d ih =>
    have h1 := ih (by omega)
    have h2 := hqr (m + d) (by omega)
    have h3 := hqm ins (m + d) 0
    rw [Nat.zero_add] at h3
    rw [show m + (d + 1) = m + d + 1 by omega]; omega
 have hqle : ∀ m i, m < (nodesL L).length → i ≤ ins → qF (nodesL L) ins m i ≤ (nodesL L).length := fun m i hm hi => by
  have h1 := hqm (ins - i) m i
  rw [show i + (ins - i) = ins by omega, hqr m hm] at h1
  have h2 := hqz ((nodesL L).length - (m + 1)) (m + 1) (by omega)
  rw [show m + 1 + ((nodesL L).length - (m + 1)) = (nodesL L).length by omega, hqe] at h2
  omega
 obtain ⟨n, hnn⟩ : ∃ n, n = (nodesL L).length := ⟨_, rfl⟩
 have hvl2 := hvl
 rw [hlen] at hvl2
 have hN70 : (rawN L).length ≤ 70000 := by omega
 rw [← hnn] at hvl2
 refine PureIs.of (nv := 1) (hid := [2, 3, 4, 5, 6, 7, 8, 18, 30, 31, 32, 33, 39]) func83 rfl (by kernel_rfl) (by simp [ntmps83]) fun _ => ?_
 rw [ntmps83, results83]
 refine EvC.seq (EvC.rg (by simp only [go_sem] <;> rfl) (by simp) ?_)
 refine EvC.seq (EvC.rg (by simp only [go_sem, hvl2, Int.toNat_natCast] <;> rfl) (by simp [room_eq]; omega) ?_)
 refine EvC.seq (EvC.rg (by simp only [go_sem, hvl2, Int.toNat_natCast] <;> rfl) (by simp [room_eq]; omega) ?_)
 refine EvC.seq ?_
 refine EvC.seq (EvC.rg (by simp only [go_sem] <;> rfl) (by simp) ?_)
 refine EvC.block ?_
 refine EvC.loopS (σ := Nat) (fun m => ⟨[(0, .sl false (rowsV W (rawN L).length ins) c), (3, .tl 0 (qF (nodesL L) ins m 0) false), (4, .tl 1 m false), (5, .sc (.int .i64 m))], [], [(0, .arr 1 (ordC L (qF (nodesL L) ins m 0)) false), (1, .arr 1 (outC ins L m) false)], 2⟩) (fun m => n - m) (fun m => m ≤ n) [0, 3, 4, 5] 2 ?_ ?_
 ·refine ⟨[(3, 0), (7, 1)], 0, rfl, ?_, Nat.zero_le _⟩
  have h1 : qF (nodesL L) ins 0 0 = 1 := by simp [qF]
  rw [h1, hord0]
  simp only [go_sem, outC, List.take_zero, List.map_nil, Int.natCast_zero] <;> rfl
 rintro m hm
 have hmin : (m : Int).toNat = m := Int.toNat_natCast m
 obtain ⟨q, hq⟩ : ∃ q, q = qF (nodesL L) ins m 0 := ⟨_, rfl⟩
 have hmq := hq0 m
 rw [← hq] at hmq ⊢
 have hqn1 : q ≤ n := by
  rcases Nat.lt_or_ge m (nodesL L).length with h | h
  ·rw [hq, hnn]; exact hqle m 0 h (Nat.zero_le _)
  ·have : m = (nodesL L).length := by omega
   rw [hq, this, hqe]; omega
 have hql := hordl q (by omega)
 refine EvC.seq ?_
 refine EvC.seq (EvC.rg (by simp only [go_sem, hql] <;> rfl) (by simp) ?_)
 refine EvC.cond (by simp only [go_sem] <;> rfl) (fun hc => ?_) (fun hc => ?_)
 rotate_left
 ·
  have hc : ¬ m < q := by simpa using hc
  have hmn : m = n := Nat.le_antisymm hm (Nat.le_of_not_lt fun h => hc (hmq (by omega)))
  refine EvC.exit ?_
  have hol := houtl m (by omega)
  refine EvC.frz 1 (by simp only [go_sem, hol, hon m] <;> rfl) ?_
  refine EvC.seq (EvC.rg (by simp only [go_sem] <;> rfl) (by simp) ?_)
  refine EvC.ret ⟨.inl rfl, _, (by simp only [go_sem, hol] <;> rfl), ?_, by simp [AV.noref, hon m]⟩
  simp only [go_sem]
  rw [hmn, hnn, outC, List.take_length, treeM, List.map_map]; rfl
 have hmqq : m < q := by simpa using hc
 clear hc
 have hmM : m < (nodesL L).length := by omega
 refine EvC.skip ?_
 refine EvC.seq ?_
 refine EvC.block ?_
 obtain ⟨x, hx⟩ : ∃ x, (nodesL L)[m]? = some x := ⟨_, List.getElem?_eq_getElem hmM⟩
 have hxM : x ∈ nodesL L := List.mem_of_getElem? hx
 have hxN := (hNm x).2 hxM
 have hsN := List.idxOf_lt_length_of_mem hxN
 have hsx := idx_get hxN
 have hordm : (ordC L q)[m]? = some [.sc (.int .i64 (((rawN L).idxOf x : Nat) : Int))] := by
  rw [ordC, List.getElem?_map, List.getElem?_take, if_pos hmqq, hx]; rfl
 obtain ⟨s, hs⟩ : ∃ s, s = (rawN L).idxOf x := ⟨_, rfl⟩
 rw [← hs] at hsN hsx hordm
 have hsin : (s : Int).toNat = s := Int.toNat_natCast s
 have hrw := rowsV_get (W := W) (I := ins) hsN
 have hmix : gcells edgeC (W s) ins = gcells edgeC (mixE L m 0) ins := gcells_congr edgeC fun j hj => by
  rw [hW s j hsN hj, mixE_zero, rawW, hsx, hx]
 rw [hmix] at hrw
 have hgl := gcells_len edgeC (mixE L m 0) (m := ins)
 have hcl : PureNew prog 68 [.sl false (gcells edgeC (mixE L m 0) ins) .unk] 2 (gcells edgeC (mixE L m 0) ins) := by
  have := clone68_new ((List.range ins).map (mixE L m 0)) .unk (by simp; omega) (by simp; omega)
  rwa [List.map_map] at this
 apply EvC.seq
 apply EvC.tr
 ·apply Tr.run
  ·simp only [go_sem, hql, hordm, hmin, hsin, hvl, hrw] <;> rfl
  ·simp; omega
  apply Tr.cons
  ·exact .callN rfl rfl (by simp only [go_sem] <;> rfl) (by simp only [go_sem] <;> rfl) (by simp only [go_sem] <;> rfl) (by simp only [go_sem] <;> rfl) (by simp only [go_sem] <;> rfl) hcl
  apply Tr.cons
  ·exact .clip (n := ins) rfl rfl (by simp only [go_sem] <;> rfl) (by simp only [go_sem] <;> rfl) (by simp only [go_sem, hgl] <;> rfl) (by simp only [go_sem] <;> rfl) hgl.symm (by omega) (by omega) (by simp only [go_sem] <;> rfl) clip90_clips
  apply Tr.done
  ·simp only [go_sem, hgl] <;> rfl
  ·simp
 refine EvC.seq ?_
 have htk : (gcells edgeC (mixE L m 0) ins).take ins = gcells edgeC (mixE L m 0) ins := List.take_of_length_le (by omega)
 refine EvC.seq (EvC.rg (by simp only [go_sem, hgl, htk] <;> rfl) (by simp) ?_)
 refine EvC.block ?_
 refine EvC.loopS (σ := Nat) (fun i => ⟨[(0, .sl false (rowsV W (rawN L).length ins) c), (3, .tl 0 (qF (nodesL L) ins m i) false), (4, .tl 1 m false), (5, .sc (.int .i64 m)), (6, .tv 2 ins 0 ins (.val ins)), (30, .tv 2 ins 0 ins (.val ins)), (31, .sc (.int .i64 ins)), (32, .sc (.int .i64 i))], [], [(0, .arr 1 (ordC L (qF (nodesL L) ins m i)) false), (1, .arr 1 (outC ins L m) false), (2, .arr 2 (gcells edgeC (mixE L m i) ins) false)], 3⟩) (fun i => ins - i) (fun i => i ≤ ins) [0, 3, 4, 5, 6, 30, 31, 32] 3 ?_ ?_
 ·refine ⟨[(0, 0), (1, 1), (13, 2)], 0, rfl, ?_, Nat.zero_le _⟩
  rw [← hq]
  have hnr := gcells_norefs norefs_edgeC (mixE L m 0) ins
  simp only [go_sem, Int.natCast_zero, hor, hon, hnr] <;> rfl
 rintro i hi
 have hiin : (i : Int).toNat = i := Int.toNat_natCast i
 obtain ⟨p, hp⟩ : ∃ p, p = qF (nodesL L) ins m i := ⟨_, rfl⟩
 have hpn := hqle m i hmM hi
 have hpn1 := hqn m i
 have hpg := hqg m i hmM
 rw [← hp] at hpn hpn1 hpg ⊢
 have hpl := hordl p hpn
 have hgl2 := gcells_len edgeC (mixE L m i) (m := ins)
 have hnr2 := gcells_norefs norefs_edgeC (mixE L m i) ins
 refine EvC.seq (EvC.rg (by simp only [go_sem] <;> rfl) (by simp) ?_)
 refine EvC.seq ?_
 refine EvC.cond (by simp only [go_sem] <;> rfl) (fun hc => ?_) (fun hc => ?_)
 rotate_left
 ·
  have hie : i = ins := by have : ¬ i < ins := by simpa using hc
                           omega
  refine EvC.exit ?_
  have hall : gcells edgeC (mixE L m i) ins = (treeRow L (nodesL L) x ins).map edgeC := by
   rw [treeRow, List.map_map]
   refine List.map_congr_left fun j hj => ?_
   have := List.mem_range.1 hj
   simp only [Function.comp, mixE]
   rw [if_pos (by omega), hx]; rfl
  rw [hall] at hgl2 hnr2 ⊢
  refine EvC.frz 2 (by simp only [go_sem, hgl2, hnr2] <;> rfl) ?_
  refine EvC.unkV 6 (by simp only [go_sem] <;> rfl) ?_
  have hol := houtl m (by omega)
  refine EvC.rg (by simp only [go_sem, hol] <;> rfl) (by simp [room_eq]; try omega) ?_
  refine EvC.rg (by simp only [go_sem] <;> rfl) (by exact inI64_of (by omega) (by omega)) ?_
  have hout1 : outC ins L (m + 1) = outC ins L m ++ [[.sl false ((treeRow L (nodesL L) x ins).map edgeC) .unk]] := by
   unfold outC
   rw [List.take_succ, hx, List.map_append]; rfl
  refine ⟨[(0, 0), (1, 1)], m + 1, rfl, ?_, by omega, by omega⟩
  have hqq := hqr m hmM
  rw [hie] at hp
  rw [hqq] at hp
  rw [← hp, hout1]
  have hon1 := hon (m + 1)
  rw [hout1] at hon1
  have hu : AV.unkss ((treeRow L (nodesL L) x ins).map edgeC) = (treeRow L (nodesL L) x ins).map edgeC := unkss_map edgeC (fun x => rfl) _
  simp only [go_sem, hor, hon, hon1, norefs_edges, hu, Int.natCast_add, Int.natCast_one] <;> rfl
 have hiI : i < ins := by simpa using hc
 clear hc
 refine EvC.skip ?_
 refine EvC.seq ?_
 refine EvC.block ?_
 have hgi := gcells_get edgeC (mixE L m i) hiI
 refine EvC.seq (EvC.rg (by simp only [go_sem, hgl2, hgi, hiin, edgeC] <;> rfl) (by simp; try omega) ?_)
 refine EvC.seq (EvC.rg (by simp only [go_sem] <;> rfl) (by simp) ?_)
 have hxi : (nodesL L)[m]?.getD [] ++ [(i : Int)] = x ++ [(i : Int)] := by rw [hx]; rfl
 have hmi : mixE L m i i = edgeOf L (rawN L) (x ++ [(i : Int)]) := by unfold mixE; rw [if_neg (by omega), hxi]
 have hmj : ∀ j, j ≠ i → mixE L m (i + 1) j = mixE L m i j := fun j hj => by
  unfold mixE
  by_cases h : j < i
  ·rw [if_pos (by omega), if_pos h]
  ·rw [if_neg (by omega), if_neg h]
 have hms : mixE L m (i + 1) i = edgeOf L (nodesL L) (x ++ [(i : Int)]) := by unfold mixE; rw [if_pos (by omega), hxi]
 rw [hxi] at hpn1 hpg
 have hed1 := hed _ (snoc_ne x (i : Int))
 have hem1 := hem _ (snoc_ne x (i : Int))
 rw [← hmi] at hed1
 rw [← hms] at hem1
 have hmemN := hNm (x ++ [(i : Int)])
 by_cases he : (mixE L m i i).1 = -1
 ·refine EvC.cond_false (by simp only [go_sem, decide_eq_true he] <;> rfl) ?_
  refine EvC.skip ?_
  have hnin : x ++ [(i : Int)] ∉ nodesL L := fun h => by
   rcases hed1 with ⟨h1, _⟩ | ⟨_, n', _, _, _, h2⟩
   ·exact h1 (hmemN.2 h)
   ·rw [h2] at he; simp only at he; omega
  rw [if_neg hnin] at hpn1
  have hsame : gcells edgeC (mixE L m (i + 1)) ins = gcells edgeC (mixE L m i) ins := gcells_congr edgeC fun j hj => by
   by_cases h : j = i
   ·subst h
    rcases hed1 with ⟨_, h1⟩ | ⟨h1, _⟩
    ·rcases hem1 with ⟨_, h2⟩ | ⟨h2, _⟩
     ·rcases h1 with ⟨h3, h4⟩ | ⟨h3, h4⟩
      ·rcases h2 with ⟨h5, h6⟩ | ⟨h5, h6⟩
       ·rw [h4, h6]
       ·rw [h5] at h3; cases h3
      ·rcases h2 with ⟨h5, h6⟩ | ⟨h5, h6⟩
       ·rw [h5] at h3; cases h3
       ·rw [h4, h6]
     ·exact absurd h2 hnin
    ·exact absurd (hmemN.1 h1) hnin
   ·exact hmj j h
  refine EvC.rg (by simp only [go_sem] <;> rfl) (by exact inI64_of (by omega) (by omega)) ?_
  refine ⟨[(0, 0), (1, 1), (2, 2)], i + 1, rfl, ?_, by omega, by omega⟩
  rw [hpn1, hsame]
  simp only [go_sem, hor, hon, hnr2, Int.natCast_add, Int.natCast_one, Nat.add_zero] <;> rfl
 refine EvC.cond_true (by simp only [go_sem, decide_eq_false he] <;> rfl) ?_
 have hin : x ++ [(i : Int)] ∈ rawN L := by
  rcases hed1 with ⟨_, h1⟩ | ⟨h1, _⟩
  ·rcases h1 with ⟨_, h1⟩ | ⟨_, h1⟩ <;> (rw [h1] at he; exact absurd rfl he)
  ·exact h1
 have hinM := hmemN.1 hin
 rw [if_pos hinM] at hpn1
 have hpg := hpg hiI hinM
 obtain ⟨o, he1, he2⟩ : ∃ o, mixE L m i i = ((((rawN L).idxOf (x ++ [(i : Int)]) : Nat) : Int), o) ∧ mixE L m (i + 1) i = ((p : Int), o) := by
  rcases hed1 with ⟨h1, _⟩ | ⟨_, o1, h1, _, _, h2⟩
  ·exact absurd hin h1
  rcases hem1 with ⟨h3, _⟩ | ⟨_, o2, h3, _, _, h4⟩
  ·exact absurd hinM h3
  rw [h1] at h3
  cases h3
  refine ⟨o1, h2, ?_⟩
  rw [h4]
  obtain ⟨hl, hg⟩ := List.getElem?_eq_some_iff.1 hpg
  have := hsrt.nodup.idxOf_getElem p hl
  rw [hg] at this
  rw [this]
 rw [he1] at hgi ⊢
 have hset : (gcells edgeC (mixE L m i) ins).set i [.sc (.int .i64 p), .sc (.int .i64 o)] = gcells edgeC (mixE L m (i + 1)) ins := by
  have := gcells_set edgeC (mixE L m i) (((p : Int), o)) hiI
  rw [show edgeC ((p : Int), o) = [.sc (.int .i64 p), .sc (.int .i64 o)] from rfl] at this
  rw [this]
  refine gcells_congr edgeC fun j hj => ?_
  unfold upd1
  by_cases h : j = i
  ·rw [if_pos h, h, he2]
  ·rw [if_neg h, hmj j h]
 have hord1 : ordC L (p + 1) = ordC L p ++ [[.sc (.int .i64 (((rawN L).idxOf (x ++ [(i : Int)]) : Nat) : Int))]] := by
  unfold ordC
  rw [List.take_succ, hpg, List.map_append]; rfl
 refine EvC.seq (EvC.rg (by simp only [go_sem, hpl, hgl2, hgi, hiin, edgeC, hset] <;> rfl) (by simp; try omega) ?_)
 refine EvC.rg (by simp only [go_sem, hpl] <;> rfl) (by simp [room_eq]; try omega) ?_
 refine EvC.rg (by simp only [go_sem] <;> rfl) (by exact inI64_of (by omega) (by omega)) ?_
 refine ⟨[(0, 0), (1, 1), (2, 2)], i + 1, rfl, ?_, by omega, by omega⟩
 rw [hpn1, hord1]
 have hor1 := hor (p + 1)
 rw [hord1] at hor1
 have hnr3 := gcells_norefs norefs_edgeC (mixE L m (i + 1)) ins
 simp only [go_sem, hor1, hon, hnr3, Int.natCast_add, Int.natCast_one] <;> rfl
end Go.Avl
namespace Go.Avl
open Go Go.Proofs.Try
set_option maxRecDepth 10000
set_option linter.unusedSimpArgs false
theorem in95_is (x many : Int) (h : 0 ≤ x ∧ x < many) : PureIs prog 95 [.sc (.int .i64 x), .ia [.sc (.int .i64 many)]] (.sc (.bool false)) := by
 refine PureIs.of (nv := 4) (hid := []) func95 rfl (by kernel_rfl) (by simp [ntmps95]) fun _ => ?_
 rw [ntmps95, results95]
 refine EvC.seq (EvC.rg (by simp only [go_sem] <;> rfl) (by simp) ?_)
 apply EvC.seq
 apply EvC.trd
 ·simp only [go_sem] <;> rfl
 ·simp
 refine EvC.ret ⟨.inl rfl, _, (by simp only [go_sem] <;> rfl), ?_, rfl⟩
 simp only [go_sem, decide_eq_false (show ¬ x < 0 by omega), decide_eq_false (show ¬ many ≤ x by omega)]
 all_goals rfl
theorem idx96_is (nl : Bool) (xs : List Int) (c : Cp) (f : FuncId) (cs : List AV) (hcs : AV.norefs cs = true) (hp : ∀ e ∈ xs, PureIs prog f (.sc (.int .i64 e) :: cs) (.sc (.bool false))) (hl : xs.length < 1000000) :
  PureIs prog 96 [.sl nl (xs.map intC) c, .fn f cs] (.sc (.int .i64 (-1))) := by
 refine PureIs.of (nv := 6) (hid := [6, 7, 8, 9, 16]) func96 rfl (by kernel_rfl) (by simp [ntmps96]) fun _ => ?_
 rw [ntmps96, results96]
 refine EvC.seq (EvC.rg (by simp only [go_sem] <;> rfl) (by simp) ?_)
 refine EvC.seq ?_
 refine EvC.seq (EvC.rg (by simp only [go_sem] <;> rfl) (by simp) ?_)
 refine EvC.block ?_
 refine EvC.loopS (σ := Nat) (fun i => ⟨[(0, .sl nl (xs.map intC) c), (1, .fn f cs), (7, .sc (.int .i64 xs.length)), (8, .sc (.int .i64 i))], [], [], 0⟩) (fun i => xs.length - i) (fun i => i ≤ xs.length) [0, 1, 7, 8] 0 ?_ ?_
 ·exact ⟨[], 0, rfl, (by simp only [go_sem, hcs, List.length_map, Int.natCast_zero] <;> rfl), Nat.zero_le _⟩
 intro i h1
 have hiin : (i : Int).toNat = i := Int.toNat_natCast i
 refine EvC.seq (EvC.rg (by simp only [go_sem] <;> rfl) (by simp) ?_)
 refine EvC.seq ?_
 refine EvC.cond (by simp only [go_sem] <;> rfl) (fun hc => ?_) (fun hc => ?_)
 rotate_left
 ·refine EvC.exit ?_
  refine EvC.seq (EvC.rg (by simp only [go_sem] <;> rfl) (by simp) ?_)
  refine EvC.ret ⟨.inl rfl, _, (by simp only [go_sem] <;> rfl), ?_, rfl⟩
  simp only [go_sem]
 have hi : i < xs.length := by simpa using hc
 have he : xs[i]? = some xs[i] := List.getElem?_eq_getElem hi
 have hm := List.getElem_mem hi
 generalize xs[i] = e at he hm
 have hpe := hp e hm
 refine EvC.skip ?_
 refine EvC.seq ?_
 refine EvC.block ?_
 refine EvC.seq (EvC.rg (by simp only [go_sem] <;> rfl) (by simp) ?_)
 apply EvC.seq
 apply EvC.tr
 ·apply Tr.run
  ·simp only [go_sem, he, intC, hiin, List.length_map] <;> rfl
  ·simp; try omega
  apply Tr.cons
  ·exact .call rfl rfl (by simp only [go_sem] <;> rfl) (by simp only [go_sem] <;> rfl) (by simp only [go_sem] <;> rfl) (by simp only [go_sem, hcs] <;> rfl) (by simp only [go_sem] <;> rfl) (hpe)
  apply Tr.done
  ·simp only [go_sem] <;> rfl
  ·simp
 refine EvC.cond_false (by simp only [go_sem] <;> rfl) ?_
 refine EvC.skip ?_
 refine EvC.rg (by simp only [go_sem] <;> rfl) (by exact inI64_of (by omega) (by omega)) ?_
 exact ⟨[], i + 1, rfl, (by simp only [go_sem, hcs, Int.natCast_add, Int.natCast_one] <;> rfl), by omega, by omega⟩
theorem cont94_is (nl : Bool) (xs : List Int) (c : Cp) (f : FuncId) (cs : List AV) (hcs : AV.norefs cs = true) (hp : ∀ e ∈ xs, PureIs prog f (.sc (.int .i64 e) :: cs) (.sc (.bool false))) (hl : xs.length < 1000000) :
  PureIs prog 94 [.sl nl (xs.map intC) c, .fn f cs] (.sc (.bool false)) := by
 have h := idx96_is nl xs c f cs hcs hp hl
 refine PureIs.of (nv := 5) (hid := []) func94 rfl (by kernel_rfl) (by simp [ntmps94]) fun _ => ?_
 rw [ntmps94, results94]
 refine EvC.seq (EvC.rg (by simp only [go_sem] <;> rfl) (by simp) ?_)
 apply EvC.seq
 apply EvC.tr
 ·apply Tr.run
  ·simp only [go_sem] <;> rfl
  ·simp
  apply Tr.cons
  ·exact .call rfl rfl (by simp only [go_sem] <;> rfl) (by simp only [go_sem] <;> rfl) (by simp only [go_sem] <;> rfl) (by simp only [go_sem, hcs] <;> rfl) (by simp only [go_sem] <;> rfl) h
  apply Tr.done
  ·simp only [go_sem] <;> rfl
  ·simp
 refine EvC.ret ⟨.inl rfl, _, (by simp only [go_sem] <;> rfl), ?_, rfl⟩
 simp only [go_sem]
 all_goals rfl
theorem inputs93_is (nl : Bool) (xs : List Int) (c : Cp) (many : Int) (hx : ∀ x ∈ xs, 0 ≤ x ∧ x < many) (hl : xs.length < 1000000) : PureIs prog 93 [.sl nl (xs.map intC) c, .sc (.int .i64 many)] (.sc (.bool true)) := by
 have h := cont94_is nl xs c 95 [.ia [.sc (.int .i64 many)]] rfl (fun e he => in95_is e many (hx e he)) hl
 refine PureIs.of (nv := 5) (hid := []) func93 rfl (by kernel_rfl) (by simp [ntmps93]) fun _ => ?_
 rw [ntmps93, results93]
 refine EvC.seq (EvC.rg (by simp only [go_sem] <;> rfl) (by simp) ?_)
 refine EvC.frzB 0 (by simp only [go_sem] <;> rfl) ?_
 apply EvC.seq
 apply EvC.tr
 ·apply Tr.run
  ·simp only [go_sem] <;> rfl
  ·simp
  apply Tr.cons
  ·exact .call rfl rfl (by simp only [go_sem] <;> rfl) (by simp only [go_sem] <;> rfl) (by simp only [go_sem] <;> rfl) (by simp only [go_sem] <;> rfl) (by simp only [go_sem] <;> rfl) (h)
  apply Tr.done
  ·simp only [go_sem] <;> rfl
  ·simp
 refine EvC.ret ⟨.inl rfl, _, (by simp only [go_sem] <;> rfl), ?_, rfl⟩
 simp only [go_sem]
 all_goals rfl
theorem valid92_is {ins : Nat} {outs : Int} {t : TR} (h : TrVal ins outs t) (ho : 0 ≤ outs) (hl : t.w.length < 1000000) : PureIs prog 92 [.ag (traceC t), .sc (.int .i64 ins), .sc (.int .i64 outs)] (.sc (.bool true)) := by
 have hI := inputs93_is t.w.isEmpty t.w .unk ins h.sym hl
 have hlen := h.len
 refine PureIs.of (nv := 7) (hid := [7, 9, 23, 25, 26, 27, 28, 44]) func92 rfl (by kernel_rfl) (by simp [ntmps92]) fun _ => ?_
 rw [ntmps92, results92]
 refine EvC.seq (EvC.rg (by simp only [go_sem, traceC] <;> rfl) (by simp) ?_)
 refine EvC.frzB 0 (by simp only [go_sem] <;> rfl) ?_
 refine EvC.seq ?_
 have d0 : decide ((t.r.length : Int) = (t.w.length : Int)) = true := decide_eq_true (by omega)
 apply EvC.seq
 apply EvC.tr
 ·apply Tr.run
  ·simp only [go_sem, List.length_map, d0] <;> rfl
  ·simp
  apply Tr.cons
  ·exact .callG rfl rfl (by simp only [go_sem] <;> rfl) rfl (by simp only [go_sem] <;> rfl) (by simp only [go_sem] <;> rfl) (by simp only [go_sem] <;> rfl) (by simp only [go_sem] <;> rfl) (by simp only [go_sem] <;> rfl) (hI)
  apply Tr.done
  ·simp only [go_sem, List.length_map, d0] <;> rfl
  ·simp
 refine EvC.cond_false (by simp only [go_sem] <;> rfl) ?_
 refine EvC.skip ?_
 refine EvC.seq (EvC.rg (by simp only [go_sem] <;> rfl) (by simp) ?_)
 refine EvC.seq ?_
 refine EvC.seq (EvC.rg (by simp only [go_sem] <;> rfl) (by simp) ?_)
 refine EvC.block ?_
 refine EvC.loopS (σ := Nat) (fun i => ⟨[(2, .sc (.int .i64 outs)), (7, .sc (.bool (decide (preN t.r < i)))), (25, .sl t.r.isEmpty (t.r.map intC) .unk), (26, .sc (.int .i64 t.r.length)), (27, .sc (.int .i64 i))], [], [], 0⟩) (fun i => t.r.length - i) (fun i => i ≤ t.r.length) [2, 7, 25, 26, 27] 0 ?_ ?_
 ·exact ⟨[], 0, rfl, (by simp only [go_sem, List.length_map, Int.natCast_zero, Nat.not_lt_zero, decide_false] <;> rfl), Nat.zero_le _⟩
 intro i hi
 have hiin : (i : Int).toNat = i := Int.toNat_natCast i
 refine EvC.seq (EvC.rg (by simp only [go_sem] <;> rfl) (by simp) ?_)
 refine EvC.seq ?_
 refine EvC.cond (by simp only [go_sem] <;> rfl) (fun hc => ?_) (fun hc => ?_)
 rotate_left
 ·refine EvC.exit ?_
  refine EvC.seq (EvC.rg (by simp only [go_sem] <;> rfl) (by simp) ?_)
  refine EvC.ret ⟨.inl rfl, _, (by simp only [go_sem] <;> rfl), ?_, rfl⟩
  simp only [go_sem]
 have hir : i < t.r.length := by simpa using hc
 have he : t.r[i]? = some ((t.r[i]?).getD 0) := by rw [List.getElem?_eq_getElem hir]; rfl
 have hg := h.get hir
 generalize (t.r[i]?).getD 0 = o at he hg
 refine EvC.skip ?_
 refine EvC.seq ?_
 refine EvC.block ?_
 refine EvC.seq (EvC.rg (by simp only [go_sem, he, intC, hiin, List.length_map] <;> rfl) (by simp; try omega) ?_)
 refine EvC.seq ?_
 have q1 : decide (o < -1) = false := decide_eq_false (by omega)
 have q2 : decide (outs ≤ o) = false := by
  refine decide_eq_false fun hh => ?_
  rcases hg with hg | hg <;> omega
 rcases hg with ⟨g1, g2, g3⟩ | ⟨g1, g2⟩
 ·have q3 : decide (preN t.r < i) = false := decide_eq_false (by omega)
  have q4 : decide (preN t.r < i + 1) = false := decide_eq_false (by omega)
  have q5 : decide (o = -1) = false := decide_eq_false (by omega)
  apply EvC.seq
  apply EvC.trd
  ·simp only [go_sem, q1, q2, q3] <;> rfl
  ·simp
  refine EvC.cond_false (by simp only [go_sem] <;> rfl) ?_
  refine EvC.skip ?_
  refine EvC.rg (by simp only [go_sem, q5] <;> rfl) (by simp) ?_
  refine EvC.rg (by simp only [go_sem] <;> rfl) (by exact inI64_of (by omega) (by omega)) ?_
  exact ⟨[], i + 1, rfl, (by simp only [go_sem, q4, Int.natCast_add, Int.natCast_one] <;> rfl), by omega, by omega⟩
 ·have q4 : decide (preN t.r < i + 1) = true := decide_eq_true (by omega)
  have q5 : decide (o = -1) = true := decide_eq_true g2
  apply EvC.seq
  apply EvC.trd
  ·simp only [go_sem, q1, q2, q5] <;> rfl
  ·simp
  have q6 : (if decide (preN t.r < i) = true then false else false) = false := by cases decide (preN t.r < i) <;> rfl
  refine EvC.cond_false (by simp only [go_sem, q6] <;> rfl) ?_
  refine EvC.skip ?_
  refine EvC.rg (by simp only [go_sem, q5] <;> rfl) (by simp) ?_
  refine EvC.rg (by simp only [go_sem] <;> rfl) (by exact inI64_of (by omega) (by omega)) ?_
  exact ⟨[], i + 1, rfl, (by simp only [go_sem, q4, Int.natCast_add, Int.natCast_one] <;> rfl), by omega, by omega⟩
end Go.Avl
namespace Go.Avl
open Go Go.Proofs.Try
set_option maxRecDepth 10000
set_option linter.unusedSimpArgs false
def sumW (L : List TR) : Nat := (L.map fun t => t.w.length).sum
theorem sumW_take (L : List TR) (i : Nat) : sumW (L.take i) ≤ sumW L := by
 have h : sumW L = sumW (L.take i) + sumW (L.drop i) := by
  unfold sumW
  rw [← List.sum_append, ← List.map_append, List.take_append_drop]
 omega
theorem sumW_next {L : List TR} {i : Nat} {t : TR} (h : L[i]? = some t) : sumW (L.take (i + 1)) = sumW (L.take i) + t.w.length := by
 unfold sumW
 rw [List.take_succ, h, List.map_append, List.sum_append]; simp
structure LogOk (ins : Nat) (outs : Int) (L : List TR) : Prop where
 inb : 1 ≤ ins ∧ ins ≤ 16
 outb : 1 ≤ outs ∧ outs ≤ 16
 val : ∀ t ∈ L, TrVal ins outs t
 short : ∀ t ∈ L, t.w.length ≤ 256
 len : L.length ≤ 1024
 sum : sumW L ≤ 65536
theorem within91_is {ins : Nat} {outs : Int} {L : List TR} (h : LogOk ins outs L) : PureIs prog 91 [logA ins outs L] (.sc (.bool true)) := by
 have h1 := h.len
 have h2 := h.sum
 have h3 := h.inb
 have h4 := h.outb
 unfold logA
 refine PureIs.of (nv := 3) (hid := [3, 4, 5, 7, 8, 9, 10, 30]) func91 rfl (by kernel_rfl) (by simp [ntmps91]) fun _ => ?_
 rw [ntmps91, results91]
 refine EvC.seq (EvC.rg (by simp only [go_sem] <;> rfl) (by simp) ?_)
 refine EvC.frzB 0 (by simp only [go_sem] <;> rfl) ?_
 refine EvC.seq (EvC.rg (by simp only [go_sem] <;> rfl) (by simp) ?_)
 refine EvC.seq ?_
 refine EvC.seq (EvC.rg (by simp only [go_sem] <;> rfl) (by simp) ?_)
 refine EvC.block ?_
 refine EvC.loopS (σ := Nat) (fun i => ⟨[(1, .ia [.sc (.int .i64 ins), .sc (.int .i64 outs), .sl L.isEmpty (L.map traceC) .unk]), (3, .sc (.int .i64 (sumW (L.take i)))), (7, .sl L.isEmpty (L.map traceC) .unk), (8, .sc (.int .i64 L.length)), (9, .sc (.int .i64 i))], [], [], 0⟩) (fun i => L.length - i) (fun i => i ≤ L.length) [1, 3, 7, 8, 9] 0 ?_ ?_
 ·exact ⟨[], 0, rfl, (by simp only [go_sem, List.length_map, List.take_zero, sumW, List.map_nil, List.sum_nil, Int.natCast_zero] <;> rfl), Nat.zero_le _⟩
 intro i hi
 have hiin : (i : Int).toNat = i := Int.toNat_natCast i
 refine EvC.seq (EvC.rg (by simp only [go_sem] <;> rfl) (by simp) ?_)
 refine EvC.seq ?_
 refine EvC.cond (by simp only [go_sem] <;> rfl) (fun hc => ?_) (fun hc => ?_)
 rotate_left
 ·
  refine EvC.exit ?_
  apply EvC.seq
  apply EvC.trd
  ·simp only [go_sem] <;> rfl
  ·simp
  refine EvC.ret ⟨.inl rfl, _, (by simp only [go_sem] <;> rfl), ?_, rfl⟩
  simp only [go_sem, decide_eq_true (show (ins : Int) ≤ 16 by omega), decide_eq_true h4.2]
  all_goals rfl
 have hil : i < L.length := by simpa using hc
 clear hc
 have he : L[i]? = some (L[i]'hil) := List.getElem?_eq_getElem hil
 have hsh := h.short _ (List.getElem_mem hil)
 generalize L[i]'hil = t at he hsh
 have hs := sumW_next he
 have hle := sumW_take L (i + 1)
 refine EvC.skip ?_
 refine EvC.seq ?_
 refine EvC.block ?_
 refine EvC.seq (EvC.rg (by simp only [go_sem, he, hiin, traceC, List.length_map] <;> rfl) (by simp; try omega) ?_)
 refine EvC.frzB 4 (by simp only [go_sem] <;> rfl) ?_
 have hsi : ((sumW (L.take i) : Nat) : Int) + (t.w.length : Int) = ((sumW (L.take (i + 1)) : Nat) : Int) := by omega
 refine EvC.seq (EvC.rg (by simp only [go_sem, List.length_map, hsi] <;> rfl) (by simp; exact inI64_of (by omega) (by omega)) ?_)
 apply EvC.seq
 apply EvC.trd
 ·simp only [go_sem, List.length_map] <;> rfl
 ·simp
 refine EvC.cond_false (by simp only [go_sem, decide_eq_false (show ¬ (1024 : Int) ≤ i by omega), decide_eq_false (show ¬ (256 : Int) < (t.w.length : Int) by omega), decide_eq_false (show ¬ (65536 : Int) < ((sumW (L.take (i + 1)) : Nat) : Int) by omega)] <;> rfl) ?_
 refine EvC.skip ?_
 refine EvC.rg (by simp only [go_sem] <;> rfl) (by exact inI64_of (by omega) (by omega)) ?_
 exact ⟨[], i + 1, rfl, (by simp only [go_sem, Int.natCast_add, Int.natCast_one] <;> rfl), by omega, by omega⟩
theorem check88_is {ins : Nat} {outs : Int} {L : List TR} (h : LogOk ins outs L) : PureIs prog 88 [logA ins outs L] (.sc (.int .i64 0)) := by
 have h1 := h.len
 have h3 := h.inb
 have h4 := h.outb
 have hW := within91_is h
 unfold logA at hW ⊢
 refine PureIs.of (nv := 3) (hid := [4, 7, 15, 17, 18, 19, 20, 29]) func88 rfl (by kernel_rfl) (by simp [ntmps88]) fun _ => ?_
 rw [ntmps88, results88]
 refine EvC.seq (EvC.rg (by simp only [go_sem] <;> rfl) (by simp) ?_)
 refine EvC.frzB 0 (by simp only [go_sem] <;> rfl) ?_
 refine EvC.seq ?_
 apply EvC.seq
 apply EvC.tr
 ·apply Tr.run
  ·simp only [go_sem] <;> rfl
  ·simp
  apply Tr.cons
  ·exact .call rfl rfl (by simp only [go_sem] <;> rfl) (by simp only [go_sem] <;> rfl) (by simp only [go_sem] <;> rfl) (by simp only [go_sem] <;> rfl) (by simp only [go_sem] <;> rfl) (hW)
  apply Tr.done
  ·simp only [go_sem] <;> rfl
  ·simp
 refine EvC.cond_false (by simp only [go_sem] <;> rfl) ?_
 refine EvC.skip ?_
 refine EvC.seq ?_
 apply EvC.seq
 apply EvC.trd
 ·simp only [go_sem] <;> rfl
 ·simp
 refine EvC.cond_false (by simp only [go_sem, decide_eq_false (show ¬ (ins : Int) < 1 by omega), decide_eq_false (show ¬ outs < 1 by omega)] <;> rfl) ?_
 refine EvC.skip ?_
 refine EvC.seq ?_
 refine EvC.seq (EvC.rg (by simp only [go_sem] <;> rfl) (by simp) ?_)
 refine EvC.block ?_
 refine EvC.loopS (σ := Nat) (fun i => ⟨[(1, .ia [.sc (.int .i64 ins), .sc (.int .i64 outs), .sl L.isEmpty (L.map traceC) .unk]), (17, .sl L.isEmpty (L.map traceC) .unk), (18, .sc (.int .i64 L.length)), (19, .sc (.int .i64 i))], [], [], 0⟩) (fun i => L.length - i) (fun i => i ≤ L.length) [1, 17, 18, 19] 0 ?_ ?_
 ·exact ⟨[], 0, rfl, (by simp only [go_sem, List.length_map, Int.natCast_zero] <;> rfl), Nat.zero_le _⟩
 intro i hi
 have hiin : (i : Int).toNat = i := Int.toNat_natCast i
 refine EvC.seq (EvC.rg (by simp only [go_sem] <;> rfl) (by simp) ?_)
 refine EvC.seq ?_
 refine EvC.cond (by simp only [go_sem] <;> rfl) (fun hc => ?_) (fun hc => ?_)
 rotate_left
 ·
  refine EvC.exit ?_
  refine EvC.seq (EvC.rg (by simp only [go_sem] <;> rfl) (by simp) ?_)
  refine EvC.ret ⟨.inl rfl, _, (by simp only [go_sem] <;> rfl), ?_, rfl⟩
  simp only [go_sem]
 have hil : i < L.length := by simpa using hc
 clear hc
 have he : L[i]? = some (L[i]'hil) := List.getElem?_eq_getElem hil
 have hV := valid92_is (h.val _ (List.getElem_mem hil)) (by omega) (by have := h.short _ (List.getElem_mem hil); omega)
 generalize L[i]'hil = t at he hV
 unfold traceC at hV
 refine EvC.skip ?_
 refine EvC.seq ?_
 refine EvC.block ?_
 refine EvC.seq (EvC.rg (by simp only [go_sem, he, hiin, traceC, List.length_map] <;> rfl) (by simp; try omega) ?_)
 refine EvC.frzB 3 (by simp only [go_sem] <;> rfl) ?_
 apply EvC.seq
 apply EvC.tr
 ·apply Tr.run
  ·simp only [go_sem] <;> rfl
  ·simp
  apply Tr.cons
  ·exact .call rfl rfl (by simp only [go_sem] <;> rfl) (by simp only [go_sem] <;> rfl) (by simp only [go_sem] <;> rfl) (by simp only [go_sem] <;> rfl) (by simp only [go_sem] <;> rfl) (hV)
  apply Tr.done
  ·simp only [go_sem] <;> rfl
  ·simp
 refine EvC.cond_false (by simp only [go_sem] <;> rfl) ?_
 refine EvC.skip ?_
 refine EvC.rg (by simp only [go_sem] <;> rfl) (by exact inI64_of (by omega) (by omega)) ?_
 exact ⟨[], i + 1, rfl, (by simp only [go_sem, Int.natCast_add, Int.natCast_one] <;> rfl), by omega, by omega⟩
theorem step89_is {a b : TR} (ha : a.r.length = a.w.length) (hb : b.r.length = b.w.length) (hl : a.w.length < 1000000 ∧ b.w.length < 1000000) (hs : ∀ k, k < a.w.length → k < b.w.length → a.w.take (k + 1) = b.w.take (k + 1) → a.r[k]? = b.r[k]?) : PureIs prog 89 [.ag (traceC a), .ag (traceC b)] (.sc (.int .i64 (-1))) := by
 refine PureIs.of (nv := 5) (hid := [5, 27, 40]) func89 rfl (by kernel_rfl) (by simp [ntmps89]) fun _ => ?_
 rw [ntmps89, results89]
 refine EvC.seq (EvC.rg (by simp only [go_sem, traceC] <;> rfl) (by simp) ?_)
 refine EvC.frzB 0 (by simp only [go_sem] <;> rfl) ?_
 refine EvC.frzB 1 (by simp only [go_sem] <;> rfl) ?_
 refine EvC.seq ?_
 refine EvC.seq (EvC.rg (by simp only [go_sem] <;> rfl) (by simp) ?_)
 refine EvC.block ?_
 refine EvC.loopS (σ := Nat) (fun i => ⟨[(2, .ia (traceC a)), (3, .ia (traceC b)), (5, .sc (.int .i64 i))], [], [], 0⟩) (fun i => a.w.length - i) (fun i => i ≤ a.w.length ∧ i ≤ b.w.length ∧ a.w.take i = b.w.take i) [2, 3, 5] 0 ?_ ?_
 ·exact ⟨[], 0, rfl, (by simp only [go_sem, traceC, Int.natCast_zero] <;> rfl), Nat.zero_le _, Nat.zero_le _, by simp⟩
 rintro i ⟨h1, h2, h3⟩
 have hiin : (i : Int).toNat = i := Int.toNat_natCast i
 refine EvC.seq ?_
 by_cases hi : i < a.w.length ∧ i < b.w.length
 rotate_left
 ·have dm : decide ((i : Int) < (if (a.w.length : Int) ≤ (b.w.length : Int) then (a.w.length : Int) else (b.w.length : Int))) = false := decide_eq_false (by split <;> omega)
  by_cases e1 : i < a.w.length
  ·have hx : a.w[i]? = some (a.w[i]'e1) := List.getElem?_eq_getElem e1
   have hy : b.w[i]? = none := List.getElem?_eq_none (by omega)
   apply EvC.seq
   apply EvC.drw mixed
   ·apply Tr.run
    ·simp only [go_sem, traceC, List.length_map, dm, List.getElem?_map, hx, hy, hiin, intC] <;> rfl
    ·simp
    apply Tr.cons
    ·exact .skipv (.ia [.sc (.int .i64 0)]) rfl rfl (by simp only [go_sem] <;> rfl) (by simp only [go_sem] <;> rfl)
    apply Tr.done
    ·simp only [go_sem, traceC, List.length_map, dm, List.getElem?_map, hx, hy, hiin, intC] <;> rfl
    ·simp
   ·kernel_rfl
   refine EvC.cond_false (by simp only [go_sem] <;> rfl) ?_
   refine EvC.exit ?_
   refine EvC.seq (EvC.rg (by simp only [go_sem] <;> rfl) (by simp) ?_)
   refine EvC.ret ⟨.inl rfl, _, (by simp only [go_sem] <;> rfl), ?_, rfl⟩
   simp only [go_sem]
  ·have hx : a.w[i]? = none := List.getElem?_eq_none (by omega)
   by_cases e2 : i < b.w.length
   ·have hy : b.w[i]? = some (b.w[i]'e2) := List.getElem?_eq_getElem e2
    apply EvC.seq
    apply EvC.drw mixed
    ·apply Tr.run
     ·simp only [go_sem, traceC, List.length_map, dm, List.getElem?_map, hx, hy, hiin, intC] <;> rfl
     ·simp
     apply Tr.cons
     ·exact .skipv (.ia [.sc (.int .i64 0)]) rfl rfl (by simp only [go_sem] <;> rfl) (by simp only [go_sem] <;> rfl)
     apply Tr.done
     ·simp only [go_sem, traceC, List.length_map, dm, List.getElem?_map, hx, hy, hiin, intC] <;> rfl
     ·simp
    ·kernel_rfl
    refine EvC.cond_false (by simp only [go_sem] <;> rfl) ?_
    refine EvC.exit ?_
    refine EvC.seq (EvC.rg (by simp only [go_sem] <;> rfl) (by simp) ?_)
    refine EvC.ret ⟨.inl rfl, _, (by simp only [go_sem] <;> rfl), ?_, rfl⟩
    simp only [go_sem]
   ·have hy : b.w[i]? = none := List.getElem?_eq_none (by omega)
    apply EvC.seq
    apply EvC.drw mixed
    ·apply Tr.run
     ·simp only [go_sem, traceC, List.length_map, dm, List.getElem?_map, hx, hy, hiin, intC] <;> rfl
     ·simp
     apply Tr.cons
     ·exact .skipv (.ia [.sc (.int .i64 0)]) rfl rfl (by simp only [go_sem] <;> rfl) (by simp only [go_sem] <;> rfl)
     apply Tr.run
     ·simp only [go_sem, traceC, List.length_map, dm, List.getElem?_map, hx, hy, hiin, intC] <;> rfl
     ·simp
     apply Tr.cons
     ·exact .skipv (.ia [.sc (.int .i64 0)]) rfl rfl (by simp only [go_sem] <;> rfl) (by simp only [go_sem] <;> rfl)
     apply Tr.done
     ·simp only [go_sem, traceC, List.length_map, dm, List.getElem?_map, hx, hy, hiin, intC] <;> rfl
     ·simp
    ·kernel_rfl
    refine EvC.cond_false (by simp only [go_sem] <;> rfl) ?_
    refine EvC.exit ?_
    refine EvC.seq (EvC.rg (by simp only [go_sem] <;> rfl) (by simp) ?_)
    refine EvC.ret ⟨.inl rfl, _, (by simp only [go_sem] <;> rfl), ?_, rfl⟩
    simp only [go_sem]
 have dm : decide ((i : Int) < (if (a.w.length : Int) ≤ (b.w.length : Int) then (a.w.length : Int) else (b.w.length : Int))) = true := decide_eq_true (by split <;> omega)
 have ga : a.w[i]? = some (a.w[i]'hi.1) := List.getElem?_eq_getElem hi.1
 have gb : b.w[i]? = some (b.w[i]'hi.2) := List.getElem?_eq_getElem hi.2
 have gra : a.r[i]? = some (a.r[i]'(by omega)) := List.getElem?_eq_getElem (by omega)
 have hs := hs i hi.1 hi.2
 rw [gra] at hs
 have hta : a.w.take (i + 1) = a.w.take i ++ [a.w[i]'hi.1] := by rw [List.take_succ, ga]; rfl
 have htb : b.w.take (i + 1) = b.w.take i ++ [b.w[i]'hi.2] := by rw [List.take_succ, gb]; rfl
 generalize a.w[i]'hi.1 = x at ga hta
 generalize b.w[i]'hi.2 = y at gb htb
 generalize a.r[i]'(by omega) = z at gra hs
 apply EvC.seq
 apply EvC.drd mixed
 ·simp only [go_sem, traceC, ga, gb, hiin, intC, List.length_map, dm] <;> rfl
 ·simp; try omega
 ·kernel_rfl
 by_cases hxy : x = y
 rotate_left
 ·refine EvC.cond_false (by simp only [go_sem, decide_eq_false hxy] <;> rfl) ?_
  refine EvC.exit ?_
  refine EvC.seq (EvC.rg (by simp only [go_sem] <;> rfl) (by simp) ?_)
  refine EvC.ret ⟨.inl rfl, _, (by simp only [go_sem] <;> rfl), ?_, rfl⟩
  simp only [go_sem]
 have hz := hs (by rw [hta, htb, h3, hxy])
 refine EvC.cond_true (by simp only [go_sem, decide_eq_true hxy] <;> rfl) ?_
 refine EvC.skip ?_
 refine EvC.seq ?_
 refine EvC.block ?_
 apply EvC.seq
 apply EvC.drd mixed
 ·simp only [go_sem, traceC, gra, hz.symm, hiin, intC, List.length_map] <;> rfl
 ·simp; try omega
 ·kernel_rfl
 refine EvC.cond_false (by simp only [go_sem] <;> rfl) ?_
 refine EvC.skip ?_
 refine EvC.rg (by simp only [go_sem] <;> rfl) (by exact inI64_of (by omega) (by omega)) ?_
 exact ⟨[], i + 1, rfl, (by simp only [go_sem, traceC, Int.natCast_add, Int.natCast_one] <;> rfl), ⟨by omega, by omega, by rw [hta, htb, h3, hxy]⟩, by omega⟩
theorem contra79_is {ins : Nat} {outs : Int} {L : List TR} (h : LogOk ins outs L) (hc : Cons L) : PureIs prog 79 [logA ins outs L] (.tu [.ag [.sc (.int .i64 0), .sc (.int .i64 0), .sc (.int .i64 0)], .sc (.bool false), .sc (.int .i64 0)]) := by
 have h1 := h.len
 have hK := check88_is h
 unfold logA at hK ⊢
 refine PureIs.of (nv := 3) (hid := [3, 4, 5, 6, 7, 8, 9, 10, 2, 14, 18, 19, 20, 21, 28, 29, 30, 31, 39]) func79 rfl (by kernel_rfl) (by simp [ntmps79]) fun _ => ?_
 rw [ntmps79, results79]
 refine EvC.seq (EvC.rg (by simp only [go_sem] <;> rfl) (by simp) ?_)
 refine EvC.frzB 0 (by simp only [go_sem] <;> rfl) ?_
 refine EvC.seq ?_
 apply EvC.seq
 apply EvC.tr
 ·apply Tr.run
  ·simp only [go_sem] <;> rfl
  ·simp
  apply Tr.cons
  ·exact .call rfl rfl (by simp only [go_sem] <;> rfl) (by simp only [go_sem] <;> rfl) (by simp only [go_sem] <;> rfl) (by simp only [go_sem] <;> rfl) (by simp only [go_sem] <;> rfl) (hK)
  apply Tr.done
  ·simp only [go_sem] <;> rfl
  ·simp
 refine EvC.seq (EvC.rg (by simp only [go_sem] <;> rfl) (by simp) ?_)
 refine EvC.cond_false (by simp only [go_sem] <;> rfl) ?_
 refine EvC.skip ?_
 refine EvC.seq ?_
 refine EvC.seq (EvC.rg (by simp only [go_sem] <;> rfl) (by simp) ?_)
 refine EvC.block ?_
 refine EvC.loopS (σ := Nat) (fun i => ⟨[(1, .ia [.sc (.int .i64 ins), .sc (.int .i64 outs), .sl L.isEmpty (L.map traceC) .unk]), (2, .rf 0 0), (18, .sl L.isEmpty (L.map traceC) .unk), (19, .sc (.int .i64 L.length)), (20, .sc (.int .i64 i))], [], [(0, .cells [.sc (.int .i64 0), .sc (.int .i64 0), .sc (.int .i64 0)])], 1⟩) (fun i => L.length - i) (fun i => i ≤ L.length) [1, 2, 18, 19, 20] 1 ?_ ?_
 ·exact ⟨[(1, 0)], 0, rfl, (by simp only [go_sem, List.length_map, Int.natCast_zero] <;> rfl), Nat.zero_le _⟩
 intro i hi
 have hiin : (i : Int).toNat = i := Int.toNat_natCast i
 refine EvC.seq (EvC.rg (by simp only [go_sem] <;> rfl) (by simp) ?_)
 refine EvC.seq ?_
 refine EvC.cond (by simp only [go_sem] <;> rfl) (fun hc => ?_) (fun hc => ?_)
 rotate_left
 ·
  refine EvC.exit ?_
  refine EvC.seq (EvC.rg (by simp only [go_sem] <;> rfl) (by simp) ?_)
  refine EvC.ret ⟨.inl rfl, _, (by simp only [go_sem] <;> rfl), ?_, rfl⟩
  simp only [go_sem]
  all_goals rfl
 have hil : i < L.length := by simpa using hc
 clear hc
 have he : L[i]? = some (L[i]'hil) := List.getElem?_eq_getElem hil
 have htm := List.getElem_mem hil
 generalize L[i]'hil = t at he htm
 refine EvC.skip ?_
 refine EvC.seq ?_
 refine EvC.block ?_
 refine EvC.seq (EvC.rg (by simp only [go_sem, he, hiin, traceC, List.length_map] <;> rfl) (by simp; try omega) ?_)
 refine EvC.frzB 5 (by simp only [go_sem] <;> rfl) ?_
 have hmt : (L.map traceC).take i = (L.take i).map traceC := (List.map_take ..).symm
 have hml : ((L.take i).map traceC).length = i := by rw [List.length_map, List.length_take]; omega
 refine EvC.seq (EvC.rg (by simp only [go_sem, hmt, hml, hiin, List.length_map] <;> rfl) (by simp; exact ⟨fun _ _ => rfl, by omega⟩) ?_)
 refine EvC.block ?_
 refine EvC.loopS (σ := Nat) (fun j => ⟨[(1, .ia [.sc (.int .i64 ins), .sc (.int .i64 outs), .sl L.isEmpty (L.map traceC) .unk]), (2, .rf 0 0), (6, .sc (.int .i64 i)), (7, .ia (traceC t)), (18, .sl L.isEmpty (L.map traceC) .unk), (19, .sc (.int .i64 L.length)), (20, .sc (.int .i64 i)), (28, .sl L.isEmpty ((L.take i).map traceC) .unk), (29, .sc (.int .i64 i)), (30, .sc (.int .i64 j))], [], [(0, .cells [.sc (.int .i64 0), .sc (.int .i64 0), .sc (.int .i64 0)])], 1⟩) (fun j => i - j) (fun j => j ≤ i) [1, 2, 6, 7, 18, 19, 20, 28, 29, 30] 1 ?_ ?_
 ·exact ⟨[(0, 0)], 0, rfl, (by simp only [go_sem, traceC, hml, Int.natCast_zero] <;> rfl), Nat.zero_le _⟩
 intro j hj
 have hjin : (j : Int).toNat = j := Int.toNat_natCast j
 refine EvC.seq (EvC.rg (by simp only [go_sem] <;> rfl) (by simp) ?_)
 refine EvC.seq ?_
 refine EvC.cond (by simp only [go_sem] <;> rfl) (fun hc => ?_) (fun hc => ?_)
 rotate_left
 ·
  refine EvC.exit ?_
  refine EvC.rg (by simp only [go_sem] <;> rfl) (by exact inI64_of (by omega) (by omega)) ?_
  exact ⟨[(0, 0)], i + 1, rfl, (by simp only [go_sem, Int.natCast_add, Int.natCast_one] <;> rfl), by omega, by omega⟩
 have hji : j < i := by simpa using hc
 clear hc
 have hg : L[j]? = some (L[j]'(by omega)) := List.getElem?_eq_getElem (by omega)
 have hum := List.getElem_mem (l := L) (show j < L.length by omega)
 generalize L[j]'(by omega) = u at hg hum
 have hgt : ((L.take i).map traceC)[j]? = some (traceC u) := by rw [List.getElem?_map, List.getElem?_take, if_pos hji, hg]; rfl
 have v1 := h.val u hum
 have v2 := h.val t htm
 have hS := step89_is (a := u) (b := t) v1.len v2.len ⟨by have := h.short u hum; omega, by have := h.short t htm; omega⟩ (fun k k1 k2 hk => by
  have hw : (u.w.take (k + 1)) ≠ [] := by intro hh; have := congrArg List.length hh; rw [List.length_take, List.length_nil] at this; omega
  have := hc u hum t htm (u.w.take (k + 1)) hw (hasW_take u (k + 1)) (by rw [hk]; exact hasW_take t (k + 1))
  rw [show (u.w.take (k + 1)).length - 1 = k by rw [List.length_take]; omega] at this
  have g1 : u.r[k]? = some (u.r[k]'(by rw [v1.len]; exact k1)) := List.getElem?_eq_getElem (by rw [v1.len]; exact k1)
  have g2 : t.r[k]? = some (t.r[k]'(by rw [v2.len]; exact k2)) := List.getElem?_eq_getElem (by rw [v2.len]; exact k2)
  rw [g1, g2] at this ⊢
  simpa using this)
 unfold traceC at hS
 refine EvC.skip ?_
 refine EvC.seq ?_
 refine EvC.block ?_
 refine EvC.seq (EvC.rg (by simp only [go_sem, hgt, hjin, hml, traceC] <;> rfl) (by simp; try omega) ?_)
 refine EvC.frzB 5 (by simp only [go_sem] <;> rfl) ?_
 apply EvC.seq
 apply EvC.tr
 ·apply Tr.run
  ·simp only [go_sem, traceC] <;> rfl
  ·simp
  apply Tr.cons
  ·exact .call rfl rfl (by simp only [go_sem] <;> rfl) (by simp only [go_sem] <;> rfl) (by simp only [go_sem] <;> rfl) (by simp only [go_sem] <;> rfl) (by simp only [go_sem] <;> rfl) (hS)
  apply Tr.done
  ·simp only [go_sem] <;> rfl
  ·simp
 refine EvC.seq (EvC.rg (by simp only [go_sem] <;> rfl) (by simp) ?_)
 refine EvC.cond_false (by simp only [go_sem] <;> rfl) ?_
 refine EvC.skip ?_
 refine EvC.rg (by simp only [go_sem] <;> rfl) (by exact inI64_of (by omega) (by omega)) ?_
 exact ⟨[(0, 0)], j + 1, rfl, (by simp only [go_sem, traceC, Int.natCast_add, Int.natCast_one] <;> rfl), by omega, by omega⟩
end Go.Avl
namespace Go.Avl
open Go Go.Proofs.Try
set_option maxRecDepth 10000
set_option linter.unusedSimpArgs false
theorem insN_len (N : List (List Int)) (t : TR) : ∀ k, (insN N t k).length ≤ N.length + k
 | 0 => Nat.le_refl _
 | k + 1 => by
   have := insN_len N t k
   rw [insN_succ]
   split
   ·omega
   ·rw [List.length_append]; simp; omega
theorem rawN_sum {ins : Nat} {outs : Int} {L : List TR} (hv : ∀ t ∈ L, TrVal ins outs t) : ∀ k, k ≤ L.length → (rawN (L.take k)).length ≤ 1 + sumW (L.take k)
 | 0, _ => by simp [rawN, sumW]
 | k + 1, h => by
   have ih := rawN_sum hv k (by omega)
   have hx : L[k]? = some (L[k]'h) := List.getElem?_eq_getElem h
   have hs := sumW_next hx
   rw [List.take_succ, hx, Option.toList_some, rawN_snoc]
   rw [List.take_succ, hx, Option.toList_some] at hs
   have h1 := insN_len (rawN (L.take k)) (L[k]'h) (preN (L[k]'h).r)
   have h2 := preN_le (L[k]'h).r
   have h3 := (hv _ (List.getElem_mem h)).len
   omega
theorem rawS_at {ins : Nat} {outs : Int} {L : List TR} (hv : ∀ t ∈ L, TrVal ins outs t) (hc : Cons L) {k : Nat} {t : TR} (h : L[k]? = some t) : RawS ins outs (L.take k) t ∧ L.take (k + 1) = L.take k ++ [t] := by
 have e : L.take (k + 1) = L.take k ++ [t] := by rw [List.take_succ, h]; rfl
 have hs : ∀ u ∈ L.take k ++ [t], u ∈ L := fun u hu => by rw [← e] at hu; exact List.mem_of_mem_take hu
 exact ⟨⟨fun u hu => hv u (hs u hu), fun u hu u2 hu2 => hc u (hs u hu) u2 (hs u2 hu2)⟩, e⟩
theorem osegK_okT {base nx n : Nat} {A : List (Nat × Nat)} (hA : gcOk base nx A = true) (h1 : (A.all fun p => notO p.1) = true) (h2 : (A.all fun p => notO p.2) = true) (hn : n ≤ 1000000) (hx : 2000000 + n ≤ nx) : gcOk base nx (osegK A n []) = true := by
 have hb := gcOk_base hA
 have key : ∀ m, m ≤ n → gcOk base nx (oK m) = true := by
  intro m
  induction m with
  | zero => intro _; simp [oK, gcOk, hb]
  | succ m ih =>
    intro hm
    rw [oK_succ]
    refine gcOk_append (ih (by omega)) ?_ fun p hp => ?_
    ·simp [gcOk, blook, rlook, hb]; omega
    ·obtain ⟨i, hi, rfl⟩ := mem_oK hp
     have hne : ¬ 2000000 + i = 2000000 + m := by omega
     simp only [blook, rlook, if_neg hne]
     exact ⟨trivial, trivial⟩
 rw [osegK, List.append_nil]
 refine gcOk_append hA (key n (Nat.le_refl _)) fun p hp => ?_
 rw [List.all_eq_true] at h1 h2
 have a1 := h1 p hp
 have a2 := h2 p hp
 unfold notO at a1 a2
 simp at a1 a2
 rw [blook_oK, rlook_oK, if_neg (by omega), if_neg (by omega)]; exact ⟨rfl, rfl⟩
set_option maxHeartbeats 8000000 in
theorem tree67_is {ins : Nat} {outs : Int} {L : List TR} (h : LogOk ins outs L) (hc' : Cons L) : PureIs prog 67 [logA ins outs L] (.tu [.ag (treeM ins outs L).cells, .sc (.int .i64 0)]) := by
 have hK := contra79_is h hc'
 have hI := h.inb
 have hv := h.val
 have hsum := h.sum
 have hll := h.len
 have hNs := fun k hk => rawN_sum hv k hk
 have hNt := fun k => sumW_take L k
 have hrow := row81_new hI
 unfold logA at hK ⊢
 refine PureIs.of (nv := 4) (hid := [5, 6, 7, 8, 10, 21, 30, 33, 34, 35, 36, 39, 40]) func67 rfl (by kernel_rfl) (by simp [ntmps67]) fun _ => ?_
 rw [ntmps67, results67]
 refine EvC.seq (EvC.rg (by simp only [go_sem] <;> rfl) (by simp) ?_)
 refine EvC.frzB 0 (by simp only [go_sem] <;> rfl) ?_
 refine EvC.seq ?_
 apply EvC.seq
 apply EvC.tr
 ·apply Tr.run
  ·simp only [go_sem] <;> rfl
  ·simp
  apply Tr.cons
  ·exact .call rfl rfl (by simp only [go_sem] <;> rfl) (by simp only [go_sem] <;> rfl) (by simp only [go_sem] <;> rfl) (by simp only [go_sem] <;> rfl) (by simp only [go_sem] <;> rfl) (hK)
  apply Tr.done
  ·simp only [go_sem] <;> rfl
  ·simp
 apply EvC.seq
 apply EvC.trd
 ·simp only [go_sem] <;> rfl
 ·simp
 refine EvC.cond_false (by simp only [go_sem] <;> rfl) ?_
 refine EvC.skip ?_
 apply EvC.seq
 apply EvC.tr
 ·apply Tr.run
  ·simp only [go_sem] <;> rfl
  ·simp
  apply Tr.cons
  ·exact .callN rfl rfl (by simp only [go_sem] <;> rfl) (by simp only [go_sem] <;> rfl) (by simp only [go_sem] <;> rfl) (by simp only [go_sem] <;> rfl) (by simp only [go_sem] <;> rfl) hrow
  apply Tr.done
  ·simp only [go_sem, List.length_replicate] <;> rfl
  ·simp
 refine EvC.seq (EvC.rg (by simp only [go_sem] <;> rfl) (by simp) ?_)
 refine EvC.seq ?_
 refine EvC.seq (EvC.rg (by simp only [go_sem, List.length_map] <;> rfl) (by simp) ?_)
 refine EvC.block ?_
 have hnr0 : (List.replicate ins (edgeC (-1, -1))).all AV.norefs = true := by simp [List.all_eq_true, edgeC, AV.norefs, AV.noref]
 refine EvC.loopS (σ := Nat × (Nat → Nat → Int × Int)) (fun g => ⟨[(1, .ia [.sc (.int .i64 ins), .sc (.int .i64 outs), .sl L.isEmpty (L.map traceC) .unk]), (2, .rf 1000100 0), (7, .rf 1000200 0), (8, .fn 82 [.rf 1000200 0, .ia [.sc (.int .i64 ins), .sc (.int .i64 outs), .sl L.isEmpty (L.map traceC) .unk]]), (33, .sl L.isEmpty (L.map traceC) .unk), (34, .sc (.int .i64 L.length)), (35, .sc (.int .i64 g.1))], [], enterM ins (rawN (L.take g.1)).length g.2, 3000000⟩) (fun g => L.length - g.1)
  (fun g => g.1 ≤ L.length ∧ ∀ s j, s < (rawN (L.take g.1)).length → j < ins → g.2 s j = rawW (L.take g.1) (rawN (L.take g.1)) s j) [1, 2, 7, 8, 33, 34, 35] 3000000 ?_ ?_
 ·refine ⟨[(1, 1000100), (22, 1000200), (21, 1000201), (20, 2000000)], (0, fun _ _ => (-1, -1)), rfl, ?_, Nat.zero_le _, fun s j _ _ => rfl⟩
  have hg : List.replicate ins (edgeC (-1, -1)) = gcells edgeC (fun _ => (-1, -1)) ins := by rw [gcells_const]
  have h0 : (rawN (L.take 0)).length = 1 := rfl
  rw [hg] at hnr0 ⊢
  simp only [h0]
  unfold enterM
  have ho : ocell ins 1 = [[.tl 2000000 ins false]] := rfl
  have ht : otab 2 edgeC (fun _ _ => (-1, -1)) 1 ins = [(2000000, .arr 2 (gcells edgeC (fun _ => (-1, -1)) ins) false)] := rfl
  rw [ho, ht]
  simp only [go_sem, hnr0, Int.natCast_zero] <;> rfl
 rintro ⟨k, W⟩ ⟨h1, h2⟩
 simp only at h1 h2 ⊢
 have hkin : (k : Int).toNat = k := Int.toNat_natCast k
 obtain ⟨n, hn⟩ : ∃ n, n = (rawN (L.take k)).length := ⟨_, rfl⟩
 have hn7 : n ≤ 65537 := by have := hNs k h1; have := hNt k; omega
 rw [← hn] at h2 ⊢
 have hn1 : n ≤ 1000000 := by omega
 have hoc := ocell_len ins n
 unfold enterM
 refine EvC.seq (EvC.rg (by simp only [go_sem] <;> rfl) (by simp) ?_)
 refine EvC.seq ?_
 refine EvC.cond (by simp only [go_sem] <;> rfl) (fun hc => ?_) (fun hc => ?_)
 rotate_left
 ·
  have hk : k = L.length := by have : ¬ k < L.length := by simpa using hc
                               omega
  refine EvC.exit ?_
  have hLk : L.take k = L := by rw [hk, List.take_length]
  rw [hLk] at hn h2
  have hnum := numbered83_is hv hc' hI (by have := rawN_len L; omega) W (by rw [← hn]; exact h2) .unk
  rw [← hn] at hnum
  refine EvC.ofzAll n (fun i hi => ⟨2, gcells edgeC (W i) ins, false, by simp only [mlook, o_ne (show i < 1000000 by omega), if_false, otab_look 2 edgeC W hi, go_sem], gcells_norefs norefs_edgeC _ _⟩) ?_
  have hfz := otab_fz 2 edgeC W n ins
  obtain ⟨MM, hMM⟩ : ∃ MM : Mem, MM = (1000100, .cells [.sc (.int .i64 0), .sc (.int .i64 0), .sl true [] .zer]) :: (1000200, .cells [.tl 1000201 n false]) :: (1000201, .arr 1 (ocell ins n) false) :: otabF 2 edgeC W n ins := ⟨_, rfl⟩
  have hsn : (ocell ins n).map (fun c => c.map (AV.deep (snap MM))) = rowsV W n ins := ocell_snap (e := 2) (row := fun s => gcells edgeC (W s) ins) (fun s hs => by
   rw [hMM]
   simp only [mlook, o_ne (show s < 1000000 by omega), if_false, otabF_look 2 edgeC W hs, go_sem]) (fun s _ => gcells_len _ _ _)
  rw [hMM] at hsn
  have hvl := rowsV_len W n ins
  have hvn : (rowsV W n ins).all AV.norefs = true := by simp [rowsV, List.all_eq_true, AV.norefs, AV.noref]
  have hmF : ∀ f, memMap f (otabF 2 edgeC W n ins) = otabF 2 edgeC W n ins := fun f => by rw [otabF, memMap_msegA, List.map_map]; rfl
  refine EvC.snapA 1000201 (by simp only [go_sem, ofzAll_cons hn1, hfz, hsn] <;> rfl) ?_
  refine EvC.frzD 1000201 (by simp only [go_sem, hvn, hvl, hmF] <;> rfl) ?_
  apply EvC.seq
  apply EvC.drwA mixed
  ·apply Tr.run
   ·simp only [go_sem] <;> rfl
   ·simp
   apply Tr.cons
   ·exact .call rfl rfl (by simp only [go_sem] <;> rfl) (by simp only [go_sem] <;> rfl) (by simp only [go_sem] <;> rfl) (by simp only [go_sem] <;> rfl) (by simp only [go_sem] <;> rfl) hnum
   apply Tr.done
   ·simp only [go_sem] <;> rfl
   ·simp
  ·kernel_rfl
  refine EvC.ret ⟨.inl rfl, _, (by simp only [go_sem] <;> rfl), ?_, ?_⟩
  ·rfl
  ·rfl
 have hkl : k < L.length := by simpa using hc
 clear hc
 refine EvC.skip ?_
 refine EvC.seq ?_
 refine EvC.block ?_
 have hLk : L[k]? = some (L[k]'hkl) := List.getElem?_eq_getElem hkl
 obtain ⟨t, ht⟩ : ∃ t, t = L[k]'hkl := ⟨_, rfl⟩
 rw [← ht] at hLk
 obtain ⟨hS, hLk1⟩ := rawS_at hv hc' hLk
 have htw := h.short t (List.mem_of_getElem? hLk)
 have hgt : (L.map traceC)[k]? = some (traceC t) := by rw [List.getElem?_map, hLk]; rfl
 refine EvC.seq (EvC.rg (by simp only [go_sem, hgt, hkin, List.length_map, traceC] <;> rfl) (by simp; try omega) ?_)
 have hmd3 := mdel_otab 2 edgeC W (m := ins) hn1 3000003 rfl
 have hon3 : ∀ k, notO k = true → mlook (otab 2 edgeC W n ins) k = none := fun k hk => otab_none 2 edgeC W hn1 k hk
 refine EvC.frzB 3000003 (by simp only [go_sem, hmd3] <;> rfl) ?_
 apply EvC.rs
 ·simp only [go_sem] <;> rfl
 ·simp
 refine XR.gcTo ⟨[(1, .ia [.sc (.int .i64 ins), .sc (.int .i64 outs), .sl L.isEmpty (L.map traceC) .unk]), (2, .rf 1000100 0), (7, .rf 1000200 0), (8, .fn 82 [.rf 1000200 0, .ia [.sc (.int .i64 ins), .sc (.int .i64 outs), .sl L.isEmpty (L.map traceC) .unk]]), (33, .sl L.isEmpty (L.map traceC) .unk), (34, .sc (.int .i64 L.length)), (35, .sc (.int .i64 k)), (39, .fn 82 [.rf 1000200 0, .ia [.sc (.int .i64 ins), .sc (.int .i64 outs), .sl L.isEmpty (L.map traceC) .unk]]), (40, .ag (traceC t))], [], enterM ins n W, 2000000 + n⟩ [1, 2, 7, 8, 33, 34, 35, 39, 40] (enterK n) ?_ ?_ ?_
 ·exact osegK_okT (by simp [gcOk, enterA, blook, rlook]; omega) rfl rfl hn1 (Nat.le_refl _)
 ·have hlo : ∀ q, q < n → rlook (enterK n) (2000000 + q) = some (2000000 + q) := fun q hq => rlook_osegK_lo hq hn1 (A := enterA) rfl
  have hhi : ∀ q, notO q = true → rlook (enterK n) q = rlook enterA q := fun q hq => by rw [enterK, rlook_osegK_hi hn1 _ _ _ hq, List.append_nil]
  unfold enterM
  unfold enterK enterA at hlo hhi ⊢
  simp only [go_sem, hhi, traceC, List.cons_append, List.nil_append, List.append_nil, renMem_oK_cons hn1, otab_ren 2 norefs_edgeC, ocell_ren hlo, ite_self] <;> rfl
 apply XR.callI rfl rfl (by simp only [go_sem] <;> rfl) (by simp only [go_sem] <;> rfl) (by simp only [go_sem] <;> rfl)
 have hlen7 : (rawN (L.take k ++ [t])).length ≤ 70000 := by
  have h3 := hNs (k + 1) hkl
  have h4 := hNt (k + 1)
  rw [hLk1] at h3 h4
  omega
 have hnk := hn
 rw [hn]
 refine enter82_body hS hI hlen7 htw [.sc (.int .i64 outs), .sl L.isEmpty (L.map traceC) .unk] outs W (by rw [← hn]; exact h2) ?_
 intro W' nx' hnx hW'
 apply XR.done
 ·simp only [go_sem] <;> rfl
 ·simp
 refine EvC.rg (by simp only [go_sem] <;> rfl) (by exact inI64_of (by omega) (by omega)) ?_
 rw [← hLk1] at hW' ⊢
 obtain ⟨n2, hn2⟩ : ∃ n2, n2 = (rawN (L.take (k + 1))).length := ⟨_, rfl⟩
 have hn27 : n2 ≤ 65537 := by have := hNs (k + 1) hkl; have := hNt (k + 1); omega
 have hn21 : n2 ≤ 1000000 := by omega
 refine ⟨enterK n2, (k + 1, W'), osegK_ok (A := enterA) (by simp [gcOk, enterA, blook, rlook]) rfl rfl hn21 (Nat.le_refl _), ?_, ⟨hkl, hW'⟩, by simp only; omega⟩
 simp only
 rw [← hn2]
 have hlo : ∀ q, q < n2 → rlook (enterK n2) (2000000 + q) = some (2000000 + q) := fun q hq => rlook_osegK_lo hq hn21 (A := enterA) rfl
 have hhi : ∀ q, notO q = true → rlook (enterK n2) q = rlook enterA q := fun q hq => by rw [enterK, rlook_osegK_hi hn21 _ _ _ hq, List.append_nil]
 unfold enterM
 unfold enterK enterA at hlo hhi ⊢
 simp only [go_sem, hhi, traceC, List.cons_append, List.nil_append, List.append_nil, renMem_oK_cons hn21, otab_ren 2 norefs_edgeC, ocell_ren hlo, ite_self, Int.natCast_add, Int.natCast_one] <;> rfl
end Go.Avl
namespace Go.Avl
open Go Go.Proofs.Try
set_option maxRecDepth 10000
set_option linter.unusedSimpArgs false
def apT (i : Nat) (a o : Int) : TR := ⟨List.replicate i 0 ++ [a], List.replicate i 0 ++ [o]⟩
def apartL (n : Nat) : List TR := (List.range n).flatMap fun i => [apT i 1 ((i % 16 : Nat) : Int), apT i 2 ((i / 16 : Nat) : Int)]
theorem apartL_succ (n : Nat) : apartL (n + 1) = (apartL n ++ [apT n 1 ((n % 16 : Nat) : Int)]) ++ [apT n 2 ((n / 16 : Nat) : Int)] := by
 unfold apartL
 rw [List.range_succ, List.flatMap_append, List.flatMap_singleton, List.append_assoc]; rfl
theorem apartL_len : ∀ n, (apartL n).length = 2 * n
 | 0 => rfl
 | n + 1 => by rw [apartL_succ, List.length_append, List.length_append, apartL_len n]; simp; omega
theorem apT_cells (i : Nat) (a o : Int) : traceC (apT i a o) = [.sl false (List.replicate i [.sc (.int .i64 0)] ++ [[.sc (.int .i64 a)]]) .unk, .sl false (List.replicate i [.sc (.int .i64 0)] ++ [[.sc (.int .i64 o)]]) .unk] := by
 unfold traceC apT
 simp [intC]
theorem rep_set (i : Nat) (c d : List AV) : (List.replicate (i + 1) c).set i d = List.replicate i c ++ [d] := by
 rw [List.replicate_succ', List.set_append_right _ _ (by simp), List.length_replicate, Nat.sub_self, List.set_cons_zero]
set_option maxHeartbeats 8000000 in
theorem apart35_is {n : Nat} (hn : n ≤ 65) (hlog : LogOk 3 16 (apartL n)) (hcons : Cons (apartL n)) : PureIs prog 35 [.sc (.int .i64 n)] (.ag (treeM 3 16 (apartL n)).cells) := by
 have hT := tree67_is hlog hcons
 rw [Mach.cells] at hT ⊢
 unfold logA at hT
 refine PureIs.of (nv := 3) (hid := [3, 4, 5, 6, 7, 8, 12]) func35 rfl (by kernel_rfl) (by simp [ntmps35]) fun _ => ?_
 rw [ntmps35, results35]
 refine EvC.seq (EvC.rg (by simp only [go_sem] <;> rfl) (by simp) ?_)
 refine EvC.seq (EvC.rg (by simp only [go_sem] <;> rfl) (by simp) ?_)
 refine EvC.seq ?_
 refine EvC.seq (EvC.rg (by simp only [go_sem] <;> rfl) (by simp) ?_)
 refine EvC.ownC 2 2 2 (by simp only [go_sem] <;> rfl) ?_
 refine EvC.block ?_
 refine EvC.loopS (σ := Nat) (fun i => ⟨[(0, .sc (.int .i64 n)), (2, .rf 0 0), (3, .rf 1 0), (4, .sc (.int .i64 i))], [],
   [(0, .cells [.sc (.int .i64 0), .sc (.int .i64 0), .sl true [] .zer]), (1, .cells [.sc (.int .i64 3), .sc (.int .i64 16), .tl 2 (apartL i).length ((apartL i).length == 0)]), (2, .arr 2 ((apartL i).map traceC) true)], 3⟩) (fun i => n - i)
  (fun i => i ≤ n) [0, 2, 3, 4] 3 ?_ ?_
 ·exact ⟨[(0, 0), (2, 1), (5, 2)], 0, rfl, (by simp only [go_sem, Int.natCast_zero, List.take_zero, List.map_nil, apartL, List.range_zero, List.flatMap_nil, List.length_nil] <;> rfl), Nat.zero_le _⟩
 intro i hi
 have hiin : (i : Int).toNat = i := Int.toNat_natCast i
 have hal := apartL_len i
 have hal2 : ((apartL i).map traceC).length = (apartL i).length := List.length_map _
 refine EvC.seq ?_
 refine EvC.seq (EvC.rg (by simp only [go_sem] <;> rfl) (by simp) ?_)
 refine EvC.cond (by simp only [go_sem] <;> rfl) (fun hc => ?_) (fun hc => ?_)
 rotate_left
 ·
  have hie : i = n := by have : ¬ i < n := by simpa using hc
                         omega
  refine EvC.exit ?_
  refine EvC.frzD 2 (by simp only [go_sem, hal2] <;> rfl) ?_
  have hem : ((apartL i).length == 0) = (apartL i).isEmpty := by cases apartL i <;> rfl
  rw [hem, hie]
  apply EvC.seq
  apply EvC.tr
  ·apply Tr.run
   ·simp only [go_sem] <;> rfl
   ·simp
   apply Tr.cons
   ·exact .call rfl rfl (by simp only [go_sem] <;> rfl) (by simp only [go_sem] <;> rfl) (by simp only [go_sem] <;> rfl) (by simp only [go_sem] <;> rfl) (by simp only [go_sem] <;> rfl) (hT)
   apply Tr.done
   ·simp only [go_sem] <;> rfl
   ·simp
  refine EvC.frzB 11 (by simp only [go_sem] <;> rfl) ?_
  refine EvC.seq (EvC.rg (by simp only [go_sem] <;> rfl) (by simp) ?_)
  refine EvC.ret ⟨.inl rfl, _, (by simp only [go_sem] <;> rfl), ?_, rfl⟩
  simp only [go_sem]
 have hin : i < n := by simpa using hc
 clear hc
 refine EvC.skip ?_
 refine EvC.seq ?_
 refine EvC.block ?_
 obtain ⟨m, hm⟩ : ∃ m, m = i + 1 := ⟨_, rfl⟩
 have hi1 : ((i : Int) + 1).toNat = m := by omega
 have h64 : inI64 ((i : Int) + 1) = true := inI64_of (by omega) (by omega)
 have hrl := List.length_replicate (n := m) (a := [AV.sc (.int .i64 0)])
 have hrg : (List.replicate m [AV.sc (.int .i64 0)])[i]? = some [.sc (.int .i64 0)] := by rw [List.getElem?_replicate, if_pos (by omega)]
 have hrs : ∀ d, (List.replicate m [AV.sc (.int .i64 0)]).set i d = List.replicate i [AV.sc (.int .i64 0)] ++ [d] := fun d => by rw [hm]; exact rep_set i [AV.sc (.int .i64 0)] d
 refine EvC.seq (EvC.rg (by simp only [go_sem, hi1] <;> rfl) (by simp [room_eq, h64]; omega) ?_)
 refine EvC.seq (EvC.rg (by simp only [go_sem, hi1] <;> rfl) (by simp [room_eq, h64]; omega) ?_)
 refine EvC.seq (EvC.rg (by simp only [go_sem, hrl, hrg, hrs, hiin] <;> rfl) (by simp; try omega) ?_)
 refine EvC.seq (EvC.rg (by simp only [go_sem, hrl, hrg, hrs, hiin] <;> rfl) (by simp; try omega) ?_)
 have hl8 : ∀ d, (List.replicate i [AV.sc (.int .i64 0)] ++ [[d]]).length = m := fun d => by simp [hm]
 have hn8 : (List.replicate i [AV.sc (.int .i64 0)]).all AV.norefs = true := by simp [List.all_eq_true, AV.norefs, AV.noref]
 refine EvC.frz 8 (by simp only [go_sem, hl8, hn8] <;> rfl) ?_
 refine EvC.frz 12 (by simp only [go_sem, hl8, hn8] <;> rfl) ?_
 refine EvC.seq (EvC.rg (by simp only [go_sem, hal2] <;> rfl) (by simp [room_eq, hal]; omega) ?_)
 refine EvC.seq (EvC.rg (by simp only [go_sem, hi1] <;> rfl) (by simp [room_eq, h64]; omega) ?_)
 refine EvC.seq (EvC.rg (by simp only [go_sem, hi1] <;> rfl) (by simp [room_eq, h64]; omega) ?_)
 refine EvC.seq (EvC.rg (by simp only [go_sem, hrl, hrg, hrs, hiin] <;> rfl) (by simp; try omega) ?_)
 have h65 : inI64 ((i : Int) / 16) = true := inI64_of (by omega) (by omega)
 refine EvC.seq (EvC.rg (by simp only [go_sem, hrl, hrg, hrs, hiin] <;> rfl) (by simp [h65]; try omega) ?_)
 refine EvC.frz 35 (by simp only [go_sem, hl8, hn8] <;> rfl) ?_
 refine EvC.frz 39 (by simp only [go_sem, hl8, hn8] <;> rfl) ?_
 have hal3 : ∀ l : List AV, ((apartL i).map traceC ++ [l]).length = (apartL i).length + 1 := fun l => by simp
 refine EvC.rg (by simp only [go_sem, hal2, hal3] <;> rfl) (by simp [room_eq, hal]; omega) ?_
 refine EvC.rg (by simp only [go_sem] <;> rfl) (by exact h64) ?_
 have hsu := apartL_succ i
 have hsl := congrArg List.length hsu
 rw [List.length_append, List.length_append, List.length_singleton, List.length_singleton] at hsl
 have hsm := congrArg (List.map traceC) hsu
 rw [List.map_append, List.map_append, List.map_singleton, List.map_singleton, apT_cells, apT_cells] at hsm
 have h0 : ((apartL i).length + 1 + 1 == 0) = false := rfl
 refine ⟨[(0, 0), (1, 1), (2, 2)], i + 1, rfl, ?_, by omega, by omega⟩
 rw [hsl, hsm]
 simp only [go_sem, h0, Int.natCast_add, Int.natCast_one, Int.natCast_ediv, Int.natCast_emod] <;> rfl
end Go.Avl
namespace Go.Avl
open Go Go.Proofs.Try
set_option maxRecDepth 10000
set_option linter.unusedSimpArgs false
structure TG (t : Mach) : Prop where
 ins : 1 ≤ t.ins ∧ t.ins ≤ 16
 rows : 1 ≤ t.rows.length ∧ t.rows.length ≤ 65537
 row : ∀ (i : Nat) (r : Row), t.rows[i]? = some r → (r.2.length : Int) = t.ins ∧ ∀ e ∈ r.2, e.1 = -1 ∨ (1 ≤ e.1 ∧ e.1 < t.rows.length)
theorem TG.get {t : Mach} (v : TG t) {n i : Nat} (hn : n < t.rows.length) (hi : (i : Int) < t.ins) : ∃ A : Row, t.rows[n]? = some A ∧ (A.2.length : Int) = t.ins ∧ A.2[i]? = some (eT t n i) ∧ ((eT t n i).1 = -1 ∨ (1 ≤ (eT t n i).1 ∧ (eT t n i).1 < t.rows.length)) := by
 have hg : t.rows[n]? = some (t.rows[n]) := List.getElem?_eq_getElem hn
 have hl := v.row n _ hg
 have he : (t.rows[n]).2[i]? = some (eT t n i) := by
  rw [eT, hg]
  simp only [Option.map_some, Option.getD_some]
  rw [List.getElem?_eq_getElem (by omega)]; rfl
 exact ⟨t.rows[n], hg, hl.1, he, hl.2 _ (List.mem_of_getElem? he)⟩
structure WS where
 seen : List Bool
 out : List (List Nat)
 many : Nat
def WS.has (s : WS) (n : Nat) : Bool := (s.seen[n]?).getD false
def WS.wd (s : WS) (n : Nat) : List Nat := (s.out[n]?).getD []
def WS.put (s : WS) (to n i : Nat) : WS := ⟨s.seen.set to true, s.out.set to (s.wd n ++ [i]), s.many + 1⟩
structure WS.Ok (s : WS) (N : Nat) : Prop where
 seen : s.seen.length = N
 out : s.out.length = N
 many : s.many = s.seen.countP (fun b => b)
 le : ∀ w ∈ s.out, w.length ≤ N
theorem WS.Ok.has_get {s : WS} {N n : Nat} (h : s.Ok N) (hn : n < N) : s.seen[n]? = some (s.has n) := by
 unfold WS.has
 rw [List.getElem?_eq_getElem (by rw [h.seen]; exact hn)]; rfl
theorem WS.Ok.put {s : WS} {N to n i : Nat} (h : s.Ok N) (ht : to < N) (hs : s.has to = false) (hl : (s.wd n).length < N) : (s.put to n i).Ok N := by
 refine ⟨by simp [WS.put, h.seen], by simp [WS.put, h.out], ?_, fun w hw => ?_⟩
 ·have h1 := h.has_get ht
  rw [hs] at h1
  have h2 : s.seen[to]'(by rw [h.seen]; exact ht) = false := by
   rw [List.getElem?_eq_getElem (by rw [h.seen]; exact ht)] at h1
   exact Option.some.inj h1
  simp only [WS.put]
  rw [List.countP_set (by rw [h.seen]; exact ht), h2, h.many]
  simp
 ·rcases List.mem_or_eq_of_mem_set hw with h1 | h1
  ·exact h.le w h1
  ·rw [h1]; simp; omega
def wCp (w : List Nat) : Cp := if w = [] then .zer else .unk
def wA (w : List Nat) : List AV := [.sl w.isEmpty (w.map natC) (wCp w)]
def wordsA : Option (List (List Nat)) → AV
 | none => .sl true [] .unk
 | some l => .sl false (l.map wA) .full
attribute [go_sem] wordsA
end Go.Avl
namespace Go.Avl
open Go Go.Proofs.Try
set_option maxRecDepth 10000
set_option linter.unusedSimpArgs false
def wT (t : Mach) : Nat → Nat → List Nat
 | 0, _ => []
 | d + 1, n => if n = 0 then [] else wT t d (parT t n).1 ++ [(parT t n).2]
def wordN (t : Mach) (n : Nat) : List Nat := wT t n n
theorem parT_to {t : Mach} (v : TV t) (tp : TP t) {n : Nat} (h0 : 1 ≤ n) (hn : n < t.rows.length) : (eT t (parT t n).1 (parT t n).2).1 = (n : Int) := by
 obtain ⟨p, i, k1, k2, k3⟩ := tp.has n h0 hn
 rw [parT_eq tp k1 k2 k3]; exact k3
structure WI (t : Mach) (m0 r n i : Nat) (s : WS) : Prop where
 ok : s.Ok t.rows.length
 has : ∀ m, m < t.rows.length → (s.has m = true ↔ (wordN t m).length ≤ r ∨ (wordN t m).length = r + 1 ∧ ((parT t m).1 < n ∨ (parT t m).1 = n ∧ (parT t m).2 < i))
 wd : ∀ m, m < t.rows.length → s.has m = true → s.wd m = wordN t m
 ge : m0 ≤ s.many
 new : s.many = m0 → ∀ m, m < t.rows.length → (wordN t m).length = r + 1 → ¬ ((parT t m).1 < n ∨ (parT t m).1 = n ∧ (parT t m).2 < i)
end Go.Avl
namespace Go.Avl
open Go Go.Proofs.Try
set_option maxRecDepth 10000
set_option linter.unusedSimpArgs false
theorem mergeC_end {t : Mach} (v : TV t) : ∀ (f : Nat) (c red : List Nat), IsF t c → RedOk t c red → red[0]? = some 0 → ∀ rows, mergeC t f c red = some rows →
  ∃ c' red' : List Nat, IsF t c' ∧ RedOk t c' red' ∧ red'[0]? = some 0 ∧ red'.length ≤ 64 ∧ nextC t c' red' < 0 ∧ rows = machC t c' red'
 | 0, c, red, _, _, _, rows, h => by cases h
 | f + 1, c, red, hc, hr, h0, rows, h => by
   rw [mergeC] at h
   split at h
   ·cases h
   ·rename_i hl
    split at h
    ·rename_i hn
     cases h
     exact ⟨c, red, hc, hr, h0, by omega, hn, rfl⟩
    ·rename_i hn
     obtain ⟨k1, k2, k3⟩ := next_node v hn
     split at h
     ·rename_i d hd
      obtain ⟨a1, a2⟩ := hr.absorb v hc k1 hd
      exact mergeC_end v f d red a2 a1 h0 rows h
     ·rename_i hd
      refine mergeC_end v f c _ hc (hr.push v hc k1 hd) ?_ rows h
      have := (List.getElem?_eq_some_iff.1 h0).1
      rw [List.getElem?_append_left this]; exact h0
theorem eT_machC {t m : Mach} {c red : List Nat} (hm : m.rows.map (·.2) = machC t c red) {s i : Nat} (hs : s < red.length) (hi : (i : Int) < t.ins) : eT m s i = edgeR t c red s i := by
 have h1 : (m.rows[s]?).map (·.2) = some ((List.range t.ins.toNat).map (edgeR t c red s)) := by
  rw [← List.getElem?_map, hm, machC, List.getElem?_map, List.getElem?_range hs]; rfl
 rw [eT, h1, Option.getD_some, List.getElem?_map, List.getElem?_range (by omega)]; rfl
theorem allRed {t : Mach} (tp : TP t) {c red : List Nat} (h0 : 0 ∈ red) (hn : nextC t c red < 0) {k : Nat} (hk : k < t.rows.length) : isRed c red (pU c k) = true := by
 cases h : isRed c red (pU c k) with
 | true => rfl
 | false =>
   obtain ⟨m, h1, _⟩ := cand_le tp (isRed_iff.2 ⟨0, h0, rfl⟩) k hk h
   rcases nextC_min t c red with ⟨_, h2⟩ | ⟨j, h2, _⟩
   ·exact absurd h1 (h2 m)
   ·omega
theorem placeC_in {c red : List Nat} {k : Nat} (h : isRed c red k = true) : ∃ s : Nat, s < red.length ∧ placeC c red k = (s : Int) ∧ (red.map (pU c))[s]? = some k := by
 obtain ⟨r, h1, h2⟩ := isRed_iff.1 h
 have hm : k ∈ red.map (pU c) := List.mem_map.2 ⟨r, h1, h2⟩
 have hl := List.idxOf_lt_length_of_mem hm
 refine ⟨(red.map (pU c)).idxOf k, by simpa using hl, ?_, ?_⟩
 ·rw [placeC, if_pos (by simpa using hl)]
 ·rw [List.getElem?_eq_getElem hl, List.getElem_idxOf hl]
theorem machC_fits {t m : Mach} (v : TV t) (tp : TP t) {c red : List Nat} (hc : IsF t c) (hr : RedOk t c red) (h0 : red[0]? = some 0) (hn : nextC t c red < 0) (hm : m.rows.map (·.2) = machC t c red) : FitH t m (fun n => (placeC c red (pU c n)).toNat) := by
 have h0m := hr.zero
 have hpl : ∀ n, n < t.rows.length → ∃ s : Nat, s < red.length ∧ placeC c red (pU c n) = (s : Int) ∧ (red.map (pU c))[s]? = some (pU c n) := fun n hn' => placeC_in (allRed tp h0m hn hn')
 refine ⟨?_, fun n i hn' hi => ?_⟩
 ·unfold placeC
  obtain ⟨red', rfl⟩ : ∃ l, red = 0 :: l := by
   cases red with
   | nil => cases h0
   | cons x l => cases h0; exact ⟨l, rfl⟩
  simp
 ·obtain ⟨s, h1, h2, h3⟩ := hpl n hn'
  rw [h2, Int.toNat_natCast, eT_machC hm h1 hi]
  have hrs : pU c ((red[s]?).getD 0) = pU c n := by
   rw [List.getElem?_map] at h3
   cases hx : red[s]? with
   | none => rw [hx] at h3; cases h3
   | some x => rw [hx] at h3; simpa using h3
  have hE : edgeR t c red s i = match (List.range t.rows.length).reverse.find? fun n' => decide (pU c n' = pU c n) && decide ((eT t n' i).1 ≠ -1) with
   | some n' => (placeC c red (pU c (eT t n' i).1.toNat), (eT t n' i).2)
   | none => (-1, -1) := by rw [edgeR, hrs]; all_goals rfl
  rw [hE]
  cases hf : (List.range t.rows.length).reverse.find? fun n' => decide (pU c n' = pU c n) && decide ((eT t n' i).1 ≠ -1) with
  | none =>
    rw [List.find?_eq_none] at hf
    have hx : (eT t n i).1 = -1 := by
     by_cases hx : (eT t n i).1 = -1
     ·exact hx
     ·exact absurd (by simp [hx]) (hf n (List.mem_reverse.2 (List.mem_range.2 hn')))
    refine ⟨?_, fun h => absurd hx h⟩
    unfold okB
    rw [hx]; simp
  | some q =>
    have g1 := List.find?_some hf
    have g2 := List.mem_range.1 (List.mem_reverse.1 (List.mem_of_find?_eq_some hf))
    simp only [Bool.and_eq_true, decide_eq_true_eq] at g1
    obtain ⟨g3, g4⟩ := g1
    obtain ⟨k1, k2⟩ := hc.clo q n i g3 hi
    have ht := v.to g2 hi g4
    obtain ⟨s', j1, j2, j3⟩ := hpl _ ht.2
    simp only
    unfold okE okB
    by_cases hk : knownE (eT t n i) = true
    ·rw [clashE_iff (knownE_to g4) hk] at k1
     have g5 : (eT t n i).1 ≠ -1 := fun e => g4 (k1.1.2 e)
     have e2 := k2 (bothE_iff.2 ⟨g4, g5⟩)
     refine ⟨?_, fun _ => ?_⟩
     ·simp only
      rw [j2, hk, k1.2 g4, decide_eq_false g5, decide_eq_false (show ¬ (s' : Int) = -1 by omega), decide_eq_true (rfl)]
      rfl
     ·simp only
      rw [← e2, j2, Int.toNat_natCast]
    ·have hkf : knownE (eT t n i) = false := by simpa using hk
     refine ⟨by rw [hkf]; rfl, fun h => absurd (knownE_to h) hk⟩
theorem machC_check {t m : Mach} (v : TV t) (tp : TP t) {c red : List Nat} (hr : RedOk t c red) (hl : red.length ≤ 64) (hn : nextC t c red < 0) (hi : m.ins = t.ins) (ho : m.outs = t.outs) (hm : m.rows.map (·.2) = machC t c red) : checkM m = 0 := by
 have hin := v.ins
 have hou := v.outs
 have hml : m.rows.length = red.length := by have := congrArg List.length hm; simpa [machC] using this
 have hrl : 1 ≤ red.length := by
  have := hr.zero
  cases red with
  | nil => cases this
  | cons x l => simp
 unfold checkM
 rw [if_neg (by omega), if_neg (by omega), if_pos]
 rw [List.all_eq_true]
 intro r hrm
 have h2 : r.2 ∈ machC t c red := by rw [← hm]; exact List.mem_map.2 ⟨r, hrm, rfl⟩
 unfold machC at h2
 obtain ⟨s, hs, h3⟩ := List.mem_map.1 h2
 unfold rowOk
 rw [← h3, hi, ho, hml]
 have hlen : (((List.range t.ins.toNat).map (edgeR t c red s)).length : Int) = t.ins := by simp; omega
 simp only [Bool.and_eq_true, decide_eq_true_eq]
 refine ⟨hlen, ?_⟩
 rw [Bool.not_eq_true', List.any_eq_false]
 intro e he
 obtain ⟨i, hi', rfl⟩ := List.mem_map.1 he
 simp only [Bool.not_eq_true', Bool.not_eq_false]
 have hi' := List.mem_range.1 hi'
 have hii : (i : Int) < t.ins := by omega
 unfold edgeR
 split
 ·rename_i q hf
  have g1 := List.find?_some hf
  have g2 := List.mem_range.1 (List.mem_reverse.1 (List.mem_of_find?_eq_some hf))
  simp only [Bool.and_eq_true, decide_eq_true_eq] at g1
  have ht := v.to g2 hii g1.2
  obtain ⟨s', j1, j2, j3⟩ := placeC_in (allRed tp hr.zero hn ht.2)
  have he := v.edge g2 hii
  rw [j2]
  unfold fitsR
  have : 0 ≤ (eT t q i).2 ∧ (eT t q i).2 < t.outs := by
   rcases he with h | h
   ·exact absurd h.1 g1.2
   ·exact ⟨h.2.2.1, h.2.2.2⟩
  simp only [Bool.or_eq_true, Bool.and_eq_true, decide_eq_true_eq]
  exact .inr ⟨⟨⟨by omega, by omega⟩, this.1⟩, this.2⟩
 ·rfl
end Go.Avl
namespace Go.Avl
open Go Go.Proofs.Try
set_option maxRecDepth 10000
set_option linter.unusedSimpArgs false
end Go.Avl
namespace Go.Avl
open Go Go.Proofs.Try
set_option maxRecDepth 10000
set_option linter.unusedSimpArgs false
theorem treeM_edge {ins : Nat} {outs : Int} {L : List TR} {n i : Nat} {x : List Int} (hx : (nodesL L)[n]? = some x) (hi : i < ins) : eT (treeM ins outs L) n i = edgeOf L (nodesL L) (x ++ [(i : Int)]) := by
 unfold eT treeM
 simp only [List.getElem?_map, hx, Option.map_some, Option.getD_some, treeRow]
 rw [List.getElem?_range hi]; rfl
theorem nodesL_get {L : List TR} {w : List Int} (h : w ∈ nodesL L) : (nodesL L)[(nodesL L).idxOf w]? = some w := by
 have hl := List.idxOf_lt_length_of_mem h
 rw [List.getElem?_eq_getElem hl, List.getElem_idxOf hl]
end Go.Avl
namespace Go.Avl
open Go Go.Proofs.Try
set_option maxRecDepth 10000
set_option linter.unusedSimpArgs false
def mM (t : Mach) (rows : List (List (Int × Int))) : Mach := ⟨t.ins, t.outs, false, rows.map fun r => (false, r)⟩
theorem mM_rows (t : Mach) (rows : List (List (Int × Int))) : (mM t rows).rows.map (·.2) = rows := by
 unfold mM
 rw [List.map_map]
 exact List.map_id' rows
theorem mergeT_ok {t : Mach} (v : TV t) (tp : TP t) {rows : List (List (Int × Int))} (h : mergeT t = some rows) : checkM (mM t rows) = 0 ∧ fitB t (mM t rows) = true ∧ 1 ≤ rows.length ∧ rows.length ≤ 64 ∧ ∀ r ∈ rows, (r.length : Int) = t.ins := by
 classical
 obtain ⟨c, red, h1, h2, h3, h4, h5, rfl⟩ := mergeC_end v _ _ _ (isF_alone t) (redOk_zero v) rfl rows h
 have hm := mM_rows t (machC t c red)
 have hin := v.ins
 refine ⟨machC_check v tp h2 h4 h5 rfl rfl hm, ?_, ?_, ?_, fun r hr => ?_⟩
 ·unfold fitB
  rw [decide_eq_true_eq]
  exact ⟨_, machC_fits v tp h1 h2 h3 h5 hm⟩
 ·have := (List.getElem?_eq_some_iff.1 h3).1
  simp [machC]; omega
 ·simp [machC]; exact h4
 ·obtain ⟨s, _, rfl⟩ := List.mem_map.1 hr
  simp; omega
end Go.Avl
namespace Go.Avl
open Go Go.Proofs.Try
set_option maxRecDepth 10000
set_option linter.unusedSimpArgs false
theorem nodup_le : ∀ (n : Nat) (l : List Nat), l.Nodup → (∀ x ∈ l, x < n) → l.length ≤ n
 | 0, [], _, _ => Nat.le_refl _
 | 0, x :: _, _, h => absurd (h x List.mem_cons_self) (Nat.not_lt_zero _)
 | n + 1, l, hn, h => by
   have h1 := nodup_le n (l.erase n) (hn.erase n) fun x hx => by
    have := h x (List.mem_of_mem_erase hx)
    have : x ≠ n := fun e => by
     subst e
     exact absurd hx (by rw [hn.mem_erase_iff]; simp)
    omega
   have h2 : l.length ≤ (l.erase n).length + 1 := by
    rw [List.length_erase]; split <;> omega
   omega
theorem okB_noclash {y a b : Int × Int} (ha : okB y a = true) (hb : okB y b = true) : clashE a b = false := by
 cases ka : knownE a with
 | false => unfold clashE; rw [ka]; rfl
 | true =>
   cases kb : knownE b with
   | false => unfold clashE; rw [kb]; simp
   | true =>
     unfold okB at ha hb
     rw [ka] at ha
     rw [kb] at hb
     simp only [Bool.not_true, Bool.false_or, Bool.and_eq_true, Bool.or_eq_true, beq_iff_eq, decide_eq_true_eq, decide_eq_decide] at ha hb
     rw [clashE_iff ka kb]
     refine ⟨by rw [ha.1, hb.1], fun h => ?_⟩
     have h2 : b.1 ≠ -1 := fun e => h (ha.1.2 (hb.1.1 e))
     rw [← ha.2.resolve_left h, ← hb.2.resolve_left h2]
theorem FitH.lt {t m : Mach} (v : TV t) (tp : TP t) (vm : Valid m) (hins : m.ins = t.ins) {h : Nat → Nat} (hf : FitH t m h) : ∀ n, n < t.rows.length → h n < m.rows.length := by
 intro n
 induction n using Nat.strongRecOn with
 | _ n ih =>
   intro hn
   by_cases h0 : n = 0
   ·subst h0; rw [hf.root]; have := vm.rows; omega
   ·have hp := parT_lt v tp (by omega) hn
    have he := parT_to v tp (n := n) (by omega) hn
    have ih := ih _ hp.1 (by omega)
    have a := (hf.ok _ _ (show (parT t n).1 < t.rows.length by omega) hp.2).2 (by omega)
    rw [he, Int.toNat_natCast] at a
    obtain ⟨_, _, _, _, hx⟩ := vm.edge ih (i := (parT t n).2) (by have := hp.2; omega)
    rcases hx with hx | hx
    ·rw [hx] at a; simp only at a; omega
    ·omega
end Go.Avl
namespace Go.Avl
open Go Go.Proofs.Try
set_option maxRecDepth 10000
set_option linter.unusedSimpArgs false
theorem mem_apartL {n : Nat} {u : TR} : u ∈ apartL n ↔ ∃ (i : Nat) (a o : Int), i < n ∧ u = apT i a o ∧ ((a = 1 ∧ o = ((i % 16 : Nat) : Int)) ∨ (a = 2 ∧ o = ((i / 16 : Nat) : Int))) := by
 unfold apartL
 rw [List.mem_flatMap]
 constructor
 ·rintro ⟨i, hi, hu⟩
  rw [List.mem_cons, List.mem_singleton] at hu
  rcases hu with hu | hu
  ·exact ⟨i, 1, _, List.mem_range.1 hi, hu, .inl ⟨rfl, rfl⟩⟩
  ·exact ⟨i, 2, _, List.mem_range.1 hi, hu, .inr ⟨rfl, rfl⟩⟩
 ·rintro ⟨i, a, o, hi, rfl, ⟨rfl, rfl⟩ | ⟨rfl, rfl⟩⟩
  ·exact ⟨i, List.mem_range.2 hi, by simp⟩
  ·exact ⟨i, List.mem_range.2 hi, by simp⟩
theorem apT_has {i : Nat} {a o : Int} {w : List Int} (h : hasW (apT i a o) w) : (w.length ≤ i ∧ w = List.replicate w.length 0) ∨ (w.length = i + 1 ∧ w = List.replicate i 0 ++ [a]) := by
 obtain ⟨h1, h2⟩ := h
 simp only [apT, List.length_append, List.length_replicate, List.length_singleton] at h1 h2
 by_cases h3 : w.length ≤ i
 ·refine .inl ⟨h3, ?_⟩
  rw [List.take_append_of_le_length (by simpa using h3), List.take_replicate, Nat.min_eq_left h3] at h2
  exact h2.symm
 ·have h4 : w.length = i + 1 := by omega
  refine .inr ⟨h4, ?_⟩
  rw [List.take_of_length_le (by simp; omega)] at h2
  exact h2.symm
theorem apT_resp {i : Nat} {a o : Int} {k : Nat} (h : k < i) : ((apT i a o).r[k]?).getD 0 = 0 := by
 simp only [apT]
 rw [List.getElem?_append_left (by simpa using h), List.getElem?_replicate, if_pos h]; rfl
theorem apT_last (i : Nat) (a o : Int) : ((apT i a o).r[i]?).getD 0 = o := by
 simp only [apT]
 rw [List.getElem?_append_right (by simp)]; simp
theorem rep_ne {k i : Nat} {a : Int} (ha : a ≠ 0) : List.replicate k (0 : Int) ≠ List.replicate i 0 ++ [a] := fun h => by
 have : a ∈ List.replicate k (0 : Int) := by rw [h]; simp
 exact ha (List.eq_of_mem_replicate this)
theorem rep_inj {i j : Nat} {a b : Int} (h : List.replicate i (0 : Int) ++ [a] = List.replicate j 0 ++ [b]) : i = j ∧ a = b := by
 have h1 := congrArg List.length h
 simp at h1
 subst h1
 have := List.append_cancel_left h
 simpa using this
theorem apart_cons (n : Nat) : Cons (apartL n) := by
 intro t ht u hu w hw h1 h2
 obtain ⟨i, a, o, _, rfl, ha⟩ := mem_apartL.1 ht
 obtain ⟨j, b, p, _, rfl, hb⟩ := mem_apartL.1 hu
 have hwl : w.length ≠ 0 := fun e => hw (List.length_eq_zero_iff.1 e)
 have ha0 : a ≠ 0 := by rcases ha with ⟨h, _⟩ | ⟨h, _⟩ <;> rw [h] <;> decide
 have hb0 : b ≠ 0 := by rcases hb with ⟨h, _⟩ | ⟨h, _⟩ <;> rw [h] <;> decide
 rcases apT_has h1 with ⟨k1, k2⟩ | ⟨k1, k2⟩
 ·rcases apT_has h2 with ⟨q1, q2⟩ | ⟨q1, q2⟩
  ·rw [apT_resp (by omega), apT_resp (by omega)]
  ·exact absurd (k2.symm.trans q2) (rep_ne hb0)
 ·rcases apT_has h2 with ⟨q1, q2⟩ | ⟨q1, q2⟩
  ·exact absurd (q2.symm.trans k2) (rep_ne ha0)
  ·obtain ⟨rfl, rfl⟩ := rep_inj (k2.symm.trans q2)
   rw [k1, Nat.add_sub_cancel, apT_last, apT_last]
   rcases ha with ⟨h, h'⟩ | ⟨h, h'⟩ <;> rcases hb with ⟨k, k'⟩ | ⟨k, k'⟩
   ·rw [h', k']
   ·rw [h] at k; cases k
   ·rw [h] at k; cases k
   ·rw [h', k']
theorem apart_sum : ∀ n, sumW (apartL n) = n * (n + 1)
 | 0 => rfl
 | n + 1 => by
   have ih := apart_sum n
   unfold sumW at ih ⊢
   rw [apartL_succ, List.map_append, List.map_append, List.sum_append, List.sum_append, ih]
   simp only [apT, List.map_cons, List.map_nil, List.length_append, List.length_replicate, List.length_singleton, List.sum_cons, List.sum_nil]
   rw [Nat.add_mul, Nat.mul_add, Nat.mul_add, Nat.mul_add]
   omega
theorem apT_val {n i : Nat} {a o : Int} (hn : n ≤ 65) (hi : i < n) (h : (a = 1 ∧ o = ((i % 16 : Nat) : Int)) ∨ (a = 2 ∧ o = ((i / 16 : Nat) : Int))) : TrVal 3 16 (apT i a o) ∧ preN (apT i a o).r = i + 1 := by
 have ha : 0 ≤ a ∧ a < 3 := by rcases h with ⟨h, _⟩ | ⟨h, _⟩ <;> rw [h] <;> decide
 have ho : 0 ≤ o ∧ o < 16 := by rcases h with ⟨_, h⟩ | ⟨_, h⟩ <;> rw [h] <;> omega
 have hr : ∀ x ∈ (apT i a o).r, 0 ≤ x ∧ x < 16 := fun x hx => by
  simp only [apT, List.mem_append, List.mem_singleton] at hx
  rcases hx with hx | hx
  ·rw [List.eq_of_mem_replicate hx]; decide
  ·rw [hx]; exact ho
 refine ⟨⟨by simp [apT], fun x hx => ?_, _, 0, by simp, hr⟩, ?_⟩
 ·simp only [apT, List.mem_append, List.mem_singleton] at hx
  rcases hx with hx | hx
  ·rw [List.eq_of_mem_replicate hx]; decide
  ·rw [hx]; exact ha
 ·have := preN_form (p := (apT i a o).r) (m := 0) fun x hx => (hr x hx).1
  rw [List.replicate_zero, List.append_nil] at this
  rw [this]; simp [apT]
theorem apart_ok {n : Nat} (hn : n ≤ 65) : LogOk 3 16 (apartL n) where
 inb := by decide
 outb := by decide
 val := fun t ht => by
  obtain ⟨i, a, o, hi, rfl, h⟩ := mem_apartL.1 ht
  exact (apT_val hn hi h).1
 short := fun t ht => by
  obtain ⟨i, a, o, hi, rfl, h⟩ := mem_apartL.1 ht
  simp [apT]; omega
 len := by rw [apartL_len]; omega
 sum := by
  rw [apart_sum]
  have : n * (n + 1) ≤ 65 * 66 := Nat.mul_le_mul hn (by omega)
  omega
def chW (k : Nat) : List Int := List.replicate k 0
theorem apart_chain {n k : Nat} (hn : n ≤ 65) (hk : k < n) : chW k ∈ nodesL (apartL n) ∧ (chW k ++ [((1 : Nat) : Int)]) ∈ nodesL (apartL n) ∧ (chW k ++ [((2 : Nat) : Int)]) ∈ nodesL (apartL n) ∧ lastL (apartL n) (chW k ++ [((1 : Nat) : Int)]) = some ((k % 16 : Nat) : Int) ∧ lastL (apartL n) (chW k ++ [((2 : Nat) : Int)]) = some ((k / 16 : Nat) : Int) := by
 have m1 : apT k 1 ((k % 16 : Nat) : Int) ∈ apartL n := mem_apartL.2 ⟨k, 1, _, hk, rfl, .inl ⟨rfl, rfl⟩⟩
 have m2 : apT k 2 ((k / 16 : Nat) : Int) ∈ apartL n := mem_apartL.2 ⟨k, 2, _, hk, rfl, .inr ⟨rfl, rfl⟩⟩
 have p1 := (apT_val hn hk (.inl ⟨rfl, rfl⟩)).2
 have p2 := (apT_val hn hk (.inr ⟨rfl, rfl⟩)).2
 have t1 : ∀ a o, (apT k a o).w.take (k + 1) = chW k ++ [a] := fun a o => by
  simp only [apT, chW]; rw [List.take_of_length_le (by simp)]
 have h1 : ∀ a o, hasW (apT k a o) (chW k ++ [a]) := fun a o => by rw [← t1 a o]; exact hasW_take _ _
 have l1 := (apart_cons n).last m1 (w := chW k ++ [1]) (by simp) (h1 _ _)
 have l2 := (apart_cons n).last m2 (w := chW k ++ [2]) (by simp) (h1 _ _)
 have hl : ∀ a : Int, (chW k ++ [a]).length - 1 = k := fun a => by simp [chW]
 rw [hl, apT_last] at l1 l2
 refine ⟨?_, mem_nodesL.2 (.inr ⟨_, m1, k, by omega, (t1 _ _).symm⟩), mem_nodesL.2 (.inr ⟨_, m2, k, by omega, (t1 _ _).symm⟩), l1, l2⟩
 cases k with
 | zero => exact mem_nodesL.2 (.inl rfl)
 | succ k =>
   refine mem_nodesL.2 (.inr ⟨_, m1, k, by omega, ?_⟩)
   simp only [apT, chW]
   rw [List.take_append_of_le_length (by simp), List.take_replicate, Nat.min_eq_left (by omega)]
theorem apart_inner {n : Nat} {x : List Int} {a m : Int} (h : lastL (apartL n) (x ++ [a]) = some m) : ∃ k, k < n ∧ x = chW k := by
 obtain ⟨t, ht, hw, _⟩ := lastL_mem h
 obtain ⟨i, b, o, hi, rfl, _⟩ := mem_apartL.1 ht
 rcases apT_has hw with ⟨k1, k2⟩ | ⟨k1, k2⟩
 ·refine ⟨x.length, by simp at k1; omega, ?_⟩
  have := congrArg (List.take x.length) k2
  rw [List.take_left, List.take_replicate] at this
  rw [chW]
  rw [show min x.length (x ++ [a]).length = x.length by simp] at this
  exact this
 ·refine ⟨i, hi, ?_⟩
  have := congrArg List.dropLast k2
  rwa [List.dropLast_concat, List.dropLast_concat] at this
end Go.Avl
namespace Go.Avl
open Go Go.Proofs.Try
set_option maxRecDepth 10000
set_option linter.unusedSimpArgs false
theorem sub_lenN : ∀ (l r : List Nat), l.Nodup → (∀ x ∈ l, x ∈ r) → l.length ≤ r.length
 | [], _, _, _ => Nat.zero_le _
 | a :: l, r, h, hs => by
   rw [List.nodup_cons] at h
   have ha : a ∈ r := hs a List.mem_cons_self
   have h1 := sub_lenN l (r.erase a) h.2 fun x hx => (List.mem_erase_of_ne (fun he : x = a => h.1 (he ▸ hx))).2 (hs x (List.mem_cons_of_mem _ hx))
   have h2 := List.length_erase_of_mem ha
   have h3 := List.length_pos_of_mem ha
   rw [List.length_cons]
   omega
theorem red_leaf {t : Mach} (v : TV t) {c red : List Nat} (hc : IsF t c) (hr : RedOk t c red) {i j a b : Nat} (hij : i ≠ j) (ha : red[i]? = some a) (hb : red[j]? = some b) (hl : ∀ x k : Nat, (k : Int) < t.ins → knownE (eT t x k) = true → pU c x ≠ pU c a) : False := by
 have haN := hr.lt a (List.mem_of_getElem? ha)
 have hbN := hr.lt b (List.mem_of_getElem? hb)
 have hq : ∀ x y, Cong t (pairR c a b) x y → (if pU c x = pU c a then pU c b else pU c x) = (if pU c y = pU c a then pU c b else pU c y) := by
  intro x y h
  induction h with
  | base h =>
    rcases h with h | ⟨rfl, rfl⟩
    ·rw [h]
    ·rw [if_pos rfl]; split <;> rfl
  | refl x => rfl
  | symm _ ih => exact ih.symm
  | trans _ _ ih1 ih2 => exact ih1.trans ih2
  | step _ hi hbo ih =>
    rename_i x y i _
    rw [bothE_iff] at hbo
    rw [if_neg (hl x i hi (knownE_to hbo.1)), if_neg (hl y i hi (knownE_to hbo.2))] at ih
    rw [(hc.clo x y i ih hi).2 (bothE_iff.2 hbo)]
 cases hf : foldC t c a b with
 | none =>
   have hs := foldC_spec v hc haN hbN
   rw [hf] at hs
   obtain ⟨x, y, k, h1, h2, h3⟩ := hs
   obtain ⟨k1, k2⟩ := clashE_known h3
   have := hq x y h1
   rw [if_neg (hl x k h2 k1), if_neg (hl y k h2 k2)] at this
   rw [(hc.clo x y k this h2).1] at h3
   cases h3
 | some d =>
   obtain ⟨h1, h2, h3⟩ := fold_mono v hc haN hbN hf
   rcases Nat.lt_or_ge i j with h | h
   ·exact hr.sep i j a b h ha hb d h1 h2 h3
   ·exact hr.sep j i b a (by omega) hb ha d h1 h2 h3.symm
theorem mergeC_small {t : Mach} (v : TV t) {zs : List Nat} (hz : ∀ x k : Nat, (k : Int) < t.ins → knownE (eT t x k) = true → x ∈ zs) (hzl : zs.length ≤ 64) : ∀ (f : Nat) (c red : List Nat), IsF t c → RedOk t c red → sumR c t.rows.length + (65 - red.length) < f → mergeC t f c red ≠ none
 | 0, c, red, _, _, hf => by omega
 | f + 1, c, red, hc, hr, hf => fun h => by
   rw [mergeC] at h
   split at h
   ·rename_i hl
    have hn := hr.nodup hc
    have hex : ∃ (i : Nat) (a : Nat), red[i]? = some a ∧ ∀ z ∈ zs, pU c z ≠ pU c a := by
     refine Classical.byContradiction fun hno => ?_
     have := sub_lenN _ (zs.map (pU c)) hn fun y hy => by
      obtain ⟨a, ha, rfl⟩ := List.mem_map.1 hy
      obtain ⟨i, hi, rfl⟩ := List.mem_iff_getElem.1 ha
      refine Classical.byContradiction fun hy2 => hno ⟨i, _, List.getElem?_eq_getElem hi, fun z hz2 e => hy2 ?_⟩
      rw [← e]
      exact List.mem_map_of_mem hz2
     rw [List.length_map, List.length_map] at this
     omega
    obtain ⟨i, a, ha, hna⟩ := hex
    obtain ⟨j, hij, hj⟩ : ∃ j, i ≠ j ∧ j < red.length := by
     by_cases h0 : i = 0
     ·exact ⟨1, by omega, by omega⟩
     ·exact ⟨0, h0, by omega⟩
    exact red_leaf v hc hr hij ha (List.getElem?_eq_getElem hj) fun x k h1 h2 => hna x (hz x k h1 h2)
   ·rename_i hl
    split at h
    ·cases h
    ·rename_i hn
     obtain ⟨k1, k2, k3⟩ := next_node v hn
     split at h
     ·rename_i d hd
      obtain ⟨a1, a2⟩ := hr.absorb v hc k1 hd
      have := absorb_sum v hr hc k1 k2 hd
      exact mergeC_small v hz hzl f d red a2 a1 (by omega) h
     ·rename_i hd
      refine mergeC_small v hz hzl f c _ hc (hr.push v hc k1 hd) ?_ h
      rw [List.length_append, List.length_singleton]; omega
theorem mergeT_small {t : Mach} (v : TV t) {zs : List Nat} (hz : ∀ x k : Nat, (k : Int) < t.ins → knownE (eT t x k) = true → x ∈ zs) (hzl : zs.length ≤ 64) : ∃ rows, mergeT t = some rows := by
 cases hm : mergeT t with
 | some rows => exact ⟨rows, rfl⟩
 | none =>
   have hs := sumR_le (upOk_range t.rows.length) t.rows.length
   exact absurd hm (mergeC_small v hz hzl _ _ _ (isF_alone t) (redOk_zero v) (by simp only [List.length_singleton]; omega))
def apM (n : Nat) : Mach := treeM 3 16 (apartL n)
theorem apM_ok {n : Nat} (hn : n ≤ 65) : checkT (apM n) = 0 := by
 have h := apart_ok hn
 refine checkT_tree h.val (apart_cons n) (by decide) (by decide) ?_
 have h1 := rawN_len (apartL n)
 have h2 := rawN_sum h.val (apartL n).length (Nat.le_refl _)
 have h3 := h.sum
 rw [List.take_length] at h2
 omega
theorem apM_edge {n x k : Nat} (hk : (k : Int) < 3) (h : knownE (eT (apM n) x k) = true) : ∃ j, j < n ∧ (nodesL (apartL n))[x]? = some (chW j) := by
 cases hx : (nodesL (apartL n))[x]? with
 | none =>
   exfalso
   have : (apM n).rows[x]? = none := by
    unfold apM treeM
    simp only [List.getElem?_map, hx, Option.map_none]
   unfold eT at h
   rw [this] at h
   cases h
 | some w =>
   rw [apM, treeM_edge hx (by omega)] at h
   cases hl : lastL (apartL n) (w ++ [(k : Int)]) with
   | none =>
     unfold edgeOf at h
     rw [hl] at h
     cases h
   | some m =>
     obtain ⟨j, h1, rfl⟩ := apart_inner hl
     exact ⟨j, h1, rfl⟩
theorem apM_small {n : Nat} (hn : n ≤ 64) : ∃ rows, mergeT (apM n) = some rows := by
 have v := TV.of (apM_ok (n := n) (by omega))
 refine mergeT_small v (zs := (List.range n).map fun j => (nodesL (apartL n)).idxOf (chW j)) (fun x k hk h => ?_) (by simpa using hn)
 obtain ⟨j, h1, h2⟩ := apM_edge hk h
 refine List.mem_map.2 ⟨j, List.mem_range.2 h1, ?_⟩
 obtain ⟨hl, he⟩ := List.getElem?_eq_some_iff.1 h2
 have := (nodesL_sort (apartL n)).nodup.idxOf_getElem x hl
 rwa [he] at this
theorem apM_rows {n : Nat} (hn : n ≤ 65) {rows : List (List (Int × Int))} (h : mergeT (apM n) = some rows) : n ≤ rows.length ∧ rows.length ≤ 64 := by
 have h0 := apM_ok hn
 have v := TV.of h0
 have tp := TP.of h0
 obtain ⟨h1, h2, h3, h4, h5⟩ := mergeT_ok v tp h
 refine ⟨?_, h4⟩
 have h2 := h2
 classical
 unfold fitB at h2
 rw [decide_eq_true_eq] at h2
 obtain ⟨f, hf⟩ := h2
 have hlt := hf.lt v tp (Valid.of h1) rfl
 have hlen : (apM n).rows.length = (nodesL (apartL n)).length := by simp [apM, treeM]
 have hrl : (mM (apM n) rows).rows.length = rows.length := by simp [mM]
 have hnd : ((List.range n).map fun k => f ((nodesL (apartL n)).idxOf (chW k))).Nodup := by
  refine List.pairwise_iff_getElem.2 fun k l hk hl hkl he => ?_
  simp only [List.getElem_map, List.getElem_range] at he
  have hk : k < n := by simpa using hk
  have hl : l < n := by simpa using hl
  obtain ⟨a1, a2, a3, a4, a5⟩ := apart_chain hn hk
  obtain ⟨b1, b2, b3, b4, b5⟩ := apart_chain hn hl
  have hka := nodesL_get a1
  have hla := nodesL_get b1
  have key : ∀ (j : Nat) (p q : Int), (j : Int) < 3 → chW k ++ [(j : Int)] ∈ nodesL (apartL n) → chW l ++ [(j : Int)] ∈ nodesL (apartL n) → lastL (apartL n) (chW k ++ [(j : Int)]) = some p → lastL (apartL n) (chW l ++ [(j : Int)]) = some q → p = q := fun j p q hj m1 m2 l1 l2 => by
   have x1 := (hf.ok _ j (by rw [hlen]; exact List.idxOf_lt_length_of_mem a1) hj).1
   have x2 := (hf.ok _ j (by rw [hlen]; exact List.idxOf_lt_length_of_mem b1) hj).1
   rw [he] at x1
   have hcl := okB_noclash x1 x2
   rw [apM, treeM_edge hka (by omega), treeM_edge hla (by omega)] at hcl
   rcases edge_cases (apart_ok hn).val (apart_cons n) (w := chW k ++ [(j : Int)]) (by simp) with ⟨q1, _⟩ | ⟨_, n1, q1, _, _, q2⟩
   ·exact absurd m1 q1
   rcases edge_cases (apart_ok hn).val (apart_cons n) (w := chW l ++ [(j : Int)]) (by simp) with ⟨r1, _⟩ | ⟨_, n2, r1, _, _, r2⟩
   ·exact absurd m2 r1
   rw [q2, r2, clashE_iff (knownE_to (by simp only; omega)) (knownE_to (by simp only; omega))] at hcl
   have := hcl.2 (by simp only; omega)
   simp only at this
   rw [q1] at l1
   rw [r1] at l2
   cases l1; cases l2
   exact this
  have e1 := key 1 _ _ (by decide) a2 b2 a4 b4
  have e2 := key 2 _ _ (by decide) a3 b3 a5 b5
  omega
 have := nodup_le rows.length _ hnd fun x hx => by
  obtain ⟨k, hk, rfl⟩ := List.mem_map.1 hx
  rw [← hrl]
  exact hlt _ (by rw [hlen]; exact List.idxOf_lt_length_of_mem (apart_chain hn (List.mem_range.1 hk)).1)
 simpa using this
theorem apM_64 : ∃ rows, mergeT (apM 64) = some rows ∧ rows.length = 64 := by
 obtain ⟨rows, h⟩ := apM_small (n := 64) (by omega)
 have := apM_rows (by omega) h
 exact ⟨rows, h, by omega⟩
theorem apM_65 : mergeT (apM 65) = none := by
 cases h : mergeT (apM 65) with
 | none => rfl
 | some rows => have := apM_rows (by omega) h; omega
end Go.Avl
