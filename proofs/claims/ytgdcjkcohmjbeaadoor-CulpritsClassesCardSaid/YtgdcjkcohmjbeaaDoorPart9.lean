/-
  Lemmas.
-/
import Derived.Test.YtgdcjkcohmjbeaaDoorPart8
set_option linter.unusedSimpArgs false
set_option linter.unusedVariables false
set_option linter.unnecessarySimpa false
set_option linter.deprecated false
namespace Go.Avl
open Go Go.Proofs.Tryd
set_option maxRecDepth 10000
def Least2 (a b : Mach) (w : List Int) : Prop :=
 WOk a.ins.toNat w ∧ runR a 0 w ≠ runR b 0 w ∧ ∀ v, WOk a.ins.toNat v → runR a 0 v ≠ runR b 0 v → rank a.ins.toNat w ≤ rank a.ins.toNat v
theorem Least2.uniq {a b : Mach} {w v : List Int} (h : Least2 a b w) (k : Least2 a b v) : w = v :=
 rank_inj h.1 k.1 (Nat.le_antisymm (h.2.2 _ k.1 k.2.1) (k.2.2 _ h.1 h.2.1))
theorem rank_snoc {k : Nat} : ∀ (w : List Int) (c : Int), rank k (w ++ [c]) = k * rank k w + (c.toNat + 1)
 | [], c => by simp [rank]
 | a :: w, c => by
   have h1 := rank_snoc (k := k) w c
   have h2 : (a.toNat + 1) * (k ^ w.length * k) = k * ((a.toNat + 1) * k ^ w.length) := by
    rw [← Nat.mul_assoc, Nat.mul_comm k]
   rw [List.cons_append]
   simp only [rank, h1, List.length_append, List.length_cons, List.length_nil, Nat.zero_add, Nat.pow_succ, Nat.mul_add] at h2 ⊢
   omega
theorem runR_app (m : Mach) : ∀ (s : Int) (u v : List Int), runR m s (u ++ v) = runR m s u ++ runR m (afterR m s u) v
 | _, [], _ => rfl
 | s, a :: u, v => by simp only [List.cons_append, runR, afterR, runR_app m _ u v]
theorem afterR_app (m : Mach) : ∀ (s : Int) (u v : List Int), afterR m s (u ++ v) = afterR m (afterR m s u) v
 | _, [], _ => rfl
 | s, a :: u, v => by simp only [List.cons_append, afterR, afterR_app m _ u v]
theorem stepR_dead (m : Mach) (a : Int) : stepR m (-1) a = (-1, -1) := by unfold stepR; rw [if_pos (by omega)]
theorem stepR_ends {m : Mach} (hv : Valid m) {s a : Int} (h0 : 0 ≤ s) (hs : s < m.rows.length) (ha : 0 ≤ a ∧ a < m.ins) : ((stepR m s a).1 = -1 ∧ (stepR m s a).2 = -1) ∨ (0 ≤ (stepR m s a).1 ∧ (stepR m s a).1 < m.rows.length ∧ 0 ≤ (stepR m s a).2) := by
 obtain ⟨r, e, _, _, h3, h4⟩ := stepR_get hv h0 hs ha
 rw [h3]
 rcases fits_cases h4 with h | h
 ·exact .inl h
 ·exact .inr ⟨h.1, h.2.1, h.2.2.1⟩
structure BInv (a b : Mach) (l : List Arr) (W : Nat → List Int) (at' i : Nat) : Prop where
 z : W 0 = []
 z0 : ∃ c, l[0]? = some ((0, 0), -1, c)
 par : ∀ j p, 1 ≤ j → l[j]? = some p → ∃ q c : Nat, p.2.1 = (q : Int) ∧ p.2.2 = (c : Int) ∧ q < j ∧ c < a.ins.toNat ∧ (q < at' ∨ (q = at' ∧ c < i)) ∧ W j = W q ++ [(c : Int)]
 ok : ∀ j, j < l.length → WOk a.ins.toNat (W j)
 mono : ∀ j k, j < k → k < l.length → rank a.ins.toNat (W j) < rank a.ins.toNat (W k)
 path : ∀ j p, l[j]? = some p → afterR a 0 (W j) = p.1.1 ∧ afterR b 0 (W j) = p.1.2 ∧ runR a 0 (W j) = runR b 0 (W j)
 done : ∀ j p, l[j]? = some p → ∀ c : Nat, c < a.ins.toNat → (j < at' ∨ (j = at' ∧ c < i)) →
  (stepR a p.1.1 c).2 = (stepR b p.1.2 c).2 ∧ ((stepR a p.1.1 c).1 ≠ -1 → (stepR b p.1.2 c).1 ≠ -1 →
   ∃ (k : Nat) (q : Arr), l[k]? = some q ∧ q.1 = ((stepR a p.1.1 c).1, (stepR b p.1.2 c).1) ∧ rank a.ins.toNat (W k) ≤ a.ins.toNat * rank a.ins.toNat (W j) + (c + 1))
theorem BInv.start (a b : Mach) : BInv a b arr0 (fun _ => []) 0 0 where
 z := rfl
 z0 := ⟨0, rfl⟩
 par := fun j p hj h => by
  obtain ⟨k, rfl⟩ : ∃ k, j = k + 1 := ⟨j - 1, by omega⟩
  simp [arr0] at h
 ok := fun j _ x hx => by cases hx
 mono := fun j k h1 h2 => by simp [arr0] at h2; omega
 path := fun j p h => by
  cases j with
  | zero => simp only [arr0, List.getElem?_cons_zero, Option.some.injEq] at h; subst h; exact ⟨rfl, rfl, rfl⟩
  | succ k => simp [arr0] at h
 done := fun j p h c hc hd => by omega
theorem nextL_new {at' i : Int} {x y : Int × Int} {l : List Arr} : nextL at' i x y l = l ∨ (nextL at' i x y l = l ++ [((x.1, y.1), at', i)] ∧ x.1 ≠ -1 ∧ y.1 ≠ -1) := by
 unfold nextL
 split
 ·rename_i h; exact .inr ⟨rfl, h.1, h.2.1⟩
 ·exact .inl rfl
theorem nextL_in {at' i : Int} {x y : Int × Int} {l : List Arr} (h1 : x.1 ≠ -1) (h2 : y.1 ≠ -1) (h3 : nextL at' i x y l = l) : ∃ (k : Nat) (q : Arr), l[k]? = some q ∧ q.1 = (x.1, y.1) := by
 by_cases hm : (x.1, y.1) ∈ l.map (·.1)
 ·obtain ⟨q, hq, he⟩ := List.mem_map.1 hm
  obtain ⟨k, hk, rfl⟩ := List.getElem_of_mem hq
  exact ⟨k, _, List.getElem?_eq_getElem hk, he⟩
 ·unfold nextL at h3
  rw [if_pos ⟨h1, h2, hm⟩] at h3
  have := congrArg List.length h3
  simp at this
theorem mul_gap {k r s : Nat} (h : r < s) : k * r + k ≤ k * s := by
 have := Nat.mul_le_mul_left k (show r + 1 ≤ s from h)
 rwa [Nat.mul_add, Nat.mul_one] at this
section
variable {a b : Mach} {l : List Arr} {W : Nat → List Int} {at' i : Nat}
theorem BInv.bound (h : BInv a b l W at' i) {j : Nat} (hj : j < l.length) (hat : at' < l.length) : rank a.ins.toNat (W j) < a.ins.toNat * rank a.ins.toNat (W at') + (i + 1) := by
 by_cases h0 : j = 0
 ·subst h0; rw [h.z]; simp only [rank]; omega
 obtain ⟨q, c, _, _, h1, h2, h3, h4⟩ := h.par j _ (by omega) (List.getElem?_eq_getElem hj)
 rw [h4, rank_snoc, Int.toNat_natCast]
 rcases h3 with h3 | ⟨rfl, h3⟩
 ·have := mul_gap (k := a.ins.toNat) (h.mono q at' h3 hat); omega
 ·omega
theorem BInv.step (ha : Valid a) (h : BInv a b l W at' i) {p : Arr} (hp : l[at']? = some p) (hi : i < a.ins.toNat) (ho : (stepR a p.1.1 i).2 = (stepR b p.1.2 i).2) :
  ∃ W', BInv a b (nextL at' i (stepR a p.1.1 i) (stepR b p.1.2 i) l) W' at' (i + 1) ∧ W' at' = W at' := by
 have hat := (List.getElem?_eq_some_iff.1 hp).1
 have hw : ∀ {j c : Nat} {x : Nat}, (j < at' ∨ (j = at' ∧ c < i)) → (j < at' ∨ (j = at' ∧ c < i + 1)) := fun h => by omega
 rcases nextL_new (at' := at') (i := i) (x := stepR a p.1.1 i) (y := stepR b p.1.2 i) (l := l) with e | ⟨e, n1, n2⟩
 ·have hin := nextL_in (at' := at') (i := i) (x := stepR a p.1.1 i) (y := stepR b p.1.2 i) (l := l)
  rw [e]
  refine ⟨W, ⟨h.z, h.z0, fun j q hj hq => ?_, h.ok, h.mono, h.path, fun j q hq c hc hd => ?_⟩, rfl⟩
  ·obtain ⟨u, c, h1, h2, h3, h4, h5, h6⟩ := h.par j q hj hq
   exact ⟨u, c, h1, h2, h3, h4, by omega, h6⟩
  ·by_cases hd' : j < at' ∨ (j = at' ∧ c < i)
   ·exact h.done j q hq c hc hd'
   ·obtain ⟨rfl, rfl⟩ : j = at' ∧ c = i := by omega
    rw [hp] at hq; cases hq
    refine ⟨ho, fun k1 k2 => ?_⟩
    obtain ⟨k, q, hk, hq⟩ := hin k1 k2 e
    exact ⟨k, q, hk, hq, Nat.le_of_lt (h.bound (List.getElem?_eq_some_iff.1 hk).1 hat)⟩
 ·rw [e]
  have hold : ∀ {j : Nat} {q : Arr}, l[j]? = some q → (l ++ [(((stepR a p.1.1 i).1, (stepR b p.1.2 i).1), (at' : Int), (i : Int))])[j]? = some q := fun hq => by
   rw [List.getElem?_append_left (List.getElem?_eq_some_iff.1 hq).1]; exact hq
  have hnew : ∀ {j : Nat} {q : Arr}, (l ++ [(((stepR a p.1.1 i).1, (stepR b p.1.2 i).1), (at' : Int), (i : Int))])[j]? = some q → (j < l.length ∧ l[j]? = some q) ∨ (j = l.length ∧ q = (((stepR a p.1.1 i).1, (stepR b p.1.2 i).1), (at' : Int), (i : Int))) := fun {j q} hq => by
   by_cases hj : j < l.length
   ·rw [List.getElem?_append_left hj] at hq; exact .inl ⟨hj, hq⟩
   ·have h1 := (List.getElem?_eq_some_iff.1 hq).1
    simp only [List.length_append, List.length_cons, List.length_nil] at h1
    obtain rfl : j = l.length := by omega
    rw [List.getElem?_append_right (Nat.le_refl _), Nat.sub_self] at hq
    simp only [List.getElem?_cons_zero, Option.some.injEq] at hq
    exact .inr ⟨rfl, hq.symm⟩
  obtain ⟨p1, p2, p3⟩ := h.path at' p hp
  have hV : ∀ j, j < l.length → (if j = l.length then W at' ++ [(i : Int)] else W j) = W j := fun j hj => if_neg (by omega)
  have hVl : (if l.length = l.length then W at' ++ [(i : Int)] else W l.length) = W at' ++ [(i : Int)] := if_pos rfl
  refine ⟨fun j => if j = l.length then W at' ++ [(i : Int)] else W j, ⟨?_, ?_, fun j q hj hq => ?_, fun j hj => ?_, fun j k hjk hk => ?_, fun j q hq => ?_, fun j q hq c hc hd => ?_⟩, hV _ hat⟩
  ·simp only [hV 0 (by omega)]; exact h.z
  ·obtain ⟨c, hc⟩ := h.z0; exact ⟨c, hold hc⟩
  ·rcases hnew hq with ⟨h1, h2⟩ | ⟨rfl, rfl⟩
   ·obtain ⟨u, c, k1, k2, k3, k4, k5, k6⟩ := h.par j q hj h2
    exact ⟨u, c, k1, k2, k3, k4, by omega, by simp only [hV j h1, hV u (by omega)]; exact k6⟩
   ·exact ⟨at', i, rfl, rfl, hat, hi, .inr ⟨rfl, by omega⟩, by simp only [if_true, hV at' hat]⟩
  ·simp only [List.length_append, List.length_cons, List.length_nil] at hj
   by_cases e2 : j = l.length
   ·subst e2; simp only [if_true]
    intro x hx
    rcases List.mem_append.1 hx with hx | hx
    ·exact h.ok at' hat x hx
    ·simp only [List.mem_singleton] at hx; omega
   ·simp only [hV j (by omega)]; exact h.ok j (by omega)
  ·simp only [List.length_append, List.length_cons, List.length_nil] at hk
   by_cases e2 : k = l.length
   ·subst e2; simp only [if_true, hV j (by omega), rank_snoc, Int.toNat_natCast]
    exact h.bound (by omega) hat
   ·simp only [hV j (by omega), hV k (by omega)]; exact h.mono j k hjk (by omega)
  ·rcases hnew hq with ⟨h1, h2⟩ | ⟨rfl, rfl⟩
   ·simp only [hV j h1]; exact h.path j q h2
   ·simp only [if_true, afterR_app, runR_app, p1, p2, p3, afterR, runR, ho, and_self]
  ·by_cases hd' : j < at' ∨ (j = at' ∧ c < i)
   ·rcases hnew hq with ⟨h1, h2⟩ | ⟨rfl, rfl⟩
    ·obtain ⟨k1, k2⟩ := h.done j q h2 c hc hd'
     refine ⟨k1, fun k3 k4 => ?_⟩
     obtain ⟨k, q', k5, k6, k7⟩ := k2 k3 k4
     exact ⟨k, q', hold k5, k6, by simp only [hV j h1, hV k (List.getElem?_eq_some_iff.1 k5).1]; exact k7⟩
    ·omega
   ·obtain ⟨rfl, rfl⟩ : j = at' ∧ c = i := by omega
    rcases hnew hq with ⟨h1, h2⟩ | ⟨h1, _⟩
    ·rw [hp] at h2; cases h2
     refine ⟨ho, fun _ _ => ⟨l.length, (((stepR a p.1.1 c).1, (stepR b p.1.2 c).1), (j : Int), (c : Int)), ?_, rfl, ?_⟩⟩
     ·rw [List.getElem?_append_right (Nat.le_refl _), Nat.sub_self]; rfl
     ·simp only [if_true, hV j h1, rank_snoc, Int.toNat_natCast]; exact Nat.le_refl _
    ·omega
theorem BInv.agree (ha : Valid a) (hb : Valid b) (hab : a.ins = b.ins) (hg : GoodL a b l) (h : BInv a b l W at' i) : ∀ (n : Nat) (v : List Int), v.length = n → WOk a.ins.toNat v →
  (∀ j c : Nat, j < l.length → c < a.ins.toNat → a.ins.toNat * rank a.ins.toNat (W j) + (c + 1) ≤ rank a.ins.toNat v → (j < at' ∨ (j = at' ∧ c < i))) →
  runR a 0 v = runR b 0 v ∧ ((afterR a 0 v = -1 ∧ afterR b 0 v = -1) ∨ ∃ (k : Nat) (q : Arr), l[k]? = some q ∧ q.1 = (afterR a 0 v, afterR b 0 v) ∧ rank a.ins.toNat (W k) ≤ rank a.ins.toNat v)
 | 0, v, hv, _, _ => by
   obtain rfl : v = [] := List.length_eq_zero_iff.1 hv
   obtain ⟨c, hc⟩ := h.z0
   exact ⟨rfl, .inr ⟨0, _, hc, rfl, by rw [h.z]; exact Nat.le_refl _⟩⟩
 | n + 1, v, hv, ho, hp => by
   have hins := ha.ins
   obtain ⟨u, c, rfl⟩ : ∃ u c, v = u ++ [c] := ⟨v.dropLast, v.getLast (by intro e; simp [e] at hv), (List.dropLast_concat_getLast _).symm⟩
   have hu : WOk a.ins.toNat u := fun x hx => ho x (List.mem_append_left _ hx)
   have hc := ho c (by simp)
   obtain ⟨c, rfl⟩ : ∃ d : Nat, c = (d : Int) := ⟨c.toNat, by omega⟩
   have hul : u.length = n := by simp at hv; omega
   rw [rank_snoc, Int.toNat_natCast] at hp ⊢
   have hca : (0 : Int) ≤ c ∧ (c : Int) < a.ins := by omega
   have hcb : (0 : Int) ≤ c ∧ (c : Int) < b.ins := by omega
   have hcn : c < a.ins.toNat := by omega
   have hK : rank a.ins.toNat u ≤ a.ins.toNat * rank a.ins.toNat u := Nat.le_mul_of_pos_left _ (by omega)
   obtain ⟨e1, e2⟩ := BInv.agree ha hb hab hg h n u hul hu fun j d hj hd hr => hp j d hj hd (by omega)
   rw [runR_app, runR_app, afterR_app, afterR_app, e1]
   rcases e2 with ⟨e2, e3⟩ | ⟨k, q, k1, k2, k3⟩
   ·rw [e2, e3]
    simp only [runR, afterR, stepR_dead]
    exact ⟨trivial, .inl ⟨trivial, trivial⟩⟩
   ·have hm := Nat.mul_le_mul_left a.ins.toNat k3
    have hm2 : a.ins.toNat * rank a.ins.toNat (W k) + (c + 1) ≤ a.ins.toNat * rank a.ins.toNat u + (c + 1) := by omega
    obtain ⟨d1, d2⟩ := h.done k q k1 c hcn (hp k c (List.getElem?_eq_some_iff.1 k1).1 hcn hm2)
    have hr := hg.rng q (List.mem_of_getElem? k1)
    have e3 : q.1.1 = afterR a 0 u := by rw [k2]
    have e4 : q.1.2 = afterR b 0 u := by rw [k2]
    rw [e3] at d1 d2 hr
    rw [e4] at d1 d2 hr
    have f1 := stepR_ends ha hr.1 hr.2.1 hca
    have f2 := stepR_ends hb hr.2.2.1 hr.2.2.2 hcb
    simp only [runR, afterR, d1, true_and]
    by_cases g1 : (stepR a (afterR a 0 u) c).1 = -1
    ·exact .inl ⟨g1, by omega⟩
    ·have g2 : (stepR b (afterR b 0 u) c).1 ≠ -1 := by omega
     obtain ⟨k', q', j1, j2, j3⟩ := d2 g1 g2
     have j4 : rank a.ins.toNat (W k') ≤ a.ins.toNat * rank a.ins.toNat u + (c + 1) := Nat.le_trans j3 hm2
     exact .inr ⟨k', q', j1, j2, j4⟩
theorem BInv.word (h : BInv a b l W at' i) : ∀ (n j : Nat) (acc : List Int), j < l.length → j < n → wordR l n j acc = W j ++ acc
 | 0, _, _, _, h2 => by omega
 | n + 1, j, acc, h1, h2 => by
   rw [wordR, Int.toNat_natCast]
   have hj := List.getElem?_eq_getElem h1
   rw [hj]
   by_cases h0 : j = 0
   ·subst h0
    obtain ⟨c, hc⟩ := h.z0
    rw [hj] at hc
    simp only [Option.some.injEq] at hc
    simp only [hc, if_true, h.z, List.nil_append]
   ·obtain ⟨q, c, k1, k2, k3, k4, k5, k6⟩ := h.par j _ (by omega) hj
    simp only
    rw [if_neg (by omega), k1, k2, BInv.word h n q _ (by omega) (by omega), k6]
    simp
theorem BInv.found (ha : Valid a) (hb : Valid b) (hab : a.ins = b.ins) (hg : GoodL a b l) (h : BInv a b l W at' i) {p : Arr} (hp : l[at']? = some p) (hi : i < a.ins.toNat) (ho : (stepR a p.1.1 i).2 ≠ (stepR b p.1.2 i).2) :
  Least2 a b (wordR l l.length at' [(i : Int)]) := by
 have hat := (List.getElem?_eq_some_iff.1 hp).1
 rw [h.word _ _ _ hat hat]
 obtain ⟨p1, p2, p3⟩ := h.path at' p hp
 refine ⟨fun x hx => ?_, fun he => ?_, fun v hv hd => ?_⟩
 ·rcases List.mem_append.1 hx with hx | hx
  ·exact h.ok at' hat x hx
  ·simp only [List.mem_singleton] at hx; omega
 ·rw [runR_app, runR_app, p1, p2, p3] at he
  have := List.append_cancel_left he
  simp only [runR, List.cons.injEq] at this
  exact ho this.1
 ·by_cases hr : rank a.ins.toNat (W at' ++ [(i : Int)]) ≤ rank a.ins.toNat v
  ·exact hr
  ·exfalso
   refine hd (h.agree ha hb hab hg v.length v rfl hv fun j c hj hc hjc => ?_).1
   rw [rank_snoc, Int.toNat_natCast] at hr
   by_cases h1 : j < at'
   ·exact .inl h1
   by_cases h2 : j = at'
   ·subst h2; exact .inr ⟨rfl, by omega⟩
   ·have := mul_gap (k := a.ins.toNat) (h.mono at' j (by omega) hj); omega
end
def difP (z : Yld) : Bool := decide (z.x.2 ≠ z.y.2)
def wordZ (z : Yld) : List Int := wordR z.l z.l.length z.at' [z.inp]
theorem inR_find {a b : Mach} (ha : Valid a) (hb : Valid b) (hab : a.ins = b.ins) {at' : Nat} {p : Arr} : ∀ (n i : Nat) (l : List Arr) (W : Nat → List Int), GoodL a b l → BInv a b l W at' i → l[at']? = some p → n + i = a.ins.toNat →
  (∃ z, (inR a b at' p.1.1 p.1.2 n i l).1.find? difP = some z ∧ Least2 a b (wordZ z)) ∨
  ((inR a b at' p.1.1 p.1.2 n i l).1.find? difP = none ∧ ∃ W', BInv a b (inR a b at' p.1.1 p.1.2 n i l).2 W' at' a.ins.toNat)
 | 0, i, l, W, _, h, _, hn => by
   obtain rfl : i = a.ins.toNat := by omega
   exact .inr ⟨rfl, W, h⟩
 | n + 1, i, l, W, hg, h, hp, hn => by
   simp only [inR, List.find?_cons]
   by_cases ho : (stepR a p.1.1 i).2 = (stepR b p.1.2 i).2
   ·rw [show difP ⟨at', i, stepR a p.1.1 i, stepR b p.1.2 i, l⟩ = false by simp [difP, ho]]
    obtain ⟨W', hW, _⟩ := h.step ha hp (by omega) ho
    have hr := hg.rng p (List.mem_of_getElem? hp)
    have hg' := (hg.next ha hb (List.getElem?_eq_some_iff.1 hp).1 (i := (i : Int)) ⟨hr.1, hr.2.1⟩ ⟨hr.2.2.1, hr.2.2.2⟩ (by omega) hab).1
    exact inR_find ha hb hab n (i + 1) _ W' hg' hW (nextL_get hp) (by omega)
   ·rw [show difP ⟨at', i, stepR a p.1.1 i, stepR b p.1.2 i, l⟩ = true by simp [difP, ho]]
    exact .inl ⟨_, rfl, h.found ha hb hab hg hp (by omega) ho⟩
theorem outR_find {a b : Mach} (ha : Valid a) (hb : Valid b) (hab : a.ins = b.ins) : ∀ (n at' : Nat) (l : List Arr) (W : Nat → List Int), GoodL a b l → BInv a b l W at' 0 → n + at' = 5000 → at' ≤ l.length →
  (∃ z, (outR a b n at' l).find? difP = some z ∧ Least2 a b (wordZ z)) ∨
  ((outR a b n at' l).find? difP = none ∧ ∀ v, WOk a.ins.toNat v → runR a 0 v = runR b 0 v)
 | 0, at', l, _, hg, _, hn, hat => by have := hg.len ha hb; omega
 | n + 1, at', l, W, hg, h, hn, hat => by
   simp only [outR]
   cases hp : l[at']? with
   | none =>
     have hl : l.length ≤ at' := by simpa using hp
     exact .inr ⟨rfl, fun v hv => (h.agree ha hb hab hg v.length v rfl hv fun j c hj _ _ => .inl (by omega)).1⟩
   | some p =>
     simp only [List.find?_append]
     have hpl := (List.getElem?_eq_some_iff.1 hp).1
     rcases inR_find ha hb hab a.ins.toNat 0 l W hg h hp rfl with ⟨z, h1, h2⟩ | ⟨h1, W', h2⟩
     ·exact .inl ⟨z, by rw [h1]; rfl, h2⟩
     ·rw [h1, Option.none_or]
      obtain ⟨_, h4, h5⟩ := inR_good ha hb hab a.ins.toNat 0 l hg hp rfl
      refine outR_find ha hb hab n (at' + 1) _ W' h4 ⟨h2.z, h2.z0, fun j q hj hq => ?_, h2.ok, h2.mono, h2.path, fun j q hq c hc hd => h2.done j q hq c hc (by omega)⟩ (by omega) (by have := (List.getElem?_eq_some_iff.1 h5).1; omega)
      obtain ⟨u, c, k1, k2, k3, k4, k5, k6⟩ := h2.par j q hj hq
      exact ⟨u, c, k1, k2, k3, k4, by omega, k6⟩
theorem diff_least {a b : Mach} (ha : Valid a) (hb : Valid b) (hab : a.ins = b.ins) :
  ((diffO a b).isSome = true ∧ Least2 a b (diffW a b)) ∨ (diffO a b = none ∧ diffW a b = [] ∧ ∀ v, WOk a.ins.toNat v → runR a 0 v = runR b 0 v) := by
 have he : diffO a b = (outR a b 5000 0 arr0).find? difP := rfl
 rcases outR_find ha hb hab 5000 0 arr0 _ (.zero ha hb) (.start a b) rfl (Nat.zero_le _) with ⟨z, h1, h2⟩ | ⟨h1, h2⟩
 ·rw [← he] at h1
  refine .inl ⟨by rw [h1]; rfl, ?_⟩
  unfold diffW; rw [h1]; exact h2
 ·rw [← he] at h1
  exact .inr ⟨h1, by unfold diffW; rw [h1], h2⟩
theorem cond_iff {m : Mach} (hv : WV m) {k s t b : Nat} (hs : s < m.rows.length) (ht : t < m.rows.length) (hb : b < m.ins.toNat) :
  condM (iterM m k) (ex (rowN m s) b) (ex (rowN m t) b) = false ↔ ∀ v, WOk m.ins.toNat v → v.length ≤ k → runR m s ((b : Int) :: v) = runR m t ((b : Int) :: v) := by
 by_cases ho : (ex (rowN m s) b).2 = (ex (rowN m t) b).2
 ·rcases ex_bothW hv hs ht hb ho with ⟨e1, e2⟩ | ⟨p, q, e1, e2, hp, hq⟩
  ·refine ⟨fun _ v _ _ => ?_, fun _ => by simp [condM, ho, e1]⟩
   rw [run_cons, run_cons, ho, e1, e2]
  ·have h1 : condM (iterM m k) (ex (rowN m s) b) (ex (rowN m t) b) = iterM m k p q := by simp [condM, ho, e1, e2]
   rw [h1, iterM_is hv k p q hp hq]
   refine ⟨fun h v h2 h3 => ?_, fun h v h2 h3 => ?_⟩
   ·rw [run_cons, run_cons, ho, e1, e2, h v h2 h3]
   ·have := h v h2 h3
    rw [run_cons, run_cons, e1, e2] at this
    exact (List.cons.inj this).2
 ·refine ⟨fun h => by simp [condM, ho] at h, fun h => ?_⟩
  have := h [] (fun x hx => by cases hx) (Nat.zero_le _)
  rw [run_cons, run_cons] at this
  exact absurd (List.cons.inj this).1 ho
def pickI (m : Mach) (n s t : Nat) : Option Nat := (List.range m.ins.toNat).find? fun i => condM (iterM m n) (ex (rowN m s) i) (ex (rowN m t) i)
def refW (m : Mach) : Nat → Nat → Nat → List Int
 | 0, _, _ => []
 | n + 1, s, t => match pickI m n s t with
   | some i => (i : Int) :: refW m n (ex (rowN m s) i).1.toNat (ex (rowN m t) i).1.toNat
   | none => refW m n s t
theorem range_find {n i : Nat} {p : Nat → Bool} (h : (List.range n).find? p = some i) : i < n ∧ p i = true ∧ ∀ j, j < i → p j = false := by
 obtain ⟨h1, l1, l2, h2, h3⟩ := List.find?_eq_some_iff_append.1 h
 have hl := congrArg List.length h2
 simp only [List.length_range, List.length_append, List.length_cons] at hl
 have hi : i = l1.length := by
  have h4 : (List.range n)[l1.length]? = some i := by rw [h2, List.getElem?_append_right (Nat.le_refl _), Nat.sub_self]; rfl
  rw [List.getElem?_range (by omega)] at h4
  simpa using h4.symm
 refine ⟨by omega, h1, fun j hj => ?_⟩
 have h4 : (List.range n)[j]? = some j := List.getElem?_range (by omega)
 rw [h2, List.getElem?_append_left (by omega)] at h4
 have := h3 j (List.mem_of_getElem? h4)
 simpa using this
def LeastS (m : Mach) (s t : Nat) (w : List Int) : Prop :=
 WOk m.ins.toNat w ∧ runR m s w ≠ runR m t w ∧ ∀ v, WOk m.ins.toNat v → runR m s v ≠ runR m t v → rank m.ins.toNat w ≤ rank m.ins.toNat v
theorem refW_least {m : Mach} (hv : WV m) : ∀ (n s t : Nat), s < m.rows.length → t < m.rows.length → iterM m n s t = true → iterM m (n - 1) s t = false → LeastS m s t (refW m n s t)
 | 0, s, t, _, _, h, _ => by simp [iterM] at h
 | n + 1, s, t, hs, ht, h, h0 => by
   rw [Nat.add_sub_cancel] at h0
   have hal := (iterM_is hv n s t hs ht).1 h0
   have hap : apartB m (iterM m n) s t = true := by simpa [iterM, h0] using h
   have hlong : ∀ v, WOk m.ins.toNat v → runR m s v ≠ runR m t v → n < v.length := fun v h1 h2 => by
    by_cases h3 : n < v.length
    ·exact h3
    ·exact absurd (hal v h1 (by omega)) h2
   rw [refW]
   cases hp : pickI m n s t with
   | none =>
     exfalso
     unfold pickI at hp
     rw [List.find?_eq_none] at hp
     obtain ⟨i, hi, hc⟩ := List.any_eq_true.1 hap
     exact hp i hi hc
   | some i =>
     obtain ⟨hi, hc, hbef⟩ := range_find hp
     simp only
     have hless : ∀ c v, WOk m.ins.toNat ((c : Int) :: v) → v.length ≤ n → runR m s ((c : Int) :: v) ≠ runR m t ((c : Int) :: v) → i ≤ c.toNat := fun c v h1 h2 h3 => by
      by_cases h4 : i ≤ c.toNat
      ·exact h4
      ·have hc0 := h1.head
       have := (cond_iff hv hs ht (show c.toNat < m.ins.toNat by omega)).1 (hbef c.toNat (by omega)) v h1.tail h2
       rw [show ((c.toNat : Nat) : Int) = c by omega] at this
       exact absurd this h3
     by_cases ho : (ex (rowN m s) i).2 = (ex (rowN m t) i).2
     ·rcases ex_bothW hv hs ht hi ho with ⟨e1, e2⟩ | ⟨p, q, e1, e2, hp, hq⟩
      ·simp [condM, ho, e1] at hc
      ·have hpq : iterM m n p q = true := by simpa [condM, ho, e1, e2] using hc
       have hpq0 : iterM m (n - 1) p q = false := by
        rw [iterM_is hv (n - 1) p q hp hq]
        intro v h1 h2
        cases n with
        | zero => simp [iterM] at hpq
        | succ n =>
          have := hal ((i : Int) :: v) (h1.cons (by omega)) (by simp; omega)
          rw [run_cons, run_cons, e1, e2] at this
          exact (List.cons.inj this).2
       obtain ⟨l1, l2, l3⟩ := refW_least hv n p q hp hq hpq hpq0
       rw [e1, e2, Int.toNat_natCast, Int.toNat_natCast]
       have hd : runR m s ((i : Int) :: refW m n p q) ≠ runR m t ((i : Int) :: refW m n p q) := by
        rw [run_cons, run_cons, e1, e2]
        intro he; exact l2 (List.cons.inj he).2
       have hwo := l1.cons (k := m.ins.toNat) (a := (i : Int)) (by omega)
       have hlen : (refW m n p q).length = n := by
        have h1 := hlong _ hwo hd
        simp only [List.length_cons] at h1
        have h2 : ¬ Alike m n p q := fun h2 => by rw [(iterM_is hv n p q hp hq).2 h2] at hpq; cases hpq
        simp only [Alike, Classical.not_forall] at h2
        obtain ⟨v, v1, v2, v3⟩ := h2
        have := rank_lt_len v1 (l3 v v1 v3)
        omega
       refine ⟨hwo, hd, fun v hv1 hv2 => ?_⟩
       have hvl := hlong v hv1 hv2
       match v, hv1 with
       | [], _ => simp at hvl
       | c :: v, hv1 =>
         simp only [List.length_cons] at hvl
         by_cases hvn : v.length = n
         ·have hci := hless c v hv1 (by omega) hv2
          by_cases e : c.toNat = i
          ·obtain rfl : c = (i : Int) := by have := hv1.head; omega
           refine rank_cons (by omega) (l3 v hv1.tail fun he => hv2 ?_)
           rw [run_cons, run_cons, ho, e1, e2, he]
          ·exact Nat.le_of_lt (rank_head (by omega) l1 (by omega))
         ·exact Nat.le_of_lt (rank_len hwo (by simp only [List.length_cons]; omega))
     ·have hn : n = 0 := by
        by_cases hn : n = 0
        ·exact hn
        ·have := hal [(i : Int)] (fun x hx => by simp at hx; omega) (by simp; omega)
         rw [run_cons, run_cons] at this
         exact absurd (List.cons.inj this).1 ho
      subst hn
      refine ⟨fun x hx => by simp [refW] at hx; omega, fun he => ?_, fun v hv1 hv2 => ?_⟩
      ·rw [run_cons, run_cons] at he
       exact ho (List.cons.inj he).1
      ·match v, hv1 with
       | [], _ => exact absurd rfl hv2
       | [c], hv1 =>
         have hci := hless c [] hv1 (Nat.le_refl _) hv2
         by_cases e : c.toNat = i
         ·obtain rfl : c = (i : Int) := by have := hv1.head; omega
          exact Nat.le_refl _
         ·exact Nat.le_of_lt (rank_head rfl (fun x hx => by cases hx) (by omega))
       | c :: d :: v, hv1 => exact Nat.le_of_lt (rank_len (fun x hx => by simp [refW] at hx; omega) (by simp [refW]))
theorem first_of (p : Nat → Bool) : ∀ N, ∃ n, n ≤ N ∧ (∀ k, k < n → p k = false) ∧ (n = N ∨ p n = true)
 | 0 => ⟨0, Nat.le_refl _, fun k hk => by omega, .inl rfl⟩
 | N + 1 => by
   obtain ⟨n, h1, h2, h3⟩ := first_of p N
   by_cases hp : p n = true
   ·exact ⟨n, by omega, h2, .inr hp⟩
   ·obtain rfl : n = N := h3.resolve_right hp
    exact ⟨n + 1, Nat.le_refl _, fun k hk => by
     by_cases e : k = n
     ·subst e; simpa using hp
     ·exact h2 k (by omega), .inl rfl⟩
def besRow (n : Int) (r : Row) : Row := (false, r.2.map fun e => if 0 ≤ e.1 then (e.1 + n, e.2) else e)
def besM (a b : Mach) : Mach := ⟨a.ins, max a.outs b.outs, false, a.rows ++ b.rows.map (besRow a.rows.length)⟩
theorem besM_len (a b : Mach) : (besM a b).rows.length = a.rows.length + b.rows.length := by simp [besM]
theorem besM_wv {a b : Mach} (ha : Valid a) (hb : Valid b) (hab : a.ins = b.ins) : WV (besM a b) := by
 have h1 := ha.rows
 have h2 := hb.rows
 refine ⟨ha.ins, by rw [besM_len]; omega, fun r hr => ?_⟩
 rw [besM_len]
 simp only [besM] at hr ⊢
 rcases List.mem_append.1 hr with hr | hr
 ·obtain ⟨k1, k2⟩ := ha.row r hr
  refine ⟨k1, fun e he => ?_⟩
  have := fits_cases (k2 e he)
  unfold fitsR; simp; omega
 ·obtain ⟨r', hr', rfl⟩ := List.mem_map.1 hr
  obtain ⟨k1, k2⟩ := hb.row r' hr'
  refine ⟨by simp only [besRow, List.length_map]; omega, fun e he => ?_⟩
  obtain ⟨e', he', rfl⟩ := List.mem_map.1 he
  have := fits_cases (k2 e' he')
  split <;> (unfold fitsR; simp; omega)
theorem bes_a (a b : Mach) {s i : Int} (hs : s < a.rows.length) : stepR (besM a b) s i = stepR a s i := by
 unfold stepR
 by_cases h0 : s < 0
 ·rw [if_pos h0, if_pos h0]
 ·rw [if_neg h0, if_neg h0]
  simp only [besM]
  rw [List.getElem?_append_left (by omega)]
theorem bes_b (a b : Mach) {t i : Int} (h0 : 0 ≤ t) : stepR (besM a b) (a.rows.length + t) i = if 0 ≤ (stepR b t i).1 then ((stepR b t i).1 + a.rows.length, (stepR b t i).2) else stepR b t i := by
 have hb' : stepR b t i = (((b.rows[t.toNat]?).map (·.2)).getD [])[i.toNat]?.getD (-1, -1) := by unfold stepR; rw [if_neg (by omega)]
 rw [hb']
 unfold stepR
 rw [if_neg (by omega)]
 simp only [besM]
 rw [List.getElem?_append_right (by omega), show ((a.rows.length : Int) + t).toNat - a.rows.length = t.toNat by omega, List.getElem?_map]
 cases hr : b.rows[t.toNat]? with
 | none => simp
 | some r =>
   simp only [Option.map_some, Option.getD_some, besRow, List.getElem?_map]
   cases he : r.2[i.toNat]? with
   | none => simp
   | some e => simp
theorem bes_runa {a : Mach} (ha : Valid a) (b : Mach) : ∀ (w : List Int) (s : Int), s < a.rows.length → (∀ i ∈ w, 0 ≤ i ∧ i < a.ins) → runR (besM a b) s w = runR a s w
 | [], _, _, _ => rfl
 | i :: w, s, hs, hw => by
   simp only [runR, bes_a a b hs]
   rw [bes_runa ha b w _ (stepR_lt ha hs (hw i List.mem_cons_self)) fun j hj => hw j (List.mem_cons_of_mem _ hj)]
theorem runR_deadR (m : Mach) : ∀ (w : List Int), runR m (-1) w = w.map fun _ => -1
 | [] => rfl
 | a :: w => by simp only [runR, stepR_dead, runR_deadR m w, List.map_cons]
theorem bes_runb (a : Mach) {b : Mach} (hb : Valid b) : ∀ (w : List Int) (t : Int), 0 ≤ t → t < b.rows.length → (∀ i ∈ w, 0 ≤ i ∧ i < b.ins) → runR (besM a b) (a.rows.length + t) w = runR b t w
 | [], _, _, _, _ => rfl
 | i :: w, t, h0, ht, hw => by
   have hw' : ∀ j ∈ w, 0 ≤ j ∧ j < b.ins := fun j hj => hw j (List.mem_cons_of_mem _ hj)
   simp only [runR, bes_b a b h0]
   rcases stepR_ends hb h0 ht (hw i List.mem_cons_self) with h | h
   ·rw [if_neg (by omega), h.1, runR_deadR, runR_deadR]
   ·rw [if_pos h.1]
    simp only
    rw [Int.add_comm, bes_runb a hb w _ h.1 h.2.1 hw']
theorem bes_least {a b : Mach} (ha : Valid a) (hb : Valid b) (hab : a.ins = b.ins) {w : List Int} (h : LeastS (besM a b) 0 a.rows.length w) : Least2 a b w := by
 have h1 := ha.rows
 have h2 := hb.rows
 have hins := ha.ins
 have e : ∀ v, WOk a.ins.toNat v → runR (besM a b) ((0 : Nat) : Int) v = runR a 0 v ∧ runR (besM a b) (a.rows.length : Int) v = runR b 0 v := fun v hv => by
  have q1 := bes_runa ha b v 0 (by omega) fun i hi => by have := hv i hi; omega
  have q2 := bes_runb a hb v 0 (by omega) (by omega) fun i hi => by have := hv i hi; omega
  rw [Int.add_zero] at q2
  exact ⟨q1, q2⟩
 obtain ⟨k1, k2, k3⟩ := h
 have k1 : WOk a.ins.toNat w := k1
 rw [(e w k1).1, (e w k1).2] at k2
 exact ⟨k1, k2, fun v hv hd => k3 v hv (by rw [(e v hv).1, (e v hv).2]; exact hd)⟩
theorem ref10_word {a b : Mach} (ha : Valid a) (hb : Valid b) (hab : a.ins = b.ins) {n : Nat} (hn : n ≤ a.rows.length + b.rows.length) (hk : ∀ k, k < n → iterM (besM a b) k 0 a.rows.length = false) (he : n = a.rows.length + b.rows.length ∨ iterM (besM a b) n 0 a.rows.length = true) :
  (n = a.rows.length + b.rows.length ∧ diffO a b = none ∧ diffW a b = []) ∨ (n < a.rows.length + b.rows.length ∧ iterM (besM a b) n 0 a.rows.length = true ∧ (diffO a b).isSome = true ∧ refW (besM a b) n 0 a.rows.length = diffW a b) := by
 have h1 := ha.rows
 have h2 := hb.rows
 have hins := ha.ins
 have hw := besM_wv ha hb hab
 have hl := besM_len a b
 by_cases hx : iterM (besM a b) n 0 a.rows.length = true
 ·have hn0 : n ≠ 0 := fun e => by subst e; simp [iterM] at hx
  have hL := bes_least ha hb hab (refW_least hw n 0 a.rows.length (by omega) (by omega) hx (hk (n - 1) (by omega)))
  have hd : (diffO a b).isSome = true ∧ Least2 a b (diffW a b) := by
   rcases diff_least ha hb hab with h | ⟨_, _, h⟩
   ·exact h
   ·exact absurd (h _ hL.1) hL.2.1
  refine .inr ⟨?_, hx, hd.1, hL.uniq hd.2⟩
  by_cases hlt : n < a.rows.length + b.rows.length
  ·exact hlt
  ·exfalso
   have ha1 := (iterM_is hw (n - 1) 0 a.rows.length (by omega) (by omega)).1 (hk (n - 1) (by omega))
   have := alike_all hw (k := n - 1) (by omega) (by omega) (by omega) ha1
   rw [(iterM_is hw n 0 a.rows.length (by omega) (by omega)).2 fun v hv _ => this v hv] at hx
   cases hx
 ·obtain rfl := he.resolve_right hx
  refine .inl ⟨rfl, ?_⟩
  have ha1 := (iterM_is hw (a.rows.length + b.rows.length - 1) 0 a.rows.length (by omega) (by omega)).1 (hk _ (by omega))
  have hal := alike_all hw (by omega) (by omega) (by omega) ha1
  rcases diff_least ha hb hab with ⟨_, h⟩ | ⟨h3, h4, _⟩
  ·exfalso
   have q1 := bes_runa ha b (diffW a b) 0 (by omega) fun i hi => by have := h.1 i hi; omega
   have q2 := bes_runb a hb (diffW a b) 0 (by omega) (by omega) fun i hi => by have := h.1 i hi; omega
   rw [Int.add_zero] at q2
   have := hal _ h.1
   rw [q2] at this
   exact h.2.1 (q1.symm.trans this)
  ·exact ⟨h3, h4⟩
def rowsT (l : List Row) (k : Nat) : List (List AV) := (l.take k).map rowC
theorem rowsT_succ {l : List Row} {k : Nat} {r : Row} (h : l[k]? = some r) : rowsT l k ++ [rowC r] = rowsT l (k + 1) := by
 obtain ⟨hi, he⟩ := List.getElem?_eq_some_iff.1 h
 unfold rowsT
 rw [List.take_succ_eq_append_getElem hi, he, List.map_append]; rfl
theorem rowsT_len {l : List Row} {k : Nat} (h : k ≤ l.length) : (rowsT l k).length = k := by simp [rowsT]; omega
@[go_sem] theorem norefs_rowsT (l : List Row) (k : Nat) : (rowsT l k).all AV.norefs = true := by
 rw [List.all_eq_true]
 intro c hc
 obtain ⟨r, _, rfl⟩ := List.mem_map.1 hc
 exact rowC_norefs r
theorem rowsT_all (l : List Row) : rowsT l l.length = l.map rowC := by rw [rowsT, List.take_length]
def edgT (l : List (Int × Int)) (k : Nat) : List (List AV) := (l.take k).map edgeC
theorem edgT_succ {l : List (Int × Int)} {k : Nat} {e : Int × Int} (h : l[k]? = some e) : edgT l k ++ [edgeC e] = edgT l (k + 1) := by
 obtain ⟨hi, he⟩ := List.getElem?_eq_some_iff.1 h
 unfold edgT
 rw [List.take_succ_eq_append_getElem hi, he, List.map_append]; rfl
theorem edgT_len {l : List (Int × Int)} {k : Nat} (h : k ≤ l.length) : (edgT l k).length = k := by simp [edgT]; omega
@[go_sem] theorem norefs_edgT (l : List (Int × Int)) (k : Nat) : (edgT l k).all AV.norefs = true := by
 rw [List.all_eq_true]
 intro c hc
 obtain ⟨e, _, rfl⟩ := List.mem_map.1 hc
 rfl
theorem edgT_all (l : List (Int × Int)) : edgT l l.length = l.map edgeC := by rw [edgT, List.take_length]
theorem beside_is {a b : Mach} (ha : Valid a) (hb : Valid b) (hab : a.ins = b.ins) : PureIs prog 102 [.ag a.cells, .ag b.cells] (.ag (besM a b).cells) := by
 have h1 := ha.rows
 have h2 := hb.rows
 have h3 := ha.ins
 have h4 := ha.outs
 have h5 := hb.outs
 refine PureIs.of1 11 [23, 40, 46, 59] func102 ntmps102 results102 fun _ => ?_
 refine EvC.a ?_ (by simp only [go_sem, Mach.cells] <;> rfl)
 refine EvC.z 0 ?_
 refine EvC.z 1 ?_
 refine EvC.a ?_ (by simp only [go_sem, Mach.cells] <;> rfl)
 obtain ⟨O, hO⟩ : ∃ O : Int, O = max a.outs b.outs := ⟨_, rfl⟩
 rw [show (if a.outs ≤ b.outs then b.outs else a.outs) = O from hO.symm]
 refine EvC.ownC 11 2 1 (by simp only [go_sem] <;> rfl) ?_
 refine EvC.seq ?_
 refine EvC.a ?_
 refine EvC.block ?_
 refine EvC.loopS (σ := Nat) (fun i => ⟨[(2, .ia a.cells), (3, .ia b.cells), (4, .rf 0 0), (5, .rf 1 0), (6, .sc (.int .i64 i))], [], [(0, .cells [.sc (.int .i64 0), .sc (.int .i64 0), .sl true [] .zer]), (1, .cells [.sc (.int .i64 a.ins), .sc (.int .i64 O), .tl 2 i (i == 0)]), (2, .arr 1 (rowsT a.rows i) true)], 3⟩) (fun i => a.rows.length - i) (fun i => i ≤ a.rows.length) [2, 3, 4, 5, 6] 3 ?_ ?_
 ·exact ⟨[(2, 0), (11, 1), (13, 2)], 0, rfl, (by simp only [go_sem, Int.natCast_zero, Mach.cells, rowsT, List.take_zero, List.map_nil] <;> rfl), Nat.zero_le _⟩
 intro i hi
 have hl := rowsT_len hi
 refine EvC.seq ?_
 refine EvC.a ?_ (by simp only [go_sem, Mach.cells, List.length_map] <;> rfl)
 refine EvC.cond (by simp only [go_sem] <;> rfl) (fun hc => ?_) (fun hc => ?_)
 rotate_left
 ·refine EvC.exit ?_
  obtain rfl : i = a.rows.length := by have : ¬ i < a.rows.length := (by simpa using hc); omega
  clear hc hi
  obtain ⟨NA, hNA⟩ : ∃ n, n = a.rows.length := ⟨_, rfl⟩
  obtain ⟨L, hL⟩ : ∃ L, L = (besM a b).rows := ⟨_, rfl⟩
  have hL2 : L = a.rows ++ b.rows.map (besRow NA) := by rw [hL, hNA]; rfl
  have hLl : L.length = NA + b.rows.length := by rw [hL2, hNA]; simp
  have hT0 : rowsT a.rows NA = rowsT L NA := by rw [rowsT, rowsT, hL2, hNA, List.take_left, List.take_length]
  have hnz : (NA == 0) = false := by simp; omega
  rw [← hNA] at hl ⊢
  rw [hT0] at hl ⊢
  refine EvC.seq ?_
  refine EvC.a ?_
  refine EvC.block ?_
  refine EvC.loopS (σ := Nat) (fun t => ⟨[(2, .ia a.cells), (3, .ia b.cells), (4, .rf 0 0), (5, .rf 1 0), (7, .sc (.int .i64 t))], [], [(0, .cells [.sc (.int .i64 0), .sc (.int .i64 0), .sl true [] .zer]), (1, .cells [.sc (.int .i64 a.ins), .sc (.int .i64 O), .tl 2 (NA + t) false]), (2, .arr 1 (rowsT L (NA + t)) true)], 3⟩) (fun t => b.rows.length - t) (fun t => t ≤ b.rows.length) [2, 3, 4, 5, 7] 3 ?_ ?_
  ·exact ⟨[(0, 0), (1, 1), (2, 2)], 0, rfl, (by simp only [go_sem, Int.natCast_zero, Mach.cells, hnz, Nat.add_zero] <;> rfl), Nat.zero_le _⟩
  intro t ht
  have hlt := rowsT_len (l := L) (k := NA + t) (by omega)
  refine EvC.seq ?_
  refine EvC.a ?_ (by simp only [go_sem, Mach.cells, List.length_map] <;> rfl)
  refine EvC.cond (by simp only [go_sem] <;> rfl) (fun hc => ?_) (fun hc => ?_)
  rotate_left
  ·refine EvC.exit ?_
   obtain rfl : t = b.rows.length := by have : ¬ t < b.rows.length := (by simpa using hc); omega
   rw [← hLl] at hlt ⊢
   rw [rowsT_all] at hlt ⊢
   have hn : (L.map rowC).all AV.norefs = true := by rw [← rowsT_all]; exact norefs_rowsT _ _
   refine EvC.frzD 2 (by simp only [go_sem, hlt, hn] <;> rfl) ?_
   refine EvC.a ?_
   refine EvC.rz ?_
   simp only [go_sem]
   rw [hL, hO]; rfl
  have htl : t < b.rows.length := by simpa using hc
  clear hc
  have hbr := List.getElem?_eq_getElem htl
  have hmr := List.getElem_mem htl
  generalize b.rows[t] = r at hbr hmr
  have hbl := (hb.row r hmr).1
  have hbf := (hb.row r hmr).2
  have hLr : L[NA + t]? = some (besRow NA r) := by rw [hL2, hNA, List.getElem?_append_right (Nat.le_add_right _ _), Nat.add_sub_cancel_left, List.getElem?_map, hbr]; rfl
  obtain ⟨R, hR⟩ : ∃ R, R = (besRow NA r).2 := ⟨_, rfl⟩
  have hRl : R.length = b.ins.toNat := by rw [hR, besRow]; simp only [List.length_map]; omega
  have hbes : besRow NA r = (false, R) := by rw [hR]; rfl
  have hsT := rowsT_succ hLr
  rw [hbes] at hsT
  simp only [rowC] at hsT
  have htt : ((t : Int)).toNat = t := Int.toNat_natCast t
  refine EvC.skip ?_
  refine EvC.seq ?_
  refine EvC.block ?_
  refine EvC.a ?_
  refine EvC.seq ?_
  refine EvC.a ?_
  refine EvC.block ?_
  refine EvC.loopS (σ := Nat) (fun i => ⟨[(2, .ia a.cells), (3, .ia b.cells), (4, .rf 0 0), (5, .rf 1 0), (7, .sc (.int .i64 t)), (8, .tl 3 i (i == 0)), (9, .sc (.int .i64 i))], [], [(0, .cells [.sc (.int .i64 0), .sc (.int .i64 0), .sl true [] .zer]), (1, .cells [.sc (.int .i64 a.ins), .sc (.int .i64 O), .tl 2 (NA + t) false]), (2, .arr 1 (rowsT L (NA + t)) true), (3, .arr 2 (edgT R i) true)], 4⟩) (fun i => b.ins.toNat - i) (fun i => i ≤ b.ins.toNat) [2, 3, 4, 5, 7, 8, 9] 4 ?_ ?_
  ·exact ⟨[(0, 0), (1, 1), (2, 2), (8, 3)], 0, rfl, (by simp only [go_sem, Int.natCast_zero, Mach.cells, edgT, List.take_zero, List.map_nil] <;> rfl), Nat.zero_le _⟩
  intro i hi
  have hel := edgT_len (l := R) (k := i) (by omega)
  refine EvC.seq ?_
  refine EvC.a ?_ (by simp only [go_sem, Mach.cells] <;> rfl)
  refine EvC.cond (by simp only [go_sem] <;> rfl) (fun hc => ?_) (fun hc => ?_)
  rotate_left
  ·refine EvC.exit ?_
   obtain rfl : i = b.ins.toNat := by have : ¬ (i : Int) < b.ins := (by simpa using hc); omega
   have hz : (b.ins.toNat == 0) = false := by simp; omega
   rw [← hRl] at hel ⊢
   rw [edgT_all] at hel ⊢
   have hz2 : (R.length == 0) = false := by rw [hRl]; exact hz
   rw [hz2]
   refine EvC.frz 3 (by simp only [go_sem, hel] <;> rfl) ?_
   have hr : room (NA + t + 1) 24 = true := by simp only [room_eq, decide_eq_true_eq]; omega
   have hlt2 := rowsT_len (l := L) (k := NA + (t + 1)) (by omega)
   refine EvC.b ?_ (by simp only [go_sem, hlt, hsT] <;> rfl) (by simp [hr])
   refine EvC.b ?_ (hok := by exact inI64_of (by omega) (by omega))
   exact ⟨[(0, 0), (1, 1), (2, 2)], t + 1, rfl, (by simp only [go_sem, Mach.cells, hlt2, Int.natCast_add, Int.natCast_one, Nat.add_assoc] <;> rfl), htl, by omega⟩
  have hil : i < b.ins.toNat := by have : (i : Int) < b.ins := (by simpa using hc); omega
  clear hc
  have hil2 : i < r.2.length := by omega
  have her := List.getElem?_eq_getElem hil2
  have hem := hbf _ (List.getElem_mem hil2)
  generalize r.2[i] = e at her hem
  have hef := fits_cases hem
  have hRe : R[i]? = some (if 0 ≤ e.1 then (e.1 + (NA : Int), e.2) else e) := by rw [hR, besRow]; simp only [List.getElem?_map, her, Option.map_some]
  have hsE := edgT_succ hRe
  have hit : ((i : Int)).toNat = i := Int.toNat_natCast i
  have hel2 := edgT_len (l := R) (k := i + 1) (by omega)
  have hr : room (i + 1) 16 = true := by simp only [room_eq, decide_eq_true_eq]; omega
  have hne : (i + 1 == 0) = false := rfl
  refine EvC.skip ?_
  refine EvC.seq ?_
  refine EvC.block ?_
  refine EvC.a ?_ (by simp only [go_sem, Mach.cells, List.length_map, hbr, htt, rowC, her, hit, edgeC] <;> rfl) (by simp; try omega)
  refine EvC.seq ?_
  refine EvC.a ?_
  by_cases h0 : 0 ≤ e.1
  ·refine EvC.ct ?_ (by simp only [go_sem, decide_eq_true h0] <;> rfl)
   rw [if_pos h0] at hsE
   simp only [edgeC] at hsE
   have hI : inI64 (e.1 + (NA : Int)) = true := inI64_of (by omega) (by omega)
   refine EvC.b ?_ (by simp only [go_sem, Mach.cells, List.length_map, ← hNA] <;> rfl) (by simp [hI])
   refine EvC.b ?_ (by simp only [go_sem, hel, hsE] <;> rfl) (by simp [hr])
   refine EvC.b ?_ (hok := by exact inI64_of (by omega) (by omega))
   exact ⟨[(0, 0), (1, 1), (2, 2), (3, 3)], i + 1, rfl, (by simp only [go_sem, Mach.cells, hne, hel2, Int.natCast_add, Int.natCast_one] <;> rfl), hil, by omega⟩
  ·refine EvC.cf ?_ (by simp only [go_sem, decide_eq_false h0] <;> rfl)
   rw [if_neg h0] at hsE
   simp only [edgeC] at hsE
   refine EvC.skip ?_
   refine EvC.b ?_ (by simp only [go_sem, hel, hsE] <;> rfl) (by simp [hr])
   refine EvC.b ?_ (hok := by exact inI64_of (by omega) (by omega))
   exact ⟨[(0, 0), (1, 1), (2, 2), (3, 3)], i + 1, rfl, (by simp only [go_sem, Mach.cells, hne, hel2, Int.natCast_add, Int.natCast_one] <;> rfl), hil, by omega⟩
 have hil : i < a.rows.length := by simpa using hc
 clear hc
 have he := List.getElem?_eq_getElem hil
 generalize a.rows[i] = r at he
 have hs := rowsT_succ he
 have hl2 := rowsT_len (l := a.rows) (k := i + 1) hil
 have hr : room (i + 1) 24 = true := by simp only [room_eq, decide_eq_true_eq]; omega
 have hit : ((i : Int)).toNat = i := Int.toNat_natCast i
 simp only [rowC] at hs
 refine EvC.skip ?_
 refine EvC.seq ?_
 refine EvC.block ?_
 apply EvC.drd mixed
 ·simp only [go_sem, Mach.cells, List.length_map, he, hit, rowC, hl, hs] <;> rfl
 ·simp [hr]; try omega
 ·kernel_rfl
 have hne : (i + 1 == 0) = false := rfl
 refine EvC.b ?_ (hok := by exact inI64_of (by omega) (by omega))
 exact ⟨[(0, 0), (1, 1), (2, 2)], i + 1, rfl, (by simp only [go_sem, Mach.cells, hne, hl2, Int.natCast_add, Int.natCast_one] <;> rfl), hil, by omega⟩
theorem mtab_at {n i k : Nat} {M : Mtx} (h : k < i) : (mtab n M i)[k]? = some [.sl false (((List.range n).map (M k)).map boolC) .unk] := mtab_get h
theorem pick_next {m : Mach} (hv : WV m) {n s t : Nat} (hs : s < m.rows.length) (ht : t < m.rows.length) (h : iterM m (n + 1) s t = true) (h0 : iterM m n s t = false) :
  ∃ i, pickI m n s t = some i ∧ i < m.ins.toNat ∧ condM (iterM m n) (ex (rowN m s) i) (ex (rowN m t) i) = true ∧ (∀ j, j < i → condM (iterM m n) (ex (rowN m s) j) (ex (rowN m t) j) = false) ∧
    (0 < n → ∃ p q : Nat, (ex (rowN m s) i).1 = (p : Int) ∧ (ex (rowN m t) i).1 = (q : Int) ∧ p < m.rows.length ∧ q < m.rows.length ∧ iterM m n p q = true ∧ iterM m (n - 1) p q = false) := by
 have hal := (iterM_is hv n s t hs ht).1 h0
 have hap : apartB m (iterM m n) s t = true := by simpa [iterM, h0] using h
 cases hp : pickI m n s t with
 | none =>
   exfalso
   unfold pickI at hp
   rw [List.find?_eq_none] at hp
   obtain ⟨i, hi, hc⟩ := List.any_eq_true.1 hap
   exact hp i hi hc
 | some i =>
   obtain ⟨hi, hc, hbef⟩ := range_find hp
   refine ⟨i, rfl, hi, hc, hbef, fun hn => ?_⟩
   have ho : (ex (rowN m s) i).2 = (ex (rowN m t) i).2 := by
    have := hal [(i : Int)] (fun x hx => by simp at hx; omega) (by simp; try omega)
    rw [run_cons, run_cons] at this
    exact (List.cons.inj this).1
   rcases ex_bothW hv hs ht hi ho with ⟨e1, e2⟩ | ⟨p, q, e1, e2, hp', hq'⟩
   ·simp [condM, ho, e1] at hc
   ·have hpq : iterM m n p q = true := by simpa [condM, ho, e1, e2] using hc
    refine ⟨p, q, e1, e2, hp', hq', hpq, ?_⟩
    rw [iterM_is hv (n - 1) p q hp' hq']
    intro v h1 h2
    have := hal ((i : Int) :: v) (h1.cons (by omega)) (by simp; try omega)
    rw [run_cons, run_cons, e1, e2] at this
    exact (List.cons.inj this).2
theorem ref10_is {a b : Mach} (ha : Valid a) (hb : Valid b) (hab : a.ins = b.ins) :
  PureIs prog 80 [.ag a.cells, .ag b.cells] (.tu [.sl (diffW a b).isEmpty ((diffW a b).map intC) .unk, .sc (.bool (diffO a b).isSome)]) := by
 obtain ⟨n0, k1, k2, k3⟩ := first_of (fun k => iterM (besM a b) k 0 a.rows.length) (a.rows.length + b.rows.length)
 have hword := ref10_word ha hb hab k1 k2 k3
 have q0 := beside_is ha hb hab
 have hw := besM_wv ha hb hab
 have hml := besM_len a b
 have hra := ha.rows
 have hrb := hb.rows
 generalize besM a b = m at *
 obtain ⟨K, hK⟩ : ∃ K, K = a.rows.length := ⟨_, rfl⟩
 have hms : ∀ n : Nat, n < 1000000 → PureIs prog 103 [.ag m.cells, .sc (.int .i64 n)] (.sl false (mtab m.rows.length (iterM m n) m.rows.length) .unk) := fun n hn => marked_is hw n hn
 have hins := hw.ins
 obtain ⟨N, hN⟩ : ∃ N, N = m.rows.length := ⟨_, rfl⟩
 rw [← hK] at hword hml k2 k3 k1
 simp only [← hN] at hms hml
 rw [← hml] at hword k1 k3
 have htl := fun M => mtab_len N M N
 refine PureIs.of1 15 [37, 44, 46, 56, 100] func80 ntmps80 results80 fun _ => ?_
 refine EvC.a ?_ (by simp only [go_sem, Mach.cells] <;> rfl)
 refine EvC.z 0 ?_
 refine EvC.z 1 ?_
 apply EvC.s1
 ·apply Tr.run
  ·simp only [go_sem, Mach.cells] <;> rfl
  ·simp
  apply Tr.cons
  ·exact .ca (q0)
  apply Tr.done
  ·simp only [go_sem, Mach.cells] <;> rfl
  ·simp
 refine EvC.z 7 ?_
 apply EvC.seq
 apply EvC.drd mixed
 ·simp only [go_sem, Mach.cells, List.length_map, ← hK] <;> rfl
 ·simp
 ·kernel_rfl
 refine EvC.a ?_
 refine EvC.seq ?_
 refine EvC.block ?_
 refine EvC.loopS (σ := Nat) (fun n => ⟨[(6, .ia m.cells), (7, .sc (.int .i64 0)), (8, .sc (.int .i64 K)), (9, .sc (.int .i64 n))], [], [], 0⟩) (fun n => n0 - n) (fun n => n ≤ n0) [6, 7, 8, 9] 0 ?_ ?_
 ·exact ⟨[], 0, rfl, (by simp only [go_sem, Int.natCast_zero, Mach.cells] <;> rfl), Nat.zero_le _⟩
 intro n hn
 refine EvC.seq ?_
 by_cases hlt : n < n0
 ·have hnN : (n : Int) < m.rows.length := by omega
  have hkg : (List.range N)[K]? = some K := List.getElem?_range (by omega)
  have hb0 : iterM m n 0 K = false := k2 n hlt
  have hm0 := fun M => mtab_at (n := N) (M := M) (show 0 < N by omega)
  apply EvC.s1
  ·apply Tr.run
   ·simp only [go_sem, Mach.cells, List.length_map, decide_eq_true hnN, htl, hm0, hkg, boolC, hb0, Int.toNat_natCast, List.length_range] <;> rfl
   ·simp; try omega
   apply Tr.cons
   ·exact .cg (hms n (by omega))
   apply Tr.done
   ·simp only [go_sem, hm0, htl, hkg, boolC, hb0, Int.toNat_natCast, List.length_map, List.length_range] <;> rfl
   ·simp; try omega
  refine EvC.cr ?_
  refine EvC.block ?_
  refine EvC.b ?_ (hok := by exact inI64_of (by omega) (by omega))
  exact ⟨[], n + 1, rfl, (by simp only [go_sem, Int.natCast_add, Int.natCast_one, Mach.cells] <;> rfl), hlt, by omega⟩
 obtain rfl : n = n0 := by omega
 rcases hword with ⟨he, h1, h2⟩ | ⟨hnN, hit, h1, h2⟩
 ·
  have hnN : ¬ (n : Int) < m.rows.length := by omega
  have heq : (n : Int) = m.rows.length := by omega
  have hkg : (List.range N)[K]? = some K := List.getElem?_range (by omega)
  obtain ⟨b0, hb0⟩ : ∃ b, iterM m n 0 K = b := ⟨_, rfl⟩
  have hm0 := fun M => mtab_at (n := N) (M := M) (show 0 < N by omega)
  apply EvC.s1
  ·apply Tr.run
   ·simp only [go_sem, Mach.cells, List.length_map, decide_eq_false hnN, htl, hm0, hkg, boolC, hb0, Int.toNat_natCast, List.length_range] <;> rfl
   ·simp; try omega
   apply Tr.cons
   ·exact .skipv (.sl false (mtab N (iterM m n) N) .unk) rfl rfl (by simp only [go_sem] <;> rfl) (by simp only [go_sem] <;> rfl)
   apply Tr.done
   ·simp only [go_sem, hm0, htl, hkg, boolC, hb0, Int.toNat_natCast, List.length_map, List.length_range] <;> rfl
   ·simp; try omega
  refine EvC.cf ?_
  refine EvC.exit ?_
  refine EvC.seq ?_
  refine EvC.a ?_ (by simp only [go_sem, Mach.cells, List.length_map] <;> rfl)
  refine EvC.ct ?_ (by simp only [go_sem, decide_eq_true heq] <;> rfl)
  refine EvC.a ?_
  refine EvC.rz ?_
  simp only [go_sem]
  rw [h1, h2]; rfl
 have hnN2 : (n : Int) < m.rows.length := by omega
 have heq : ¬ (n : Int) = m.rows.length := by omega
 have hkg : (List.range N)[K]? = some K := List.getElem?_range (by omega)
 have hm0 := fun M => mtab_at (n := N) (M := M) (show 0 < N by omega)
 apply EvC.s1
 ·apply Tr.run
  ·simp only [go_sem, Mach.cells, List.length_map, decide_eq_true hnN2, htl, hm0, hkg, boolC, hit, Int.toNat_natCast, List.length_range] <;> rfl
  ·simp; try omega
  apply Tr.cons
  ·exact .cg (hms n (by omega))
  apply Tr.done
  ·simp only [go_sem, hm0, htl, hkg, boolC, hit, Int.toNat_natCast, List.length_map, List.length_range] <;> rfl
  ·simp; try omega
 refine EvC.cf ?_
 refine EvC.exit ?_
 refine EvC.seq ?_
 refine EvC.a ?_ (by simp only [go_sem, Mach.cells, List.length_map] <;> rfl)
 refine EvC.cs ?_ (by simp only [go_sem, decide_eq_false heq] <;> rfl)
 refine EvC.a ?_
 refine EvC.seq ?_
 refine EvC.block ?_
 clear hms
 have hms : ∀ n : Nat, n < 1000000 → PureIs prog 103 [.ag m.cells, .sc (.int .i64 n)] (.sl false (mtab N (iterM m n) N) .unk) := fun n hn => by rw [hN]; exact marked_is hw n hn
 have hn0 : n ≠ 0 := fun e => by subst e; simp [iterM] at hit
 refine EvC.loopS (σ := Nat × Int × Int × List Int) (fun g => ⟨[(6, .ia m.cells), (7, .sc (.int .i64 g.2.1)), (8, .sc (.int .i64 g.2.2.1)), (9, .sc (.int .i64 g.1)), (10, .tl 0 g.2.2.2.length g.2.2.2.isEmpty)], [], [(0, .arr 1 (g.2.2.2.map intC) true)], 1⟩) (fun g => g.1)
  (fun g => g.2.2.2 ++ refW m g.1 g.2.1.toNat g.2.2.1.toNat = diffW a b ∧ g.2.2.2.length + g.1 = n ∧ (0 < g.1 → 0 ≤ g.2.1 ∧ g.2.1 < N ∧ 0 ≤ g.2.2.1 ∧ g.2.2.1 < N ∧ iterM m g.1 g.2.1.toNat g.2.2.1.toNat = true ∧ iterM m (g.1 - 1) g.2.1.toNat g.2.2.1.toNat = false)) [6, 7, 8, 9, 10] 1 ?_ ?_
 ·refine ⟨[(22, 0)], (n, 0, K, []), rfl, (by simp only [go_sem, List.map_nil, List.length_nil, List.isEmpty_nil] <;> rfl), h2, by simp, fun _ => ⟨Int.le_refl _, by simp only; omega, by simp only; omega, by simp only; omega, ?_, ?_⟩⟩
  ·simpa using hit
  ·have := k2 (n - 1) (by omega)
   simpa using this
 rintro ⟨n', s, t, acc⟩ ⟨i1, i2, i3⟩
 simp only at i1 i2 i3 ⊢
 refine EvC.seq ?_
 refine EvC.a ?_
 refine EvC.cond (by simp only [go_sem] <;> rfl) (fun hc => ?_) (fun hc => ?_)
 rotate_left
 ·refine EvC.exit ?_
  obtain rfl : n' = 0 := by have : ¬ (0 : Int) < n' := (by simpa using hc); omega
  have hacc : acc = diffW a b := by rw [refW, List.append_nil] at i1; exact i1
  refine EvC.frz 0 (by simp only [go_sem, List.length_map] <;> rfl) ?_
  refine EvC.a ?_
  refine EvC.rz ?_
  simp only [go_sem]
  rw [hacc, h1]
 have hpos : 0 < n' := by have : (0 : Int) < n' := (by simpa using hc); omega
 clear hc
 obtain ⟨s0, s1, t0, t1, m1, m2⟩ := i3 hpos
 clear i3
 obtain ⟨sN, rfl⟩ : ∃ k : Nat, s = (k : Int) := ⟨s.toNat, by omega⟩
 obtain ⟨tN, rfl⟩ : ∃ k : Nat, t = (k : Int) := ⟨t.toNat, by omega⟩
 obtain ⟨n', rfl⟩ : ∃ k, n' = k + 1 := ⟨n' - 1, by omega⟩
 rw [Int.toNat_natCast, Int.toNat_natCast] at i1 m1 m2
 rw [Nat.add_sub_cancel] at m2
 have hsl : sN < m.rows.length := by omega
 have htl2 : tN < m.rows.length := by omega
 obtain ⟨i0, j1, j2, j3, j4, j5⟩ := pick_next hw hsl htl2 m1 m2
 rw [refW, j1] at i1
 simp only at i1
 obtain ⟨z, hz⟩ : ∃ z : Int, z = ((n' + 1 : Nat) : Int) := ⟨_, rfl⟩
 have hz1 : z - 1 = (n' : Int) := by omega
 have hIz : inI64 (n' : Int) = true := inI64_of (by omega) (by omega)
 rw [← hz]
 refine EvC.skip ?_
 refine EvC.block ?_
 apply EvC.s1
 ·apply Tr.run
  ·simp only [go_sem, hz1, Mach.cells] <;> rfl
  ·simp [hIz]
  apply Tr.cons
  ·exact .ca (hms n' (by omega))
  apply Tr.done
  ·simp only [go_sem] <;> rfl
  ·simp
 refine EvC.a ?_ (by simp only [go_sem, hz1] <;> rfl) (by simp [hIz])
 refine EvC.a ?_
 refine EvC.block ?_
 refine EvC.loopS (σ := Nat) (fun i => ⟨[(6, .ia m.cells), (7, .sc (.int .i64 sN)), (8, .sc (.int .i64 tN)), (9, .sc (.int .i64 n')), (10, .tl 0 acc.length acc.isEmpty), (11, .sl false (mtab N (iterM m n') N) .unk), (12, .sc (.int .i64 i))], [], [(0, .arr 1 (acc.map intC) true)], 1⟩) (fun i => i0 - i) (fun i => i ≤ i0) [6, 7, 8, 9, 10, 11, 12] 1 ?_ ?_
 ·exact ⟨[(0, 0)], 0, rfl, (by simp only [go_sem, hz1, Int.natCast_zero, Mach.cells] <;> rfl), Nat.zero_le _⟩
 intro i hi
 refine EvC.seq ?_
 have him : (i : Int) < m.ins := by omega
 refine EvC.a ?_ (by simp only [go_sem, Mach.cells] <;> rfl)
 refine EvC.cr ?_ (by simp only [go_sem, decide_eq_true him] <;> rfl)
 have hes : m.rows[sN]? = some m.rows[sN] := List.getElem?_eq_getElem hsl
 have het : m.rows[tN]? = some m.rows[tN] := List.getElem?_eq_getElem htl2
 have hls := row_lenW hw hsl
 have hlt := row_lenW hw htl2
 have hrs : rowN m sN = m.rows[sN].2 := by simp [rowN, hes]
 have hrt : rowN m tN = m.rows[tN].2 := by simp [rowN, het]
 generalize m.rows[sN] = r at hes hrs
 generalize m.rows[tN] = q at het hrt
 have hxs : r.2[i]? = some (ex (rowN m sN) i) := by
  rw [hrs] at hls ⊢
  rw [ex, List.getElem?_eq_getElem (by omega)]; rfl
 have hxt : q.2[i]? = some (ex (rowN m tN) i) := by
  rw [hrt] at hlt ⊢
  rw [ex, List.getElem?_eq_getElem (by omega)]; rfl
 have hit : ((i : Int)).toNat = i := Int.toNat_natCast i
 have hbo := fun h => ex_bothW hw hsl htl2 (show i < m.ins.toNat by omega) h
 have hxf := ex_fitsW hw hsl (show i < m.ins.toNat by omega)
 have hyf := ex_fitsW hw htl2 (show i < m.ins.toNat by omega)
 have hcond : condM (iterM m n') (ex (rowN m sN) i) (ex (rowN m tN) i) = decide (i = i0) := by
  by_cases e : i = i0
  ·subst e; rw [j3]; simp
  ·rw [j4 i (by omega)]; simp [e]
 have hnx : i = i0 → ∀ x y, x = ex (rowN m sN) i → y = ex (rowN m tN) i → (acc ++ [(i : Int)]) ++ refW m n' x.1.toNat y.1.toNat = diffW a b ∧ (0 < n' → 0 ≤ x.1 ∧ x.1 < N ∧ 0 ≤ y.1 ∧ y.1 < N ∧ iterM m n' x.1.toNat y.1.toNat = true ∧ iterM m (n' - 1) x.1.toNat y.1.toNat = false) := fun e x y hx hy => by
  subst e
  rw [hx, hy]
  refine ⟨by rw [List.append_assoc]; exact i1, fun h => ?_⟩
  obtain ⟨p, q, e1, e2, e3, e4, e5, e6⟩ := j5 h
  rw [e1, e2, Int.toNat_natCast, Int.toNat_natCast]
  exact ⟨by omega, by omega, by omega, by omega, e5, e6⟩
 have hnx := fun e => hnx e _ _ rfl rfl
 clear j3 j4 j5 i1 j1
 generalize ex (rowN m sN) i = x at hxs hbo hcond hnx hxf
 generalize ex (rowN m tN) i = y at hxt hbo hcond hnx hyf
 refine EvC.seq ?_
 refine EvC.block ?_
 apply EvC.seq
 apply EvC.drd mixed
 ·simp only [go_sem, Mach.cells, Int.toNat_natCast, hes, het, hxs, hxt, rowC, edgeC, hit] <;> rfl
 ·simp; try omega
 ·kernel_rfl
 by_cases ho : x.2 = y.2
 ·have ho' : decide (x.2 = y.2) = true := decide_eq_true ho
  rcases hbo ho with ⟨e1, e2⟩ | ⟨p, u, e1, e2, hp, hu⟩
  ·have d1 : decide (0 ≤ x.1) = false := decide_eq_false (by omega)
   have t1 : x.1.toNat = 0 := by omega
   have t2 : y.1.toNat = 0 := by omega
   have hpg : (List.range N)[0]? = some 0 := List.getElem?_range (by omega)
   have hii : i ≠ i0 := fun e => by
    have : condM (iterM m n') x y = false := by simp [condM, ho, e1]
    rw [this] at hcond; simp [e] at hcond
   apply EvC.seq
   apply EvC.drd mixed
   ·simp only [go_sem, ho, ho', d1, decide_not, t1, t2, hpg, mtab_len, mtab, List.getElem?_map, Option.map_some, mrow, boolC, List.length_map, List.length_range] <;> rfl
   ·simp; try omega
   ·kernel_rfl
   refine EvC.cs ?_ (by simp only [go_sem, ho, d1] <;> rfl)
   refine EvC.b ?_ (hok := by exact inI64_of (by omega) (by omega))
   exact ⟨[(0, 0)], i + 1, rfl, (by simp only [go_sem, Mach.cells, Int.natCast_add, Int.natCast_one] <;> rfl), by omega, by omega⟩
  ·have d1 : decide (0 ≤ x.1) = true := decide_eq_true (by omega)
   have d2 : decide (0 ≤ y.1) = true := decide_eq_true (by omega)
   have hpg : (List.range N)[p]? = some p := List.getElem?_range (by omega)
   have hug : (List.range N)[u]? = some u := List.getElem?_range (by omega)
   obtain ⟨b, hb⟩ : ∃ b, iterM m n' p u = b := ⟨_, rfl⟩
   have hcd : condM (iterM m n') x y = b := by simp [condM, ho, e1, e2, hb]
   have t1 : x.1.toNat = p := by omega
   have t2 : y.1.toNat = u := by omega
   apply EvC.seq
   apply EvC.drd mixed
   ·simp only [go_sem, ho, ho', d1, d2, decide_not, t1, t2, hpg, hug, mtab_len, mtab, List.getElem?_map, Option.map_some, mrow, boolC, hb, List.length_map, List.length_range] <;> rfl
   ·simp; try omega
   ·kernel_rfl
   cases b
   ·have hii : i ≠ i0 := fun e => by rw [hcd] at hcond; simp [e] at hcond
    refine EvC.cs ?_ (by simp only [go_sem, ho, d1, d2, hb] <;> rfl)
    refine EvC.b ?_ (hok := by exact inI64_of (by omega) (by omega))
    exact ⟨[(0, 0)], i + 1, rfl, (by simp only [go_sem, Mach.cells, Int.natCast_add, Int.natCast_one] <;> rfl), by omega, by omega⟩
   ·have hii : i = i0 := by rw [hcd] at hcond; simpa using hcond.symm
    obtain ⟨w1, w2⟩ := hnx hii
    have hee : (acc ++ [(i : Int)]).isEmpty = false := by cases acc <;> rfl
    have hr : room (acc.length + 1) 8 = true := by simp only [room_eq, decide_eq_true_eq]; omega
    refine EvC.ct ?_ (by simp only [go_sem, ho, d1, d2, hb] <;> rfl)
    refine EvC.a ?_ (by simp only [go_sem, List.length_map] <;> rfl) (by simp [hr])
    apply EvC.seq
    apply EvC.drd mixed
    ·simp only [go_sem] <;> rfl
    ·simp
    ·kernel_rfl
    refine EvC.exit ?_
    exact ⟨[(0, 0)], (n', x.1, y.1, acc ++ [(i : Int)]), rfl, (by simp only [go_sem, Mach.cells, List.map_append, List.map_cons, List.map_nil, intC, List.length_append, hee] <;> rfl), ⟨w1, by simp only [List.length_append, List.length_cons, List.length_nil]; omega, w2⟩, by simp only; omega⟩
 ·have ho' : decide (x.2 = y.2) = false := decide_eq_false ho
  clear hbo
  have hpg : (List.range N)[x.1.toNat]? = some x.1.toNat := List.getElem?_range (by omega)
  have hug : (List.range N)[y.1.toNat]? = some y.1.toNat := List.getElem?_range (by omega)
  have hii : i = i0 := by
   have : condM (iterM m n') x y = true := by simp [condM, ho]
   rw [this] at hcond; simpa using hcond.symm
  obtain ⟨w1, w2⟩ := hnx hii
  have hee : (acc ++ [(i : Int)]).isEmpty = false := by cases acc <;> rfl
  have hr : room (acc.length + 1) 8 = true := by simp only [room_eq, decide_eq_true_eq]; omega
  apply EvC.seq
  apply EvC.drd mixed
  ·simp only [go_sem, ho, ho', decide_not, hpg, hug, mtab_len, mtab, List.getElem?_map, Option.map_some, mrow, boolC, List.length_map, List.length_range] <;> rfl
  ·simp; try omega
  ·kernel_rfl
  refine EvC.ct ?_ (by simp only [go_sem, ho] <;> rfl)
  refine EvC.a ?_ (by simp only [go_sem, List.length_map] <;> rfl) (by simp [hr])
  apply EvC.seq
  apply EvC.drd mixed
  ·simp only [go_sem] <;> rfl
  ·simp
  ·kernel_rfl
  refine EvC.exit ?_
  exact ⟨[(0, 0)], (n', x.1, y.1, acc ++ [(i : Int)]), rfl, (by simp only [go_sem, Mach.cells, List.map_append, List.map_cons, List.map_nil, intC, List.length_append, hee] <;> rfl), ⟨w1, by simp only [List.length_append, List.length_cons, List.length_nil]; omega, w2⟩, by simp only; omega⟩
def fewN (K : Nat) : Nat → Nat → Bool
 | 0, _ => true
 | r + 1, n => if 4096 < n * K then false else fewN K r (n * K)
theorem few_is (K most : Nat) (hK : K ≤ 16) (hm : most ≤ 1000000) : PureIs prog 51 [.sc (.int .i64 K), .sc (.int .i64 most)] (.sc (.bool (fewN K most 1))) := by
 refine PureIs.of1 2 [4, 5, 6, 7, 8, 13] func51 ntmps51 results51 fun _ => ?_
 refine EvC.a ?_
 refine EvC.a ?_
 refine EvC.seq ?_
 refine EvC.a ?_
 refine EvC.block ?_
 refine EvC.loopS (σ := Nat × Nat) (fun p => ⟨[(0, .sc (.int .i64 K)), (5, .sc (.int .i64 p.2)), (6, .sc (.int .i64 most)), (7, .sc (.int .i64 p.1))], [], [], 0⟩) (fun p => most - p.1) (fun p => p.1 ≤ most ∧ p.2 ≤ 4096 ∧ fewN K most 1 = fewN K (most - p.1) p.2) [0, 5, 6, 7] 0 ?_ ?_
 ·exact ⟨[], (0, 1), rfl, (by simp only [go_sem, Int.natCast_zero, Int.natCast_one] <;> rfl), Nat.zero_le _, by simp only; omega, rfl⟩
 rintro ⟨i, n⟩ ⟨h1, h2, h3⟩
 simp only at h1 h2 h3 ⊢
 refine EvC.a ?_
 refine EvC.seq ?_
 refine EvC.cond (by simp only [go_sem] <;> rfl) (fun hc => ?_) (fun hc => ?_)
 rotate_left
 ·refine EvC.exit ?_
  obtain rfl : i = most := by have : ¬ i < most := (by simpa using hc); omega
  rw [Nat.sub_self] at h3
  refine EvC.a ?_
  refine EvC.rz ?_
  simp only [go_sem]
  rw [h3]; rfl
 have hil : i < most := by simpa using hc
 clear hc
 rw [show most - i = (most - (i + 1)) + 1 by omega, fewN] at h3
 have hb : n * K ≤ 4096 * 16 := Nat.mul_le_mul h2 hK
 have hb2 : ((n * K : Nat) : Int) = (n : Int) * (K : Int) := Int.natCast_mul n K
 obtain ⟨z, hz⟩ : ∃ z : Int, z = (n : Int) * (K : Int) := ⟨_, rfl⟩
 have hI : inI64 ((n : Int) * (K : Int)) = true := inI64_of (by omega) (by omega)
 refine EvC.skip ?_
 refine EvC.seq ?_
 refine EvC.block ?_
 refine EvC.a ?_ (hok := by exact hI)
 rw [← hz]
 refine EvC.a ?_
 by_cases hlt : 4096 < n * K
 ·refine EvC.ct ?_ (by simp only [go_sem, decide_eq_true (show (4096 : Int) < z by omega)] <;> rfl)
  refine EvC.a ?_
  refine EvC.rz ?_
  simp only [go_sem]
  rw [h3, if_pos hlt]
 ·refine EvC.cs ?_ (by simp only [go_sem, decide_eq_false (show ¬ (4096 : Int) < z by omega)] <;> rfl)
  refine EvC.b ?_ (hok := by exact inI64_of (by omega) (by omega))
  refine ⟨[], (i + 1, n * K), rfl, (by rw [hb2, ← hz]; simp only [go_sem, Int.natCast_add, Int.natCast_one] <;> rfl), ⟨hil, by simp only; omega, ?_⟩, by simp only; omega⟩
  rw [h3, if_neg hlt]
def dig (K : Nat) : Nat → Nat → List Int
 | 0, _ => []
 | n + 1, j => dig K n (j / K) ++ [((j % K : Nat) : Int)]
def wdl (K n : Nat) : List (List Int) := (List.range (K ^ n)).map (dig K n)
def upL (K : Nat) : Nat → List (List Int)
 | 0 => []
 | n + 1 => upL K n ++ wdl K (n + 1)
theorem dig_len (K : Nat) : ∀ n j, (dig K n j).length = n
 | 0, _ => rfl
 | n + 1, j => by rw [dig, List.length_append, dig_len K n]; rfl
theorem dig_in {K : Nat} (hK : 1 ≤ K) : ∀ n j, ∀ a ∈ dig K n j, 0 ≤ a ∧ a < K
 | 0, _, a, h => by cases h
 | n + 1, j, a, h => by
   rw [dig] at h
   rcases List.mem_append.1 h with h | h
   ·exact dig_in hK n _ a h
   ·simp only [List.mem_singleton] at h
    have := Nat.mod_lt j (show 0 < K by omega)
    omega
theorem wdl_len (K n : Nat) : (wdl K n).length = K ^ n := by simp [wdl]
theorem wdl_get {K n j : Nat} (h : j < K ^ n) : (wdl K n)[j]? = some (dig K n j) := by rw [wdl, List.getElem?_map, List.getElem?_range h]; rfl
theorem upL_mem {K : Nat} (hK : 1 ≤ K) : ∀ {m : Nat} {w : List Int}, w ∈ upL K m → 1 ≤ w.length ∧ w.length ≤ m ∧ ∀ a ∈ w, 0 ≤ a ∧ a < K
 | 0, w, h => by cases h
 | m + 1, w, h => by
   rw [upL] at h
   rcases List.mem_append.1 h with h | h
   ·obtain ⟨h1, h2, h3⟩ := upL_mem hK h
    exact ⟨h1, by omega, h3⟩
   ·obtain ⟨j, _, rfl⟩ := List.mem_map.1 h
    rw [dig_len]
    exact ⟨by omega, Nat.le_refl _, dig_in hK _ _⟩
theorem upL_pre {K : Nat} : ∀ {m n : Nat}, n ≤ m → ∃ r, upL K m = upL K n ++ r
 | 0, n, h => by obtain rfl : n = 0 := by omega
                 exact ⟨[], rfl⟩
 | m + 1, n, h => by
   by_cases e : n = m + 1
   ·subst e; exact ⟨[], (List.append_nil _).symm⟩
   ·obtain ⟨r, hr⟩ := upL_pre (K := K) (show n ≤ m by omega)
    exact ⟨r ++ wdl K (m + 1), by rw [upL, hr, List.append_assoc]⟩
theorem upL_at {K m n j : Nat} (hn : n < m) (hj : j < K ^ (n + 1)) : (upL K m)[(upL K n).length + j]? = some (dig K (n + 1) j) := by
 obtain ⟨r, hr⟩ := upL_pre (K := K) (show n + 1 ≤ m by omega)
 rw [hr, upL, List.append_assoc, List.getElem?_append_right (Nat.le_add_right _ _), Nat.add_sub_cancel_left, List.getElem?_append_left (by rw [wdl_len]; exact hj), wdl_get hj]
theorem mul_gapK {k r s : Nat} (h : r < s) : k * r + k ≤ k * s := by
 have := Nat.mul_le_mul_left k (show r + 1 ≤ s from h)
 rwa [Nat.mul_add, Nat.mul_one] at this
def incR (K : Nat) : List Int → Option (List Int)
 | [] => none
 | a :: r => if a + 1 < K then some ((a + 1) :: r) else (incR K r).map (0 :: ·)
theorem incR_dig {K : Nat} (hK : 1 ≤ K) : ∀ n j, j < K ^ n → incR K (dig K n j).reverse = if j + 1 < K ^ n then some (dig K n (j + 1)).reverse else none
 | 0, j, h => by
   have hj : ¬ j + 1 < K ^ 0 := by simp
   rw [if_neg hj]; rfl
 | n + 1, j, h => by
   have e1 := Nat.div_add_mod j K
   have e2 := Nat.mod_lt j (show 0 < K by omega)
   have hp : K ^ (n + 1) = K * K ^ n := by rw [Nat.pow_succ, Nat.mul_comm]
   rw [hp] at h ⊢
   have hq : j / K < K ^ n := Nat.div_lt_of_lt_mul h
   have hq2 := mul_gapK (k := K) hq
   simp only [dig, List.reverse_append, List.reverse_cons, List.reverse_nil, List.nil_append, List.singleton_append, incR]
   generalize j / K = q at *
   generalize j % K = r at *
   by_cases hr : r + 1 < K
   ·have d1 : (j + 1) / K = q := by rw [← e1, Nat.add_assoc, Nat.mul_add_div (by omega), Nat.div_eq_of_lt hr]; rfl
    have d2 : (j + 1) % K = r + 1 := by rw [← e1, Nat.add_assoc, Nat.mul_add_mod, Nat.mod_eq_of_lt hr]
    rw [if_pos (by omega), if_pos (by omega), d1, d2]; simp
   ·obtain rfl : K = r + 1 := by omega
    have d1 : (j + 1) / (r + 1) = q + 1 := by rw [← e1, Nat.add_assoc, Nat.mul_add_div (by omega), Nat.div_self (by omega)]
    have d2 : (j + 1) % (r + 1) = 0 := by rw [← e1, Nat.add_assoc, Nat.mul_add_mod, Nat.mod_self]
    rw [if_neg (by omega), incR_dig hK n q hq, d1, d2]
    by_cases hl : q + 1 < (r + 1) ^ n
    ·have := mul_gapK (k := r + 1) hl
     rw [Nat.mul_add, Nat.mul_one] at this
     rw [if_pos hl, if_pos (by omega)]; rfl
    ·have : q + 1 = (r + 1) ^ n := by omega
     rw [if_neg hl, if_neg (by rw [← this, Nat.mul_add, Nat.mul_one]; omega)]; rfl
theorem upto_is (K most : Int) : PureIs prog 52 [.sc (.int .i64 K), .sc (.int .i64 most)] (.fn 81 [.ia [.sc (.int .i64 most)], .ia [.sc (.int .i64 K)]]) := by
 refine PureIs.of1 5 [] func52 ntmps52 results52 fun _ => ?_
 refine EvC.a ?_
 refine EvC.z 0 ?_
 refine EvC.z 1 ?_
 refine EvC.a ?_
 refine EvC.rz ?_
 simp only [go_sem]
theorem map_lent (l : List Int) : l.map lentC = l.map intC := rfl
theorem dig_zero (K : Nat) : ∀ n, dig K n 0 = List.replicate n 0
 | 0 => rfl
 | n + 1 => by rw [dig, Nat.zero_div, dig_zero K n, Nat.zero_mod, List.replicate_succ']; rfl
set_option maxHeartbeats 4000000 in
theorem upto1_seq (K most : Nat) (hK : 1 ≤ K) (hK2 : K ≤ 16) (hm : most ≤ 1000) : SeqIsT prog 81 [.ia [.sc (.int .i64 most)], .ia [.sc (.int .i64 K)]] (upL K most) := by
 refine SeqIsG.of (nv := 3) (hid := [4, 5, 6, 7, 10, 14, 15, 19, 27, 41]) func81 rfl (by kernel_rfl) (by simp [ntmps81]) (by rw [results81]) fun lp J h0 hJ hy => ?_
 rw [ntmps81]
 refine EvY.seqL hJ (EvC.rg (by simp only [go_sem] <;> rfl) (by simp) ?_)
 refine EvY.block ?_
 refine EvY.loopS hJ (σ := Nat) (fun n => ⟨[(0, .sc (yv lp)), (1, .ia [.sc (.int .i64 most)]), (2, .ia [.sc (.int .i64 K)]), (4, .sc (.int .i64 ((n : Int) + 1)))], [], [], 0⟩) (fun n => (upL K n).length) (fun n => most - n) (fun n => n ≤ most) [0, 1, 2, 4] 0 ?_ ?_
 ·exact ⟨[], 0, rfl, (by simp only [go_sem, Int.natCast_zero] <;> rfl), Nat.zero_le _, rfl⟩
 intro n hn
 refine EvY.seq ?_
 refine EvY.seqL hJ (EvC.rg (by simp only [go_sem] <;> rfl) (by simp) ?_)
 refine EvY.cond (by simp only [go_sem] <;> rfl) (fun hc => ?_) (fun hc => ?_)
 rotate_left
 ·refine EvY.exit ⟨.inr rfl, .inl ?_⟩
  obtain rfl : n = most := by have : ¬ (n : Int) + 1 ≤ most := (by simpa using hc); omega
  rfl
 have hnm : n < most := by have : (n : Int) + 1 ≤ most := (by simpa using hc); omega
 clear hc
 obtain ⟨N, hN⟩ : ∃ N : Int, N = (n : Int) + 1 := ⟨_, rfl⟩
 have hNt : N.toNat = n + 1 := by omega
 rw [← hN]
 refine EvY.skip ?_
 refine EvY.seq ?_
 refine EvY.block ?_
 have hr : room (n + 1) 8 = true := by simp only [room_eq, decide_eq_true_eq]; omega
 refine EvY.seqL hJ (EvC.rg (by simp only [go_sem] <;> rfl) (by simp [hNt, hr]; try omega) ?_)
 refine EvY.seqL hJ (EvC.rg (by simp only [go_sem] <;> rfl) (by simp) ?_)
 have hz : (List.replicate N.toNat [AV.sc (.int .i64 0)]) = (dig K (n + 1) 0).map intC := by
  rw [hNt, dig_zero]; simp [intC]
 have hzn : ((dig K (n + 1) 0).map intC).all AV.norefs = true := by simp [List.all_eq_true, intC, AV.norefs, AV.noref]
 refine EvY.block ?_
 refine EvY.loopS hJ (σ := Nat × List Int) (fun g => ⟨[(0, .sc (yv lp)), (1, .ia [.sc (.int .i64 most)]), (2, .ia [.sc (.int .i64 K)]), (4, .sc (.int .i64 N)), (5, .tv 0 (n + 1) 0 (n + 1) (.val (n + 1))), (6, .sc (.bool (decide (g.1 < K ^ (n + 1)))))], [], [(0, .arr 1 (g.2.map intC) false)], 1⟩) (fun g => (upL K n).length + g.1) (fun g => K ^ (n + 1) - g.1) (fun g => g.1 ≤ K ^ (n + 1) ∧ g.2.length = n + 1 ∧ (g.1 < K ^ (n + 1) → g.2 = dig K (n + 1) g.1)) [0, 1, 2, 4, 5, 6] 1 ?_ ?_
 ·have hp : decide (0 < K ^ (n + 1)) = true := decide_eq_true (Nat.pow_pos (by omega))
  exact ⟨[(4, 0)], (0, dig K (n + 1) 0), rfl, (by rw [hz]; simp only [go_sem, hp, hNt, hzn] <;> rfl), ⟨Nat.zero_le _, dig_len _ _ _, fun _ => rfl⟩, rfl⟩
 rintro ⟨j, w⟩ ⟨hj, hw1, hw2⟩
 simp only at hj hw1 hw2 ⊢
 refine EvY.seq ?_
 refine EvY.seqL hJ (EvC.rg (by simp only [go_sem] <;> rfl) (by simp) ?_)
 by_cases hjl : j < K ^ (n + 1)
 rotate_left
 ·refine EvY.cond_false (by simp only [go_sem, decide_eq_false hjl] <;> rfl) ?_
  refine EvY.exit ?_
  refine EvY.lift hJ (EvC.rg (by simp only [go_sem] <;> rfl) (inI64_of (by omega) (by omega)) ?_)
  refine ⟨[], n + 1, rfl, (by simp only [go_sem, hN, Int.natCast_add, Int.natCast_one] <;> rfl), hnm, ?_, by omega⟩
  rw [upL, List.length_append, wdl_len, show j = K ^ (n + 1) by omega]
 have hwe := hw2 hjl
 refine EvY.cond_true (by simp only [go_sem, decide_eq_true hjl] <;> rfl) ?_
 refine EvY.skip ?_
 refine EvY.block ?_
 refine EvY.seq ?_
 refine EvY.seq (EvY.region ?_)
 have hat := upL_at (m := most) hnm hjl
 have hlt := (List.getElem?_eq_some_iff.1 hat).1
 have hget : (upL K most)[(upL K n).length + j] = w := by rw [hwe]; exact (List.getElem?_eq_some_iff.1 hat).2
 refine XRY.run hJ (by simp only [go_sem] <;> rfl) (by simp) ?_
 refine XRY.yieldT (fz := false) hlt hy rfl rfl (by simp only [go_sem] <;> rfl) (by simp only [go_sem] <;> rfl) (by simp only [go_sem] <;> rfl) (by rw [hget]; simp only [go_sem, map_lent] <;> rfl) (by rw [hget]; exact hw1.symm) (by omega) fun b => ?_
 refine XRY.done hJ (by simp only [go_sem] <;> rfl) rfl ?_
 refine EvY.cond (by simp only [go_sem] <;> rfl) (fun hb => ?_) (fun hb => ?_)
 ·have hb : b = false := by simpa using hb
  subst hb
  exact EvY.ret ⟨.inl rfl, .inr rfl⟩
 have hb : b = true := by simpa using hb
 subst hb
 refine EvY.skip ?_
 refine EvY.seqL hJ (EvC.rg (by simp only [go_sem] <;> rfl) (by simp) ?_)
 refine EvY.seqL hJ (EvC.rg (by simp only [go_sem] <;> rfl) (inI64_of (by omega) (by omega)) ?_)
 have hrl : w.reverse.length = n + 1 := by rw [List.length_reverse, hw1]
 have hinc := incR_dig hK (n + 1) j hjl
 rw [← hwe] at hinc
 refine EvY.lift hJ ?_
 refine EvC.block ?_
 have hwin : ∀ x ∈ w.reverse, 0 ≤ x ∧ x < K := fun x hx => by rw [List.mem_reverse, hwe] at hx; exact dig_in hK _ _ x hx
 refine EvC.loopS (σ := List Int × List Int × Bool) (fun g => ⟨[(0, .sc (yv lp)), (1, .ia [.sc (.int .i64 most)]), (2, .ia [.sc (.int .i64 K)]), (4, .sc (.int .i64 N)), (5, .tv 0 (n + 1) 0 (n + 1) (.val (n + 1))), (6, .sc (.bool g.2.2)), (7, .sc (.int .i64 ((g.1.length : Int) - 1)))], [], [(0, .arr 1 ((g.1.reverse ++ g.2.1).map intC) false)], 1⟩) (fun g => g.1.length)
  (fun g => (g.1.reverse ++ g.2.1).length = n + 1 ∧ (∀ x ∈ g.1, 0 ≤ x ∧ x < K) ∧ (g.2.2 = false → ∃ m, g.2.1 = List.replicate m 0 ∧ incR K w.reverse = (incR K g.1).map (List.replicate m 0 ++ ·)) ∧ (g.2.2 = true → ∃ r, incR K w.reverse = some r ∧ g.1.reverse ++ g.2.1 = r.reverse)) [0, 1, 2, 4, 5, 6, 7] 1 ?_ ?_
 ·have hN1 : N - 1 = (w.reverse.length : Int) - 1 := by omega
  refine ⟨[(0, 0)], (w.reverse, [], false), rfl, (by simp only [go_sem, hN1, List.append_nil, List.reverse_reverse] <;> rfl), by simp [hw1], hwin, fun _ => ⟨0, rfl, ?_⟩, fun h => by cases h⟩
  simp
 rintro ⟨r, tl, more⟩ ⟨c1, c2, c3, c4⟩
 simp only at c1 c2 c3 c4 ⊢
 refine EvC.seq ?_
 cases more with
 | true =>
   obtain ⟨r2, d1, d2⟩ := c4 rfl
   obtain ⟨kZ, hkZ⟩ : ∃ z : Int, z = (r.length : Int) - 1 := ⟨_, rfl⟩
   rw [← hkZ]
   obtain ⟨bz, hbz⟩ : ∃ b, decide (0 ≤ kZ) = b := ⟨_, rfl⟩
   have hj1 : j + 1 < K ^ (n + 1) ∧ r2 = (dig K (n + 1) (j + 1)).reverse := by
    rw [d1] at hinc
    by_cases h : j + 1 < K ^ (n + 1)
    ·rw [if_pos h] at hinc; exact ⟨h, by simpa using hinc⟩
    ·rw [if_neg h] at hinc; cases hinc
   have hcon : r.reverse ++ tl = dig K (n + 1) (j + 1) := by rw [d2, hj1.2, List.reverse_reverse]
   have hd : decide (j + 1 < K ^ (n + 1)) = true := decide_eq_true hj1.1
   have hn2 : ((dig K (n + 1) (j + 1)).map intC).all AV.norefs = true := by simp [List.all_eq_true, intC, AV.norefs, AV.noref]
   rw [hcon]
   cases bz
   ·apply EvC.seq
    apply EvC.trd
    ·simp only [go_sem, hbz] <;> rfl
    ·simp
    refine EvC.cf ?_
    refine EvC.exit ?_
    exact ⟨[(0, 0)], (j + 1, dig K (n + 1) (j + 1)), rfl, (by simp only [go_sem, hd, hn2] <;> rfl), ⟨Nat.le_of_lt hj1.1, dig_len _ _ _, fun _ => rfl⟩, rfl, by simp only; omega⟩
   ·apply EvC.seq
    apply EvC.trd
    ·simp only [go_sem, hbz] <;> rfl
    ·simp
    refine EvC.cf ?_
    refine EvC.exit ?_
    exact ⟨[(0, 0)], (j + 1, dig K (n + 1) (j + 1)), rfl, (by simp only [go_sem, hd, hn2] <;> rfl), ⟨Nat.le_of_lt hj1.1, dig_len _ _ _, fun _ => rfl⟩, rfl, by simp only; omega⟩
 | false =>
   obtain ⟨m, d1, d2⟩ := c3 rfl
   clear c3 c4
   cases r with
   | nil =>
     have hj1 : ¬ j + 1 < K ^ (n + 1) := fun h => by rw [d2, if_pos h] at hinc; cases hinc
     have hd : decide (j + 1 < K ^ (n + 1)) = false := decide_eq_false hj1
     simp only [List.length_nil, List.reverse_nil, List.nil_append] at c1 ⊢
     have hn2 : (tl.map intC).all AV.norefs = true := by simp [List.all_eq_true, intC, AV.norefs, AV.noref]
     apply EvC.seq
     apply EvC.trd
     ·simp only [go_sem] <;> rfl
     ·simp
     refine EvC.cf ?_
     refine EvC.exit ?_
     exact ⟨[(0, 0)], (j + 1, tl), rfl, (by simp only [go_sem, hd, hn2] <;> rfl), ⟨hjl, c1, fun h => absurd h hj1⟩, rfl, by simp only; omega⟩
   | cons a r =>
     have ha := c2 a List.mem_cons_self
     obtain ⟨kZ, hkZ⟩ : ∃ z : Int, z = ((a :: r).length : Int) - 1 := ⟨_, rfl⟩
     have hkr : kZ = (r.length : Int) := by rw [hkZ]; simp
     have hkt : kZ.toNat = r.length := by omega
     have hk00 : 0 ≤ kZ := by omega
     have hk0 : decide (0 ≤ kZ) = true := decide_eq_true (by omega)
     rw [← hkZ]
     have hcon : (a :: r).reverse ++ tl = r.reverse ++ a :: tl := by simp
     have hrn : r.length < n + 1 := by simp only [List.length_append, List.length_reverse, List.length_cons] at c1; omega
     rw [hcon] at c1 ⊢
     obtain ⟨C0, hC0⟩ : ∃ C, C = (r.reverse ++ a :: tl).map intC := ⟨_, rfl⟩
     obtain ⟨C1, hC1⟩ : ∃ C, C = (r.reverse ++ (a + 1) :: tl).map intC := ⟨_, rfl⟩
     obtain ⟨C2, hC2⟩ : ∃ C, C = (r.reverse ++ 0 :: tl).map intC := ⟨_, rfl⟩
     have hrr : (r.reverse.map intC).length = r.length := by simp
     have g0 : C0[r.length]? = some [.sc (.int .i64 a)] := by
      rw [hC0, List.map_append, List.getElem?_append_right (by omega), hrr, Nat.sub_self]; rfl
     have g1 : C1[r.length]? = some [.sc (.int .i64 (a + 1))] := by
      rw [hC1, List.map_append, List.getElem?_append_right (by omega), hrr, Nat.sub_self]; rfl
     have s1 : C0.set r.length [.sc (.int .i64 (a + 1))] = C1 := by
      have := set_mid (r.reverse.map intC) (tl.map intC) (intC a) (intC (a + 1))
      rw [hrr] at this
      rw [hC0, hC1, List.map_append, List.map_append]; exact this
     have s2 : C1.set r.length [.sc (.int .i64 0)] = C2 := by
      have := set_mid (r.reverse.map intC) (tl.map intC) (intC (a + 1)) (intC 0)
      rw [hrr] at this
      rw [hC2, hC1, List.map_append, List.map_append]; exact this
     have l0 : C0.length = n + 1 := by rw [hC0, List.length_map]; exact c1
     have l1 : C1.length = n + 1 := by rw [hC1, List.length_map]; simpa using c1
     have l2 : C2.length = n + 1 := by rw [hC2, List.length_map]; simpa using c1
     have n1 : C1.all AV.norefs = true := by rw [hC1]; simp [List.all_eq_true, intC, AV.norefs, AV.noref]
     have n2 : C2.all AV.norefs = true := by rw [hC2]; simp [List.all_eq_true, intC, AV.norefs, AV.noref]
     have hk1 : kZ - 1 = (r.length : Int) - 1 := by omega
     have hIa : inI64 (a + 1) = true := inI64_of (by omega) (by omega)
     have hIk : inI64 ((r.length : Int) - 1) = true := inI64_of (by omega) (by simp only [List.length_append, List.length_reverse, List.length_cons] at c1; omega)
     rw [← hC0]
     apply EvC.seq
     apply EvC.trd
     ·simp only [go_sem, hk0] <;> rfl
     ·simp
     refine EvC.cr ?_
     refine EvC.seq ?_
     refine EvC.block ?_
     refine EvC.a ?_ (by simp only [go_sem, hkt, l0, g0, s1] <;> rfl) (by simp [hIa, hk00, hrn])
     apply EvC.seq
     apply EvC.drd mixed
     ·simp only [go_sem, hkt, l1, g1] <;> rfl
     ·simp [hk00, hrn]
     ·kernel_rfl
     by_cases hlt : a + 1 < (K : Int)
     ·refine EvC.ct ?_ (by simp only [go_sem, decide_eq_true hlt] <;> rfl)
      refine EvC.b ?_
      refine EvC.b ?_ (by simp only [go_sem, hk1] <;> rfl) (by simp [hIk])
      refine ⟨[(0, 0)], (r, (a + 1) :: tl, true), rfl, (by rw [← hC1]; simp only [go_sem, n1, hk1] <;> rfl), ⟨by simpa using c1, fun x hx => c2 x (List.mem_cons_of_mem _ hx), fun h => (by cases h), fun _ => ?_⟩, by simp⟩
      rw [d2, incR, if_pos hlt]
      exact ⟨_, rfl, by simp [d1]⟩
     ·refine EvC.cf ?_ (by simp only [go_sem, decide_eq_false hlt] <;> rfl)
      refine EvC.b ?_ (by simp only [go_sem, hkt, l1, g1, s2] <;> rfl) (by simp [hk00, hrn])
      refine EvC.b ?_ (by simp only [go_sem, hk1] <;> rfl) (by simp [hIk])
      refine ⟨[(0, 0)], (r, 0 :: tl, false), rfl, (by rw [← hC2]; simp only [go_sem, n2, hk1] <;> rfl), ⟨by simpa using c1, fun x hx => c2 x (List.mem_cons_of_mem _ hx), fun _ => ⟨m + 1, by rw [d1]; rfl, ?_⟩, fun h => (by cases h)⟩, by simp⟩
      rw [d2, incR, if_neg hlt, Option.map_map]
      congr 1
      funext x
      simp [List.replicate_succ']
theorem norefs_intC (l : List Int) : (l.map intC).all AV.norefs = true := by simp [List.all_eq_true, intC, AV.norefs, AV.noref]
theorem cloneI_new (es : List Int) (c : Cp) (hl : es.length < 1000000) (h0 : es.length ≠ 0) : PureNew prog 54 [.sl false (es.map intC) c] 1 (es.map intC) := by
 refine PureNew.of (nv := 1) (hid := [2, 4]) func54 rfl (by kernel_rfl) (by simp [ntmps54]) fun _ => ?_
 rw [ntmps54, results54]
 refine EvC.a ?_
 refine EvC.seq ?_
 refine EvC.a ?_
 refine EvC.cs ?_
 have hr1 : room es.length 8 = true := by simp only [room_eq, decide_eq_true_eq]; omega
 have hr3 : ∀ a : Int, a ∈ es → (intC a).length = 1 := fun _ _ => rfl
 refine EvC.a ?_ (by simp only [go_sem, List.length_map] <;> rfl) (by simp [hr1]; try exact hr3)
 refine EvC.ret ⟨.inl rfl, _, 5, (by simp only [go_sem, List.length_map] <;> rfl), .inl ?_, ?_, by simpa using h0, norefs_intC es⟩
 ·simp only [List.length_map]
 ·rfl
theorem cloneI_is (nl : Bool) (xs : List Int) (c : Cp) (hl : xs.length < 1000000) (hn : nl = true → xs = []) : PureIs prog 54 [.sl nl (xs.map intC) c] (.sl nl (xs.map intC) .unk) := by
 refine PureIs.of1 1 [2, 4] func54 ntmps54 results54 fun _ => ?_
 refine EvC.a ?_
 refine EvC.seq ?_
 refine EvC.a ?_
 cases nl with
 | true =>
   rw [hn rfl]
   refine EvC.ct ?_
   refine EvC.a ?_
   refine EvC.rz ?_
   simp only [go_sem]
 | false =>
   refine EvC.cs ?_
   have hr1 : room xs.length 8 = true := by simp only [room_eq, decide_eq_true_eq]; omega
   have hr3 : ∀ a : Int, a ∈ xs → (intC a).length = 1 := fun _ _ => rfl
   refine EvC.a ?_ (by simp only [go_sem, List.length_map] <;> rfl) (by simp [hr1]; try exact hr3)
   have hnn := norefs_intC xs
   refine EvC.frz 5 (by simp only [go_sem, List.length_map] <;> rfl) ?_
   refine EvC.rz ?_
   simp only [go_sem]
def lgL : List (List Int × List Int) → Nat
 | [] => 0
 | p :: ps => max p.2.length (lgL ps)
def lgA (a : Nat) : List (List Int × List Int) → Nat
 | [] => a
 | p :: ps => lgA (max a p.2.length) ps
theorem lgA_eq (a : Nat) : ∀ ps, lgA a ps = max a (lgL ps)
 | [] => by simp [lgA, lgL]
 | p :: ps => by rw [lgA, lgA_eq, lgL]; omega
theorem lgL_le {N : Nat} : ∀ {ps : List (List Int × List Int)}, (∀ p ∈ ps, p.2.length ≤ N) → lgL ps ≤ N
 | [], _ => Nat.zero_le _
 | p :: ps, h => by
   have := h p List.mem_cons_self
   have := lgL_le fun q hq => h q (List.mem_cons_of_mem _ hq)
   rw [lgL]; omega
theorem dvL_bd {κ : Type} {eqB : κ → κ → Bool} {K : Int → κ} : ∀ (is : List Int) (ps : List (κ × List Int)) (N : Nat), (∀ p ∈ ps, p.2.length ≤ N) → ∀ p ∈ dvL eqB K is ps, p.2.length ≤ N + is.length
 | [], _, _, h, p, hp => h p hp
 | i :: is, ps, N, h, p, hp => by
   have := dvL_bd is (dvPut eqB (K i) i ps) (N + 1) (dvPut_bd h) p hp
   rw [List.length_cons]; omega
def lgW (X : List Mach) (n : Nat) (w : List Int) : Nat := lgL (dvL eqI (respK X w) (idL n) [])
theorem lgW_le (X : List Mach) (n : Nat) (w : List Int) : lgW X n w ≤ n := by
 have h := lgL_le (dvL_bd (eqB := eqI) (K := respK X w) (idL n) [] 0 fun _ h => by cases h)
 have hl : (idL n).length = n := by simp [idL]
 rw [hl] at h
 unfold lgW; omega
def nextF (X : List Mach) (n : Nat) : List (List Int) → List Int → Nat → List Int × Nat
 | [], b, l => (b, l)
 | w :: ws, b, l => if lgW X n w < l then nextF X n ws w (lgW X n w) else nextF X n ws b l
def nextA (m : Mach) (fs : List FA) (most : Int) : AV :=
 if mutErr m fs ≠ 0 then .tu [.sl true [] .unk, .sc (.int .i64 0), .sc (.int .i64 (mutErr m fs))]
 else if most < 1 ∨ 256 < most ∨ fs.length = 0 then .tu [.sl true [] .unk, .sc (.int .i64 0), .sc (.int .i64 1)]
 else if fewN m.ins.toNat most.toNat 1 = false then .tu [.sl true [] .unk, .sc (.int .i64 0), .sc (.int .i64 3)]
 else .tu [.sl false ((nextF (fs.map (mutF m)) fs.length (upL m.ins.toNat most.toNat) [] (fs.length + 1)).1.map intC) .full, .sc (.int .i64 (nextF (fs.map (mutF m)) fs.length (upL m.ins.toNat most.toNat) [] (fs.length + 1)).2), .sc (.int .i64 0)]
set_option maxHeartbeats 4000000 in
theorem next_is (m : Mach) (hm : ∀ r ∈ m.rows, r.2.length < 1000000) (hnn : NoNil m) (fn : Bool) (fs : List FA) (fc : Cp) (hfl : fs.length < 1000000) (most : Int) :
  PureIs prog 19 [.ag m.cells, .sl fn (fs.map FA.cells) fc, .sc (.int .i64 most)] (nextA m fs most) := by
 refine PureIs.of1 5 [6, 7, 8, 9, 10, 11, 12, 13, 14, 16, 24, 36, 41, 48, 49, 55, 56, 57, 58, 69] func19 ntmps19 results19 fun _ => ?_
 refine EvC.a ?_ (by simp only [go_sem, Mach.cells] <;> rfl)
 refine EvC.z 0 ?_
 refine EvC.z 1 ?_
 have q := mutants_is m hm hnn fn fs fc hfl
 unfold mutsA at q
 unfold nextA
 by_cases h0 : mutErr m fs = 0
 rotate_left
 ·rw [if_neg h0] at q
  rw [if_pos h0]
  apply EvC.s1
  ·apply Tr.run
   ·simp only [go_sem, Mach.cells] <;> rfl
   ·simp
   apply Tr.cons
   ·exact .ca (q)
   apply Tr.done
   ·simp only [go_sem] <;> rfl
   ·simp
  refine EvC.seq ?_
  refine EvC.a ?_
  refine EvC.ct ?_ (by simp only [go_sem, decide_eq_false h0] <;> rfl)
  refine EvC.a ?_
  refine EvC.rz ?_
  simp only [go_sem]
 rw [if_pos h0] at q
 rw [if_neg (show ¬ mutErr m fs ≠ 0 from fun h => h h0)]
 have hXv := mutsA_valid h0
 have hXl : (fs.map (mutF m)).length = fs.length := List.length_map _
 have hXi : ∀ x ∈ fs.map (mutF m), x.ins = m.ins := fun x hx => by obtain ⟨f, _, rfl⟩ := List.mem_map.1 hx; rfl
 generalize fs.map (mutF m) = X at q hXv hXl hXi ⊢
 have hXn := norefs_machs X
 have hfl2 := (mutErr_ok h0).2.1
 apply EvC.s1
 ·apply Tr.run
  ·simp only [go_sem, Mach.cells] <;> rfl
  ·simp
  apply Tr.cons
  ·exact .ca (q)
  apply Tr.done
  ·simp only [go_sem, hXn] <;> rfl
  ·simp
 refine EvC.z 11 ?_ (by simp only [go_sem, hXn] <;> rfl)
 refine EvC.seq ?_
 refine EvC.a ?_
 refine EvC.cs ?_
 refine EvC.seq ?_
 by_cases c1 : most < 1
 ·rw [if_pos (show most < 1 ∨ 256 < most ∨ fs.length = 0 from .inl c1)]
  apply EvC.seq
  apply EvC.trd
  ·simp only [go_sem, decide_eq_true c1, List.length_map] <;> rfl
  ·simp
  refine EvC.ct ?_
  refine EvC.a ?_
  refine EvC.rz ?_
  simp only [go_sem]
 by_cases c2 : 256 < most
 ·rw [if_pos (show most < 1 ∨ 256 < most ∨ fs.length = 0 from .inr (.inl c2))]
  apply EvC.seq
  apply EvC.trd
  ·simp only [go_sem, decide_eq_false c1, decide_eq_true c2, List.length_map] <;> rfl
  ·simp
  refine EvC.ct ?_
  refine EvC.a ?_
  refine EvC.rz ?_
  simp only [go_sem]
 by_cases c3 : (fs.length : Int) = 0
 ·rw [if_pos (show most < 1 ∨ 256 < most ∨ fs.length = 0 from .inr (.inr (by omega)))]
  apply EvC.seq
  apply EvC.trd
  ·simp only [go_sem, decide_eq_false c1, decide_eq_false c2, decide_eq_true c3, List.length_map] <;> rfl
  ·simp
  refine EvC.ct ?_
  refine EvC.a ?_
  refine EvC.rz ?_
  simp only [go_sem]
 rw [if_neg (show ¬ (most < 1 ∨ 256 < most ∨ fs.length = 0) by omega)]
 apply EvC.seq
 apply EvC.trd
 ·simp only [go_sem, decide_eq_false c1, decide_eq_false c2, decide_eq_false c3, List.length_map] <;> rfl
 ·simp
 refine EvC.cs ?_
 have hv := Valid.of (mutErr_ok h0).1
 have hins := hv.ins
 obtain ⟨K, hK⟩ : ∃ K : Nat, K = m.ins.toNat := ⟨_, rfl⟩
 obtain ⟨N, hN⟩ : ∃ N : Nat, N = most.toNat := ⟨_, rfl⟩
 have hKi : m.ins = (K : Int) := by omega
 obtain rfl : most = (N : Int) := by omega
 rw [← hK, ← hN]
 have q1 := few_is K N (by omega) (by omega)
 rw [← hKi] at q1
 refine EvC.seq ?_
 apply EvC.s1
 ·apply Tr.run
  ·simp only [go_sem, Mach.cells] <;> rfl
  ·simp
  apply Tr.cons
  ·exact .ca (q1)
  apply Tr.done
  ·simp only [go_sem] <;> rfl
  ·simp
 obtain hfw | hfw : fewN K N 1 = false ∨ fewN K N 1 = true := by cases fewN K N 1 <;> simp
 ·rw [if_pos hfw]
  refine EvC.ct ?_ (by simp only [go_sem, hfw] <;> rfl)
  refine EvC.a ?_
  refine EvC.rz ?_
  simp only [go_sem]
 rw [if_neg (show ¬ fewN K N 1 = false by rw [hfw]; simp)]
 refine EvC.cs ?_ (by simp only [go_sem, hfw] <;> rfl)
 refine EvC.a ?_
 refine EvC.a ?_ (by simp only [go_sem, List.length_map] <;> rfl) (by exact inI64_of (by omega) (by omega))
 have q2 := upto_is m.ins N
 refine EvC.ownC 32 0 1 (by simp only [go_sem] <;> rfl) ?_
 refine EvC.thaw 38 (by simp only [go_sem] <;> rfl) ?_
 refine EvC.seq ?_
 apply EvC.s1
 ·apply Tr.run
  ·simp only [go_sem, Mach.cells] <;> rfl
  ·simp
  apply Tr.cons
  ·exact .ca (q2)
  apply Tr.done
  ·simp only [go_sem] <;> rfl
  ·simp
 refine EvC.gcTo ⟨[(4, .ia [.sl fn (fs.map FA.cells) fc]), (9, .ia [.sl fs.isEmpty (X.map Mach.cells) .unk]), (11, .rf 0 0), (12, .rf 2 0), (48, .fn 81 [.ia [.sc (.int .i64 N)], .ia [.sc (.int .i64 m.ins)]])], [], [(0, .cells [.tl 1 0 true]), (2, .cells [.sc (.int .i64 ((fs.length : Int) + 1))]), (1, .arr 1 [] false)], 3⟩ [4, 9, 11, 12, 48] [(32, 0), (36, 2), (38, 1)] rfl (by simp only [go_sem] <;> rfl) ?_
 have hpk : ∀ p ∈ (#[49] : Array Nat), p < 76 := by decide
 have hseq := upto1_seq K N (by omega) (by omega) (by omega)
 rw [← hKi] at hseq
 have hmem : ∀ w ∈ upL K N, 1 ≤ w.length ∧ w.length ≤ N ∧ ∀ a ∈ w, 0 ≤ a ∧ a < K := fun w hw => upL_mem (by omega) hw
 have hne : upL K N ≠ [] := by
  obtain ⟨N', rfl⟩ : ∃ k, N = k + 1 := ⟨N - 1, by omega⟩
  intro e
  have h1 := congrArg List.length e
  have h2 : 0 < K ^ (N' + 1) := Nat.pow_pos (by omega)
  rw [upL, List.length_append, wdl_len] at h1
  simp only [List.length_nil] at h1
  omega
 generalize upL K N = W at hseq hmem hne ⊢
 obtain ⟨n, hn⟩ : ∃ n, n = fs.length := ⟨_, rfl⟩
 rw [← hn] at hXl hfl2 ⊢
 refine EvC.block ?_
 refine EvC.rangeN rfl (fun _ => rfl) (gf := 81) (caps := [.ia [.sc (.int .i64 N)], .ia [.sc (.int .i64 m.ins)]]) (xs := W) (σ := List Int × Nat × Nat) (by simp only [go_sem] <;> rfl) rfl hseq (fun x hx e => by have := hmem x hx; rw [e] at this; simp at this) rfl hpk (Nat.zero_le _) 4 (by simp)
  (fun _ s => [(0, .cells [.tl s.2.2 s.1.length s.1.isEmpty]), (2, .cells [.sc (.int .i64 s.2.1)]), (s.2.2, .arr 1 (s.1.map intC) false)]) (fun k s => nextF X n (W.drop k) s.1 s.2.1 = nextF X n W [] (n + 1) ∧ s.2.1 ≤ n + 1 ∧ s.1.length ≤ 256 ∧ (k = 0 → s.2.1 = n + 1) ∧ (0 < k → s.1.isEmpty = false) ∧ (s.2.2 = 1 ∨ s.2.2 = 3)) ?_ ?_ ?_ ?_
 ·intro k s _
  simp [memFf, RObj.ff, AV.ffs, AV.ff, intC, List.all_eq_true]
 ·exact ⟨([], n + 1, 1), (by simp only [go_sem, List.map_nil, List.length_nil, List.isEmpty_nil, Int.natCast_add, Int.natCast_one] <;> rfl), rfl, Nat.le_refl _, by simp, fun _ => rfl, fun h => by omega, .inl rfl⟩
 rotate_left
 ·rintro ⟨b, l, id⟩ ⟨e1, e2, e3, e4, e5, e6⟩
  simp only at e1 e2 e3 e4 e5 e6 ⊢
  have hWl : 0 < W.length := List.length_pos_iff.2 hne
  have e5 := e5 hWl
  rw [List.drop_length, nextF] at e1
  rw [← e1]
  simp only
  have q5 := clipI_is false (b.map intC) .unk (by simp [List.all_eq_true, intC])
  rcases e6 with rfl | rfl
  ·refine EvC.frzD 1 (by simp only [go_sem, List.length_map] <;> rfl) ?_
   apply EvC.seq
   apply EvC.drw mixed
   ·apply Tr.run
    ·simp only [go_sem, List.length_map, e5] <;> rfl
    ·simp
    apply Tr.cons
    ·exact .ca (q5)
    apply Tr.done
    ·simp only [go_sem] <;> rfl
    ·simp
   ·kernel_rfl
   refine EvC.rz ?_
   simp only [go_sem]
  ·refine EvC.frzD 3 (by simp only [go_sem, List.length_map] <;> rfl) ?_
   apply EvC.seq
   apply EvC.drw mixed
   ·apply Tr.run
    ·simp only [go_sem, List.length_map, e5] <;> rfl
    ·simp
    apply Tr.cons
    ·exact .ca (q5)
    apply Tr.done
    ·simp only [go_sem] <;> rfl
    ·simp
   ·kernel_rfl
   refine EvC.rz ?_
   simp only [go_sem]
 rintro j ⟨b, l, id⟩ lp hj ⟨e1, e2, e3, e4, e5, e6⟩
 simp only at e1 e2 e3 e4 e5 e6 ⊢
 have hwm := hmem _ (List.getElem_mem hj)
 have hdr : W.drop j = W[j] :: W.drop (j + 1) := List.drop_eq_getElem_cons hj
 rw [hdr, nextF] at e1
 clear hdr
 generalize W[j] = w at hwm e1 ⊢
 rw [map_lent]
 refine EvC.b ?_
 refine ⟨rfl, ?_⟩
 refine EvC.block ?_
 refine EvC.a ?_
 refine EvC.seq ?_
 have hidm : ∀ i ∈ idL n, 0 ≤ i ∧ i < X.length := fun i hi => by
  obtain ⟨j, hj, rfl⟩ := List.mem_map.1 hi
  have := List.mem_range.1 hj
  exact ⟨Int.natCast_nonneg j, by rw [hXl]; exact Int.ofNat_lt.2 this⟩
 have hidl : (idL n).length = n := by simp [idL]
 have q3 := everybody_is n (by omega)
 have q4 := responses_is fs.isEmpty X .unk false (idL n) .full false w .unk hidm hXv (fun x hx => by
  have := hXi x hx
  exact wordErr_of (by omega) (by omega) fun a ha => by have := hwm.2.2 a ha; omega) (by omega) (by omega)
 apply EvC.seq
 apply EvC.drw mixed
 ·apply Tr.run
  ·simp only [go_sem, List.length_map, ← hn] <;> rfl
  ·simp
  apply Tr.cons
  ·exact .call rfl rfl (by simp only [go_sem] <;> rfl) (by simp only [go_sem] <;> rfl) (by simp only [go_sem] <;> rfl) (by simp only [go_sem, hXn] <;> rfl) (by simp only [go_sem] <;> rfl) (q3)
  apply Tr.run
  ·simp only [go_sem, List.length_map, ← hn] <;> rfl
  ·simp
  apply Tr.cons
  ·exact .call rfl rfl (by simp only [go_sem] <;> rfl) (by simp only [go_sem] <;> rfl) (by simp only [go_sem] <;> rfl) (by simp only [go_sem, hXn] <;> rfl) (by simp only [go_sem] <;> rfl) (q4)
  apply Tr.done
  ·simp only [go_sem, List.length_map] <;> rfl
  ·simp
 ·kernel_rfl
 have hlgW : lgW X n w = lgL (dvL eqI (respK X w) (idL n) []) := rfl
 have hlg := lgW_le X n w
 have hpl := dvL_len (eqB := eqI) (K := respK X w) (idL n) []
 simp only [List.length_nil, Nat.zero_add] at hpl
 rw [hlgW] at e1 hlg
 generalize dvL eqI (respK X w) (idL n) [] = ps at e1 hlg hpl ⊢
 have hpn := partC_norefs (kc := keyI) keyI_norefs ps
 refine EvC.block ?_
 refine EvC.loopS (σ := Nat × Nat) (fun g => ⟨[(4, .ia [.sl fn (fs.map FA.cells) fc]), (9, .ia [.sl fs.isEmpty (X.map Mach.cells) .unk]), (11, .rf 0 0), (12, .rf 2 0), (13, .sl false (w.map intC) .unk), (14, .sc (.int .i64 g.2)), (48, .fn 81 [.ia [.sc (.int .i64 N)], .ia [.sc (.int .i64 m.ins)]]), (55, .sl (idL n).isEmpty (ps.map (partC keyI)) .unk), (56, .sc (.int .i64 ps.length)), (57, .sc (.int .i64 g.1))], [], [(0, .cells [.tl id b.length b.isEmpty]), (2, .cells [.sc (.int .i64 l)]), (id, .arr 1 (b.map intC) false)], 4⟩) (fun g => ps.length - g.1) (fun g => g.1 ≤ ps.length ∧ lgA g.2 (ps.drop g.1) = lgL ps) [4, 9, 11, 12, 13, 14, 48, 55, 56, 57] 4 ?_ ?_
 ·refine ⟨[(0, 0), (2, 2), (id, id)], (0, 0), ?_, ?_, Nat.zero_le _, by simp [lgA_eq]⟩
  ·rcases e6 with rfl | rfl <;> rfl
  ·rcases e6 with rfl | rfl <;> simp only [go_sem, Int.natCast_zero, List.length_map] <;> rfl
 rintro ⟨i, lg⟩ ⟨i1, i2⟩
 simp only at i1 i2 ⊢
 refine EvC.a ?_
 refine EvC.seq ?_
 refine EvC.cond (by simp only [go_sem] <;> rfl) (fun hc => ?_) (fun hc => ?_)
 rotate_left
 ·refine EvC.exit ?_
  obtain rfl : i = ps.length := by have : ¬ i < ps.length := (by simpa using hc); omega
  rw [List.drop_length, lgA] at i2
  subst i2
  clear hc
  refine EvC.a ?_
  by_cases hlt : lgL ps < l
  ·have hlt2 : (lgL ps : Int) < l := by omega
   rw [if_pos hlt] at e1
   have q6 := cloneI_new w .unk (by omega) (by omega)
   have hwe : w.isEmpty = false := by cases w with
    | nil => simp at hwm
    | cons a w => rfl
   refine EvC.ct ?_ (by simp only [go_sem, decide_eq_true hlt2] <;> rfl)
   rcases e6 with rfl | rfl
   ·apply EvC.tr
    ·apply Tr.run
     ·simp only [go_sem] <;> rfl
     ·simp
     apply Tr.cons
     ·exact .callN rfl rfl (by simp only [go_sem] <;> rfl) (by simp only [go_sem] <;> rfl) (by simp only [go_sem] <;> rfl) (by simp only [go_sem] <;> rfl) (by simp only [go_sem] <;> rfl) q6
     apply Tr.done
     ·simp only [go_sem, List.length_map] <;> rfl
     ·simp
    exact ⟨[(0, 0), (2, 2), (9, 3)], (w, lgL ps, 3), rfl, (by simp only [go_sem, hwe, List.length_map] <;> rfl), e1, by simp only; omega, by simp only; omega, fun h => by omega, fun _ => hwe, .inr rfl⟩
   ·apply EvC.tr
    ·apply Tr.run
     ·simp only [go_sem] <;> rfl
     ·simp
     apply Tr.cons
     ·exact .callN rfl rfl (by simp only [go_sem] <;> rfl) (by simp only [go_sem] <;> rfl) (by simp only [go_sem] <;> rfl) (by simp only [go_sem] <;> rfl) (by simp only [go_sem] <;> rfl) q6
     apply Tr.done
     ·simp only [go_sem, List.length_map] <;> rfl
     ·simp
    exact ⟨[(0, 0), (2, 2), (9, 3)], (w, lgL ps, 3), rfl, (by simp only [go_sem, hwe, List.length_map] <;> rfl), e1, by simp only; omega, by simp only; omega, fun h => by omega, fun _ => hwe, .inr rfl⟩
  ·have hlt2 : ¬ (lgL ps : Int) < l := by omega
   rw [if_neg hlt] at e1
   refine EvC.cs ?_ (by simp only [go_sem, decide_eq_false hlt2] <;> rfl)
   refine ⟨[(0, 0), (2, 2), (id, id)], (b, l, id), ?_, ?_, ⟨e1, e2, e3, fun h => by omega, fun _ => ?_, e6⟩⟩
   ·rcases e6 with rfl | rfl <;> rfl
   ·rcases e6 with rfl | rfl <;> simp only [go_sem] <;> rfl
   ·by_cases hj0 : 0 < j
    ·exact e5 hj0
    ·have := e4 (by omega); omega
 have hil : i < ps.length := by simpa using hc
 clear hc
 have hpe : ps[i]? = some ps[i] := List.getElem?_eq_getElem hil
 have hdr : ps.drop i = ps[i] :: ps.drop (i + 1) := List.drop_eq_getElem_cons hil
 generalize ps[i] = p at hpe hdr
 obtain ⟨px, pw⟩ := p
 rw [hdr, lgA] at i2
 simp only at i2
 have hp2 : (ps.map (partC keyI))[i]? = some (partC keyI (px, pw)) := by rw [List.getElem?_map, hpe]; rfl
 simp only [partC, keyI, List.cons_append, List.nil_append] at hp2
 obtain ⟨kZ, hkZ⟩ : ∃ z : Int, z = (i : Int) := ⟨_, rfl⟩
 have hkt : kZ.toNat = i := by omega
 rw [← hkZ]
 refine EvC.skip ?_
 refine EvC.seq ?_
 refine EvC.block ?_
 refine EvC.a ?_ (by simp only [go_sem, hp2, hkt, List.length_map] <;> rfl) (by simp; omega)
 have hmx : (if (lg : Int) ≤ (pw.length : Int) then (pw.length : Int) else (lg : Int)) = ((max lg pw.length : Nat) : Int) := by split <;> omega
 refine EvC.b ?_ (by simp only [go_sem, List.length_map, hmx] <;> rfl)
 refine EvC.b ?_ (hok := by exact inI64_of (by omega) (by omega))
 refine ⟨[(0, 0), (2, 2), (id, id)], (i + 1, max lg pw.length), ?_, ?_, ⟨hil, i2⟩, by simp only; omega⟩
 ·rcases e6 with rfl | rfl <;> rfl
 ·rw [hkZ]
  rcases e6 with rfl | rfl <;> simp only [go_sem, hmx, List.length_map, Int.natCast_add, Int.natCast_one] <;> rfl
theorem bothR_zero {a b : Mach} (ha : Valid a) (hb : Valid b) (hab : a.ins = b.ins) : bothR a b = 0 := by
 unfold bothR
 rw [if_neg (fun h => h (checkM_of ha)), if_neg (fun h => h (checkM_of hb)), if_neg (fun h => h hab)]
def firstD (X : List Mach) (a : Int) : List Int → List Int
 | [] => []
 | i :: r => if (diffO (atM X a) (atM X i)).isSome = true then diffW (atM X a) (atM X i) else firstD X a r
def wordX (X : List Mach) : List Int → List Int
 | [] => []
 | a :: r => firstD X a r
theorem diffW_empty (a b : Mach) : (diffW a b).isEmpty = (diffO a b).isNone := by
 have := diffW_pos a b
 cases h : diffO a b with
 | none => unfold diffW; rw [h]; rfl
 | some z =>
   rw [h] at this
   cases hw : diffW a b with
   | nil => rw [hw] at this; simp at this
   | cons x w => rfl
theorem word59_is (xn : Bool) (X : List Mach) (xc : Cp) (a : Int) (r : List Int) (k : Int) (hX : ∀ m ∈ X, Valid m ∧ m.ins = k) (hwho : ∀ i ∈ a :: r, 0 ≤ i ∧ i < X.length) (hl : r.length < 1000000) :
  PureIs prog 59 [.sl xn (X.map Mach.cells) xc, .sl false ((a :: r).map intC) .full] (.sl (wordX X (a :: r)).isEmpty ((wordX X (a :: r)).map intC) .unk) := by
 have hXn := norefs_machs X
 have ha := hwho a List.mem_cons_self
 have hxa := atM_get (X := X) (i := a) (by omega)
 have hva : Valid (atM X a) ∧ (atM X a).ins = k := hX _ (by rw [atM, List.getD_eq_getElem?_getD, List.getElem?_eq_getElem (show a.toNat < X.length by omega)]; exact List.getElem_mem _)
 refine PureIs.of1 10 [11, 12, 13, 14, 32] func59 ntmps59 results59 fun _ => ?_
 refine EvC.a ?_
 refine EvC.seq ?_
 refine EvC.a ?_ (by simp only [go_sem, List.map_cons, List.length_cons, List.length_map] <;> rfl) (by simp [intC]; try omega)
 refine EvC.block ?_
 refine EvC.loopS (σ := Nat) (fun i => ⟨[(0, .sl xn (X.map Mach.cells) xc), (1, .sl false (intC a :: r.map intC) .full), (11, .sl false (r.map intC) .full), (12, .sc (.int .i64 r.length)), (13, .sc (.int .i64 i))], [], [], 0⟩) (fun i => r.length - i) (fun i => i ≤ r.length ∧ firstD X a r = firstD X a (r.drop i)) [0, 1, 11, 12, 13] 0 ?_ ?_
 ·exact ⟨[], 0, rfl, (by simp only [go_sem, Int.natCast_zero, List.length_map] <;> rfl), Nat.zero_le _, rfl⟩
 rintro i ⟨h1, h2⟩
 refine EvC.a ?_
 refine EvC.seq ?_
 refine EvC.cond (by simp only [go_sem] <;> rfl) (fun hc => ?_) (fun hc => ?_)
 rotate_left
 ·refine EvC.exit ?_
  obtain rfl : i = r.length := by have : ¬ i < r.length := (by simpa using hc); omega
  rw [List.drop_length] at h2
  have h2 : firstD X a r = [] := h2
  rw [wordX, h2]
  refine EvC.a ?_
  refine EvC.rz ?_
  simp only [go_sem]
 have hil : i < r.length := by simpa using hc
 clear hc
 have he : r[i]? = some r[i] := List.getElem?_eq_getElem hil
 have hdr : r.drop i = r[i] :: r.drop (i + 1) := List.drop_eq_getElem_cons hil
 have hb := hwho _ (List.mem_cons_of_mem _ (List.getElem_mem hil))
 generalize r[i] = b at he hdr hb
 rw [hdr, firstD] at h2
 have hxb := atM_get (X := X) (i := b) (by omega)
 have hvb : Valid (atM X b) ∧ (atM X b).ins = k := hX _ (by rw [atM, List.getD_eq_getElem?_getD, List.getElem?_eq_getElem (show b.toNat < X.length by omega)]; exact List.getElem_mem _)
 have hit : ((i : Int)).toNat = i := Int.toNat_natCast i
 have q := equals_differ_is (atM X a) (atM X b) hva.1.small hvb.1.small
 have hwe := diffW_empty (atM X a) (atM X b)
 rw [differA, if_pos (bothR_zero hva.1 hvb.1 (by rw [hva.2, hvb.2]))] at q
 have q := q.weakR
 simp only [AV.unk, AV.unks, unkss_map intC (fun _ => rfl)] at q
 generalize atM X a = ma at hxa q hwe h2
 generalize atM X b = mb at hxb q hwe h2
 refine EvC.skip ?_
 refine EvC.seq ?_
 refine EvC.block ?_
 refine EvC.a ?_ (by simp only [go_sem, he, intC, hit, List.length_map] <;> rfl) (by simp; try omega)
 apply EvC.seq
 apply EvC.drw mixed
 ·apply Tr.run
  ·simp only [go_sem, intC, hxa, hxb, Mach.cells, List.length_map, List.length_cons] <;> rfl
  ·simp; try omega
  apply Tr.cons
  ·exact .ca (q)
  apply Tr.done
  ·simp only [go_sem] <;> rfl
  ·simp
 ·kernel_rfl
 refine EvC.a ?_
 obtain hd | hd : (diffO ma mb).isSome = true ∨ (diffO ma mb).isSome = false := by cases diffO ma mb <;> simp
 ·have hn : (diffO ma mb).isNone = false := by cases h : diffO ma mb <;> simp [h] at hd ⊢
  rw [if_pos hd] at h2
  rw [wordX, h2, hwe, hn]
  refine EvC.ct ?_ (by simp only [go_sem, hd] <;> rfl)
  refine EvC.a ?_
  refine EvC.rz ?_
  simp only [go_sem]
 ·rw [if_neg (by rw [hd]; simp)] at h2
  refine EvC.cs ?_ (by simp only [go_sem, hd] <;> rfl)
  refine EvC.b ?_ (hok := by exact inI64_of (by omega) (by omega))
  exact ⟨[], i + 1, rfl, (by simp only [go_sem, Int.natCast_add, Int.natCast_one, intC] <;> rfl), ⟨hil, h2⟩, by omega⟩
section
variable {κ : Type} {eqB : κ → κ → Bool} {K : Int → κ}
def sumP (ps : List (κ × List Int)) : Nat := (ps.map fun p => p.2.length).sum
theorem dvPut_sum (x : κ) (i : Int) : ∀ (ps : List (κ × List Int)), sumP (dvPut eqB x i ps) = sumP ps + 1
 | [] => rfl
 | p :: ps => by
   rw [dvPut]
   split
   ·simp only [sumP, List.map_cons, List.sum_cons, List.length_append, List.length_cons, List.length_nil]; omega
   ·have := dvPut_sum x i ps
    simp only [sumP, List.map_cons, List.sum_cons] at this ⊢; omega
theorem dvL_sum : ∀ (is : List Int) (ps : List (κ × List Int)), sumP (dvL eqB K is ps) = sumP ps + is.length
 | [], _ => rfl
 | i :: is, ps => by rw [dvL, dvL_sum is, dvPut_sum, List.length_cons]; omega
theorem dvPut_all {Q : κ → List Int → Prop} (x : κ) (i : Int) (h1 : Q x [i]) (h2 : ∀ k l, Q k l → eqB k x = true → Q k (l ++ [i])) : ∀ (ps : List (κ × List Int)), (∀ p ∈ ps, Q p.1 p.2) → ∀ p ∈ dvPut eqB x i ps, Q p.1 p.2
 | [], _, p, hp => by rw [dvPut, List.mem_singleton] at hp; subst hp; exact h1
 | q :: ps, h, p, hp => by
   rw [dvPut] at hp
   split at hp
   ·rename_i he
    rcases List.mem_cons.1 hp with rfl | hp
    ·exact h2 _ _ (h q List.mem_cons_self) he
    ·exact h p (List.mem_cons_of_mem _ hp)
   ·rcases List.mem_cons.1 hp with rfl | hp
    ·exact h _ List.mem_cons_self
    ·exact dvPut_all x i h1 h2 ps (fun r hr => h r (List.mem_cons_of_mem _ hr)) p hp
theorem dvL_all {Q : κ → List Int → Prop} : ∀ (is : List Int), (∀ i ∈ is, Q (K i) [i] ∧ ∀ k l, Q k l → eqB k (K i) = true → Q k (l ++ [i])) → ∀ (ps : List (κ × List Int)), (∀ p ∈ ps, Q p.1 p.2) → ∀ p ∈ dvL eqB K is ps, Q p.1 p.2
 | [], _, _, h, p, hp => h p hp
 | i :: is, hs, ps, h, p, hp => by
   obtain ⟨h1, h2⟩ := hs i List.mem_cons_self
   exact dvL_all is (fun j hj => hs j (List.mem_cons_of_mem _ hj)) _ (dvPut_all _ _ h1 h2 ps h) p hp
theorem dvPut_mem (x : κ) (i : Int) : ∀ (ps : List (κ × List Int)), ∃ p ∈ dvPut eqB x i ps, i ∈ p.2
 | [] => ⟨(x, [i]), by simp [dvPut], by simp⟩
 | q :: ps => by
   rw [dvPut]
   split
   ·exact ⟨(q.1, q.2 ++ [i]), List.mem_cons_self, by simp⟩
   ·obtain ⟨p, h1, h2⟩ := dvPut_mem x i ps
    exact ⟨p, List.mem_cons_of_mem _ h1, h2⟩
theorem dvPut_keep {x : κ} {i j : Int} : ∀ {ps : List (κ × List Int)}, (∃ p ∈ ps, j ∈ p.2) → ∃ p ∈ dvPut eqB x i ps, j ∈ p.2
 | [], ⟨p, h, _⟩ => by cases h
 | q :: ps, ⟨p, h, hj⟩ => by
   rw [dvPut]
   split
   ·rcases List.mem_cons.1 h with rfl | h
    ·exact ⟨(p.1, p.2 ++ [i]), List.mem_cons_self, List.mem_append_left _ hj⟩
    ·exact ⟨p, List.mem_cons_of_mem _ h, hj⟩
   ·rcases List.mem_cons.1 h with rfl | h
    ·exact ⟨p, List.mem_cons_self, hj⟩
    ·obtain ⟨p', h1, h2⟩ := dvPut_keep (x := x) (i := i) ⟨p, h, hj⟩
     exact ⟨p', List.mem_cons_of_mem _ h1, h2⟩
theorem dvL_keep {j : Int} : ∀ (is : List Int) {ps : List (κ × List Int)}, (∃ p ∈ ps, j ∈ p.2) → ∃ p ∈ dvL eqB K is ps, j ∈ p.2
 | [], _, h => h
 | i :: is, ps, h => dvL_keep is (dvPut_keep h)
theorem dvL_mem {j : Int} : ∀ (is : List Int) (ps : List (κ × List Int)), j ∈ is → ∃ p ∈ dvL eqB K is ps, j ∈ p.2
 | i :: is, ps, h => by
   rcases List.mem_cons.1 h with rfl | h
   ·exact dvL_keep is (dvPut_mem _ _ ps)
   ·exact dvL_mem is _ h
theorem dvL_ne2 (is : List Int) : ∀ p ∈ dvL eqB K is [], p.2 ≠ [] :=
 dvL_all (Q := fun _ l => l ≠ []) is (fun i _ => ⟨by simp, fun k l _ _ => by simp⟩) [] (fun p h => by cases h)
theorem dvL_sub (is : List Int) : ∀ p ∈ dvL eqB K is [], ∀ i ∈ p.2, i ∈ is := by
 refine dvL_all (Q := fun _ l => ∀ i ∈ l, i ∈ is) is (fun i hi => ⟨fun j hj => ?_, fun k l h _ j hj => ?_⟩) [] (fun p h => by cases h)
 ·rw [List.mem_singleton] at hj; subst hj; exact hi
 ·rcases List.mem_append.1 hj with hj | hj
  ·exact h j hj
  ·rw [List.mem_singleton] at hj; subst hj; exact hi
end
theorem dvI_key {K : Int → List Int} (is : List Int) : ∀ p ∈ dvL eqI K is [], ∀ i ∈ p.2, K i = p.1 := by
 refine dvL_all (Q := fun k l => ∀ i ∈ l, K i = k) is (fun i _ => ⟨fun j hj => ?_, fun k l h he j hj => ?_⟩) [] (fun p h => by cases h)
 ·rw [List.mem_singleton] at hj; subst hj; rfl
 ·rcases List.mem_append.1 hj with hj | hj
  ·exact h j hj
  ·rw [List.mem_singleton] at hj; subst hj
   simp only [eqI, decide_eq_true_eq] at he; exact he.symm
theorem dvI_two {K : Int → List Int} {is : List Int} {i j : Int} (hi : i ∈ is) (hj : j ∈ is) (h : K i ≠ K j) : 2 ≤ (dvL eqI K is []).length := by
 obtain ⟨p, h1, h2⟩ := dvL_mem (eqB := eqI) (K := K) is [] hi
 obtain ⟨q, h3, h4⟩ := dvL_mem (eqB := eqI) (K := K) is [] hj
 have k1 := dvI_key is p h1 i h2
 have k2 := dvI_key is q h3 j h4
 match hp : dvL eqI K is [] with
 | [] => rw [hp] at h1; cases h1
 | [r] =>
   rw [hp] at h1 h3
   rw [List.mem_singleton] at h1 h3
   subst h1; subst h3
   exact absurd (k1.trans k2.symm) h
 | _ :: _ :: _ => simp
theorem diffW_bd {a b : Mach} (ha : Valid a) (hb : Valid b) (hab : a.ins = b.ins) : (diffW a b).length ≤ 127 ∧ ∀ i ∈ diffW a b, 0 ≤ i ∧ i < a.ins := by
 have h1 := ha.rows
 have h2 := hb.rows
 have h3 := ha.ins
 rcases diff_least ha hb hab with ⟨_, hL⟩ | ⟨_, h, _⟩
 ·refine ⟨?_, fun i hi => by have := hL.1 i hi; omega⟩
  have hw := besM_wv ha hb hab
  have hl := besM_len a b
  obtain ⟨N, hN⟩ : ∃ N, N = a.rows.length + b.rows.length - 1 := ⟨_, rfl⟩
  have e : ∀ v, WOk a.ins.toNat v → runR (besM a b) ((0 : Nat) : Int) v = runR a 0 v ∧ runR (besM a b) (a.rows.length : Int) v = runR b 0 v := fun v hv => by
   have q1 := bes_runa ha b v 0 (by omega) fun i hi => by have := hv i hi; omega
   have q2 := bes_runb a hb v 0 (by omega) (by omega) fun i hi => by have := hv i hi; omega
   rw [Int.add_zero] at q2
   exact ⟨q1, q2⟩
  have hna : ¬ Alike (besM a b) N 0 a.rows.length := fun hal => by
   have := alike_all hw (k := N) (by omega) (by omega) (by omega) hal _ hL.1
   rw [(e _ hL.1).1, (e _ hL.1).2] at this
   exact hL.2.1 this
  simp only [Alike, Classical.not_forall] at hna
  obtain ⟨v, v1, v2, v3⟩ := hna
  have v1 : WOk a.ins.toNat v := v1
  rw [(e v v1).1, (e v v1).2] at v3
  have := rank_lt_len v1 (hL.2.2 v v1 v3)
  omega
 ·rw [h]; exact ⟨by simp, fun i hi => by cases hi⟩
theorem firstD_spec {X : List Mach} {a : Int} : ∀ {r : List Int}, (firstD X a r = [] ∧ ∀ i ∈ r, diffO (atM X a) (atM X i) = none) ∨ ∃ i ∈ r, (diffO (atM X a) (atM X i)).isSome = true ∧ firstD X a r = diffW (atM X a) (atM X i) ∧ firstD X a r ≠ []
 | [] => .inl ⟨rfl, fun i h => by cases h⟩
 | i :: r => by
   rw [firstD]
   split
   ·rename_i h
    refine .inr ⟨i, List.mem_cons_self, h, rfl, fun e => ?_⟩
    have := diffW_empty (atM X a) (atM X i)
    rw [e] at this
    cases hd : diffO (atM X a) (atM X i) <;> simp [hd] at h this
   ·rename_i h
    rcases firstD_spec (X := X) (a := a) (r := r) with ⟨h1, h2⟩ | ⟨j, h1, h2⟩
    ·refine .inl ⟨h1, fun j hj => ?_⟩
     rcases List.mem_cons.1 hj with rfl | hj
     ·cases hd : diffO (atM X a) (atM X j) <;> simp [hd] at h ⊢
     ·exact h2 j hj
    ·exact .inr ⟨j, List.mem_cons_of_mem _ h1, h2⟩
structure Nd where
 sus : List Int
 word : List Int
 br : List (List Int × Int)
def brC (b : List Int × Int) : List AV := [.sl false (b.1.map intC) .full, .sc (.int .i64 b.2)]
def wAV (w : List Int) : AV := .sl w.isEmpty (w.map intC) (if w.isEmpty then .zer else .full)
def bAV (bs : List (List Int × Int)) : AV := .sl bs.isEmpty (bs.map brC) (if bs.isEmpty then .zer else .full)
def ndC (d : Nd) : List AV := [.sl false (d.sus.map intC) .full, wAV d.word, bAV d.br]
def kidL (ps : List (List Int × List Int)) : List Nd := ps.map fun p => ⟨p.2, [], []⟩
def brsF : List (List Int × List Int) → Nat → List (List Int × Int)
 | [], _ => []
 | p :: ps, t => (p.1, (t : Int)) :: brsF ps (t + 1)
def partsX (X : List Mach) (s w : List Int) : List (List Int × List Int) := dvL eqI (respK X w) s []
def dgStep (X : List Mach) (out : List Nd) (n : Nat) : List Nd :=
 match out[n]? with
 | none => out
 | some d => if wordX X d.sus = [] then out else out.set n ⟨d.sus, wordX X d.sus, brsF (partsX X d.sus (wordX X d.sus)) out.length⟩ ++ kidL (partsX X d.sus (wordX X d.sus))
def dgF (X : List Mach) : Nat → List Nd → Nat → List Nd
 | 0, out, _ => out
 | f + 1, out, n => if n < out.length then dgF X f (dgStep X out n) (n + 1) else out
def diagL (X : List Mach) (N : Nat) : List Nd := dgF X (2 * N) [⟨idL N, [], []⟩] 0
theorem brsF_len : ∀ (ps : List (List Int × List Int)) (t : Nat), (brsF ps t).length = ps.length
 | [], _ => rfl
 | p :: ps, t => by rw [brsF, List.length_cons, brsF_len ps, List.length_cons]
theorem brsF_get : ∀ {ps : List (List Int × List Int)} {t k : Nat} {p : List Int × List Int}, ps[k]? = some p → (brsF ps t)[k]? = some (p.1, ((t + k : Nat) : Int))
 | [], _, _, _, h => by simp at h
 | q :: ps, t, 0, p, h => by
   simp only [List.getElem?_cons_zero, Option.some.injEq] at h
   subst h; rfl
 | q :: ps, t, k + 1, p, h => by
   have := brsF_get (t := t + 1) (show ps[k]? = some p by simpa using h)
   rw [brsF, List.getElem?_cons_succ, this, show t + 1 + k = t + (k + 1) by omega]
def wgt (l : List Nd) : Nat := (l.map fun d => 2 * (d.sus.length - 1)).sum
theorem wgt_app (a b : List Nd) : wgt (a ++ b) = wgt a + wgt b := by simp [wgt]
theorem wgt_kids : ∀ {ps : List (List Int × List Int)}, (∀ p ∈ ps, p.2 ≠ []) → wgt (kidL ps) + 2 * ps.length = 2 * sumP ps
 | [], _ => rfl
 | p :: ps, h => by
   have h1 := wgt_kids fun q hq => h q (List.mem_cons_of_mem _ hq)
   have h2 := List.length_pos_iff.2 (h p List.mem_cons_self)
   simp only [wgt, kidL, sumP, List.map_cons, List.sum_cons, List.length_cons] at h1 ⊢
   omega
structure DInv (X : List Mach) (N : Nat) (n : Nat) (out : List Nd) : Prop where
 le : n ≤ out.length
 wg : out.length + wgt (out.drop n) ≤ 2 * N - 1
 ne : ∀ d ∈ out, d.sus ≠ []
 rng : ∀ d ∈ out, ∀ i ∈ d.sus, 0 ≤ i ∧ i < N
theorem DInv.start (X : List Mach) {N : Nat} (hN : 1 ≤ N) : DInv X N 0 [⟨idL N, [], []⟩] where
 le := Nat.zero_le _
 wg := by
  have hl : (idL N).length = N := by simp [idL]
  simp only [List.drop_zero, wgt, List.map_cons, List.map_nil, List.sum_cons, List.sum_nil, List.length_cons, List.length_nil, hl]; omega
 ne := fun d hd e => by
  rw [List.mem_singleton] at hd; subst hd
  have hl : (idL N).length = N := by simp [idL]
  simp only at e
  rw [e] at hl; simp at hl; omega
 rng := fun d hd i hi => by
  rw [List.mem_singleton] at hd; subst hd
  obtain ⟨j, hj, rfl⟩ := List.mem_map.1 hi
  have := List.mem_range.1 hj
  exact ⟨Int.natCast_nonneg j, Int.ofNat_lt.2 this⟩
theorem wordX_two {X : List Mach} {k : Int} (hX : ∀ m ∈ X, Valid m ∧ m.ins = k) {s : List Int} (hs : ∀ i ∈ s, 0 ≤ i ∧ i < X.length) (hw : wordX X s ≠ []) :
  2 ≤ (partsX X s (wordX X s)).length ∧ (wordX X s).length ≤ 127 ∧ ∀ i ∈ wordX X s, 0 ≤ i ∧ i < k := by
 have hin : ∀ i ∈ s, Valid (atM X i) ∧ (atM X i).ins = k := fun i hi => hX _ (by
  have h := hs i hi
  rw [atM, List.getD_eq_getElem?_getD, List.getElem?_eq_getElem (show i.toNat < X.length by omega)]
  exact List.getElem_mem _)
 cases s with
 | nil => exact absurd rfl hw
 | cons a r =>
   rcases firstD_spec (X := X) (a := a) (r := r) with ⟨h1, _⟩ | ⟨i, h1, h2, h3, _⟩
   ·exact absurd h1 hw
   ·have va := hin a List.mem_cons_self
    have vi := hin i (List.mem_cons_of_mem _ h1)
    have hab : (atM X a).ins = (atM X i).ins := by rw [va.2, vi.2]
    have hbd := diffW_bd va.1 vi.1 hab
    have e : wordX X (a :: r) = diffW (atM X a) (atM X i) := h3
    rw [e]
    refine ⟨?_, hbd.1, fun j hj => by have := hbd.2 j hj; omega⟩
    refine dvI_two (i := a) (j := i) List.mem_cons_self (List.mem_cons_of_mem _ h1) ?_
    rcases diff_least va.1 vi.1 hab with ⟨_, hL⟩ | ⟨h, _⟩
    ·exact hL.2.1
    ·rw [h] at h2; cases h2
theorem DInv.step {X : List Mach} {N n : Nat} {out : List Nd} {k : Int} (hX : ∀ m ∈ X, Valid m ∧ m.ins = k) (hXN : X.length = N) (h : DInv X N n out) (hn : n < out.length) : DInv X N (n + 1) (dgStep X out n) := by
 have hd := List.getElem?_eq_getElem hn
 have hm := List.getElem_mem hn
 have hdrop : out.drop n = out[n] :: out.drop (n + 1) := List.drop_eq_getElem_cons hn
 have hw := h.wg
 rw [hdrop, show wgt (out[n] :: out.drop (n + 1)) = 2 * (out[n].sus.length - 1) + wgt (out.drop (n + 1)) by simp only [wgt, List.map_cons, List.sum_cons]] at hw
 have hne := h.ne _ hm
 have hrg := h.rng _ hm
 unfold dgStep
 rw [hd]
 simp only
 generalize out[n] = d at hd hm hw hne hrg
 split
 ·exact ⟨hn, by omega, h.ne, h.rng⟩
 ·rename_i hwd
  obtain ⟨t1, t2, t3⟩ := wordX_two hX (fun i hi => by have := hrg i hi; omega) hwd
  obtain ⟨w, hwe⟩ : ∃ w, w = wordX X d.sus := ⟨_, rfl⟩
  rw [← hwe] at t1 t2 t3 ⊢
  have hps := dvL_sum (eqB := eqI) (K := respK X w) d.sus []
  have hpn := dvL_ne2 (eqB := eqI) (K := respK X w) d.sus
  have hpb := dvL_sub (eqB := eqI) (K := respK X w) d.sus
  rw [show dvL eqI (respK X w) d.sus [] = partsX X d.sus w from rfl] at hps hpn hpb
  rw [show sumP ([] : List (List Int × List Int)) = 0 from rfl, Nat.zero_add] at hps
  generalize partsX X d.sus w = ps at t1 hps hpn hpb
  have hk := wgt_kids hpn
  have hl := List.length_pos_iff.2 hne
  have hml : ∀ e ∈ out.set n ⟨d.sus, w, brsF ps out.length⟩ ++ kidL ps, e ∈ out ∨ e.sus = d.sus ∨ ∃ p ∈ ps, e.sus = p.2 := fun e he => by
   rcases List.mem_append.1 he with he | he
   ·rcases List.mem_or_eq_of_mem_set he with he | rfl
    ·exact .inl he
    ·exact .inr (.inl rfl)
   ·obtain ⟨p, hp, rfl⟩ := List.mem_map.1 he
    exact .inr (.inr ⟨p, hp, rfl⟩)
  refine ⟨by simp only [List.length_append, List.length_set]; omega, ?_, fun e he => ?_, fun e he => ?_⟩
  ·rw [List.drop_append_of_le_length (by rw [List.length_set]; omega), wgt_app, List.length_append, List.length_set, List.drop_set_of_lt (by omega)]
   have : (kidL ps).length = ps.length := by simp [kidL]
   rw [hps] at hk
   omega
  ·rcases hml e he with h1 | h1 | ⟨p, h1, h2⟩
   ·exact h.ne e h1
   ·rw [h1]; exact hne
   ·rw [h2]; exact hpn p h1
  ·rcases hml e he with h1 | h1 | ⟨p, h1, h2⟩
   ·exact h.rng e h1
   ·rw [h1]; exact hrg
   ·rw [h2]; exact fun i hi => hrg i (hpb p h1 i hi)
theorem clipN_is (nl : Bool) (es : List (List AV)) (c : Cp) (h : (es.all fun y => decide (y.length = 3)) = true) : PureIs prog 60 [.sl nl es c] (.sl nl es .full) := by
 refine PureIs.of1 1 [2] func60 ntmps60 results60 fun _ => ?_
 refine EvC.a ?_
 refine EvC.a ?_ (hok := by simpa using h)
 refine EvC.rz ?_
 simp only [go_sem]
theorem ndC_norefs (d : Nd) : AV.norefs (ndC d) = true := rfl
theorem nds_norefs (l : List Nd) : (l.map ndC).all AV.norefs = true := by
 rw [List.all_eq_true]
 intro c hc
 obtain ⟨d, _, rfl⟩ := List.mem_map.1 hc
 exact ndC_norefs d
def diagA (m : Mach) (fs : List FA) : AV :=
 if mutErr m fs ≠ 0 then .tu [.sl true [] .unk, .sc (.int .i64 (mutErr m fs))]
 else if fs.length = 0 then .tu [.sl true [] .unk, .sc (.int .i64 1)]
 else .tu [.sl false ((diagL (fs.map (mutF m)) fs.length).map ndC) .full, .sc (.int .i64 0)]
theorem DInv.len {X : List Mach} {N n : Nat} {out : List Nd} (h : DInv X N n out) : out.length ≤ 2 * N - 1 := by have := h.wg; omega
theorem dgF_end (X : List Mach) : ∀ (f : Nat) (out : List Nd), dgF X f out out.length = out
 | 0, _ => rfl
 | f + 1, out => by rw [dgF, if_neg (by omega)]
theorem dgF_step {X : List Mach} {f n : Nat} {out : List Nd} (hf : 0 < f) (hn : n < out.length) : dgF X f out n = dgF X (f - 1) (dgStep X out n) (n + 1) := by
 obtain ⟨g, rfl⟩ : ∃ g, f = g + 1 := ⟨f - 1, by omega⟩
 rw [dgF, if_pos hn, Nat.add_sub_cancel]
def kidsTo (out : List Nd) (ps : List (List Int × List Int)) (k : Nat) : List (List AV) := (out ++ kidL (ps.take k)).map ndC
theorem kidsTo_succ {out : List Nd} {ps : List (List Int × List Int)} {k : Nat} {p : List Int × List Int} (h : ps[k]? = some p) : kidsTo out ps k ++ [[.sl false (p.2.map intC) .full, .sl true [] .zer, .sl true [] .zer]] = kidsTo out ps (k + 1) := by
 obtain ⟨hi, he⟩ := List.getElem?_eq_some_iff.1 h
 unfold kidsTo kidL
 rw [List.take_succ_eq_append_getElem hi, he]
 simp only [List.map_append, List.append_assoc]; rfl
theorem kidsTo_len {out : List Nd} {ps : List (List Int × List Int)} {k : Nat} (h : k ≤ ps.length) : (kidsTo out ps k).length = out.length + k := by simp [kidsTo, kidL]; omega
theorem kidsTo_norefs (out : List Nd) (ps : List (List Int × List Int)) (k : Nat) : (kidsTo out ps k).all AV.norefs = true := nds_norefs _
def brV (ps : List (List Int × List Int)) (L : Nat) (i : Nat) : List AV := brC ((ps.getD i ([], [])).1, ((L + i : Nat) : Int))
theorem brV_all (ps : List (List Int × List Int)) (L : Nat) (d : List AV) : fillC (brV ps L) d ps.length ps.length = (brsF ps L).map brC := by
 rw [fillC_all]
 apply List.ext_getElem
 ·simp [brsF_len]
 ·intro i h1 h2
  have hi : i < ps.length := by simpa using h1
  have h3 := brsF_get (t := L) (List.getElem?_eq_getElem hi)
  have h4 : i < (brsF ps L).length := by rw [brsF_len]; exact hi
  rw [List.getElem?_eq_getElem h4] at h3
  simp only [List.getElem_map, List.getElem_range, Option.some.inj h3, brV, List.getD_eq_getElem?_getD, List.getElem?_eq_getElem hi, Option.getD_some]
set_option maxHeartbeats 4000000 in
theorem diagnose_is (m : Mach) (hm : ∀ r ∈ m.rows, r.2.length < 1000000) (hnn : NoNil m) (fn : Bool) (fs : List FA) (fc : Cp) (hfl : fs.length < 1000000) :
  PureIs prog 22 [.ag m.cells, .sl fn (fs.map FA.cells) fc] (diagA m fs) := by
 refine PureIs.of1 3 [4, 5, 6, 7, 8, 9, 10, 11, 12, 13, 14, 22, 26, 31, 35, 47, 58, 59, 60, 61, 62] func22 ntmps22 results22 fun _ => ?_
 refine EvC.a ?_ (by simp only [go_sem, Mach.cells] <;> rfl)
 refine EvC.z 0 ?_
 have q := mutants_is m hm hnn fn fs fc hfl
 unfold mutsA at q
 unfold diagA
 by_cases h0 : mutErr m fs = 0
 rotate_left
 ·rw [if_neg h0] at q
  rw [if_pos h0]
  apply EvC.s1
  ·apply Tr.run
   ·simp only [go_sem, Mach.cells] <;> rfl
   ·simp
   apply Tr.cons
   ·exact .ca (q)
   apply Tr.done
   ·simp only [go_sem] <;> rfl
   ·simp
  refine EvC.seq ?_
  refine EvC.a ?_
  refine EvC.ct ?_ (by simp only [go_sem, decide_eq_false h0] <;> rfl)
  refine EvC.a ?_
  refine EvC.rz ?_
  simp only [go_sem]
 rw [if_pos h0] at q
 rw [if_neg (show ¬ mutErr m fs ≠ 0 from fun h => h h0)]
 have hXv := mutsA_valid h0
 have hXl : (fs.map (mutF m)).length = fs.length := List.length_map _
 have hXi : ∀ x ∈ fs.map (mutF m), x.ins = m.ins := fun x hx => by obtain ⟨f, _, rfl⟩ := List.mem_map.1 hx; rfl
 generalize fs.map (mutF m) = X at q hXv hXl hXi ⊢
 have hXn := norefs_machs X
 have hfl2 := (mutErr_ok h0).2.1
 apply EvC.s1
 ·apply Tr.run
  ·simp only [go_sem, Mach.cells] <;> rfl
  ·simp
  apply Tr.cons
  ·exact .ca (q)
  apply Tr.done
  ·simp only [go_sem, hXn] <;> rfl
  ·simp
 refine EvC.seq ?_
 refine EvC.a ?_
 refine EvC.cs ?_
 refine EvC.seq ?_
 refine EvC.a ?_ (by simp only [go_sem, List.length_map] <;> rfl)
 by_cases c3 : (fs.length : Int) = 0
 ·rw [if_pos (show fs.length = 0 by omega)]
  refine EvC.ct ?_ (by simp only [go_sem, decide_eq_true c3] <;> rfl)
  refine EvC.a ?_
  refine EvC.rz ?_
  simp only [go_sem]
 rw [if_neg (show ¬ fs.length = 0 by omega)]
 refine EvC.cs ?_ (by simp only [go_sem, decide_eq_false c3] <;> rfl)
 obtain ⟨N, hN⟩ : ∃ N, N = fs.length := ⟨_, rfl⟩
 rw [← hN] at hfl2 hXl c3 ⊢
 have hX : ∀ x ∈ X, Valid x ∧ x.ins = m.ins := fun x hx => ⟨hXv x hx, hXi x hx⟩
 have q1 := everybody_is N (by omega)
 apply EvC.s1
 ·apply Tr.run
  ·simp only [go_sem, List.length_map, ← hN] <;> rfl
  ·simp
  apply Tr.cons
  ·exact .ca (q1)
  apply Tr.done
  ·simp only [go_sem] <;> rfl
  ·simp
 refine EvC.seq ?_
 refine EvC.a ?_
 refine EvC.block ?_
 refine EvC.loopS (σ := Nat × List Nd) (fun g => ⟨[(6, .sl fs.isEmpty (X.map Mach.cells) .unk), (8, .tl 0 g.2.length false), (9, .sc (.int .i64 g.1))], [], [(0, .arr 3 (g.2.map ndC) false)], 1⟩) (fun g => 2 * N - g.1) (fun g => DInv X N g.1 g.2 ∧ dgF X (2 * N - g.1) g.2 g.1 = diagL X N) [6, 8, 9] 1 ?_ ?_
 ·exact ⟨[(20, 0)], (0, [⟨idL N, [], []⟩]), rfl, (by simp only [go_sem, Int.natCast_zero, List.map_cons, List.map_nil, ndC, wAV, bAV, List.isEmpty_nil, List.length_cons, List.length_nil] <;> rfl), .start X (by omega), rfl⟩
 rintro ⟨n, out⟩ ⟨hD, hF⟩
 simp only at hD hF ⊢
 have hlen := hD.len
 have hnl := hD.le
 refine EvC.seq ?_
 refine EvC.a ?_ (by simp only [go_sem, List.length_map] <;> rfl)
 refine EvC.cond (by simp only [go_sem] <;> rfl) (fun hc => ?_) (fun hc => ?_)
 rotate_left
 ·refine EvC.exit ?_
  obtain rfl : n = out.length := by have : ¬ n < out.length := (by simpa using hc); omega
  rw [dgF_end] at hF
  rw [← hF]
  have hn1 := nds_norefs out
  have hl1 : (out.map ndC).length = out.length := List.length_map _
  have h3 : ((out.map ndC).all fun y => decide (y.length = 3)) = true := by simp [List.all_eq_true, ndC]
  generalize out.map ndC = O at hn1 hl1 h3 ⊢
  refine EvC.frz 0 (by simp only [go_sem, hn1, hl1] <;> rfl) ?_
  apply EvC.s1
  ·apply Tr.run
   ·simp only [go_sem, hl1] <;> rfl
   ·simp
   apply Tr.cons
   ·exact .ca (clipN_is false O .unk h3)
   apply Tr.done
   ·simp only [go_sem] <;> rfl
   ·simp
  refine EvC.rz ?_
  simp only [go_sem]
 have hlt : n < out.length := by simpa using hc
 clear hc
 have hstep := hD.step hX hXl hlt
 rw [dgF_step (by omega) hlt, show 2 * N - n - 1 = 2 * N - (n + 1) by omega] at hF
 have hge : out[n]? = some out[n] := List.getElem?_eq_getElem hlt
 have hmem := List.getElem_mem hlt
 have hne := hD.ne _ hmem
 have hrg := hD.rng _ hmem
 have hrl := hD.wg
 rw [List.drop_eq_getElem_cons hlt, show wgt (out[n] :: out.drop (n + 1)) = 2 * (out[n].sus.length - 1) + wgt (out.drop (n + 1)) by simp only [wgt, List.map_cons, List.sum_cons]] at hrl
 unfold dgStep at hstep hF
 rw [hge] at hstep hF
 simp only at hstep hF
 generalize out[n] = d at hge hne hrg hstep hF hrl
 obtain ⟨sus, wd, bd⟩ := d
 simp only at hne hrg hstep hF hrl
 obtain ⟨a, r, rfl⟩ : ∃ a r, sus = a :: r := by
  cases sus with
  | nil => exact absurd rfl hne
  | cons a r => exact ⟨a, r, rfl⟩
 have hrg2 : ∀ i ∈ a :: r, 0 ≤ i ∧ i < X.length := fun i hi => by have := hrg i hi; omega
 have hsl : (a :: r).length ≤ 1000 := by omega
 have q2 := word59_is fs.isEmpty X .unk a r m.ins hX hrg2 (by simp only [List.length_cons] at hsl; omega)
 have hw2 := wordX_two hX hrg2
 have hOl : (out.map ndC).length = out.length := List.length_map _
 have hOg : (out.map ndC)[n]? = some [.sl false ((a :: r).map intC) .full, wAV wd, bAV bd] := by rw [List.getElem?_map, hge]; rfl
 obtain ⟨S, hS⟩ : ∃ S, S = a :: r := ⟨_, rfl⟩
 rw [← hS] at hrg2 hsl q2 hw2 hOg hstep hF
 have hnt : ((n : Int)).toNat = n := Int.toNat_natCast n
 obtain ⟨w, hw⟩ : ∃ w, w = wordX X S := ⟨_, rfl⟩
 rw [← hw] at q2 hw2 hstep hF
 refine EvC.skip ?_
 refine EvC.seq ?_
 refine EvC.block ?_
 apply EvC.s1
 ·apply Tr.run
  ·simp only [go_sem, hOg, hOl, hnt] <;> rfl
  ·simp; try omega
  apply Tr.cons
  ·exact .call rfl rfl (by simp only [go_sem] <;> rfl) (by simp only [go_sem] <;> rfl) (by simp only [go_sem] <;> rfl) (by simp only [go_sem, hXn] <;> rfl) (by simp only [go_sem] <;> rfl) (q2)
  apply Tr.done
  ·simp only [go_sem] <;> rfl
  ·simp
 refine EvC.seq ?_
 refine EvC.a ?_ (by simp only [go_sem, List.length_map] <;> rfl)
 by_cases hwe : w = []
 ·rw [if_pos hwe] at hstep hF
  subst hwe
  refine EvC.ct ?_
  refine EvC.exit ?_
  refine EvC.b ?_ (hok := by exact inI64_of (by omega) (by omega))
  have hn1 := nds_norefs out
  exact ⟨[(0, 0)], (n + 1, out), rfl, (by simp only [go_sem, hn1, Int.natCast_add, Int.natCast_one] <;> rfl), ⟨hstep, hF⟩, by simp only; omega⟩
 rw [if_neg hwe] at hstep hF
 obtain ⟨hp2, hwl, hwi⟩ := hw2 hwe
 have hwp := List.length_pos_iff.2 hwe
 have hwb : w.isEmpty = false := by cases w with
  | nil => exact absurd rfl hwe
  | cons x w => rfl
 rw [hwb] at q2
 refine EvC.cs ?_ (by simp only [go_sem, decide_eq_false (show ¬ (w.length : Int) = 0 by omega)] <;> rfl)
 have q3 := responses_is fs.isEmpty X .unk false S .full false w .unk hrg2 hXv (fun x hx => by
  have := hXi x hx
  have := (hXv x hx).ins
  exact wordErr_of (by omega) (by omega) fun a ha => by have := hwi a ha; omega) (by omega) (by omega)
 have hps0 := dvL_sum (eqB := eqI) (K := respK X w) S []
 have hpl := dvL_len (eqB := eqI) (K := respK X w) S []
 rw [show dvL eqI (respK X w) S [] = partsX X S w from rfl] at q3 hpl
 simp only [List.length_nil, Nat.zero_add] at hpl
 generalize partsX X S w = ps at q3 hstep hF hp2 hpl
 have hpn := partC_norefs (kc := keyI) keyI_norefs ps
 have hSe : S.isEmpty = false := by rw [hS]; rfl
 have hps : ps.isEmpty = false := by cases ps with
  | nil => simp at hp2
  | cons x w => rfl
 rw [hSe] at q3
 rw [hwb]
 apply EvC.s1
 ·apply Tr.run
  ·simp only [go_sem, hOg, hOl, hnt] <;> rfl
  ·simp; try omega
  apply Tr.cons
  ·exact .call rfl rfl (by simp only [go_sem] <;> rfl) (by simp only [go_sem] <;> rfl) (by simp only [go_sem] <;> rfl) (by simp only [go_sem, hXn] <;> rfl) (by simp only [go_sem] <;> rfl) (q3)
  apply Tr.done
  ·simp only [go_sem] <;> rfl
  ·simp
 have hr : room ps.length 32 = true := by simp only [room_eq, decide_eq_true_eq]; omega
 refine EvC.a ?_ (by simp only [go_sem, List.length_map] <;> rfl) (by simp [hr]; try omega)
 obtain ⟨L, hL⟩ : ∃ L, L = out.length := ⟨_, rfl⟩
 have hz := fillC_zero (brV ps L) [.sl true [] .zer, .sc (.int .i64 0)] ps.length
 have hFn : ∀ k, (fillC (brV ps L) [.sl true [] .zer, .sc (.int .i64 0)] ps.length k).all AV.norefs = true := fillC_norefs (fun i => by simp [brV, brC, AV.norefs, AV.noref, intC]) rfl ps.length
 have hrl : (List.replicate ps.length [AV.sl true [] .zer, .sc (.int .i64 0)]).length = ps.length := List.length_replicate
 have hnr : (List.replicate ps.length [AV.sl true [] .zer, .sc (.int .i64 0)]).all AV.norefs = true := by rw [← hz]; exact hFn 0
 refine EvC.seq ?_
 refine EvC.a ?_ (by simp only [go_sem, List.length_map, hrl] <;> rfl)
 refine EvC.block ?_
 have hk0 : out.map ndC = kidsTo out ps 0 := by simp [kidsTo, kidL]
 rw [← hL] at hOl ⊢
 refine EvC.loopS (σ := Nat × Nat) (fun g => ⟨[(6, .sl fs.isEmpty (X.map Mach.cells) .unk), (8, .tl 0 g.2 false), (9, .sc (.int .i64 n)), (10, .sl false (w.map intC) .unk), (12, .tv 1 ps.length 0 ps.length (.val ps.length)), (59, .sl false (ps.map (partC keyI)) .unk), (60, .sc (.int .i64 ps.length)), (61, .sc (.int .i64 g.1))], [], [(0, .arr 3 (kidsTo out ps g.1) false), (1, .arr 2 (fillC (brV ps L) [.sl true [] .zer, .sc (.int .i64 0)] ps.length g.1) false)], 2⟩) (fun g => ps.length - g.1) (fun g => g.1 ≤ ps.length ∧ g.2 = L + g.1) [6, 8, 9, 10, 12, 59, 60, 61] 2 ?_ ?_
 ·refine ⟨[(0, 0), (27, 1)], (0, L), rfl, (by rw [hz, hk0]; simp only [go_sem, Int.natCast_zero, hnr, kidsTo_norefs out ps 0] <;> rfl), Nat.zero_le _, rfl⟩
 rintro ⟨k, M⟩ ⟨i1, i2⟩
 simp only at i1 i2 ⊢
 have hKl := kidsTo_len (out := out) i1
 rw [← hL, ← i2] at hKl
 refine EvC.a ?_
 refine EvC.seq ?_
 refine EvC.cond (by simp only [go_sem] <;> rfl) (fun hc => ?_) (fun hc => ?_)
 rotate_left
 ·refine EvC.exit ?_
  obtain rfl : k = ps.length := by have : ¬ k < ps.length := (by simpa using hc); omega
  clear hc
  have hB := brV_all ps L [.sl true [] .zer, .sc (.int .i64 0)]
  have hBn := hFn ps.length
  have hBl := fillC_len (brV ps L) [.sl true [] .zer, .sc (.int .i64 0)] ps.length ps.length
  rw [hB] at hBn hBl ⊢
  have hbe : (brsF ps L).isEmpty = false := by
   have := brsF_len ps L
   cases h : brsF ps L with
   | nil => rw [h] at this; simp at this; omega
   | cons x y => rfl
  have hOn := nds_norefs (out.set n ⟨S, w, brsF ps L⟩ ++ kidL ps)
  have hKe : kidsTo out ps ps.length = (out ++ kidL ps).map ndC := by rw [kidsTo, List.take_length]
  rw [hKe] at hKl ⊢
  have g0 : ((out ++ kidL ps).map ndC)[n]? = some [.sl false (S.map intC) .full, wAV wd, bAV bd] := by
   rw [List.map_append, List.getElem?_append_left (by rw [List.length_map]; exact hlt)]; exact hOg
  have hnM : n < M := by omega
  have s2 : ∀ c : List AV, c = ndC ⟨S, w, brsF ps L⟩ → ((out ++ kidL ps).map ndC).set n c = (out.set n ⟨S, w, brsF ps L⟩ ++ kidL ps).map ndC := fun c hc => by
   rw [hc, ← List.map_set, List.set_append_left _ _ hlt]
  have hM : M = (out.set n ⟨S, w, brsF ps L⟩ ++ kidL ps).length := by simp [kidL]; omega
  rw [← hL] at hstep hF
  obtain ⟨O0, hO0⟩ : ∃ O, O = (out ++ kidL ps).map ndC := ⟨_, rfl⟩
  rw [← hO0] at hKl g0 s2 ⊢
  have s1 : ∀ c1 c2 : List AV, (O0.set n c1).set n c2 = O0.set n c2 := fun c1 c2 => by rw [List.set_set]
  have g1 : ∀ c1 : List AV, (O0.set n c1)[n]? = some c1 := fun c1 => by rw [List.getElem?_set_self (by omega)]
  have hKl2 : ∀ c1 : List AV, (O0.set n c1).length = M := fun c1 => by rw [List.length_set]; exact hKl
  refine EvC.frz 1 (by simp only [go_sem, hBn, hBl] <;> rfl) ?_
  have q5 := clipI_is false (w.map intC) .unk (by simp [List.all_eq_true, intC])
  have s3 := s2 [.sl false (S.map intC) .full, .sl false (w.map intC) .full, .sl false ((brsF ps L).map brC) .full] (by simp [ndC, wAV, bAV, hwb, hbe])
  have hOn2 := hOn
  obtain ⟨O2, hO2⟩ : ∃ O, O = (out.set n ⟨S, w, brsF ps L⟩ ++ kidL ps).map ndC := ⟨_, rfl⟩
  rw [← hO2] at hOn2 s3
  apply EvC.tr
  ·apply Tr.run
   ·simp only [go_sem, hKl, g0, hnt] <;> rfl
   ·simp; try omega
   apply Tr.cons
   ·exact .ca (q5)
   apply Tr.done
   ·simp only [go_sem, hKl, g0, hnt, hKl2, g1, s1, s3] <;> rfl
   ·simp; try omega
  refine EvC.b ?_ (hok := by exact inI64_of (by omega) (by omega))
  exact ⟨[(0, 0)], (n + 1, out.set n ⟨S, w, brsF ps L⟩ ++ kidL ps), rfl, (by rw [← hM, ← hO2]; simp only [go_sem, hOn2, Int.natCast_add, Int.natCast_one] <;> rfl), ⟨hstep, hF⟩, by simp only; omega⟩
 have hkl : k < ps.length := by simpa using hc
 clear hc
 have hpe : ps[k]? = some ps[k] := List.getElem?_eq_getElem hkl
 have hFk : brV ps L k = brC (ps[k].1, ((L + k : Nat) : Int)) := by rw [brV, List.getD_eq_getElem?_getD, hpe]; rfl
 have hKs := kidsTo_succ (out := out) hpe
 generalize ps[k] = p at hpe hFk hKs
 obtain ⟨px, pw⟩ := p
 have hp2 : (ps.map (partC keyI))[k]? = some (partC keyI (px, pw)) := by rw [List.getElem?_map, hpe]; rfl
 simp only [partC, keyI, List.cons_append, List.nil_append] at hp2
 simp only at hFk hKs
 have hBg := fillC_get (brV ps L) [.sl true [] .zer, .sc (.int .i64 0)] hkl
 have hBs := fillC_set (brV ps L) [.sl true [] .zer, .sc (.int .i64 0)] hkl
 have hBl := fillC_len (brV ps L) [.sl true [] .zer, .sc (.int .i64 0)] ps.length k
 have hBl2 := fillC_len (brV ps L) [.sl true [] .zer, .sc (.int .i64 0)] ps.length (k + 1)
 have hBn := hFn (k + 1)
 have hKl2 := kidsTo_len (out := out) (ps := ps) (k := k + 1) hkl
 have hKn2 := kidsTo_norefs out ps (k + 1)
 rw [hFk, ← i2] at hBs
 simp only [brC] at hBs
 rw [← hL] at hKl2
 generalize kidsTo out ps k = O0 at hKl hKs ⊢
 obtain ⟨O1, hO1⟩ : ∃ O, O = kidsTo out ps (k + 1) := ⟨_, rfl⟩
 rw [← hO1] at hKs hKl2 hKn2
 generalize fillC (brV ps L) [.sl true [] .zer, .sc (.int .i64 0)] ps.length k = B0 at hBg hBs hBl ⊢
 obtain ⟨B1, hB1⟩ : ∃ B, B = fillC (brV ps L) [.sl true [] .zer, .sc (.int .i64 0)] ps.length (k + 1) := ⟨_, rfl⟩
 rw [← hB1] at hBs hBl2 hBn
 obtain ⟨kZ, hkZ⟩ : ∃ z : Int, z = (k : Int) := ⟨_, rfl⟩
 have hkt : kZ.toNat = k := by omega
 have hr1 : room (M + 1) 72 = true := by simp only [room_eq, decide_eq_true_eq]; omega
 rw [← hkZ]
 refine EvC.skip ?_
 refine EvC.seq ?_
 refine EvC.block ?_
 refine EvC.a ?_ (by simp only [go_sem, hp2, hkt, List.length_map] <;> rfl) (by simp; try omega)
 have q6 := clipI_is false (px.map intC) .unk (by simp [List.all_eq_true, intC])
 have q7 := clipI_is false (pw.map intC) .unk (by simp [List.all_eq_true, intC])
 apply EvC.s1
 ·apply Tr.run
  ·simp only [go_sem, hkt, hBg, hBl, hKl] <;> rfl
  ·simp
  apply Tr.cons
  ·exact .ca (q6)
  apply Tr.done
  ·simp only [go_sem, hkt, hBg, hBl, hKl, hBs] <;> rfl
  ·simp; try omega
 apply EvC.tr
 ·apply Tr.run
  ·simp only [go_sem, hKl] <;> rfl
  ·simp
  apply Tr.cons
  ·exact .ca (q7)
  apply Tr.done
  ·simp only [go_sem, hKl, hKs] <;> rfl
  ·simp [hr1]
 refine EvC.b ?_ (hok := by exact inI64_of (by omega) (by omega))
 exact ⟨[(0, 0), (1, 1)], (k + 1, M + 1), rfl, (by rw [hkZ, ← hO1, ← hB1]; simp only [go_sem, hBn, hKn2, hKl2, i2, Nat.add_assoc, Int.natCast_add, Int.natCast_one] <;> rfl), ⟨hkl, by simp only; omega⟩, by simp only; omega⟩
def rwA (r : RW) : AV := .sl r.1 (r.2.1.map intC) r.2.2
abbrev BG := RW × Int
def bgC (b : BG) : List AV := [rwA b.1, .sc (.int .i64 b.2)]
structure NG where
 s : RW
 w : RW
 bn : Bool
 bs : List BG
 bc : Cp
def ngC (d : NG) : List AV := [rwA d.s, rwA d.w, .sl d.bn (d.bs.map bgC) d.bc]
def bgB (b : BG) : List Int × Int := (b.1.2.1, b.2)
def NG.nd (d : NG) : Nd := ⟨d.s.2.1, d.w.2.1, d.bs.map bgB⟩
structure NGok (d : NG) : Prop where
 s : d.s.2.1.length < 1000000
 w : d.w.2.1.length < 1000000
 b : d.bs.length < 1000000
 r : ∀ b ∈ d.bs, b.1.2.1.length < 1000000
def ndG (d : Nd) : NG := ⟨(false, d.sus, .full), (d.word.isEmpty, d.word, if d.word.isEmpty then .zer else .full), d.br.isEmpty, d.br.map fun b => ((false, b.1, .full), b.2), if d.br.isEmpty then .zer else .full⟩
theorem ndG_cells (d : Nd) : ngC (ndG d) = ndC d := by
 simp only [ngC, ndG, ndC, rwA, wAV, bAV, List.map_map]; rfl
def findIdxB (p : BG → Bool) : List BG → Int → Int
 | [], _ => -1
 | e :: es, i => if p e = true then i else findIdxB p es (i + 1)
theorem findIdxB_any (p : BG → Bool) : ∀ (es : List BG) (i : Int), 0 ≤ i → decide (0 ≤ findIdxB p es i) = es.any p
 | [], i, _ => by simp [findIdxB]
 | e :: es, i, h => by
   unfold findIdxB
   split
   ·rename_i hp; simp [hp, h]
   ·rename_i hp
    rw [findIdxB_any p es (i + 1) (by omega)]
    simp [hp]
theorem indexB_is (nl : Bool) (xs : List BG) (c : Cp) (f : FuncId) (cs : List AV) (hcs : AV.norefs cs = true) (p : BG → Bool) (hp : ∀ e ∈ xs, PureIs prog f (.ag (bgC e) :: cs) (.sc (.bool (p e)))) (hl : xs.length < 1000000) :
  PureIs prog 64 [.sl nl (xs.map bgC) c, .fn f cs] (.sc (.int .i64 (findIdxB p xs 0))) := by
 refine PureIs.of1 2 [4, 5, 7, 8, 9, 16] func64 ntmps64 results64 fun _ => ?_
 refine EvC.a ?_
 refine EvC.seq ?_
 refine EvC.a ?_ (by simp only [go_sem, List.length_map] <;> rfl)
 refine EvC.block ?_
 refine EvC.loopS (σ := Nat) (fun i => ⟨[(0, .sl nl (xs.map bgC) c), (1, .fn f cs), (7, .sc (.int .i64 xs.length)), (8, .sc (.int .i64 i))], [], [], 0⟩) (fun i => xs.length - i) (fun i => i ≤ xs.length ∧ findIdxB p xs 0 = findIdxB p (xs.drop i) i) [0, 1, 7, 8] 0 ?_ ?_
 ·refine ⟨[], 0, rfl, (by simp only [go_sem, hcs, Int.natCast_zero] <;> rfl), Nat.zero_le _, by simp⟩
 rintro i ⟨h1, h2⟩
 refine EvC.a ?_
 refine EvC.seq ?_
 refine EvC.cond (by simp only [go_sem] <;> rfl) (fun hc => ?_) (fun hc => ?_)
 rotate_left
 ·refine EvC.exit ?_
  have hi : ¬ i < xs.length := by simpa using hc
  refine EvC.a ?_
  refine EvC.rz ?_
  simp only [go_sem]
  rw [h2, List.drop_of_length_le (by omega)]; rfl
 have hi : i < xs.length := by simpa using hc
 have he : xs[i]? = some xs[i] := List.getElem?_eq_getElem hi
 have hd : xs.drop i = xs[i] :: xs.drop (i + 1) := List.drop_eq_getElem_cons hi
 have hm : xs[i] ∈ xs := List.getElem_mem hi
 generalize xs[i] = e at he hd hm
 refine EvC.skip ?_
 refine EvC.seq ?_
 refine EvC.block ?_
 refine EvC.a ?_
 have hq := hp e hm
 obtain ⟨⟨e1, e2, e3⟩, e4⟩ := e
 apply EvC.s1
 ·apply Tr.run
  ·simp only [go_sem, he, bgC, rwA, List.length_map] <;> rfl
  ·simp; try omega
  apply Tr.cons
  ·exact .call rfl rfl (by simp only [go_sem] <;> rfl) (by simp only [go_sem] <;> rfl) (by simp only [go_sem] <;> rfl) (by simp only [go_sem, hcs] <;> rfl) (by simp only [go_sem] <;> rfl) (hq)
  apply Tr.done
  ·simp only [go_sem] <;> rfl
  ·simp
 refine EvC.cond (by simp only [go_sem] <;> rfl) (fun hc => ?_) (fun hc => ?_)
 ·refine EvC.a ?_
  refine EvC.rz ?_
  simp only [go_sem]
  rw [h2, hd, findIdxB, if_pos hc]
 refine EvC.skip ?_
 refine EvC.b ?_ (hok := by exact inI64_of (by omega) (by omega))
 refine ⟨[], i + 1, rfl, (by simp only [go_sem, hcs, Int.natCast_add, Int.natCast_one] <;> rfl), ⟨by omega, ?_⟩, by omega⟩
 rw [h2, hd, findIdxB, if_neg (by simp [hc])]; rfl
theorem containsB_is (nl : Bool) (xs : List BG) (c : Cp) (f : FuncId) (cs : List AV) (hcs : AV.norefs cs = true) (p : BG → Bool) (hp : ∀ e ∈ xs, PureIs prog f (.ag (bgC e) :: cs) (.sc (.bool (p e)))) (hl : xs.length < 1000000) :
  PureIs prog 90 [.sl nl (xs.map bgC) c, .fn f cs] (.sc (.bool (xs.any p))) := by
 refine PureIs.of1 2 [4] func90 ntmps90 results90 fun _ => ?_
 refine EvC.a ?_
 apply EvC.s1
 ·apply Tr.run
  ·simp only [go_sem] <;> rfl
  ·simp
  apply Tr.cons
  ·exact .call rfl rfl (by simp only [go_sem] <;> rfl) (by simp only [go_sem] <;> rfl) (by simp only [go_sem] <;> rfl) (by simp only [go_sem, hcs] <;> rfl) (by simp only [go_sem] <;> rfl) (indexB_is _ _ _ _ _ hcs _ hp hl)
  apply Tr.done
  ·simp only [go_sem] <;> rfl
  ·simp
 refine EvC.rz ?_
 simp only [go_sem]
 rw [findIdxB_any _ _ _ (Int.le_refl 0)]
theorem valid1_is (e : BG) (b : BG) (hl : e.1.2.1.length < 1000000) : PureIs prog 91 [.ag (bgC e), .ia (bgC b)] (.sc (.bool (decide (e.1.2.1 = b.1.2.1)))) := by
 obtain ⟨⟨e1, e2, e3⟩, e4⟩ := e
 obtain ⟨⟨b1, b2, b3⟩, b4⟩ := b
 refine PureIs.of1 4 [] func91 ntmps91 results91 fun _ => ?_
 refine EvC.a ?_ (by simp only [go_sem, bgC, rwA] <;> rfl)
 refine EvC.z 0 ?_
 apply EvC.s1
 ·apply Tr.run
  ·simp only [go_sem, bgC, rwA] <;> rfl
  ·simp
  apply Tr.cons
  ·exact .ca (equal53_is e1 b1 e2 b2 e3 b3 hl)
  apply Tr.done
  ·simp only [go_sem] <;> rfl
  ·simp
 refine EvC.rz ?_
 simp only [go_sem]
theorem walk1_is (e : BG) (rn : Bool) (r : List Int) (rc : Cp) (hl : e.1.2.1.length < 1000000) : PureIs prog 65 [.ag (bgC e), .ia [.sl rn (r.map intC) rc]] (.sc (.bool (decide (e.1.2.1 = r)))) := by
 obtain ⟨⟨e1, e2, e3⟩, e4⟩ := e
 refine PureIs.of1 4 [] func65 ntmps65 results65 fun _ => ?_
 refine EvC.a ?_ (by simp only [go_sem, bgC, rwA] <;> rfl)
 refine EvC.z 0 ?_
 apply EvC.s1
 ·apply Tr.run
  ·simp only [go_sem, bgC, rwA] <;> rfl
  ·simp
  apply Tr.cons
  ·exact .ca (equal53_is e1 rn e2 r e3 rc hl)
  apply Tr.done
  ·simp only [go_sem] <;> rfl
  ·simp
 refine EvC.rz ?_
 simp only [go_sem]
def brOk (N n wl : Nat) (bs : List (List Int × Int)) (k : Nat) : Bool :=
 match bs[k]? with
 | none => true
 | some b => decide ((n : Int) < b.2) && (decide (b.2 < N) && (decide (b.1.length = wl) && !(bs.take k).any fun c => decide (c.1 = b.1)))
def ndOk (N n : Nat) (ins : Int) (d : Nd) : Bool := decide (wordErr ins d.word = 0) && (decide (d.word.length = 0) == decide (d.br.length = 0)) && (List.range d.br.length).all (brOk N n d.word.length d.br)
def validT (ins : Int) (t : List Nd) : Bool := (List.range t.length).all (fun n => match t[n]? with | none => true | some d => ndOk t.length n ins d) && decide (0 < t.length)
theorem all_range_false {n i : Nat} {p : Nat → Bool} (hi : i < n) (hp : p i = false) : (List.range n).all p = false := by
 rw [Bool.eq_false_iff]; intro h
 rw [List.all_eq_true] at h
 rw [h i (List.mem_range.2 hi)] at hp; cases hp
theorem all_range_true {n : Nat} {p : Nat → Bool} (h : ∀ i, i < n → p i = true) : (List.range n).all p = true := List.all_eq_true.2 fun i hi => h i (List.mem_range.1 hi)
set_option maxHeartbeats 4000000 in
theorem valid62_is (nl : Bool) (t : List NG) (c : Cp) (ins : Int) (ht : ∀ d ∈ t, NGok d) (hl : t.length < 1000000) :
  PureIs prog 62 [.sl nl (t.map ngC) c, .sc (.int .i64 ins)] (.sc (.bool (validT ins (t.map NG.nd)))) := by
 have hvn : ∀ n d, t[n]? = some d → ndOk t.length n ins d.nd = false → validT ins (t.map NG.nd) = false := fun n d hd h => by
  unfold validT
  rw [List.length_map, all_range_false (i := n) (List.getElem?_eq_some_iff.1 hd).1 (by rw [List.getElem?_map, hd]; exact h), Bool.false_and]
 refine PureIs.of1 2 [4, 5, 6, 7, 8, 9, 10, 11, 12, 31, 33, 34, 35, 36, 59, 65] func62 ntmps62 results62 fun _ => ?_
 refine EvC.a ?_
 refine EvC.seq ?_
 refine EvC.a ?_ (by simp only [go_sem, List.length_map] <;> rfl)
 refine EvC.block ?_
 refine EvC.loopS (σ := Nat) (fun n => ⟨[(0, .sl nl (t.map ngC) c), (1, .sc (.int .i64 ins)), (9, .sl nl (t.map ngC) c), (10, .sc (.int .i64 t.length)), (11, .sc (.int .i64 n))], [], [], 0⟩) (fun n => t.length - n) (fun n => n ≤ t.length ∧ ∀ j d, j < n → t[j]? = some d → ndOk t.length j ins d.nd = true) [0, 1, 9, 10, 11] 0 ?_ ?_
 ·exact ⟨[], 0, rfl, (by simp only [go_sem, Int.natCast_zero] <;> rfl), Nat.zero_le _, fun j d h => by omega⟩
 rintro n ⟨hn, hok⟩
 refine EvC.a ?_
 refine EvC.seq ?_
 refine EvC.cond (by simp only [go_sem] <;> rfl) (fun hc => ?_) (fun hc => ?_)
 rotate_left
 ·refine EvC.exit ?_
  obtain rfl : n = t.length := by have : ¬ n < t.length := (by simpa using hc); omega
  refine EvC.a ?_ (by simp only [go_sem, List.length_map] <;> rfl)
  refine EvC.rz ?_
  simp only [go_sem]
  unfold validT
  rw [all_range_true, Bool.true_and, List.length_map]
  ·simp
  ·intro i hi
   rw [List.getElem?_map]
   rw [List.length_map] at hi ⊢
   rw [List.getElem?_eq_getElem hi]
   exact hok i _ hi (List.getElem?_eq_getElem hi)
 have hnl : n < t.length := by simpa using hc
 clear hc
 have hd := List.getElem?_eq_getElem hnl
 have hdk := ht _ (List.getElem_mem hnl)
 generalize t[n] = d at hd hdk
 obtain ⟨ds, dw, db⟩ := hdk
 have hvd := hvn n d hd
 have hokd : ndOk t.length n ins d.nd = true → ∀ j e, j < n + 1 → t[j]? = some e → ndOk t.length j ins e.nd = true := fun h j e hj he => by
  by_cases e1 : j = n
  ·subst e1; rw [hd] at he; cases he; exact h
  ·exact hok j e (by omega) he
 obtain ⟨⟨s1, s2, s3⟩, ⟨w1, w2, w3⟩, bn, bs, bc⟩ := d
 simp only at ds dw db
 rename_i hrs
 simp only at hrs
 have hnt : ((n : Int)).toNat = n := Int.toNat_natCast n
 obtain ⟨nZ, hnZ⟩ : ∃ z : Int, z = (n : Int) := ⟨_, rfl⟩
 have hnt : nZ.toNat = n := by omega
 have hdg : (t.map ngC)[n]? = some [.sl s1 (s2.map intC) s3, .sl w1 (w2.map intC) w3, .sl bn (bs.map bgC) bc] := by rw [List.getElem?_map, hd]; rfl
 have hbl : (bs.map bgB).length = bs.length := List.length_map _
 rw [← hnZ]
 refine EvC.skip ?_
 refine EvC.seq ?_
 refine EvC.block ?_
 refine EvC.a ?_ (by simp only [go_sem, hdg, hnt, List.length_map] <;> rfl) (by simp; try omega)
 refine EvC.z 4 ?_
 refine EvC.seq ?_
 have q := wordCheck_is w1 w2 w3 ins dw
 have hnd : ndOk t.length n ins (NG.nd ⟨(s1, s2, s3), (w1, w2, w3), bn, bs, bc⟩) = (decide (wordErr ins w2 = 0) && decide (w2.length = 0 ↔ bs.length = 0) && (List.range bs.length).all (brOk t.length n w2.length (bs.map bgB))) := by
  simp only [ndOk, NG.nd, hbl]
  congr 1
  by_cases c1 : wordErr ins w2 = 0 <;> by_cases a : w2.length = 0 <;> by_cases b : bs.length = 0 <;> simp [a, b, c1]
 rw [hnd] at hvd hokd
 by_cases c1 : wordErr ins w2 = 0
 rotate_left
 ·apply EvC.s1
  ·apply Tr.run
   ·simp only [go_sem] <;> rfl
   ·simp
   apply Tr.cons
   ·exact .ca (q)
   apply Tr.done
   ·simp only [go_sem, decide_eq_false c1, List.length_map] <;> rfl
   ·simp
  refine EvC.ct ?_
  refine EvC.a ?_
  refine EvC.rz ?_
  simp only [go_sem]
  rw [hvd (by simp [c1])]
 apply EvC.s1
 ·apply Tr.run
  ·simp only [go_sem] <;> rfl
  ·simp
  apply Tr.cons
  ·exact .ca (q)
  apply Tr.done
  ·simp only [go_sem, decide_eq_true c1, List.length_map] <;> rfl
  ·simp
 have hb : (decide ((w2.length : Int) = 0) == decide ((bs.length : Int) = 0)) = decide (w2.length = 0 ↔ bs.length = 0) := by
  by_cases a : w2.length = 0 <;> by_cases b : bs.length = 0 <;> simp [a, b]
 by_cases c2 : (w2.length = 0 ↔ bs.length = 0)
 rotate_left
 ·refine EvC.ct ?_ (by simp only [go_sem, hb, decide_eq_false c2] <;> rfl)
  refine EvC.a ?_
  refine EvC.rz ?_
  simp only [go_sem]
  rw [hvd (by rw [decide_eq_false c2]; simp)]
 refine EvC.cs ?_ (by simp only [go_sem, hb, decide_eq_true c2] <;> rfl)
 rw [decide_eq_true c1, decide_eq_true c2, Bool.true_and] at hvd hokd
 have hvb : ∀ k, k < bs.length → brOk t.length n w2.length (bs.map bgB) k = false → validT ins (t.map NG.nd) = false := fun k hk h => hvd (by rw [all_range_false hk h]; rfl)
 refine EvC.a ?_ (by simp only [go_sem, List.length_map] <;> rfl)
 refine EvC.block ?_
 refine EvC.loopS (σ := Nat) (fun k => ⟨[(0, .sl nl (t.map ngC) c), (1, .sc (.int .i64 ins)), (5, .sc (.int .i64 nZ)), (6, .ia [.sl s1 (s2.map intC) s3, .sl w1 (w2.map intC) w3, .sl bn (bs.map bgC) bc]), (9, .sl nl (t.map ngC) c), (10, .sc (.int .i64 t.length)), (11, .sc (.int .i64 nZ)), (33, .sl bn (bs.map bgC) bc), (34, .sc (.int .i64 bs.length)), (35, .sc (.int .i64 k))], [], [], 0⟩) (fun k => bs.length - k) (fun k => k ≤ bs.length ∧ ∀ j, j < k → brOk t.length n w2.length (bs.map bgB) j = true) [0, 1, 5, 6, 9, 10, 11, 33, 34, 35] 0 ?_ ?_
 ·exact ⟨[], 0, rfl, (by simp only [go_sem, Int.natCast_zero, List.length_map] <;> rfl), Nat.zero_le _, fun j h => by omega⟩
 rintro k ⟨hk, hbk⟩
 refine EvC.a ?_
 refine EvC.seq ?_
 refine EvC.cond (by simp only [go_sem] <;> rfl) (fun hc => ?_) (fun hc => ?_)
 rotate_left
 ·refine EvC.exit ?_
  obtain rfl : k = bs.length := by have : ¬ k < bs.length := (by simpa using hc); omega
  refine EvC.b ?_ (hok := by exact inI64_of (by omega) (by omega))
  refine ⟨[], n + 1, rfl, (by rw [hnZ]; simp only [go_sem, Int.natCast_add, Int.natCast_one] <;> rfl), ⟨hnl, hokd ?_⟩, by omega⟩
  rw [Bool.true_and]; exact all_range_true hbk
 have hkl : k < bs.length := by simpa using hc
 clear hc
 have hbe := List.getElem?_eq_getElem hkl
 have hbm := hrs _ (List.getElem_mem hkl)
 generalize bs[k] = b at hbe hbm
 have hbo : brOk t.length n w2.length (bs.map bgB) k = (decide ((n : Int) < b.2) && (decide (b.2 < t.length) && (decide (b.1.2.1.length = w2.length) && !(bs.take k).any fun e => decide (e.1.2.1 = b.1.2.1)))) := by
  unfold brOk
  rw [List.getElem?_map, hbe]
  simp only [Option.map_some, bgB, List.map_take, List.any_map, ← List.map_take]
  rfl
 have hvk := hvb k hkl
 rw [hbo] at hvk
 obtain ⟨⟨r1, r2, r3⟩, to⟩ := b
 simp only at hbm hvk hbo
 have hbg : (bs.map bgC)[k]? = some [.sl r1 (r2.map intC) r3, .sc (.int .i64 to)] := by rw [List.getElem?_map, hbe]; rfl
 obtain ⟨kZ, hkZ⟩ : ∃ z : Int, z = (k : Int) := ⟨_, rfl⟩
 have hkt : kZ.toNat = k := by omega
 rw [← hnZ] at hbo hvk
 rw [← hkZ]
 refine EvC.skip ?_
 refine EvC.seq ?_
 refine EvC.block ?_
 refine EvC.a ?_ (by simp only [go_sem, hbg, hkt, List.length_map] <;> rfl) (by simp; try omega)
 refine EvC.z 4 ?_
 refine EvC.seq ?_
 by_cases d1 : to ≤ nZ
 ·apply EvC.seq
  apply EvC.trd
  ·simp only [go_sem, decide_eq_true d1, List.length_map] <;> rfl
  ·simp
  refine EvC.ct ?_
  refine EvC.a ?_
  refine EvC.rz ?_
  simp only [go_sem]
  rw [hvk (by rw [decide_eq_false (by omega)]; rfl)]
 by_cases d2 : (t.length : Int) ≤ to
 ·apply EvC.seq
  apply EvC.trd
  ·simp only [go_sem, decide_eq_false d1, decide_eq_true d2, List.length_map] <;> rfl
  ·simp
  refine EvC.ct ?_
  refine EvC.a ?_
  refine EvC.rz ?_
  simp only [go_sem]
  rw [hvk (by rw [decide_eq_false (show ¬ to < (t.length : Int) by omega)]; simp)]
 by_cases d3 : (r2.length : Int) = w2.length
 rotate_left
 ·apply EvC.seq
  apply EvC.trd
  ·simp only [go_sem, decide_eq_false d1, decide_eq_false d2, decide_eq_false d3, List.length_map] <;> rfl
  ·simp
  refine EvC.ct ?_
  refine EvC.a ?_
  refine EvC.rz ?_
  simp only [go_sem]
  rw [hvk (by rw [decide_eq_false (show ¬ r2.length = w2.length by omega)]; simp)]
 apply EvC.seq
 apply EvC.trd
 ·simp only [go_sem, decide_eq_false d1, decide_eq_false d2, decide_eq_true d3, List.length_map] <;> rfl
 ·simp
 refine EvC.cs ?_
 have q2 := fun cc => containsB_is bn (bs.take k) cc 91 [.ia (bgC ((r1, r2, r3), to))] rfl (fun e => decide (e.1.2.1 = r2)) (fun e he => valid1_is e ((r1, r2, r3), to) (hrs e (List.mem_of_mem_take he))) (by rw [List.length_take]; omega)
 have hbo2 : brOk t.length n w2.length (bs.map bgB) k = !(bs.take k).any fun e => decide (e.1.2.1 = r2) := by
  rw [hbo, decide_eq_true (show nZ < to by omega), decide_eq_true (show to < (t.length : Int) by omega), decide_eq_true (show r2.length = w2.length by omega)]; simp
 have hvk2 := hvb k hkl
 rw [hbo2] at hvk2
 simp only [bgC, rwA] at q2
 generalize hany : ((bs.take k).any fun e => decide (e.1.2.1 = r2)) = b at q2 hbo2 hvk2
 apply EvC.s1
 ·apply Tr.run
  ·simp only [go_sem, hkt, List.map_take, List.length_map] <;> rfl
  ·simp [bgC]; try omega
  apply Tr.cons
  ·exact .call rfl rfl (by simp only [go_sem] <;> rfl) (by simp only [go_sem] <;> rfl) (by simp only [go_sem, List.map_take] <;> rfl) (by simp only [go_sem] <;> rfl) (by simp only [go_sem] <;> rfl) (q2 _)
  apply Tr.done
  ·simp only [go_sem] <;> rfl
  ·simp
 cases b
 ·refine EvC.cs ?_
  refine EvC.b ?_ (hok := by exact inI64_of (by omega) (by omega))
  refine ⟨[], k + 1, rfl, (by rw [hkZ]; simp only [go_sem, Int.natCast_add, Int.natCast_one] <;> rfl), ⟨hkl, fun j hj => ?_⟩, by omega⟩
  by_cases e : j = k
  ·subst e; rw [hbo2]; rfl
  ·exact hbk j (by omega)
 ·refine EvC.ct ?_
  refine EvC.a ?_
  refine EvC.rz ?_
  simp only [go_sem]
  rw [hvk2 rfl]
end Go.Avl
